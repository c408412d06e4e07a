/- Walks: stores compared, syncs ended. Printed by w2.py. -/
import Derived.Test.YtjhfabimacljhaaGreatG10
import Derived.Test.YtjhfabimacljhaaGreatG11
import Derived.Test.YtjhfabimacljhaaGreatG8
import Derived.Test.YtjhfabimacljhaaGreatG12
import Derived.Test.YtjhfabimacljhaaGreatG4
import Derived.Test.YtjhfabimacljhaaGreatG6
import Derived.Test.YtjhfabimacljhaaGreatG7
import Derived.Test.YtjhfabimacljhaaGreatG5
namespace Go.Proofs.YtjhfabimacljhaaGreat.K
open Go Go.RowKit
set_option linter.unusedVariables false
set_option linter.unusedSimpArgs false
def alike (a b : Store) : Bool := decide (a.boxes = b.boxes ∧ a.gone = b.gone)
set_option maxHeartbeats 4000000
set_option maxRecDepth 20000
theorem eqV_Stamp (a b : Stamp) : eqV tab 4 137 (.agg (cStamp a)) (.agg (cStamp b)) = some (decide (a = b)) := by
  have h : eqV tab 4 137 (.agg (cStamp a)) (.agg (cStamp b)) = some (decide (a.time = b.time) && (decide (a.by_ = b.by_) && true)) := rfl
  rw [h]
  cases a; cases b
  simp [Bool.eq_iff_iff]
theorem eqV_Reg (a b : Reg) : eqV tab 4 242 (.agg (cReg a)) (.agg (cReg b)) = some (decide (a = b)) := by
  have h : eqV tab 4 242 (.agg (cReg a)) (.agg (cReg b)) = some (decide (a.val = b.val) && ((decide (a.stamp.time = b.stamp.time) && (decide (a.stamp.by_ = b.stamp.by_) && true)) && true)) := rfl
  rw [h]
  obtain ⟨a1, a2, a3⟩ := a; obtain ⟨b1, b2, b3⟩ := b
  simp [Bool.eq_iff_iff]
theorem w_spec_SameMail (a b : Mail) (ha : a.flags.length ≤ 4611686018427387904) : Weak Tryz.prog 207 [.agg (cMail a), .agg (cMail b)] (.bool (decide (a = b))) := by
 refine Weak.enter tab_ok Tryz.func207 rfl (.inr (by simp [V.labelsL, V.labels, V.labelsLL, zz, zf, zy, or_imp, forall_and])) (t := [.agg (cMail a), .agg (cMail b), .any, .any, .any, .any, .any, .any, .any, .any, .any, .any, .any, .any, .any, .any, .any, .any, .any, .any, .any, .any, .any, .any, .any, .any, .any, .any, .any, .any, .any, .any, .any, .any, .any, .any, .any, .any, .any, .any, .any, .any, .any, .any, .any, .any, .any, .any, .any, .any, .any, .any]) rfl ?_
 refine OQ ?_
 iterate 3 (refine EV ?_)
 refine ON ?_
 refine Ok.seq ?_
 refine Ok.seqC [(33, .bool (!decide (a.gid = b.gid ∧ a.uid = b.uid ∧ a.text = b.text ∧ (a.flags.length : Int) = b.flags.length)))] [6, 7, 8, 9, 10, 11, 12, 13, 14, 15, 16, 17, 18, 19, 20, 21, 22, 23, 24, 25, 26, 27, 28, 29, 30, 31, 32] (by simp only [kover] <;> rfl) ?_ ?_
 ·
  refine Ok.region ?_
  iterate 6 (refine EV ?_)
  refine OP (d := 11) (fun hg1_5 => ?_) (fun hg1_5 => ?_)
  ·
   try simp only [bsimp] at hg1_5
   iterate 5 (refine OU ?_)
   iterate 2 (refine EV ?_)
   iterate 5 (refine OU ?_)
   iterate 2 (refine EV ?_)
   iterate 7 (refine OU ?_)
   refine EV ?_
   refine ON ?_
   refine ⟨rfl, ?_, rfl, rfl⟩
   (repeat (first | exact trivial | refine leC ?_ | refine leK ?_ ?_)) <;> first | (refine .inl (congrArg V.bool ?_); first | (simp [*]; done) | (simp_all; done) | (simp_all; omega)) | exact le_rfl' _
  try simp only [bsimp] at hg1_5
  iterate 4 (refine OX ?_)
  refine OO ?_
  iterate 3 (refine EV ?_)
  refine OP (d := 18) (fun hg1_12 => ?_) (fun hg1_12 => ?_)
  ·
   try simp only [bsimp] at hg1_12
   iterate 5 (refine OU ?_)
   iterate 2 (refine EV ?_)
   iterate 7 (refine OU ?_)
   refine EV ?_
   refine ON ?_
   refine ⟨rfl, ?_, rfl, rfl⟩
   (repeat (first | exact trivial | refine leC ?_ | refine leK ?_ ?_)) <;> first | (refine .inl (congrArg V.bool ?_); first | (simp [*]; done) | (simp_all; done) | (simp_all; omega)) | exact le_rfl' _
  try simp only [bsimp] at hg1_12
  iterate 4 (refine OX ?_)
  refine OO ?_
  iterate 3 (refine EV ?_)
  refine OP (d := 25) (fun hg1_19 => ?_) (fun hg1_19 => ?_)
  ·
   try simp only [bsimp] at hg1_19
   iterate 7 (refine OU ?_)
   refine EV ?_
   refine ON ?_
   refine ⟨rfl, ?_, rfl, rfl⟩
   (repeat (first | exact trivial | refine leC ?_ | refine leK ?_ ?_)) <;> first | (refine .inl (congrArg V.bool ?_); first | (simp [*]; done) | (simp_all; done) | (simp_all; omega)) | exact le_rfl' _
  try simp only [bsimp] at hg1_19
  iterate 6 (refine OX ?_)
  refine OO ?_
  iterate 2 (refine EV ?_)
  refine ON ?_
  refine ⟨rfl, ?_, rfl, rfl⟩
  (repeat (first | exact trivial | refine leC ?_ | refine leK ?_ ?_)) <;> first | (refine .inl (congrArg V.bool ?_); first | (simp [*]; done) | (simp_all; done) | (simp_all; omega)) | exact le_rfl' _
 refine OC (fun hb1 => ?_) (fun hb1 => ?_)
 ·
  try simp only [bsimp] at hb1
  refine OQ ?_
  refine EV ?_
  refine ON ?_
  refine Ok.ret ?_
  with_reducible repeat (first | refine thenQ_ret ?_ | refine blockQ_ret ?_)
  refine RT ?_
  rw [decide_eq_false (by intro h; subst h; simp at hb1)]; rfl
 try simp only [bsimp] at hb1
 have hb1 : a.gid = b.gid ∧ a.uid = b.uid ∧ a.text = b.text ∧ (a.flags.length : Int) = b.flags.length := by simpa using hb1
 refine Ok.skip ?_
 refine Ok.seq ?_
 refine OQ ?_
 refine EV ?_
 refine ON ?_
 refine Ok.block ?_
 refine Ok.loopW (τ := Nat) (fun x => [(5, .int .i64 (x : Int))]) [4, 34, 35, 36, 37, 38, 39, 40, 41, 42, 43, 44, 45, 46, 47, 48, 49, 50, 51] (fun x => by simp only [kover] <;> rfl) (fun x => x ≤ a.flags.length ∧ a.flags.take x = b.flags.take x) (fun x => a.flags.length - x) 0 (by (repeat (first | exact trivial | refine leC ?_ | refine leK ?_ ?_)) <;> first | (exact le_rfl' _) | exact le_rfl' _) (⟨Nat.zero_le _, rfl⟩) ?_
 rintro i ⟨h1, h2⟩
 refine Ok.seq ?_
 refine OQ ?_
 iterate 5 (refine EV ?_)
 refine ON ?_
 refine OC (fun hb4 => ?_) (fun hb4 => ?_)
 ·
  try simp only [bsimp] at hb4
  have hi : i < a.flags.length := by omega
  have hj : i < b.flags.length := by omega
  refine Ok.skip ?_
  refine Ok.seq ?_
  refine Ok.block ?_
  refine Ok.seq ?_
  refine Ok.drawn 11 52 [] (by kernel_rfl) (by kernel_rfl) rfl ?_
  iterate 3 (refine SV ?_)
  refine SOps.ev tab_ok rfl (ev_idx_map (by simp only [kE, kT, kL, kC] <;> rfl) (by simp only [kE, kT, kL, kC] <;> rfl) (by omega) (by simp only [kE, kT, kL, kC] <;> rfl)) (by simp only [kP] <;> rfl) ?_
  iterate 4 (refine SV ?_)
  refine SOps.ev tab_ok rfl (ev_idx_map (by simp only [kE, kT, kL, kC] <;> rfl) (by simp only [kE, kT, kL, kC] <;> rfl) (by omega) (by simp only [kE, kT, kL, kC] <;> rfl)) (by simp only [kP] <;> rfl) ?_
  refine SV ?_
  refine SOps.S0 rfl (OpS.eqSM 4 tab_ok rfl (by simp only [kE, kT, kL, kC] <;> rfl) (by simp only [kE, kT, kL, kC] <;> rfl) (eqV_Reg a.flags[i] b.flags[i]) (.inr ⟨rfl, rfl⟩) (by kernel_rfl) (by decide) (by kernel_rfl)) (by simp only [kP] <;> rfl) ?_
  refine SOps.nil ?_
  refine TOps.nil ?_
  refine OC (fun hb6 => ?_) (fun hb6 => ?_)
  ·
   try simp only [bsimp] at hb6
   refine OQ ?_
   refine EV ?_
   refine ON ?_
   refine Ok.ret ?_
   with_reducible repeat (first | refine thenQ_ret ?_ | refine blockQ_ret ?_)
   refine RT ?_
   rw [decide_eq_false (by intro h; subst h; simp at hb6)]; rfl
  try simp only [bsimp] at hb6
  refine Ok.skip ?_
  refine Ok.region ?_
  iterate 3 (refine EV ?_)
  refine ON ?_
  refine ⟨i + 1, ?_, rfl, rfl, ⟨by omega, take_next h2 hi hj (by simpa using hb6)⟩, by omega⟩
  (repeat (first | exact trivial | refine leC ?_ | refine leK ?_ ?_)) <;> first | (rw [wrap_succ (by omega)]; exact le_rfl' _) | exact le_rfl' _
 try simp only [bsimp] at hb4
 have hf : a.flags = b.flags := eq_of_take (by omega) (by omega) h2
 refine Ok.exit ?_
 refine OQ ?_
 refine EV ?_
 refine ON ?_
 refine Ok.ret ?_
 with_reducible repeat (first | refine thenQ_ret ?_ | refine blockQ_ret ?_)
 refine RT ?_
 rw [decide_eq_true (by cases a; cases b; simp_all)]; rfl
theorem w_spec_l09Box (a b : Box) (ha : a.mails.length ≤ 4611686018427387904) (ha2 : a.gone.length ≤ 4611686018427387904) (ha3 : ∀ m ∈ a.mails, m.flags.length ≤ 4611686018427387904) : Weak Tryz.prog 158 [.agg (cBox a), .agg (cBox b)] (.bool (decide (a = b))) := by
 refine Weak.enter tab_ok Tryz.func158 rfl (.inr (by simp [V.labelsL, V.labels, V.labelsLL, zz, zf, zy, or_imp, forall_and])) (t := [.agg (cBox a), .agg (cBox b), .any, .any, .any, .any, .any, .any, .any, .any, .any, .any, .any, .any, .any, .any, .any, .any, .any, .any, .any, .any, .any, .any, .any, .any, .any, .any, .any, .any, .any, .any, .any, .any, .any, .any, .any, .any, .any, .any, .any, .any, .any, .any, .any, .any, .any, .any, .any, .any, .any, .any, .any, .any, .any, .any, .any, .any, .any, .any, .any, .any, .any, .any, .any, .any, .any, .any, .any, .any, .any, .any, .any, .any, .any, .any, .any, .any, .any, .any, .any, .any, .any, .any, .any, .any, .any, .any]) rfl ?_
 refine OQ ?_
 iterate 3 (refine EV ?_)
 refine ON ?_
 refine Ok.seq ?_
 refine Ok.seqC [(50, .bool (!decide (a.gid = b.gid ∧ a.name = b.name ∧ a.named = b.named ∧ a.next = b.next ∧ (a.mails.length : Int) = b.mails.length ∧ (a.gone.length : Int) = b.gone.length)))] [7, 8, 9, 10, 11, 12, 13, 14, 15, 16, 17, 18, 19, 20, 21, 22, 23, 24, 25, 26, 27, 28, 29, 30, 31, 32, 33, 34, 35, 36, 37, 38, 39, 40, 41, 42, 43, 44, 45, 46, 47, 48, 49] (by simp only [kover] <;> rfl) ?_ ?_
 ·
  refine Ok.region ?_
  iterate 6 (refine EV ?_)
  refine OP (d := 12) (fun hg1_5 => ?_) (fun hg1_5 => ?_)
  ·
   try simp only [bsimp] at hg1_5
   iterate 5 (refine OU ?_)
   iterate 2 (refine EV ?_)
   iterate 5 (refine OU ?_)
   iterate 2 (refine EV ?_)
   iterate 5 (refine OU ?_)
   iterate 2 (refine EV ?_)
   iterate 7 (refine OU ?_)
   iterate 2 (refine EV ?_)
   iterate 7 (refine OU ?_)
   refine EV ?_
   refine ON ?_
   refine ⟨rfl, ?_, rfl, rfl⟩
   (repeat (first | exact trivial | refine leC ?_ | refine leK ?_ ?_)) <;> first | (refine .inl (congrArg V.bool ?_); first | (simp [*]; done) | (simp_all; done) | (simp_all; omega)) | exact le_rfl' _
  try simp only [bsimp] at hg1_5
  iterate 4 (refine OX ?_)
  refine OO ?_
  iterate 3 (refine EV ?_)
  refine OP (d := 19) (fun hg1_12 => ?_) (fun hg1_12 => ?_)
  ·
   try simp only [bsimp] at hg1_12
   iterate 5 (refine OU ?_)
   iterate 2 (refine EV ?_)
   iterate 5 (refine OU ?_)
   iterate 2 (refine EV ?_)
   iterate 7 (refine OU ?_)
   iterate 2 (refine EV ?_)
   iterate 7 (refine OU ?_)
   refine EV ?_
   refine ON ?_
   refine ⟨rfl, ?_, rfl, rfl⟩
   (repeat (first | exact trivial | refine leC ?_ | refine leK ?_ ?_)) <;> first | (refine .inl (congrArg V.bool ?_); first | (simp [*]; done) | (simp_all; done) | (simp_all; omega)) | exact le_rfl' _
  try simp only [bsimp] at hg1_12
  iterate 4 (refine OX ?_)
  refine OO ?_
  refine OkOps.S0 rfl (OpS.eqS 4 tab_ok rfl (by simp only [kE, kT, kL, kC] <;> rfl) (by simp only [kE, kT, kL, kC] <;> rfl) (eqV_Stamp a.named b.named) (.inr ⟨rfl, rfl⟩) (by kernel_rfl) (by decide) (by kernel_rfl)) (by simp only [kP] <;> rfl) ?_
  iterate 2 (refine EV ?_)
  refine OP (d := 26) (fun hg1_19 => ?_) (fun hg1_19 => ?_)
  ·
   try simp only [bsimp] at hg1_19
   iterate 5 (refine OU ?_)
   iterate 2 (refine EV ?_)
   iterate 7 (refine OU ?_)
   iterate 2 (refine EV ?_)
   iterate 7 (refine OU ?_)
   refine EV ?_
   refine ON ?_
   refine ⟨rfl, ?_, rfl, rfl⟩
   (repeat (first | exact trivial | refine leC ?_ | refine leK ?_ ?_)) <;> first | (refine .inl (congrArg V.bool ?_); first | (simp [*]; done) | (simp_all; done) | (simp_all; omega)) | exact le_rfl' _
  try simp only [bsimp] at hg1_19
  iterate 4 (refine OX ?_)
  refine OO ?_
  iterate 3 (refine EV ?_)
  refine OP (d := 33) (fun hg1_26 => ?_) (fun hg1_26 => ?_)
  ·
   try simp only [bsimp] at hg1_26
   iterate 7 (refine OU ?_)
   iterate 2 (refine EV ?_)
   iterate 7 (refine OU ?_)
   refine EV ?_
   refine ON ?_
   refine ⟨rfl, ?_, rfl, rfl⟩
   (repeat (first | exact trivial | refine leC ?_ | refine leK ?_ ?_)) <;> first | (refine .inl (congrArg V.bool ?_); first | (simp [*]; done) | (simp_all; done) | (simp_all; omega)) | exact le_rfl' _
  try simp only [bsimp] at hg1_26
  iterate 6 (refine OX ?_)
  refine OO ?_
  iterate 3 (refine EV ?_)
  refine OP (d := 42) (fun hg1_35 => ?_) (fun hg1_35 => ?_)
  ·
   try simp only [bsimp] at hg1_35
   iterate 7 (refine OU ?_)
   refine EV ?_
   refine ON ?_
   refine ⟨rfl, ?_, rfl, rfl⟩
   (repeat (first | exact trivial | refine leC ?_ | refine leK ?_ ?_)) <;> first | (refine .inl (congrArg V.bool ?_); first | (simp [*]; done) | (simp_all; done) | (simp_all; omega)) | exact le_rfl' _
  try simp only [bsimp] at hg1_35
  iterate 6 (refine OX ?_)
  refine OO ?_
  iterate 2 (refine EV ?_)
  refine ON ?_
  refine ⟨rfl, ?_, rfl, rfl⟩
  (repeat (first | exact trivial | refine leC ?_ | refine leK ?_ ?_)) <;> first | (refine .inl (congrArg V.bool ?_); first | (simp [*]; done) | (simp_all; done) | (simp_all; omega)) | exact le_rfl' _
 refine OC (fun hb1 => ?_) (fun hb1 => ?_)
 ·
  try simp only [bsimp] at hb1
  refine OQ ?_
  refine EV ?_
  refine ON ?_
  refine Ok.ret ?_
  with_reducible repeat (first | refine thenQ_ret ?_ | refine blockQ_ret ?_)
  refine RT ?_
  rw [decide_eq_false (by intro h; subst h; simp at hb1)]; rfl
 try simp only [bsimp] at hb1
 have hb1 : a.gid = b.gid ∧ a.name = b.name ∧ a.named = b.named ∧ a.next = b.next ∧ (a.mails.length : Int) = b.mails.length ∧ (a.gone.length : Int) = b.gone.length := by simpa using hb1
 refine Ok.skip ?_
 refine Ok.seq ?_
 refine OQ ?_
 refine EV ?_
 refine ON ?_
 refine Ok.block ?_
 refine Ok.loopW (τ := Nat) (fun x => [(5, .int .i64 (x : Int))]) [4, 51, 52, 53, 54, 55, 56, 57, 58, 59, 60, 61, 62, 63, 64, 65, 66, 67, 68, 69] (fun x => by simp only [kover] <;> rfl) (fun x => x ≤ a.mails.length ∧ a.mails.take x = b.mails.take x) (fun x => a.mails.length - x) 0 (by (repeat (first | exact trivial | refine leC ?_ | refine leK ?_ ?_)) <;> first | (exact le_rfl' _) | exact le_rfl' _) (⟨Nat.zero_le _, rfl⟩) ?_
 rintro i ⟨h1, h2⟩
 refine Ok.seq ?_
 refine OQ ?_
 iterate 5 (refine EV ?_)
 refine ON ?_
 refine OC (fun hb4 => ?_) (fun hb4 => ?_)
 ·
  try simp only [bsimp] at hb4
  have hi : i < a.mails.length := by omega
  have hj : i < b.mails.length := by omega
  refine Ok.skip ?_
  refine Ok.seq ?_
  refine Ok.block ?_
  refine Ok.seq ?_
  refine Ok.drawn 12 88 [] (by kernel_rfl) (by kernel_rfl) rfl ?_
  iterate 3 (refine SV ?_)
  refine SOps.ev tab_ok rfl (ev_idx_map (by simp only [kE, kT, kL, kC] <;> rfl) (by simp only [kE, kT, kL, kC] <;> rfl) (by omega) (by simp only [kE, kT, kL, kC] <;> rfl)) (by simp only [kP] <;> rfl) ?_
  iterate 4 (refine SV ?_)
  refine SOps.ev tab_ok rfl (ev_idx_map (by simp only [kE, kT, kL, kC] <;> rfl) (by simp only [kE, kT, kL, kC] <;> rfl) (by omega) (by simp only [kE, kT, kL, kC] <;> rfl)) (by simp only [kP] <;> rfl) ?_
  refine SV ?_
  refine SOps.S0 rfl (OpS.weakM rfl (by simp only [kE, kT, kL, kC] <;> rfl) (by simp only [kE, kT, kL, kC] <;> rfl) cl207 (w_spec_SameMail a.mails[i] b.mails[i] (ha3 _ (List.getElem_mem hi)))) (by simp only [kP] <;> rfl) ?_
  refine SV ?_
  refine SOps.nil ?_
  refine TOps.nil ?_
  refine OC (fun hb6 => ?_) (fun hb6 => ?_)
  ·
   try simp only [bsimp] at hb6
   refine OQ ?_
   refine EV ?_
   refine ON ?_
   refine Ok.ret ?_
   with_reducible repeat (first | refine thenQ_ret ?_ | refine blockQ_ret ?_)
   refine RT ?_
   rw [decide_eq_false (by intro h; subst h; simp at hb6)]; rfl
  try simp only [bsimp] at hb6
  refine Ok.skip ?_
  refine Ok.region ?_
  iterate 3 (refine EV ?_)
  refine ON ?_
  refine ⟨i + 1, ?_, rfl, rfl, ⟨by omega, take_next h2 hi hj (by simpa using hb6)⟩, by omega⟩
  (repeat (first | exact trivial | refine leC ?_ | refine leK ?_ ?_)) <;> first | (rw [wrap_succ (by omega)]; exact le_rfl' _) | exact le_rfl' _
 try simp only [bsimp] at hb4
 have hm : a.mails = b.mails := eq_of_take (by omega) (by omega) h2
 refine Ok.exit ?_
 refine Ok.seq ?_
 refine OQ ?_
 refine EV ?_
 refine ON ?_
 refine Ok.block ?_
 refine Ok.loopW (τ := Nat) (fun x => [(6, .int .i64 (x : Int))]) [4, 70, 71, 72, 73, 74, 75, 76, 77, 78, 79, 80, 81, 82, 83, 84, 85, 86, 87] (fun x => by simp only [kover] <;> rfl) (fun x => x ≤ a.gone.length ∧ a.gone.take x = b.gone.take x) (fun x => a.gone.length - x) 0 (by (repeat (first | exact trivial | refine leC ?_ | refine leK ?_ ?_)) <;> first | (exact le_rfl' _) | exact le_rfl' _) (⟨Nat.zero_le _, rfl⟩) ?_
 rintro i ⟨h1, h2⟩
 refine Ok.seq ?_
 refine OQ ?_
 iterate 5 (refine EV ?_)
 refine ON ?_
 refine OC (fun hb9 => ?_) (fun hb9 => ?_)
 ·
  try simp only [bsimp] at hb9
  have hi : i < a.gone.length := by omega
  have hj : i < b.gone.length := by omega
  refine Ok.skip ?_
  refine Ok.seq ?_
  refine Ok.block ?_
  refine Ok.seq ?_
  refine Ok.drawn 11 88 [] (by kernel_rfl) (by kernel_rfl) rfl ?_
  iterate 3 (refine SV ?_)
  refine SOps.ev tab_ok rfl (ev_idx_map (by simp only [kE, kT, kL, kC] <;> rfl) (by simp only [kE, kT, kL, kC] <;> rfl) (by omega) (by simp only [kE, kT, kL, kC] <;> rfl)) (by simp only [kP] <;> rfl) ?_
  iterate 4 (refine SV ?_)
  refine SOps.ev tab_ok rfl (ev_idx_map (by simp only [kE, kT, kL, kC] <;> rfl) (by simp only [kE, kT, kL, kC] <;> rfl) (by omega) (by simp only [kE, kT, kL, kC] <;> rfl)) (by simp only [kP] <;> rfl) ?_
  iterate 2 (refine SV ?_)
  refine SOps.nil ?_
  refine TOps.nil ?_
  refine OC (fun hb11 => ?_) (fun hb11 => ?_)
  ·
   try simp only [bsimp] at hb11
   refine OQ ?_
   refine EV ?_
   refine ON ?_
   refine Ok.ret ?_
   with_reducible repeat (first | refine thenQ_ret ?_ | refine blockQ_ret ?_)
   refine RT ?_
   rw [decide_eq_false (by intro h; subst h; simp at hb11)]; rfl
  try simp only [bsimp] at hb11
  refine Ok.skip ?_
  refine Ok.region ?_
  iterate 3 (refine EV ?_)
  refine ON ?_
  refine ⟨i + 1, ?_, rfl, rfl, ⟨by omega, take_next h2 hi hj (by simpa using hb11)⟩, by omega⟩
  (repeat (first | exact trivial | refine leC ?_ | refine leK ?_ ?_)) <;> first | (rw [wrap_succ (by omega)]; exact le_rfl' _) | exact le_rfl' _
 try simp only [bsimp] at hb9
 have hg : a.gone = b.gone := eq_of_take (by omega) (by omega) h2
 refine Ok.exit ?_
 refine OQ ?_
 refine EV ?_
 refine ON ?_
 refine Ok.ret ?_
 with_reducible repeat (first | refine thenQ_ret ?_ | refine blockQ_ret ?_)
 refine RT ?_
 rw [decide_eq_true (by cases a; cases b; simp_all)]; rfl
theorem w_spec_Alike (a b : Store) (ha : a.boxes.length ≤ 4611686018427387904) (ha2 : a.gone.length ≤ 4611686018427387904) (ha3 : ∀ x ∈ a.boxes, x.mails.length ≤ 4611686018427387904 ∧ x.gone.length ≤ 4611686018427387904 ∧ ∀ m ∈ x.mails, m.flags.length ≤ 4611686018427387904) : Weak Tryz.prog 104 [.agg (cStore a), .agg (cStore b)] (.bool (alike a b)) := by
 refine Weak.enter tab_ok Tryz.func104 rfl (.inr (by simp [V.labelsL, V.labels, V.labelsLL, zz, zf, zy, or_imp, forall_and])) (t := [.agg (cStore a), .agg (cStore b), .any, .any, .any, .any, .any, .any, .any, .any, .any, .any, .any, .any, .any, .any, .any, .any, .any, .any, .any, .any, .any, .any, .any, .any, .any, .any, .any, .any, .any, .any, .any, .any, .any, .any, .any, .any, .any, .any, .any, .any, .any, .any, .any, .any, .any, .any, .any, .any, .any, .any, .any, .any, .any, .any, .any, .any, .any, .any]) rfl ?_
 refine OQ ?_
 iterate 3 (refine EV ?_)
 refine ON ?_
 refine Ok.seq ?_
 refine Ok.seqC [(22, .bool (!decide ((a.boxes.length : Int) = b.boxes.length ∧ (a.gone.length : Int) = b.gone.length)))] [7, 8, 9, 10, 11, 12, 13, 14, 15, 16, 17, 18, 19, 20, 21] (by simp only [kover] <;> rfl) ?_ ?_
 ·
  refine Ok.region ?_
  iterate 8 (refine EV ?_)
  refine OP (d := 14) (fun hg1_7 => ?_) (fun hg1_7 => ?_)
  ·
   try simp only [bsimp] at hg1_7
   iterate 7 (refine OU ?_)
   refine EV ?_
   refine ON ?_
   refine ⟨rfl, ?_, rfl, rfl⟩
   (repeat (first | exact trivial | refine leC ?_ | refine leK ?_ ?_)) <;> first | (refine .inl (congrArg V.bool ?_); first | (simp [*]; done) | (simp_all; done) | (simp_all; omega)) | exact le_rfl' _
  try simp only [bsimp] at hg1_7
  iterate 6 (refine OX ?_)
  refine OO ?_
  iterate 2 (refine EV ?_)
  refine ON ?_
  refine ⟨rfl, ?_, rfl, rfl⟩
  (repeat (first | exact trivial | refine leC ?_ | refine leK ?_ ?_)) <;> first | (refine .inl (congrArg V.bool ?_); first | (simp [*]; done) | (simp_all; done) | (simp_all; omega)) | exact le_rfl' _
 refine OC (fun hb1 => ?_) (fun hb1 => ?_)
 ·
  try simp only [bsimp] at hb1
  refine OQ ?_
  refine EV ?_
  refine ON ?_
  refine Ok.ret ?_
  with_reducible repeat (first | refine thenQ_ret ?_ | refine blockQ_ret ?_)
  refine RT ?_
  rw [alike, decide_eq_false (by rintro ⟨h, h2⟩; rw [h, h2] at hb1; simp at hb1)]; rfl
 try simp only [bsimp] at hb1
 have hb1 : (a.boxes.length : Int) = b.boxes.length ∧ (a.gone.length : Int) = b.gone.length := by simpa using hb1
 refine Ok.skip ?_
 refine Ok.seq ?_
 refine OQ ?_
 refine EV ?_
 refine ON ?_
 refine Ok.block ?_
 refine Ok.loopW (τ := Nat) (fun x => [(5, .int .i64 (x : Int))]) [4, 23, 24, 25, 26, 27, 28, 29, 30, 31, 32, 33, 34, 35, 36, 37, 38, 39, 40, 41] (fun x => by simp only [kover] <;> rfl) (fun x => x ≤ a.boxes.length ∧ a.boxes.take x = b.boxes.take x) (fun x => a.boxes.length - x) 0 (by (repeat (first | exact trivial | refine leC ?_ | refine leK ?_ ?_)) <;> first | (exact le_rfl' _) | exact le_rfl' _) (⟨Nat.zero_le _, rfl⟩) ?_
 rintro i ⟨h1, h2⟩
 refine Ok.seq ?_
 refine OQ ?_
 iterate 5 (refine EV ?_)
 refine ON ?_
 refine OC (fun hb4 => ?_) (fun hb4 => ?_)
 ·
  try simp only [bsimp] at hb4
  have hi : i < a.boxes.length := by omega
  have hj : i < b.boxes.length := by omega
  have hx := ha3 _ (List.getElem_mem hi)
  refine Ok.skip ?_
  refine Ok.seq ?_
  refine Ok.block ?_
  refine Ok.seq ?_
  refine Ok.drawn 12 60 [] (by kernel_rfl) (by kernel_rfl) rfl ?_
  iterate 3 (refine SV ?_)
  refine SOps.ev tab_ok rfl (ev_idx_map (by simp only [kE, kT, kL, kC] <;> rfl) (by simp only [kE, kT, kL, kC] <;> rfl) (by omega) (by simp only [kE, kT, kL, kC] <;> rfl)) (by simp only [kP] <;> rfl) ?_
  iterate 4 (refine SV ?_)
  refine SOps.ev tab_ok rfl (ev_idx_map (by simp only [kE, kT, kL, kC] <;> rfl) (by simp only [kE, kT, kL, kC] <;> rfl) (by omega) (by simp only [kE, kT, kL, kC] <;> rfl)) (by simp only [kP] <;> rfl) ?_
  refine SV ?_
  refine SOps.S0 rfl (OpS.weakM rfl (by simp only [kE, kT, kL, kC] <;> rfl) (by simp only [kE, kT, kL, kC] <;> rfl) cl158 (w_spec_l09Box a.boxes[i] b.boxes[i] hx.1 hx.2.1 hx.2.2)) (by simp only [kP] <;> rfl) ?_
  refine SV ?_
  refine SOps.nil ?_
  refine TOps.nil ?_
  refine OC (fun hb6 => ?_) (fun hb6 => ?_)
  ·
   try simp only [bsimp] at hb6
   refine OQ ?_
   refine EV ?_
   refine ON ?_
   refine Ok.ret ?_
   with_reducible repeat (first | refine thenQ_ret ?_ | refine blockQ_ret ?_)
   refine RT ?_
   rw [alike, decide_eq_false (by rintro ⟨h, h2⟩; apply hb6; simp only [h])]; rfl
  try simp only [bsimp] at hb6
  refine Ok.skip ?_
  refine Ok.region ?_
  iterate 3 (refine EV ?_)
  refine ON ?_
  refine ⟨i + 1, ?_, rfl, rfl, ⟨by omega, take_next h2 hi hj (by simpa using hb6)⟩, by omega⟩
  (repeat (first | exact trivial | refine leC ?_ | refine leK ?_ ?_)) <;> first | (rw [wrap_succ (by omega)]; exact le_rfl' _) | exact le_rfl' _
 try simp only [bsimp] at hb4
 have hm : a.boxes = b.boxes := eq_of_take (by omega) (by omega) h2
 refine Ok.exit ?_
 refine Ok.seq ?_
 refine OQ ?_
 refine EV ?_
 refine ON ?_
 refine Ok.block ?_
 refine Ok.loopW (τ := Nat) (fun x => [(6, .int .i64 (x : Int))]) [4, 42, 43, 44, 45, 46, 47, 48, 49, 50, 51, 52, 53, 54, 55, 56, 57, 58, 59] (fun x => by simp only [kover] <;> rfl) (fun x => x ≤ a.gone.length ∧ a.gone.take x = b.gone.take x) (fun x => a.gone.length - x) 0 (by (repeat (first | exact trivial | refine leC ?_ | refine leK ?_ ?_)) <;> first | (exact le_rfl' _) | exact le_rfl' _) (⟨Nat.zero_le _, rfl⟩) ?_
 rintro i ⟨h1, h2⟩
 refine Ok.seq ?_
 refine OQ ?_
 iterate 5 (refine EV ?_)
 refine ON ?_
 refine OC (fun hb9 => ?_) (fun hb9 => ?_)
 ·
  try simp only [bsimp] at hb9
  have hi : i < a.gone.length := by omega
  have hj : i < b.gone.length := by omega
  refine Ok.skip ?_
  refine Ok.seq ?_
  refine Ok.block ?_
  refine Ok.seq ?_
  refine Ok.drawn 11 60 [] (by kernel_rfl) (by kernel_rfl) rfl ?_
  iterate 3 (refine SV ?_)
  refine SOps.ev tab_ok rfl (ev_idx_map (by simp only [kE, kT, kL, kC] <;> rfl) (by simp only [kE, kT, kL, kC] <;> rfl) (by omega) (by simp only [kE, kT, kL, kC] <;> rfl)) (by simp only [kP] <;> rfl) ?_
  iterate 4 (refine SV ?_)
  refine SOps.ev tab_ok rfl (ev_idx_map (by simp only [kE, kT, kL, kC] <;> rfl) (by simp only [kE, kT, kL, kC] <;> rfl) (by omega) (by simp only [kE, kT, kL, kC] <;> rfl)) (by simp only [kP] <;> rfl) ?_
  iterate 2 (refine SV ?_)
  refine SOps.nil ?_
  refine TOps.nil ?_
  refine OC (fun hb11 => ?_) (fun hb11 => ?_)
  ·
   try simp only [bsimp] at hb11
   refine OQ ?_
   refine EV ?_
   refine ON ?_
   refine Ok.ret ?_
   with_reducible repeat (first | refine thenQ_ret ?_ | refine blockQ_ret ?_)
   refine RT ?_
   rw [alike, decide_eq_false (by rintro ⟨h, h2⟩; apply hb11; simp only [h2])]; rfl
  try simp only [bsimp] at hb11
  refine Ok.skip ?_
  refine Ok.region ?_
  iterate 3 (refine EV ?_)
  refine ON ?_
  refine ⟨i + 1, ?_, rfl, rfl, ⟨by omega, take_next h2 hi hj (by simpa using hb11)⟩, by omega⟩
  (repeat (first | exact trivial | refine leC ?_ | refine leK ?_ ?_)) <;> first | (rw [wrap_succ (by omega)]; exact le_rfl' _) | exact le_rfl' _
 try simp only [bsimp] at hb9
 have hg : a.gone = b.gone := eq_of_take (by omega) (by omega) h2
 refine Ok.exit ?_
 refine OQ ?_
 refine EV ?_
 refine ON ?_
 refine Ok.ret ?_
 with_reducible repeat (first | refine thenQ_ret ?_ | refine blockQ_ret ?_)
 refine RT ?_
 rw [alike, decide_eq_true ⟨hm, hg⟩]; rfl
theorem w_laws_sameAll (a b : Store) (h : smStore a) : Weak Tryz.prog 33 [.agg (cStore a), .agg (cStore b)] (.bool (decide (a = b))) := by
 refine Weak.enter tab_ok Tryz.func33 rfl (.inr (by simp [V.labelsL, V.labels, V.labelsLL, zz, zf, zy, or_imp, forall_and])) (t := [.agg (cStore a), .agg (cStore b), .any, .any, .any, .any, .any, .any, .any, .any, .any, .any, .any, .any, .any, .any, .any, .any, .any, .any, .any, .any]) rfl ?_
 refine OQ ?_
 iterate 3 (refine EV ?_)
 refine ON ?_
 refine OQ ?_
 iterate 6 (refine EV ?_)
 refine OP (d := 10) (fun hg1_5 => ?_) (fun hg1_5 => ?_)
 ·
  try simp only [bsimp] at hg1_5
  iterate 4 (refine OX ?_)
  refine OO ?_
  iterate 3 (refine EV ?_)
  refine OP (d := 17) (fun hg1_12 => ?_) (fun hg1_12 => ?_)
  ·
   try simp only [bsimp] at hg1_12
   refine OX ?_
   refine OX ?_
   refine OO ?_
   refine OW cl104 (w_spec_Alike a b (by have := h.1.1; omega) (by have := h.2; omega) (fun x hx => ⟨by have := (h.1.2 x hx).2.1.1; omega, by have := (h.1.2 x hx).2.2; omega, fun m hm => by have := ((h.1.2 x hx).2.1.2 m hm).1; omega⟩)) ?_
   iterate 2 (refine EV ?_)
   refine ON ?_
   refine Ok.ret ?_
   with_reducible repeat (first | refine thenQ_ret ?_ | refine blockQ_ret ?_)
   refine RT ?_
   first | (cases a; cases b; simp_all [V.erase, V.trav, packV, alike]; done) | (cases a; cases b; simp_all [V.erase, V.trav, packV, alike, and_assoc]; done)
  try simp only [bsimp] at hg1_12
  iterate 3 (refine OU ?_)
  iterate 2 (refine EV ?_)
  refine ON ?_
  refine Ok.ret ?_
  with_reducible repeat (first | refine thenQ_ret ?_ | refine blockQ_ret ?_)
  refine RT ?_
  first | (cases a; cases b; simp_all [V.erase, V.trav, packV, alike]; done) | (cases a; cases b; simp_all [V.erase, V.trav, packV, alike, and_assoc]; done)
 try simp only [bsimp] at hg1_5
 iterate 5 (refine OU ?_)
 iterate 2 (refine EV ?_)
 iterate 3 (refine OU ?_)
 iterate 2 (refine EV ?_)
 refine ON ?_
 refine Ok.ret ?_
 with_reducible repeat (first | refine thenQ_ret ?_ | refine blockQ_ret ?_)
 refine RT ?_
 first | (cases a; cases b; simp_all [V.erase, V.trav, packV, alike]; done) | (cases a; cases b; simp_all [V.erase, V.trav, packV, alike, and_assoc]; done)
theorem w_impl_SyncEnds (y : Sync) (b : Bool) (h : smSync y) : Weak Tryz.prog 35 [.agg (cSync y), .bool b] (.agg (cSync (syncEnds y b))) := by
 refine Weak.enter tab_ok Tryz.func35 rfl (.inr (by simp [V.labelsL, V.labels, zz, zf, zy])) (t := [.agg (cSync y), .bool b, .any, .any, .any, .any, .any, .any, .any, .any, .any, .any]) rfl ?_
 refine OQ ?_
 iterate 2 (refine EV ?_)
 refine ON ?_
 refine OQ ?_
 refine EV ?_
 refine OkOps.S' rfl (OpS.pure' rfl (by simp only [kE, kT, kL, kC] <;> rfl) (by simp only [kE, kT, kL, kC, V.eraseL, V.erase, V.travL, V.trav, zz, zf, zy] <;> rfl) cl94 (by simp [V.dat, V.datL, V.datLL, zz, zf, zy]) (p_impl_copySync y h)) (by simp only [V.cnt, V.cntL, zz, zf, zy, Nat.add_zero, Nat.reduceAdd] <;> rfl) (by simp only [kP, V.tag, V.tagL, V.cnt, V.cntL, zz, zf, zy, Nat.add_zero, Nat.reduceAdd] <;> rfl) ?_
 refine EV ?_
 refine OE ?_
 refine ON ?_
 refine Ok.seq ?_
 refine OQ ?_
 refine EV ?_
 refine ON ?_
 refine OC (fun hb2 => ?_) (fun hb2 => ?_)
 ·
  try simp only [bsimp] at hb2
  rw [syncEnds_t hb2]
  refine Ok.region ?_
  refine EV ?_
  refine OE ?_
  refine ON ?_
  refine OQ ?_
  refine EV ?_
  refine OE ?_
  refine ON ?_
  refine Ok.ret ?_
  with_reducible repeat (first | refine thenQ_ret ?_ | refine blockQ_ret ?_)
  refine RT ?_
  first | rfl | (simp [V.erase, V.trav, V.travL, V.travLL, packV, zz, zf, zy]; done)
 try simp only [bsimp] at hb2
 rw [syncEnds_f hb2]
 refine Ok.region ?_
 refine EV ?_
 refine OE ?_
 refine ON ?_
 refine OQ ?_
 refine EV ?_
 refine OE ?_
 refine ON ?_
 refine Ok.ret ?_
 with_reducible repeat (first | refine thenQ_ret ?_ | refine blockQ_ret ?_)
 refine RT ?_
 first | rfl | (simp [V.erase, V.trav, V.travL, V.travLL, packV, zz, zf, zy]; done)
theorem w_impl_SyncOver (y : Sync) : Weak Tryz.prog 34 [.agg (cSync y)] (.bool (syncOver y)) := by
 refine Weak.enter tab_ok Tryz.func34 rfl (.inr (by simp [V.labelsL, V.labels, zz, zf, zy])) (t := [.agg (cSync y), .any, .any, .any, .any, .any, .any, .any, .any, .any, .any, .any]) rfl ?_
 refine OQ ?_
 iterate 2 (refine EV ?_)
 refine ON ?_
 refine OQ ?_
 iterate 3 (refine EV ?_)
 refine OP (d := 5) (fun hg1_2 => ?_) (fun hg1_2 => ?_)
 ·
  try simp only [bsimp] at hg1_2
  iterate 4 (refine OX ?_)
  refine OO ?_
  iterate 3 (refine EV ?_)
  refine ON ?_
  refine Ok.ret ?_
  with_reducible repeat (first | refine thenQ_ret ?_ | refine blockQ_ret ?_)
  refine RT ?_
  first | (simp_all [syncOver, V.erase, V.trav, packV, kE]; done) | (simp [syncOver, *, V.erase, V.trav, packV, kE]; done)
 try simp only [bsimp] at hg1_2
 iterate 5 (refine OU ?_)
 iterate 2 (refine EV ?_)
 refine ON ?_
 refine Ok.ret ?_
 with_reducible repeat (first | refine thenQ_ret ?_ | refine blockQ_ret ?_)
 refine RT ?_
 first | (simp_all [syncOver, V.erase, V.trav, packV, kE]; done) | (simp [syncOver, *, V.erase, V.trav, packV, kE]; done)
end Go.Proofs.YtjhfabimacljhaaGreat.K

/- Plain: rounds of a sync; a text is carried whole. -/
namespace Go.Proofs.YtjhfabimacljhaaGreat.K
open Go Go.RowKit
set_option linter.unusedVariables false
theorem pieces_flat (t : Str) : ∀ i, (piecesT t i).flatten = t.take (120 * i)
  | 0 => by simp [piecesT]
  | i + 1 => by
    rw [pieces_next, List.flatten_append, pieces_flat t i]
    unfold pieceT
    rw [show 120 * (i + 1) = 120 * i + 120 by omega, List.take_add]
    simp
theorem pieces_all (t : Str) : (piecesT t (pieceN t)).flatten = t := by
  rw [pieces_flat, List.take_of_length_le]
  unfold pieceN; omega
theorem tell_beg {n : Nat} (h1 : 1 ≤ n) (h2 : n ≤ 1000) : tellT (84 :: varT n) = some n := by
  unfold tellT
  have h := readVar_at [84] [] (n := n) (by omega)
  rw [List.append_nil] at h
  rw [show ((84 :: varT n : Str)) = [84] ++ varT n from rfl, show ((1 : Int)) = (([84] : Str).length : Int) from rfl, h]
  simp only [List.length_append]
  rw [if_pos ⟨trivial, h1⟩]
def heardY (t : Str) (y : Sync) (i : Nat) : Sync := { y with total := if i = 0 then 0 else (pieceN t : Int), pieces := piecesT t (i - 1) }
theorem beg_get {t : Str} {i : Nat} (h : i < pieceN t + 1) : (begT t (pieceN t))[i]? = some (if i = 0 then begH t else 80 :: pieceT t (i - 1)) := by
  unfold begT
  cases i with
  | zero => rfl
  | succ i =>
    rw [List.getElem?_cons_succ, List.getElem?_map, pieces_get (by omega)]
    rfl
theorem heard_text {t : Str} {y : Sync} {i : Nat} {x : Str} (hn : 1 ≤ pieceN t) (hn2 : pieceN t ≤ 1000) (h : i < pieceN t + 1) (hx : (begT t (pieceN t))[i]? = some x) : syncText (heardY t y i) x = (heardY t y (i + 1), if i + 1 = pieceN t + 1 then t else []) := by
  rw [beg_get h] at hx
  obtain rfl := Option.some.inj hx
  have hd : ∀ o : Sync, (o.pieces.length : Int) ≠ o.total → syncDone o = (o, []) := fun o h => if_pos (.inr h)
  have hd2 : ∀ o : Sync, o.total ≠ 0 → (o.pieces.length : Int) = o.total → syncDone o = (o, o.pieces.flatten) := fun o h h2 => if_neg (by rintro (q | q); exact h q; exact q h2)
  cases i with
  | zero =>
    rw [if_pos rfl]
    show syncText (heardY t y 0) (84 :: varT (pieceN t)) = _
    rw [syncText_T (n := pieceN t) rfl (tell_beg hn hn2), hd _ (by show ((piecesT t 0).length : Int) ≠ (pieceN t : Int); rw [pieces_len]; omega), if_neg (show ¬ (0 + 1 = pieceN t + 1) by omega)]
    rfl
  | succ i =>
    rw [if_neg (show ¬ (i + 1 = 0) by omega), syncText_P (by rfl) (by rfl)]
    have e : piecesT t i ++ [pieceT t i] = piecesT t (i + 1) := (pieces_next t i).symm
    have key : ({ heardY t y (i + 1) with pieces := (heardY t y (i + 1)).pieces ++ [(80 :: pieceT t (i + 1 - 1)).drop 1] } : Sync) = heardY t y (i + 1 + 1) := by
      show ({ y with total := if i + 1 = 0 then 0 else (pieceN t : Int), pieces := piecesT t i ++ [pieceT t i] } : Sync) = { y with total := if i + 1 + 1 = 0 then 0 else (pieceN t : Int), pieces := piecesT t (i + 1) }
      rw [e]; rfl
    rw [key]
    have k1 : (heardY t y (i + 1 + 1)).total = (pieceN t : Int) := rfl
    have k2 : (heardY t y (i + 1 + 1)).pieces = piecesT t (i + 1) := rfl
    by_cases hl : i + 1 = pieceN t
    · rw [hd2 _ (by rw [k1]; omega) (by rw [k1, k2, pieces_len, hl]), k2, hl, pieces_all, if_pos rfl]
    · rw [hd _ (by rw [k1, k2, pieces_len]; omega), if_neg (by omega)]
def lkY (L : List Str) (i w : Nat) : Link := ⟨5, L.drop i, ((1 + i : Nat) : Int), ((1 + w : Nat) : Int)⟩
theorem says_some {L : List Str} {i w : Nat} {x : Str} (hx : L[i]? = some x) : linkSays (lkY L i w) = ⟨5, ((1 + i : Nat) : Int), ((1 + w : Nat) : Int), x⟩ := by
  obtain ⟨h, e⟩ := List.getElem?_eq_some_iff.1 hx
  unfold lkY linkSays
  simp only [List.drop_eq_getElem_cons h, e]
theorem says_none {L : List Str} {i w : Nat} (h : L.length ≤ i) : linkSays (lkY L i w) = ⟨5, 0, ((1 + w : Nat) : Int), []⟩ := by
  unfold lkY linkSays
  simp only [List.drop_eq_nil_of_le h]
theorem wrapS {i : Nat} (h : i ≤ 1000) : IntKind.i64.wrap (((1 + i : Nat) : Int) + 1) = ((1 + (i + 1) : Nat) : Int) := by rw [IntKind.wrap_i64]; omega
theorem mid_step {L : List Str} {i w : Nat} {p : Packet} (hi : i < L.length) (h : i ≤ 1000) (ha : p.ack = ((1 + (i + 1) : Nat) : Int)) : hearMid (lkY L i w) p = lkY L (i + 1) w := by
  unfold hearMid lkY
  simp only [wrapS h, ha]
  rw [if_pos]
  · simp
  · exact ⟨fun q => by rw [List.drop_eq_nil_iff] at q; omega, by omega, trivial⟩
theorem mid_stay {L : List Str} {i w : Nat} {p : Packet} (ha : L.length ≤ i ∨ p.ack ≤ ((1 + i : Nat) : Int)) : hearMid (lkY L i w) p = lkY L i w := by
  unfold hearMid lkY
  rw [if_neg]
  rintro ⟨h1, h2, h3⟩
  rcases ha with ha | ha
  · exact h1 (List.drop_eq_nil_of_le ha)
  · simp only [] at h2; omega
def upY (L : List Str) (i m : Nat) : Nat := if i < L.length ∧ m = i + 1 then i + 1 else i
theorem mid_up {L : List Str} {i w m : Nat} {p : Packet} (h : i ≤ 1000) (hm : m ≤ i + 1) (ha : p.ack = ((1 + m : Nat) : Int)) : hearMid (lkY L i w) p = lkY L (upY L i m) w := by
  unfold upY
  by_cases q : i < L.length ∧ m = i + 1
  · rw [if_pos q]; exact mid_step q.1 h (by rw [ha, q.2])
  · rw [if_neg q]
    refine mid_stay ?_
    rw [ha]
    by_cases q1 : i < L.length
    · right; have : m ≠ i + 1 := fun e => q ⟨q1, e⟩
      omega
    · left; omega
def sideY (t u : Str) (i w : Nat) : Sync := heardY u ⟨5, lkY (begT t (pieceN t)) i w, 0, [], false, false⟩ w
theorem hears_side {t u : Str} {i w j m : Nat} (hu : 1 ≤ pieceN u) (hu2 : pieceN u < 60) (hi : i ≤ 1000) (hw : w ≤ pieceN u + 1) (hm : m ≤ i + 1) (hjw : j = w) :
    syncHears (sideY t u i w) (linkSays (lkY (begT u (pieceN u)) j m)) = (sideY t u (upY (begT t (pieceN t)) i m) (min (w + 1) (pieceN u + 1)), if w + 1 = pieceN u + 1 then u else []) := by
  subst hjw
  have hL : (begT u (pieceN u)).length = pieceN u + 1 := begT_len _ _
  by_cases hlt : j < pieceN u + 1
  · have hx : (begT u (pieceN u))[j]? = some (begT u (pieceN u))[j] := List.getElem?_eq_getElem (by omega)
    rw [says_some hx]
    generalize (begT u (pieceN u))[j] = x at hx ⊢
    have hh : linkHears (sideY t u i j).link ⟨5, ((1 + j : Nat) : Int), ((1 + m : Nat) : Int), x⟩ = ({ lkY (begT t (pieceN t)) (upY (begT t (pieceN t)) i m) j with want := ((1 + (j + 1) : Nat) : Int) }, x, true) := by
      show linkHears (lkY (begT t (pieceN t)) i j) _ = _
      rw [linkHears_on rfl, mid_up hi hm rfl, if_neg]
      · show ({ lkY _ _ _ with want := IntKind.i64.wrap (((1 + j : Nat) : Int) + 1) }, x, true) = _
        rw [wrapS (by omega)]
      · rintro (q | q)
        · simp only [] at q; omega
        · exact q rfl
    rw [syncHears_yes hh]
    have e : ({ sideY t u i j with link := { lkY (begT t (pieceN t)) (upY (begT t (pieceN t)) i m) j with want := ((1 + (j + 1) : Nat) : Int) } } : Sync) = heardY u ⟨5, lkY (begT t (pieceN t)) (upY (begT t (pieceN t)) i m) (j + 1), 0, [], false, false⟩ j := rfl
    rw [e, heard_text hu (by omega) hlt hx, show min (j + 1) (pieceN u + 1) = j + 1 by omega]
    rfl
  · have hj : j = pieceN u + 1 := by omega
    rw [says_none (by omega)]
    have hh : linkHears (sideY t u i j).link ⟨5, 0, ((1 + m : Nat) : Int), []⟩ = (lkY (begT t (pieceN t)) (upY (begT t (pieceN t)) i m) j, [], false) := by
      show linkHears (lkY (begT t (pieceN t)) i j) _ = _
      rw [linkHears_on rfl, mid_up hi hm rfl, if_pos (.inl rfl)]
    rw [syncHears_no hh, if_neg (by omega), show min (j + 1) (pieceN u + 1) = j by omega]
    rfl
def stA (t u : Str) (k : Nat) : Sync := sideY t u (min k (pieceN t + 1)) (min k (pieceN u + 1))
def stB (t u : Str) (k : Nat) : Sync := sideY u t (min (k - 1) (pieceN u + 1)) (min k (pieceN t + 1))
def gotY (t : Str) (k : Nat) : Str := if pieceN t + 1 ≤ k then t else []
theorem round_B {t u : Str} {k : Nat} (ht : 1 ≤ pieceN t) (ht2 : pieceN t < 60) (hu : 1 ≤ pieceN u) (hu2 : pieceN u < 60) : ∃ g, syncHears (stB t u k) (linkSays (stA t u k).link) = (stB t u (k + 1), g) ∧ gotY t k ++ g = gotY t (k + 1) := by
  refine ⟨if min k (pieceN t + 1) + 1 = pieceN t + 1 then t else [], ?_, ?_⟩
  · have h := hears_side (t := u) (u := t) (i := min (k - 1) (pieceN u + 1)) (w := min k (pieceN t + 1)) (j := min k (pieceN t + 1)) (m := min k (pieceN u + 1)) ht ht2 (by omega) (by omega) (by omega) rfl
    refine h.trans ?_
    have e : upY (begT u (pieceN u)) (min (k - 1) (pieceN u + 1)) (min k (pieceN u + 1)) = min (k + 1 - 1) (pieceN u + 1) := by
      unfold upY
      rw [begT_len]
      split <;> omega
    unfold stB
    rw [e, show min (min k (pieceN t + 1) + 1) (pieceN t + 1) = min (k + 1) (pieceN t + 1) by omega]
  · unfold gotY
    by_cases q : min k (pieceN t + 1) + 1 = pieceN t + 1
    · rw [if_pos q, if_neg (by omega), if_pos (by omega)]; rfl
    · rw [if_neg q, List.append_nil]
      by_cases q2 : pieceN t + 1 ≤ k
      · rw [if_pos q2, if_pos (by omega)]
      · rw [if_neg q2, if_neg (by omega)]
theorem round_A {t u : Str} {k : Nat} (ht : 1 ≤ pieceN t) (ht2 : pieceN t < 60) (hu : 1 ≤ pieceN u) (hu2 : pieceN u < 60) : ∃ g, syncHears (stA t u k) (linkSays (stB t u (k + 1)).link) = (stA t u (k + 1), g) := by
  refine ⟨if min k (pieceN u + 1) + 1 = pieceN u + 1 then u else [], ?_⟩
  · have h := hears_side (t := t) (u := u) (i := min k (pieceN t + 1)) (w := min k (pieceN u + 1)) (j := min (k + 1 - 1) (pieceN u + 1)) (m := min (k + 1) (pieceN t + 1)) hu hu2 (by omega) (by omega) (by omega) (by rw [Nat.add_sub_cancel])
    refine h.trans ?_
    have e : upY (begT t (pieceN t)) (min k (pieceN t + 1)) (min (k + 1) (pieceN t + 1)) = min (k + 1) (pieceN t + 1) := by
      unfold upY
      rw [begT_len]
      split <;> omega
    unfold stA
    rw [e, show min (min k (pieceN u + 1) + 1) (pieceN u + 1) = min (k + 1) (pieceN u + 1) by omega]
theorem begT_short {t x : Str} (ht : pieceN t < 60) (h : x ∈ begT t (pieceN t)) : x.length ≤ 1000 := by
  unfold begT at h
  rcases List.mem_cons.1 h with rfl | h
  · have := varT_len5 (n := pieceN t) (by omega)
    unfold begH; rw [List.length_cons]; omega
  · obtain ⟨p, hp, rfl⟩ := List.mem_map.1 h
    unfold piecesT at hp
    obtain ⟨k, -, rfl⟩ := List.mem_map.1 hp
    have := piece_len t k
    rw [List.length_cons]; omega
theorem side_sm {t u : Str} {i w : Nat} (ht2 : pieceN t < 60) (hu2 : pieceN u < 60) (hw : w ≤ pieceN u + 1) : smSync (sideY t u i w) ∧ (sideY t u i w).pieces.flatten.length ≤ 1000000 := by
  have h1 : StrsS ((begT t (pieceN t)).drop i) := ⟨by rw [List.length_drop, begT_len]; omega, fun x hx => by have := begT_short ht2 (List.mem_of_mem_drop hx); omega⟩
  have h2 : StrsS (piecesT u (w - 1)) := by
    refine ⟨by rw [pieces_len]; omega, fun x hx => ?_⟩
    unfold piecesT at hx
    obtain ⟨k, -, rfl⟩ := List.mem_map.1 hx
    have := piece_len u k
    omega
  have h3 : u.length ≤ 7080 := by unfold pieceN at hu2; omega
  refine ⟨⟨h1, h2⟩, ?_⟩
  show (piecesT u (w - 1)).flatten.length ≤ _
  rw [pieces_flat, List.length_take]; omega
theorem says_len {t u : Str} {i w : Nat} (ht : pieceN t < 60) : (linkSays (sideY t u i w).link).text.length ≤ 1000000 := by
  show (linkSays (lkY (begT t (pieceN t)) i w)).text.length ≤ 1000000
  by_cases h : i < pieceN t + 1
  · have hx : (begT t (pieceN t))[i]? = some ((begT t (pieceN t))[i]'(by rw [begT_len]; exact h)) := List.getElem?_eq_getElem _
    rw [says_some hx]
    have := begT_short ht (List.getElem_mem (by rw [begT_len]; exact h))
    exact Nat.le_trans this (by decide)
  · rw [says_none (by rw [begT_len]; omega)]
    exact Nat.zero_le _
theorem stA_sm {t u : Str} {k : Nat} (ht2 : pieceN t < 60) (hu2 : pieceN u < 60) : smSync (stA t u k) ∧ (stA t u k).pieces.flatten.length ≤ 1000000 ∧ (linkSays (stA t u k).link).text.length ≤ 1000000 :=
  ⟨(side_sm ht2 hu2 (by omega)).1, (side_sm ht2 hu2 (by omega)).2, says_len ht2⟩
theorem stB_sm {t u : Str} {k : Nat} (ht2 : pieceN t < 60) (hu2 : pieceN u < 60) : smSync (stB t u k) ∧ (stB t u k).pieces.flatten.length ≤ 1000000 ∧ (linkSays (stB t u k).link).text.length ≤ 1000000 :=
  ⟨(side_sm hu2 ht2 (by omega)).1, (side_sm hu2 ht2 (by omega)).2, says_len hu2⟩
theorem got_len {t : Str} {k : Nat} (h : pieceN t < 60) : (gotY t k).length ≤ 7080 := by
  unfold gotY pieceN at *
  split
  · omega
  · exact Nat.zero_le _
theorem varI_len4 {n : Nat} (h : n ≤ 2097151) : (varT n).length ≤ 3 := by
  have e : ∀ m, m ≤ 127 → (varT m).length = 1 := fun m hm => by rw [varT_lo hm]; rfl
  have s : ∀ m k, 127 < m → (varT (m / 128)).length ≤ k → (varT m).length ≤ k + 1 := fun m k hm hk => by rw [varT_hi hm]; simpa using hk
  rcases Nat.lt_or_ge 127 n with h1 | h1
  · refine s n 2 h1 ?_
    rcases Nat.lt_or_ge 127 (n / 128) with h2 | h2
    · refine s _ 1 h2 ?_
      rw [e _ (by omega)]
      exact Nat.le_refl 1
    · rw [e _ h2]; omega
  · rw [e _ h1]; omega
theorem varI3 {z : Int} (h : z ≤ 2097151) : (varT z.toNat).length ≤ 3 := varI_len4 (by omega)
theorem gone3 {l : List Int} (h : ∀ g ∈ l, 1 ≤ g ∧ g ≤ 9999) : (l.flatMap gT).length ≤ l.length * 3 := flat_le fun g hg => varI3 (by have := (h g hg).2; omega)
theorem mailT3 {m : Mail} (h : mailOk m = true) : (mailT m).length ≤ 115 := by
  obtain ⟨h1, h2, h3, h4, h5⟩ := mailOk_is h
  have hs := mail_small h
  have q1 := varI3 (z := m.gid) (by omega)
  have q2 := varI3 (z := m.uid) (by omega)
  have q3 := regs_len h3
  have q4 := varI_len4 (n := m.text.length) (by omega)
  simp only [mailT, List.length_append]; omega
theorem mails3 {l : List Mail} (h : ∀ m ∈ l, mailOk m = true) : (l.flatMap mailT).length ≤ l.length * 115 := flat_le fun m hm => mailT3 (h m hm)
theorem boxT3 {b : Box} (h : boxOk b = true) : (boxT b).length ≤ 1310 := by
  obtain ⟨h1, h2, h3, h4, h5, h6, h7, h8⟩ := boxOk_is h
  have q1 := varI3 (z := b.gid) (by omega)
  have q2 := varI3 (z := b.named.time) (by omega)
  have q3 := varI3 (z := b.named.by_) (by omega)
  have q4 := varI3 (z := b.next) (by omega)
  have q5 := varI_len4 (n := b.name.length) (by omega)
  have q6 := varI_len4 (n := b.mails.length) (by omega)
  have q7 := varI_len4 (n := b.gone.length) (by omega)
  have q8 := mails3 h6
  have q9 := gone3 h7
  simp only [boxT, goneT_eq, List.length_append]; omega
theorem boxes3 {l : List Box} (h : ∀ b ∈ l, boxOk b = true) : (l.flatMap boxT).length ≤ l.length * 1310 := flat_le fun b hb => boxT3 (h b hb)
theorem storeB3 {s : Store} (h : storeOk s = true) : (storeB s).length ≤ 7000 := by
  obtain ⟨h1, h2, h3, h4, h5, h6⟩ := storeOk_is h
  have q1 := varI3 (z := s.by_) (by omega)
  have q2 := varI3 (z := s.time) (by omega)
  have q3 := varI_len4 (n := s.boxes.length) (by omega)
  have q4 := varI_len4 (n := s.gone.length) (by omega)
  have q5 := boxes3 h4
  have q6 := gone3 h5
  simp only [storeB, goneT_eq, List.length_append]; omega
theorem begOk_ok {s : Store} (h : storeOk s = true) : begOk s = true ∧ 1 ≤ pieceN (stT s) ∧ pieceN (stT s) < 60 ∧ storeText s = some (stT s) := by
  have e := storeText_yes h
  have e2 : stT s = sealT (storeB s) := by unfold stT; rw [e]; rfl
  have h1 := storeB3 h
  have h2 := sealT_len (storeB s)
  have h3 : 4 ≤ (sealT (storeB s)).length := by
    unfold sealT; rw [List.length_append]; have : (fourT (sumOf (storeB s))).length = 4 := rfl; omega
  have h4 : pieceN (stT s) < 60 := by unfold pieceN; rw [e2]; omega
  refine ⟨?_, by unfold pieceN; rw [e2]; omega, h4, by rw [e, e2]⟩
  unfold begOk
  rw [e, decide_eq_true h4]; rfl
theorem beg_side {s z : Store} (h : storeOk s = true) : begY s 5 = sideY (stT s) (stT z) 0 0 := by
  obtain ⟨h1, h2, h3, h4⟩ := begOk_ok h
  rw [begY_yes _ h1]
  unfold sideY heardY lkY begL zSync
  rw [List.take_of_length_le (by rw [begT_len]; omega)]
  rfl
theorem stA_0 {s z : Store} (h : storeOk s = true) : begY s 5 = stA (stT s) (stT z) 0 := by
  rw [beg_side (z := z) h]; unfold stA; rw [Nat.zero_min, Nat.zero_min]
theorem stB_0 {s z : Store} (h : storeOk z = true) : begY z 5 = stB (stT s) (stT z) 0 := by
  rw [beg_side (z := s) h]; unfold stB; rw [Nat.zero_sub, Nat.zero_min, Nat.zero_min]
theorem got_0 (t : Str) : gotY t 0 = [] := by unfold gotY; rw [if_neg (by omega)]
theorem got_60 {t : Str} (h : pieceN t < 60) : gotY t 60 = t := by unfold gotY; rw [if_pos (by omega)]
theorem stB_failed (t u : Str) (k : Nat) : (stB t u k).failed = false := rfl
theorem stA_way {t u : Str} (h : pieceN t < 60) : (stA t u 60).link.way = [] := by
  show (begT t (pieceN t)).drop (min 60 (pieceN t + 1)) = []
  exact List.drop_eq_nil_of_le (by rw [begT_len]; omega)
end Go.Proofs.YtjhfabimacljhaaGreat.K

/- Walks: pairs copied. Printed by w2.py. -/
namespace Go.Proofs.YtjhfabimacljhaaGreat.K
open Go Go.RowKit
set_option linter.unusedVariables false
set_option linter.unusedSimpArgs false
set_option maxHeartbeats 4000000
set_option maxRecDepth 20000
end Go.Proofs.YtjhfabimacljhaaGreat.K

/- How many marks a server's data takes. -/
namespace Go.Proofs.YtjhfabimacljhaaGreat.K
open Go Go.RowKit
set_option linter.unusedVariables false
set_option linter.unusedSimpArgs false
end Go.Proofs.YtjhfabimacljhaaGreat.K

/- Pairs of servers: which place there is; who rises. -/
namespace Go.Proofs.YtjhfabimacljhaaGreat.K
open Go Go.RowKit
set_option linter.unusedVariables false
set_option linter.unusedSimpArgs false
def hasP (p : Pair) (i : Int) : Bool := decide (0 ≤ i ∧ i ≤ 1 ∧ i < (p.servers.length : Int) ∧ i < (p.syncs.length : Int))
def upAt (p : Pair) (i : Int) : Bool := match p.servers[i.toNat]? with | some s => s.up | none => false
def riseB (p : Pair) (i : Int) : Bool := hasP p i && !upAt p i
def riseS (p : Pair) (i : Int) : List Server := match p.servers[i.toNat]? with | some s => p.servers.set i.toNat ⟨s.kept, s.session, true⟩ | none => p.servers
def riseP (p : Pair) (i : Int) : Pair := if riseB p i = true then { p with servers := riseS p i } else p
def Took (f : Int → Int) (k : Nat) : Prop := ∀ left, 0 ≤ left → left ≤ 1048576 → ¬ f left < 0 → f left + (k : Int) ≤ left
def kMail (x : Mail) : Nat := x.flags.length
def kBox (x : Box) : Nat := x.mails.length + (x.mails.map kMail).sum + x.gone.length
def kStore (x : Store) : Nat := x.boxes.length + (x.boxes.map kBox).sum + x.gone.length
def kServer (x : Server) : Nat := kStore x.kept.store + x.session.view.length
def kSync (x : Sync) : Nat := x.link.way.length + x.pieces.length
def kPair (x : Pair) : Nat := x.servers.length + (x.servers.map kServer).sum + (x.syncs.length + (x.syncs.map kSync).sum + x.net.length)
end Go.Proofs.YtjhfabimacljhaaGreat.K

/- What is said to the other server. -/
namespace Go.Proofs.YtjhfabimacljhaaGreat.K
open Go Go.RowKit
set_option linter.unusedVariables false
set_option linter.unusedSimpArgs false
def post (net : List Letter) (l : Letter) : List Letter := (net ++ [l]).drop ((net ++ [l]).length - 6)
def failAt (p : Pair) (i : Int) : Bool := match p.syncs[i.toNat]? with | some s => s.failed | none => false
def linkAt (p : Pair) (i : Int) : Link := match p.syncs[i.toNat]? with | some s => s.link | none => ⟨0, [], 0, 0⟩
def speakT (p : Pair) (i : Int) : Option Str := if (hasP p i && (upAt p i && !failAt p i)) = true then packetText (linkSays (linkAt p i)) else none
def speakP (p : Pair) (i : Int) : Pair := match speakT p i with | some t => { p with net := post p.net ⟨1 - i, t⟩ } | none => p
def speakB (p : Pair) (i : Int) : Bool := (speakT p i).isSome
end Go.Proofs.YtjhfabimacljhaaGreat.K

/- Walks: letters posted. Printed by w2.py. -/
namespace Go.Proofs.YtjhfabimacljhaaGreat.K
open Go Go.RowKit
set_option linter.unusedVariables false
set_option linter.unusedSimpArgs false
set_option maxHeartbeats 4000000
set_option maxRecDepth 20000
theorem w_impl_LinkSays (l : Link) : Weak Tryz.prog 30 [.agg (cLink l)] (.agg (cPacket (linkSays l))) := by
 refine Weak.enter tab_ok Tryz.func30 rfl (.inr (by simp [V.labelsL, V.labels, zz, zf, zy])) (t := [.agg (cLink l), .any, .any, .any, .any, .any, .any, .any, .any, .any, .any, .any, .any, .any, .any, .any, .any, .any, .any, .any, .any, .any]) rfl ?_
 refine OQ ?_
 iterate 2 (refine EV ?_)
 refine ON ?_
 refine OQ ?_
 iterate 4 (refine EV ?_)
 refine OkOps.ev tab_ok rfl (by simp [ev1, fillV, kE, kT, kL] <;> first | rfl | exact ⟨rfl, rfl⟩) (by simp only [kP] <;> rfl) ?_
 refine EV ?_
 refine OE ?_
 refine ON ?_
 refine Ok.seq ?_
 refine OQ ?_
 iterate 4 (refine EV ?_)
 refine ON ?_
 refine OC (fun hb2 => ?_) (fun hb2 => ?_)
 ·
  try simp only [bsimp] at hb2
  obtain ⟨s, r, hw⟩ : ∃ s r, l.way = s :: r := by
    cases hh : l.way with
    | nil => simp [hh] at hb2
    | cons s r => exact ⟨s, r, rfl⟩
  refine OQ ?_
  iterate 3 (refine EV ?_)
  refine OE ?_
  refine ON ?_
  refine Ok.region ?_
  iterate 2 (refine EV ?_)
  refine OkOps.ev tab_ok rfl (ev_idx (j := 0) (by simp only [kE, kT, kL, kC] <;> rfl) (by simp only [kE, kT, kL, kC] <;> rfl) (by rw [hw]; rfl) (by simp only [kE, kT, kL, kC] <;> rfl)) (by simp only [kP] <;> rfl) ?_
  iterate 2 (refine EV ?_)
  refine OE ?_
  refine ON ?_
  refine OQ ?_
  refine EV ?_
  refine OE ?_
  refine ON ?_
  refine Ok.ret ?_
  with_reducible repeat (first | refine thenQ_ret ?_ | refine blockQ_ret ?_)
  refine RT ?_
  simp only [packV, V.erase, V.trav, V.travL, zz, zf, zy, linkSays, hw]
 try simp only [bsimp] at hb2
 have hw : l.way = [] := List.eq_nil_of_length_eq_zero (by omega)
 refine Ok.skip ?_
 refine OQ ?_
 refine EV ?_
 refine OE ?_
 refine ON ?_
 refine Ok.ret ?_
 with_reducible repeat (first | refine thenQ_ret ?_ | refine blockQ_ret ?_)
 refine RT ?_
 simp only [packV, V.erase, V.trav, V.travL, zz, zf, zy, linkSays, hw]
end Go.Proofs.YtjhfabimacljhaaGreat.K

/- The walk of FnSyncs. Printed by w2.py. -/
namespace Go.Proofs.YtjhfabimacljhaaGreat.K
open Go Go.RowKit
set_option linter.unusedVariables false
set_option linter.unusedSimpArgs false
theorem w_impl_SyncBegin (s : Store) (h : smStore s) (e : Int) : Weak Tryz.prog 11 [.agg (cStore s), .int .i64 e] (.tup [.agg (cSync (begY s e)), .bool (begOk s)]) :=
  (p_impl_SyncBegin s h e).weak' (by simp [V.dat, V.datL, V.datLL, zz, zf, zy]) (by simp [V.eraseL, V.erase, V.travL, V.trav, zz, zf, zy]) (by simp [V.erase, V.trav, V.travL, zz, zf, zy])
theorem wrap_other {b : Int} (h : 1 ≤ b ∧ b ≤ 2) : IntKind.i64.wrap (3 - b) = 3 - b := by rw [IntKind.wrap_i64]; omega
theorem other_ok {b : Int} (h : 1 ≤ b ∧ b ≤ 2) : storeOk ⟨3 - b, 0, [], []⟩ = true := storeNew_ok (by omega)
set_option maxHeartbeats 4000000
set_option maxRecDepth 20000
theorem w_laws_FnSyncs (code : Str) (hc : code.length ≤ 4611686018427387904) : Weak Tryz.prog 6 [.sl 0 1 0 (code.map cB)] (.bool true) := by
 refine Weak.enter tab_ok Tryz.func6 rfl (.inr (by simp [V.labelsL, V.labels, V.labelsLL, zz, zf, zy, or_imp, forall_and])) (t := [.sl 0 1 0 (code.map cB), .any, .any, .any, .any, .any, .any, .any, .any, .any, .any, .any, .any, .any, .any, .any, .any, .any, .any, .any, .any, .any, .any, .any, .any, .any, .any, .any, .any, .any, .any, .any, .any, .any, .any, .any, .any, .any, .any, .any, .any, .any, .any, .any, .any, .any, .any, .any, .any, .any, .any, .any, .any, .any, .any, .any, .any, .any, .any, .any, .any, .any, .any, .any, .any, .any, .any, .any, .any, .any, .any, .any, .any, .any, .any, .any, .any, .any, .any, .any, .any, .any, .any, .any, .any, .any, .any, .any, .any, .any, .any, .any, .any, .any, .any, .any, .any, .any, .any, .any, .any, .any, .any, .any]) rfl ?_
 refine OQ ?_
 refine EV ?_
 refine ON ?_
 refine Ok.seq ?_
 refine OQ ?_
 refine EV ?_
 refine OW cl26 (w_laws_big code) ?_
 refine ON ?_
 refine OC (fun hb1 => ?_) (fun hb1 => ?_)
 ·
  try simp only [bsimp] at hb1
  refine OQ ?_
  refine EV ?_
  refine ON ?_
  refine Ok.ret ?_
  with_reducible repeat (first | refine thenQ_ret ?_ | refine blockQ_ret ?_)
  refine RT ?_
  first | rfl | (simp; done)
 try simp only [bsimp] at hb1
 refine Ok.skip ?_
 refine OQ ?_
 refine EV ?_
 refine OkOps.weakX rfl rfl (by simp only [kE, kT, kL, kC] <;> rfl) (by simp only [kE, kT, kL, kC] <;> rfl) cl27 (x_spec_DrawStore code hc) (fun y => by simp only [kP] <;> rfl) ?_
 rintro s hs
 have hb12 := (storeOk_is hs).1
 have hz := other_ok hb12
 have hsm := store_sm hs
 have hzm := store_sm hz
 obtain ⟨hk1, hk2, hk3, hst⟩ := begOk_ok hs
 obtain ⟨hj1, hj2, hj3, -⟩ := begOk_ok hz
 have hrd := readStore_round hst
 have hby := wrap_other hb12
 refine EV ?_
 refine OE ?_
 refine ON ?_
 refine OQ ?_
 refine EV ?_
 refine OW cl11 (w_impl_SyncBegin s hsm 5) ?_
 iterate 4 (refine EV ?_)
 refine OE ?_
 refine EV ?_
 refine ON ?_
 refine OQ ?_
 iterate 2 (refine EV ?_)
 refine OkOps.ev tab_ok rfl (by simp only [kE, kT, kL, kC, hby] <;> rfl) (by simp only [kP] <;> rfl) ?_
 refine OW cl28 (w_spec_StoreNew (3 - s.by_)) ?_
 refine OW cl11 (w_impl_SyncBegin (⟨3 - s.by_, 0, [], []⟩ : Store) hzm 5) ?_
 iterate 4 (refine EV ?_)
 refine OE ?_
 refine EV ?_
 refine ON ?_
 refine Ok.seq ?_
 simp only [hk1, hj1]
 refine Ok.region ?_
 refine EV ?_
 refine ON ?_
 refine Ok.seq ?_
 refine OQ ?_
 refine EV ?_
 refine ON ?_
 refine Ok.block ?_
 refine Ok.bump (n' := 9) (by omega) ?_
 refine Ok.loopWZ (τ := Nat) (fun x => [(4, .ptr 2 0 0 (cSync (stA (stT s) (stT (⟨3 - s.by_, 0, [], []⟩ : Store)) x))), (6, .ptr 3 0 0 (cSync (stB (stT s) (stT (⟨3 - s.by_, 0, [], []⟩ : Store)) x))), (8, .str (gotY (stT s) x)), (9, .int .i64 (x : Int))]) [10, 11, 16, 17, 18, 19, 20, 21, 22, 23, 24, 25, 26, 27, 28, 29, 30, 31, 32, 33, 34, 35, 36, 37, 38, 39, 40, 41, 42, 43, 44, 45, 46, 47, 48, 49, 50, 51, 52, 53, 54, 55, 56] (fun x => by simp only [kover] <;> rfl) (fun x => x ≤ 60) (fun x => 60 - x) 0 (by omega) (by (repeat (first | exact trivial | refine leC ?_ | refine leK ?_ ?_)) <;> first | (first | exact le_rfl' _ | exact le_eqm (by rw [stA_0 (z := (⟨3 - s.by_, 0, [], []⟩ : Store)) hs]) | exact le_eqm (by rw [stB_0 (s := s) hz]) | exact le_eqm (by rw [got_0])) | exact le_rfl' _) (Nat.zero_le _) ?_
 rintro i h1
 have hA := stA_sm (t := stT s) (u := stT (⟨3 - s.by_, 0, [], []⟩ : Store)) (k := i) hk3 hj3
 have hB := stB_sm (t := stT s) (u := stT (⟨3 - s.by_, 0, [], []⟩ : Store)) (k := i) hk3 hj3
 have hB2 := stB_sm (t := stT s) (u := stT (⟨3 - s.by_, 0, [], []⟩ : Store)) (k := i + 1) hk3 hj3
 obtain ⟨g, e1, e2⟩ := round_B (t := stT s) (u := stT (⟨3 - s.by_, 0, [], []⟩ : Store)) (k := i) hk2 hk3 hj2 hj3
 obtain ⟨g2, e3⟩ := round_A (t := stT s) (u := stT (⟨3 - s.by_, 0, [], []⟩ : Store)) (k := i) hk2 hk3 hj2 hj3
 have hgl : (gotY (stT s) i).length + g.length ≤ 7080 := by rw [← List.length_append, e2]; exact got_len hk3
 refine Ok.seq ?_
 refine OQ ?_
 iterate 2 (refine EV ?_)
 refine ON ?_
 refine OC (fun hb8 => ?_) (fun hb8 => ?_)
 ·
  try simp only [bsimp] at hb8
  refine Ok.skip ?_
  refine Ok.seq ?_
  refine Ok.block ?_
  refine Ok.seq ?_
  refine Ok.drawn 9 104 [7] (by kernel_rfl) (by kernel_rfl) rfl ?_
  iterate 3 (refine SV ?_)
  refine SOps.S0 rfl (OpS.weakM rfl (by simp only [kE, kT, kL, kC] <;> rfl) (by simp only [kE, kT, kL, kC] <;> rfl) cl30 (w_impl_LinkSays (stA (stT s) (stT (⟨3 - s.by_, 0, [], []⟩ : Store)) i).link)) (by simp only [kP] <;> rfl) ?_
  refine SOps.S0 rfl (OpS.weakM rfl (by simp only [kE, kT, kL, kC] <;> rfl) (by simp only [kE, kT, kL, kC] <;> rfl) cl29 (w_impl_SyncHears (stB (stT s) (stT (⟨3 - s.by_, 0, [], []⟩ : Store)) i) (linkSays (stA (stT s) (stT (⟨3 - s.by_, 0, [], []⟩ : Store)) i).link) hB.1 hA.2.2 hB.2.1)) (by simp only [kP] <;> rfl) ?_
  iterate 4 (refine SV ?_)
  refine SOps.nil ?_
  refine TOps.storeL tab_ok rfl rfl rfl (by simp only [kE, kT, kL, kC] <;> rfl) ⟨_, _, by simp only [kE]; rfl⟩ (by first | (simp [V.labelsL, V.labelsLL, V.labels, zz, zf, zy]; done) | (simp [-List.map_map, -List.map_set, -List.map_drop, -List.map_take, -List.map_tail, -List.drop_one, V.labelsL, V.labelsLL, V.labels, zz, zf, zy]; done)) (by simp only [eq_self, V.updL, V.travL, V.travLL, V.trav, updS, updP, and_self, true_and, and_true, false_and, and_false, Nat.reduceEqDiff, Nat.reduceSub, Nat.le_refl, Nat.zero_le, ↓reduceIte, if_true, if_false, kP, zz, zf, zy] <;> rfl) (rfl) (LateOk.cons (i := 7) tab_ok (by rfl) (by rfl) (by (try simp only [List.getElem_toArray, List.getElem_cons_succ, List.getElem_cons_zero]); exact (by simp only [kE, kT, kL, kC] <;> rfl)) (by show nth _ 44 = _; simp only [kE, kT, kL, kC] <;> rfl) LateOk.nil) ?_
  refine TOps.evL tab_ok rfl (by simp only [kE, kT, kL, kC] <;> rfl) (by simp only [kP] <;> rfl) (LateOk.cons (i := 7) tab_ok (by rfl) (by rfl) (by (try simp only [List.getElem_toArray, List.getElem_cons_succ, List.getElem_cons_zero]); exact (by simp only [kE, kT, kL, kC] <;> rfl)) (by show nth _ 44 = _; simp only [kE, kT, kL, kC] <;> rfl) LateOk.nil) ?_
  refine TOps.nil ?_
  refine Ok.seq ?_
  simp only [e1]
  refine Ok.region ?_
  refine EV ?_
  refine OE ?_
  refine ON ?_
  refine OQ ?_
  iterate 2 (refine EV ?_)
  refine OkOps.ev tab_ok rfl (ev_cat (by simp only [kE, kT, kL, kC] <;> rfl) (by simp only [kE, kT, kL, kC] <;> rfl) (by first | omega | (simp only [List.length_append, List.length_cons, List.length_nil] at *; omega))) (by simp only [kP] <;> rfl) ?_
  refine EV ?_
  refine ON ?_
  refine Ok.drawn 8 104 [7] (by kernel_rfl) (by kernel_rfl) rfl ?_
  iterate 3 (refine SV ?_)
  refine SOps.S0 rfl (OpS.weakM rfl (by simp only [kE, kT, kL, kC] <;> rfl) (by simp only [kE, kT, kL, kC] <;> rfl) cl30 (w_impl_LinkSays (stB (stT s) (stT (⟨3 - s.by_, 0, [], []⟩ : Store)) (i + 1)).link)) (by simp only [kP] <;> rfl) ?_
  refine SOps.S0 rfl (OpS.weakM rfl (by simp only [kE, kT, kL, kC] <;> rfl) (by simp only [kE, kT, kL, kC] <;> rfl) cl29 (w_impl_SyncHears (stA (stT s) (stT (⟨3 - s.by_, 0, [], []⟩ : Store)) i) (linkSays (stB (stT s) (stT (⟨3 - s.by_, 0, [], []⟩ : Store)) (i + 1)).link) hA.1 hB2.2.2 hA.2.1)) (by simp only [kP] <;> rfl) ?_
  iterate 3 (refine SV ?_)
  refine SOps.nil ?_
  refine TOps.storeL tab_ok rfl rfl rfl (by simp only [kE, kT, kL, kC] <;> rfl) ⟨_, _, by simp only [kE]; rfl⟩ (by first | (simp [V.labelsL, V.labelsLL, V.labels, zz, zf, zy]; done) | (simp [-List.map_map, -List.map_set, -List.map_drop, -List.map_take, -List.map_tail, -List.drop_one, V.labelsL, V.labelsLL, V.labels, zz, zf, zy]; done)) (by simp only [eq_self, V.updL, V.travL, V.travLL, V.trav, updS, updP, and_self, true_and, and_true, false_and, and_false, Nat.reduceEqDiff, Nat.reduceSub, Nat.le_refl, Nat.zero_le, ↓reduceIte, if_true, if_false, kP, zz, zf, zy] <;> rfl) (rfl) (LateOk.cons (i := 7) tab_ok (by rfl) (by rfl) (by (try simp only [List.getElem_toArray, List.getElem_cons_succ, List.getElem_cons_zero]); exact (by simp only [kE, kT, kL, kC] <;> rfl)) (by show nth _ 56 = _; simp only [kE, kT, kL, kC] <;> rfl) LateOk.nil) ?_
  refine TOps.nil ?_
  simp only [e3]
  refine Ok.region ?_
  iterate 3 (refine EV ?_)
  refine ON ?_
  refine ⟨i + 1, ?_, rfl, by omega, by omega⟩
  simp only [V.renL, V.travL, V.travLL, V.trav, frz, zz, zf, zy, Nat.reduceLeDiff, ↓reduceIte]
  (repeat (first | exact trivial | refine leC ?_ | refine leK ?_ ?_)) <;> first | (first | exact le_rfl' _ | (rw [wrap_succ (by omega)]; exact le_rfl' _) | exact le_eqm (by rw [e2])) | exact le_rfl' _
 try simp only [bsimp] at hb8
 obtain rfl : i = 60 := by omega
 rw [got_60 hk3]
 refine Ok.exit ?_
 refine OQ ?_
 refine EV ?_
 refine OW cl31 (w_spec_StoreText s hsm) ?_
 iterate 5 (refine EV ?_)
 refine ON ?_
 refine Ok.seq ?_
 simp only [hst, Option.getD_some, Option.isSome_some]
 refine Ok.region ?_
 refine EV ?_
 refine OW cl32 (w_spec_ReadStore (stT s) (by have := got_len (k := 60) hk3; rw [got_60 hk3] at this; omega)) ?_
 iterate 4 (refine EV ?_)
 refine OE ?_
 refine EV ?_
 refine ON ?_
 refine Ok.seq ?_
 simp only [hrd, Option.getD_some, Option.isSome_some]
 have hway := stA_way (t := stT s) (u := stT (⟨3 - s.by_, 0, [], []⟩ : Store)) hk3
 have hov : syncOver (syncEnds (stA (stT s) (stT (⟨3 - s.by_, 0, [], []⟩ : Store)) 60) true) = true := by unfold syncOver syncEnds; rw [if_pos rfl]; dsimp only; rw [hway]; rfl
 refine Ok.region ?_
 iterate 2 (refine EV ?_)
 refine OO ?_
 iterate 3 (refine EV ?_)
 refine OO ?_
 iterate 3 (refine EV ?_)
 refine OX ?_
 refine OX ?_
 refine OO ?_
 refine OkOps.ev tab_ok rfl (by simp only [kE, kT, kL, kC, eq_self, decide_true, beq_self_eq_true] <;> rfl) (by simp only [kP] <;> rfl) ?_
 iterate 2 (refine EV ?_)
 refine OO ?_
 iterate 3 (refine EV ?_)
 refine OX ?_
 refine OX ?_
 refine OO ?_
 refine OW cl33 ((by have h := w_laws_sameAll s s hsm; rwa [decide_eq_true rfl] at h)) ?_
 iterate 2 (refine EV ?_)
 refine OX ?_
 refine OX ?_
 refine OO ?_
 refine OkOps.ev tab_ok rfl (by simp only [kE, kT, kL, kC, stB_failed, Bool.not_false] <;> rfl) (by simp only [kP] <;> rfl) ?_
 iterate 2 (refine EV ?_)
 refine OX ?_
 refine OX ?_
 refine OO ?_
 refine OkOps.ev tab_ok rfl (by simp only [kE, kT, kL, kC, hway, List.map_nil] <;> rfl) (by simp only [kP] <;> rfl) ?_
 refine OO ?_
 refine OkOps.ev tab_ok rfl (by simp only [kE, kT, kL, kC, List.length_nil] <;> rfl) (by simp only [kP] <;> rfl) ?_
 refine OO ?_
 refine OkOps.ev tab_ok rfl (by simp only [kE, kT, kL, kC, show (((0 : Nat) : Int) = 0) = True from eq_true rfl, eq_self, decide_true, beq_self_eq_true] <;> rfl) (by simp only [kP] <;> rfl) ?_
 iterate 2 (refine EV ?_)
 refine OX ?_
 refine OO ?_
 refine OW cl35 (w_impl_SyncEnds (stA (stT s) (stT (⟨3 - s.by_, 0, [], []⟩ : Store)) 60) true (stA_sm hk3 hj3).1) ?_
 refine OO ?_
 refine OW cl34 ((by have h := w_impl_SyncOver (syncEnds (stA (stT s) (stT (⟨3 - s.by_, 0, [], []⟩ : Store)) 60) true); rwa [hov] at h)) ?_
 iterate 2 (refine EV ?_)
 refine ON ?_
 refine Ok.ret ?_
 with_reducible repeat (first | refine thenQ_ret ?_ | refine blockQ_ret ?_)
 refine RT ?_
 first | rfl | (simp; done)
end Go.Proofs.YtjhfabimacljhaaGreat.K
