/- Walks: sizes, copies, comparisons of all data. Printed by w2.py. -/
import Derived.Test.YtjhfabimacljhaaGreatG4
namespace Go.Proofs.YtjhfabimacljhaaGreat.K
open Go Go.RowKit
set_option linter.unusedVariables false
set_option linter.unusedSimpArgs false
set_option maxHeartbeats 4000000
set_option maxRecDepth 20000
theorem w_laws_eqStamp (a b : Stamp) : Weak Tryz.prog 175 [.agg (cStamp a), .agg (cStamp b)] (.bool (decide (a = b))) := by
 refine Weak.enter tab_ok Tryz.func175 rfl (.inr (by simp [V.labelsL, V.labels, V.labelsLL, zz, zf, zy, or_imp, forall_and])) (t := [.agg (cStamp a), .agg (cStamp b), .any, .any, .any, .any, .any, .any, .any, .any, .any, .any, .any, .any, .any]) rfl ?_
 refine OQ ?_
 iterate 3 (refine EV ?_)
 refine ON ?_
 refine Ok.seq ?_
 refine OQ ?_
 iterate 5 (refine EV ?_)
 refine ON ?_
 refine Ok.cond (b := _) (by simp only [kE, kT, kL, kC] <;> rfl) (fun hb1 => ?_) (fun hb1 => ?_)
 ·
  try simp only [bsimp] at hb1
  refine OQ ?_
  refine EV ?_
  refine ON ?_
  refine Ok.ret ?_
  with_reducible repeat (first | refine thenQ_ret ?_ | refine blockQ_ret ?_)
  refine RT ?_
  first | (rw [decide_eq_true (by cases a; cases b; simp_all)]; rfl) | (rw [decide_eq_false (by intro h; subst h; simp_all)]; rfl)
 ·
  try simp only [bsimp] at hb1
  refine Ok.skip ?_
  refine Ok.seq ?_
  refine OQ ?_
  iterate 5 (refine EV ?_)
  refine ON ?_
  refine Ok.cond (b := _) (by simp only [kE, kT, kL, kC] <;> rfl) (fun hb3 => ?_) (fun hb3 => ?_)
  ·
   try simp only [bsimp] at hb3
   refine OQ ?_
   refine EV ?_
   refine ON ?_
   refine Ok.ret ?_
   with_reducible repeat (first | refine thenQ_ret ?_ | refine blockQ_ret ?_)
   refine RT ?_
   first | (rw [decide_eq_true (by cases a; cases b; simp_all)]; rfl) | (rw [decide_eq_false (by intro h; subst h; simp_all)]; rfl)
  ·
   try simp only [bsimp] at hb3
   refine Ok.skip ?_
   refine OQ ?_
   refine EV ?_
   refine ON ?_
   refine Ok.ret ?_
   with_reducible repeat (first | refine thenQ_ret ?_ | refine blockQ_ret ?_)
   refine RT ?_
   first | (rw [decide_eq_true (by cases a; cases b; simp_all)]; rfl) | (rw [decide_eq_false (by intro h; subst h; simp_all)]; rfl)
theorem w_laws_eqReg (a b : Reg) : Weak Tryz.prog 255 [.agg (cReg a), .agg (cReg b)] (.bool (decide (a = b))) := by
 refine Weak.enter tab_ok Tryz.func255 rfl (.inr (by simp [V.labelsL, V.labels, V.labelsLL, zz, zf, zy, or_imp, forall_and])) (t := [.agg (cReg a), .agg (cReg b), .any, .any, .any, .any, .any, .any, .any, .any, .any, .any, .any, .any, .any, .any]) rfl ?_
 refine OQ ?_
 iterate 3 (refine EV ?_)
 refine ON ?_
 refine Ok.seq ?_
 refine OQ ?_
 iterate 5 (refine EV ?_)
 refine ON ?_
 refine Ok.cond (b := _) (by simp only [kE, kT, kL, kC] <;> rfl) (fun hb1 => ?_) (fun hb1 => ?_)
 ·
  try simp only [bsimp] at hb1
  refine OQ ?_
  refine EV ?_
  refine ON ?_
  refine Ok.ret ?_
  with_reducible repeat (first | refine thenQ_ret ?_ | refine blockQ_ret ?_)
  refine RT ?_
  first | (rw [decide_eq_true (by cases a; cases b; simp_all)]; rfl) | (rw [decide_eq_false (by intro h; subst h; simp_all)]; rfl)
 ·
  try simp only [bsimp] at hb1
  refine Ok.skip ?_
  refine Ok.seq ?_
  refine OQ ?_
  iterate 4 (refine EV ?_)
  refine OkOps.S0 rfl (OpS.weak' rfl (by simp only [kE, kT, kL, kC] <;> rfl) (by simp only [kE, kT, kL, kC] <;> rfl) cl175 (w_laws_eqStamp a.stamp b.stamp)) (by simp only [kP] <;> rfl) ?_
  refine EV ?_
  refine ON ?_
  refine Ok.cond (b := _) (by simp only [kE, kT, kL, kC] <;> rfl) (fun hb3 => ?_) (fun hb3 => ?_)
  ·
   try simp only [bsimp] at hb3
   refine OQ ?_
   refine EV ?_
   refine ON ?_
   refine Ok.ret ?_
   with_reducible repeat (first | refine thenQ_ret ?_ | refine blockQ_ret ?_)
   refine RT ?_
   first | (rw [decide_eq_true (by cases a; cases b; simp_all)]; rfl) | (rw [decide_eq_false (by intro h; subst h; simp_all)]; rfl)
  ·
   try simp only [bsimp] at hb3
   refine Ok.skip ?_
   refine OQ ?_
   refine EV ?_
   refine ON ?_
   refine Ok.ret ?_
   with_reducible repeat (first | refine thenQ_ret ?_ | refine blockQ_ret ?_)
   refine RT ?_
   first | (rw [decide_eq_true (by cases a; cases b; simp_all)]; rfl) | (rw [decide_eq_false (by intro h; subst h; simp_all)]; rfl)
theorem w_laws_eqRegS (a b : List Reg) : Weak Tryz.prog 245 [.sl 0 3 0 (a.map cReg), .sl 0 3 0 (b.map cReg)] (.bool (decide (a = b))) := by
 refine Weak.len 0 rfl fun ha => ?_
 refine Weak.enter tab_ok Tryz.func245 rfl (.inr (by simp [V.labelsL, V.labels, V.labelsLL, zz, zf, zy, or_imp, forall_and])) (t := [.sl 0 3 0 (a.map cReg), .sl 0 3 0 (b.map cReg), .any, .any, .any, .any, .any, .any, .any, .any, .any, .any, .any, .any, .any, .any, .any, .any, .any, .any, .any, .any, .any, .any, .any, .any, .any]) rfl ?_
 refine OQ ?_
 refine EV ?_
 refine ON ?_
 refine Ok.seq ?_
 refine OQ ?_
 iterate 5 (refine EV ?_)
 refine ON ?_
 refine Ok.cond (b := _) (by simp only [kE, kT, kL, kC] <;> rfl) (fun hb1 => ?_) (fun hb1 => ?_)
 ·
  try simp only [bsimp] at hb1
  refine OQ ?_
  refine EV ?_
  refine ON ?_
  refine Ok.ret ?_
  with_reducible repeat (first | refine thenQ_ret ?_ | refine blockQ_ret ?_)
  refine RT ?_
  rw [decide_eq_false (fun h => hb1 (by rw [h]))]; rfl
 ·
  try simp only [bsimp] at hb1
  have hb1 : (a.length : Int) = b.length := by simpa using hb1
  refine Ok.skip ?_
  refine Ok.seq ?_
  refine OQ ?_
  refine EV ?_
  refine ON ?_
  refine Ok.block ?_
  refine Ok.loopW (τ := Nat) (fun x => [(5, .int .i64 (x : Int))]) [4, 11, 12, 13, 14, 15, 16, 17, 18, 19, 20, 21, 22, 23, 24, 25, 26] (fun x => by simp only [kover] <;> rfl) (fun x => x ≤ a.length ∧ a.take x = b.take x) (fun x => a.length - x) 0 (by refine ⟨?_, ?_, ?_, ?_, ?_, ?_, ?_, ?_, ?_, ?_, ?_, ?_, ?_, ?_, ?_, ?_, ?_, ?_, ?_, ?_, ?_, ?_, ?_, ?_, ?_, ?_, ?_, trivial⟩ <;> first | exact le_any _ | with_reducible exact le_rfl' _ | (exact le_rfl' _) | exact le_rfl' _) (⟨Nat.zero_le _, rfl⟩) ?_
  rintro i ⟨h1, h2⟩
  refine Ok.seq ?_
  refine OQ ?_
  iterate 4 (refine EV ?_)
  refine ON ?_
  refine Ok.cond (b := _) (by simp only [kE, kT, kL, kC] <;> rfl) (fun hb4 => ?_) (fun hb4 => ?_)
  ·
   try simp only [bsimp] at hb4
   have hi : i < a.length := by omega
   have hj : i < b.length := by omega
   refine Ok.skip ?_
   refine Ok.seq ?_
   refine Ok.block ?_
   refine Ok.seq ?_
   refine Ok.drawn 10 27 [] (by kernel_rfl) (by kernel_rfl) rfl ?_
   iterate 2 (refine SV ?_)
   refine SOps.ev tab_ok rfl (ev_idx_map (by simp only [kE, kT, kL, kC] <;> rfl) (by simp only [kE, kT, kL, kC] <;> rfl) (by omega) (by simp only [kE, kT, kL, kC] <;> rfl)) (by simp only [kP] <;> rfl) ?_
   iterate 3 (refine SV ?_)
   refine SOps.ev tab_ok rfl (ev_idx_map (by simp only [kE, kT, kL, kC] <;> rfl) (by simp only [kE, kT, kL, kC] <;> rfl) (by omega) (by simp only [kE, kT, kL, kC] <;> rfl)) (by simp only [kP] <;> rfl) ?_
   refine SV ?_
   refine SOps.S0 rfl (OpS.weakM rfl (by simp only [kE, kT, kL, kC] <;> rfl) (by simp only [kE, kT, kL, kC] <;> rfl) cl255 (w_laws_eqReg a[i] b[i])) (by simp only [kP] <;> rfl) ?_
   refine SV ?_
   refine SOps.nil ?_
   refine TOps.nil ?_
   refine Ok.cond (b := _) (by simp only [kE, kT, kL, kC] <;> rfl) (fun hb6 => ?_) (fun hb6 => ?_)
   ·
    try simp only [bsimp] at hb6
    refine OQ ?_
    refine EV ?_
    refine ON ?_
    refine Ok.ret ?_
    with_reducible repeat (first | refine thenQ_ret ?_ | refine blockQ_ret ?_)
    refine RT ?_
    rw [decide_eq_false (fun h => hb6 (by subst h; rfl))]; rfl
   ·
    try simp only [bsimp] at hb6
    refine Ok.skip ?_
    refine Ok.region ?_
    iterate 3 (refine EV ?_)
    refine ON ?_
    refine ⟨i + 1, ?_, rfl, rfl, ⟨by omega, take_next h2 hi hj hb6⟩, by omega⟩
    refine ⟨?_, ?_, ?_, ?_, ?_, ?_, ?_, ?_, ?_, ?_, ?_, ?_, ?_, ?_, ?_, ?_, ?_, ?_, ?_, ?_, ?_, ?_, ?_, ?_, ?_, ?_, ?_, trivial⟩ <;> first | exact le_any _ | with_reducible exact le_rfl' _ | ((rw [wrap_succ (by simp only [List.length_map] at ha; unfold maxLen at ha; omega)]; exact le_rfl' _)) | exact le_rfl' _
  ·
   try simp only [bsimp] at hb4
   refine Ok.exit ?_
   refine OQ ?_
   refine EV ?_
   refine ON ?_
   refine Ok.ret ?_
   with_reducible repeat (first | refine thenQ_ret ?_ | refine blockQ_ret ?_)
   refine RT ?_
   rw [decide_eq_true (eq_of_take (by omega) (by omega) h2)]; rfl
theorem w_laws_eqIntS (a b : List Int) : Weak Tryz.prog 62 [.sl 0 1 0 (a.map cZ), .sl 0 1 0 (b.map cZ)] (.bool (decide (a = b))) := by
 refine Weak.len 0 rfl fun ha => ?_
 refine Weak.enter tab_ok Tryz.func62 rfl (.inr (by simp [V.labelsL, V.labels, V.labelsLL, zz, zf, zy, or_imp, forall_and])) (t := [.sl 0 1 0 (a.map cZ), .sl 0 1 0 (b.map cZ), .any, .any, .any, .any, .any, .any, .any, .any, .any, .any, .any, .any, .any, .any, .any, .any, .any, .any, .any, .any, .any, .any, .any, .any]) rfl ?_
 refine OQ ?_
 refine EV ?_
 refine ON ?_
 refine Ok.seq ?_
 refine OQ ?_
 iterate 5 (refine EV ?_)
 refine ON ?_
 refine Ok.cond (b := _) (by simp only [kE, kT, kL, kC] <;> rfl) (fun hb1 => ?_) (fun hb1 => ?_)
 ·
  try simp only [bsimp] at hb1
  refine OQ ?_
  refine EV ?_
  refine ON ?_
  refine Ok.ret ?_
  with_reducible repeat (first | refine thenQ_ret ?_ | refine blockQ_ret ?_)
  refine RT ?_
  rw [decide_eq_false (fun h => hb1 (by rw [h]))]; rfl
 ·
  try simp only [bsimp] at hb1
  have hb1 : (a.length : Int) = b.length := by simpa using hb1
  refine Ok.skip ?_
  refine Ok.seq ?_
  refine OQ ?_
  refine EV ?_
  refine ON ?_
  refine Ok.block ?_
  refine Ok.loopW (τ := Nat) (fun x => [(5, .int .i64 (x : Int))]) [4, 11, 12, 13, 14, 15, 16, 17, 18, 19, 20, 21, 22, 23, 24, 25] (fun x => by simp only [kover] <;> rfl) (fun x => x ≤ a.length ∧ a.take x = b.take x) (fun x => a.length - x) 0 (by refine ⟨?_, ?_, ?_, ?_, ?_, ?_, ?_, ?_, ?_, ?_, ?_, ?_, ?_, ?_, ?_, ?_, ?_, ?_, ?_, ?_, ?_, ?_, ?_, ?_, ?_, ?_, trivial⟩ <;> first | exact le_any _ | with_reducible exact le_rfl' _ | (exact le_rfl' _) | exact le_rfl' _) (⟨Nat.zero_le _, rfl⟩) ?_
  rintro i ⟨h1, h2⟩
  refine Ok.seq ?_
  refine OQ ?_
  iterate 4 (refine EV ?_)
  refine ON ?_
  refine Ok.cond (b := _) (by simp only [kE, kT, kL, kC] <;> rfl) (fun hb4 => ?_) (fun hb4 => ?_)
  ·
   try simp only [bsimp] at hb4
   have hi : i < a.length := by omega
   have hj : i < b.length := by omega
   refine Ok.skip ?_
   refine Ok.seq ?_
   refine Ok.block ?_
   refine Ok.seq ?_
   refine Ok.drawn 9 26 [] (by kernel_rfl) (by kernel_rfl) rfl ?_
   iterate 2 (refine SV ?_)
   refine SOps.ev tab_ok rfl (ev_idx_map (by simp only [kE, kT, kL, kC] <;> rfl) (by simp only [kE, kT, kL, kC] <;> rfl) (by omega) (by simp only [kE, kT, kL, kC] <;> rfl)) (by simp only [kP] <;> rfl) ?_
   iterate 3 (refine SV ?_)
   refine SOps.ev tab_ok rfl (ev_idx_map (by simp only [kE, kT, kL, kC] <;> rfl) (by simp only [kE, kT, kL, kC] <;> rfl) (by omega) (by simp only [kE, kT, kL, kC] <;> rfl)) (by simp only [kP] <;> rfl) ?_
   iterate 2 (refine SV ?_)
   refine SOps.nil ?_
   refine TOps.nil ?_
   refine Ok.cond (b := _) (by simp only [kE, kT, kL, kC] <;> rfl) (fun hb6 => ?_) (fun hb6 => ?_)
   ·
    try simp only [bsimp] at hb6
    refine OQ ?_
    refine EV ?_
    refine ON ?_
    refine Ok.ret ?_
    with_reducible repeat (first | refine thenQ_ret ?_ | refine blockQ_ret ?_)
    refine RT ?_
    rw [decide_eq_false (fun h => hb6 (by subst h; rfl))]; rfl
   ·
    try simp only [bsimp] at hb6
    refine Ok.skip ?_
    refine Ok.region ?_
    iterate 3 (refine EV ?_)
    refine ON ?_
    refine ⟨i + 1, ?_, rfl, rfl, ⟨by omega, take_next h2 hi hj hb6⟩, by omega⟩
    refine ⟨?_, ?_, ?_, ?_, ?_, ?_, ?_, ?_, ?_, ?_, ?_, ?_, ?_, ?_, ?_, ?_, ?_, ?_, ?_, ?_, ?_, ?_, ?_, ?_, ?_, ?_, trivial⟩ <;> first | exact le_any _ | with_reducible exact le_rfl' _ | ((rw [wrap_succ (by simp only [List.length_map] at ha; unfold maxLen at ha; omega)]; exact le_rfl' _)) | exact le_rfl' _
  ·
   try simp only [bsimp] at hb4
   refine Ok.exit ?_
   refine OQ ?_
   refine EV ?_
   refine ON ?_
   refine Ok.ret ?_
   with_reducible repeat (first | refine thenQ_ret ?_ | refine blockQ_ret ?_)
   refine RT ?_
   rw [decide_eq_true (eq_of_take (by omega) (by omega) h2)]; rfl
theorem w_laws_eqStringS (a b : List Str) : Weak Tryz.prog 60 [.sl 0 1 0 (a.map cS), .sl 0 1 0 (b.map cS)] (.bool (decide (a = b))) := by
 refine Weak.len 0 rfl fun ha => ?_
 refine Weak.enter tab_ok Tryz.func60 rfl (.inr (by simp [V.labelsL, V.labels, V.labelsLL, zz, zf, zy, or_imp, forall_and])) (t := [.sl 0 1 0 (a.map cS), .sl 0 1 0 (b.map cS), .any, .any, .any, .any, .any, .any, .any, .any, .any, .any, .any, .any, .any, .any, .any, .any, .any, .any, .any, .any, .any, .any, .any, .any]) rfl ?_
 refine OQ ?_
 refine EV ?_
 refine ON ?_
 refine Ok.seq ?_
 refine OQ ?_
 iterate 5 (refine EV ?_)
 refine ON ?_
 refine Ok.cond (b := _) (by simp only [kE, kT, kL, kC] <;> rfl) (fun hb1 => ?_) (fun hb1 => ?_)
 ·
  try simp only [bsimp] at hb1
  refine OQ ?_
  refine EV ?_
  refine ON ?_
  refine Ok.ret ?_
  with_reducible repeat (first | refine thenQ_ret ?_ | refine blockQ_ret ?_)
  refine RT ?_
  rw [decide_eq_false (fun h => hb1 (by rw [h]))]; rfl
 ·
  try simp only [bsimp] at hb1
  have hb1 : (a.length : Int) = b.length := by simpa using hb1
  refine Ok.skip ?_
  refine Ok.seq ?_
  refine OQ ?_
  refine EV ?_
  refine ON ?_
  refine Ok.block ?_
  refine Ok.loopW (τ := Nat) (fun x => [(5, .int .i64 (x : Int))]) [4, 11, 12, 13, 14, 15, 16, 17, 18, 19, 20, 21, 22, 23, 24, 25] (fun x => by simp only [kover] <;> rfl) (fun x => x ≤ a.length ∧ a.take x = b.take x) (fun x => a.length - x) 0 (by refine ⟨?_, ?_, ?_, ?_, ?_, ?_, ?_, ?_, ?_, ?_, ?_, ?_, ?_, ?_, ?_, ?_, ?_, ?_, ?_, ?_, ?_, ?_, ?_, ?_, ?_, ?_, trivial⟩ <;> first | exact le_any _ | with_reducible exact le_rfl' _ | (exact le_rfl' _) | exact le_rfl' _) (⟨Nat.zero_le _, rfl⟩) ?_
  rintro i ⟨h1, h2⟩
  refine Ok.seq ?_
  refine OQ ?_
  iterate 4 (refine EV ?_)
  refine ON ?_
  refine Ok.cond (b := _) (by simp only [kE, kT, kL, kC] <;> rfl) (fun hb4 => ?_) (fun hb4 => ?_)
  ·
   try simp only [bsimp] at hb4
   have hi : i < a.length := by omega
   have hj : i < b.length := by omega
   refine Ok.skip ?_
   refine Ok.seq ?_
   refine Ok.block ?_
   refine Ok.seq ?_
   refine Ok.drawn 9 26 [] (by kernel_rfl) (by kernel_rfl) rfl ?_
   iterate 2 (refine SV ?_)
   refine SOps.ev tab_ok rfl (ev_idx_map (by simp only [kE, kT, kL, kC] <;> rfl) (by simp only [kE, kT, kL, kC] <;> rfl) (by omega) (by simp only [kE, kT, kL, kC] <;> rfl)) (by simp only [kP] <;> rfl) ?_
   iterate 3 (refine SV ?_)
   refine SOps.ev tab_ok rfl (ev_idx_map (by simp only [kE, kT, kL, kC] <;> rfl) (by simp only [kE, kT, kL, kC] <;> rfl) (by omega) (by simp only [kE, kT, kL, kC] <;> rfl)) (by simp only [kP] <;> rfl) ?_
   iterate 2 (refine SV ?_)
   refine SOps.nil ?_
   refine TOps.nil ?_
   refine Ok.cond (b := _) (by simp only [kE, kT, kL, kC] <;> rfl) (fun hb6 => ?_) (fun hb6 => ?_)
   ·
    try simp only [bsimp] at hb6
    refine OQ ?_
    refine EV ?_
    refine ON ?_
    refine Ok.ret ?_
    with_reducible repeat (first | refine thenQ_ret ?_ | refine blockQ_ret ?_)
    refine RT ?_
    rw [decide_eq_false (fun h => hb6 (by subst h; rfl))]; rfl
   ·
    try simp only [bsimp] at hb6
    refine Ok.skip ?_
    refine Ok.region ?_
    iterate 3 (refine EV ?_)
    refine ON ?_
    refine ⟨i + 1, ?_, rfl, rfl, ⟨by omega, take_next h2 hi hj hb6⟩, by omega⟩
    refine ⟨?_, ?_, ?_, ?_, ?_, ?_, ?_, ?_, ?_, ?_, ?_, ?_, ?_, ?_, ?_, ?_, ?_, ?_, ?_, ?_, ?_, ?_, ?_, ?_, ?_, ?_, trivial⟩ <;> first | exact le_any _ | with_reducible exact le_rfl' _ | ((rw [wrap_succ (by simp only [List.length_map] at ha; unfold maxLen at ha; omega)]; exact le_rfl' _)) | exact le_rfl' _
  ·
   try simp only [bsimp] at hb4
   refine Ok.exit ?_
   refine OQ ?_
   refine EV ?_
   refine ON ?_
   refine Ok.ret ?_
   with_reducible repeat (first | refine thenQ_ret ?_ | refine blockQ_ret ?_)
   refine RT ?_
   rw [decide_eq_true (eq_of_take (by omega) (by omega) h2)]; rfl
theorem w_laws_eqMail (a b : Mail) : Weak Tryz.prog 223 [.agg (cMail a), .agg (cMail b)] (.bool (decide (a = b))) := by
 refine Weak.enter tab_ok Tryz.func223 rfl (.inr (by simp [V.labelsL, V.labels, V.labelsLL, zz, zf, zy, or_imp, forall_and])) (t := [.agg (cMail a), .agg (cMail b), .any, .any, .any, .any, .any, .any, .any, .any, .any, .any, .any, .any, .any, .any, .any, .any, .any, .any, .any, .any, .any, .any, .any, .any]) rfl ?_
 refine OQ ?_
 iterate 3 (refine EV ?_)
 refine ON ?_
 refine Ok.seq ?_
 refine OQ ?_
 iterate 5 (refine EV ?_)
 refine ON ?_
 refine Ok.cond (b := _) (by simp only [kE, kT, kL, kC] <;> rfl) (fun hb1 => ?_) (fun hb1 => ?_)
 ·
  try simp only [bsimp] at hb1
  refine OQ ?_
  refine EV ?_
  refine ON ?_
  refine Ok.ret ?_
  with_reducible repeat (first | refine thenQ_ret ?_ | refine blockQ_ret ?_)
  refine RT ?_
  first | (rw [decide_eq_true (by cases a; cases b; simp_all)]; rfl) | (rw [decide_eq_false (by intro h; subst h; simp_all)]; rfl)
 ·
  try simp only [bsimp] at hb1
  refine Ok.skip ?_
  refine Ok.seq ?_
  refine OQ ?_
  iterate 5 (refine EV ?_)
  refine ON ?_
  refine Ok.cond (b := _) (by simp only [kE, kT, kL, kC] <;> rfl) (fun hb3 => ?_) (fun hb3 => ?_)
  ·
   try simp only [bsimp] at hb3
   refine OQ ?_
   refine EV ?_
   refine ON ?_
   refine Ok.ret ?_
   with_reducible repeat (first | refine thenQ_ret ?_ | refine blockQ_ret ?_)
   refine RT ?_
   first | (rw [decide_eq_true (by cases a; cases b; simp_all)]; rfl) | (rw [decide_eq_false (by intro h; subst h; simp_all)]; rfl)
  ·
   try simp only [bsimp] at hb3
   refine Ok.skip ?_
   refine Ok.seq ?_
   refine OQ ?_
   iterate 4 (refine EV ?_)
   refine OkOps.S0 rfl (OpS.weak' rfl (by simp only [kE, kT, kL, kC] <;> rfl) (by simp only [kE, kT, kL, kC] <;> rfl) cl245 (w_laws_eqRegS a.flags b.flags)) (by simp only [kP] <;> rfl) ?_
   refine EV ?_
   refine ON ?_
   refine Ok.cond (b := _) (by simp only [kE, kT, kL, kC] <;> rfl) (fun hb5 => ?_) (fun hb5 => ?_)
   ·
    try simp only [bsimp] at hb5
    refine OQ ?_
    refine EV ?_
    refine ON ?_
    refine Ok.ret ?_
    with_reducible repeat (first | refine thenQ_ret ?_ | refine blockQ_ret ?_)
    refine RT ?_
    first | (rw [decide_eq_true (by cases a; cases b; simp_all)]; rfl) | (rw [decide_eq_false (by intro h; subst h; simp_all)]; rfl)
   ·
    try simp only [bsimp] at hb5
    refine Ok.skip ?_
    refine Ok.seq ?_
    refine OQ ?_
    iterate 5 (refine EV ?_)
    refine ON ?_
    refine Ok.cond (b := _) (by simp only [kE, kT, kL, kC] <;> rfl) (fun hb7 => ?_) (fun hb7 => ?_)
    ·
     try simp only [bsimp] at hb7
     refine OQ ?_
     refine EV ?_
     refine ON ?_
     refine Ok.ret ?_
     with_reducible repeat (first | refine thenQ_ret ?_ | refine blockQ_ret ?_)
     refine RT ?_
     first | (rw [decide_eq_true (by cases a; cases b; simp_all)]; rfl) | (rw [decide_eq_false (by intro h; subst h; simp_all)]; rfl)
    ·
     try simp only [bsimp] at hb7
     refine Ok.skip ?_
     refine OQ ?_
     refine EV ?_
     refine ON ?_
     refine Ok.ret ?_
     with_reducible repeat (first | refine thenQ_ret ?_ | refine blockQ_ret ?_)
     refine RT ?_
     first | (rw [decide_eq_true (by cases a; cases b; simp_all)]; rfl) | (rw [decide_eq_false (by intro h; subst h; simp_all)]; rfl)
theorem w_laws_eqMailS (a b : List Mail) : Weak Tryz.prog 176 [.sl 0 4 0 (a.map cMail), .sl 0 4 0 (b.map cMail)] (.bool (decide (a = b))) := by
 refine Weak.len 0 rfl fun ha => ?_
 refine Weak.enter tab_ok Tryz.func176 rfl (.inr (by simp [V.labelsL, V.labels, V.labelsLL, zz, zf, zy, or_imp, forall_and])) (t := [.sl 0 4 0 (a.map cMail), .sl 0 4 0 (b.map cMail), .any, .any, .any, .any, .any, .any, .any, .any, .any, .any, .any, .any, .any, .any, .any, .any, .any, .any, .any, .any, .any, .any, .any, .any, .any]) rfl ?_
 refine OQ ?_
 refine EV ?_
 refine ON ?_
 refine Ok.seq ?_
 refine OQ ?_
 iterate 5 (refine EV ?_)
 refine ON ?_
 refine Ok.cond (b := _) (by simp only [kE, kT, kL, kC] <;> rfl) (fun hb1 => ?_) (fun hb1 => ?_)
 ·
  try simp only [bsimp] at hb1
  refine OQ ?_
  refine EV ?_
  refine ON ?_
  refine Ok.ret ?_
  with_reducible repeat (first | refine thenQ_ret ?_ | refine blockQ_ret ?_)
  refine RT ?_
  rw [decide_eq_false (fun h => hb1 (by rw [h]))]; rfl
 ·
  try simp only [bsimp] at hb1
  have hb1 : (a.length : Int) = b.length := by simpa using hb1
  refine Ok.skip ?_
  refine Ok.seq ?_
  refine OQ ?_
  refine EV ?_
  refine ON ?_
  refine Ok.block ?_
  refine Ok.loopW (τ := Nat) (fun x => [(5, .int .i64 (x : Int))]) [4, 11, 12, 13, 14, 15, 16, 17, 18, 19, 20, 21, 22, 23, 24, 25, 26] (fun x => by simp only [kover] <;> rfl) (fun x => x ≤ a.length ∧ a.take x = b.take x) (fun x => a.length - x) 0 (by refine ⟨?_, ?_, ?_, ?_, ?_, ?_, ?_, ?_, ?_, ?_, ?_, ?_, ?_, ?_, ?_, ?_, ?_, ?_, ?_, ?_, ?_, ?_, ?_, ?_, ?_, ?_, ?_, trivial⟩ <;> first | exact le_any _ | with_reducible exact le_rfl' _ | (exact le_rfl' _) | exact le_rfl' _) (⟨Nat.zero_le _, rfl⟩) ?_
  rintro i ⟨h1, h2⟩
  refine Ok.seq ?_
  refine OQ ?_
  iterate 4 (refine EV ?_)
  refine ON ?_
  refine Ok.cond (b := _) (by simp only [kE, kT, kL, kC] <;> rfl) (fun hb4 => ?_) (fun hb4 => ?_)
  ·
   try simp only [bsimp] at hb4
   have hi : i < a.length := by omega
   have hj : i < b.length := by omega
   refine Ok.skip ?_
   refine Ok.seq ?_
   refine Ok.block ?_
   refine Ok.seq ?_
   refine Ok.drawn 10 27 [] (by kernel_rfl) (by kernel_rfl) rfl ?_
   iterate 2 (refine SV ?_)
   refine SOps.ev tab_ok rfl (ev_idx_map (by simp only [kE, kT, kL, kC] <;> rfl) (by simp only [kE, kT, kL, kC] <;> rfl) (by omega) (by simp only [kE, kT, kL, kC] <;> rfl)) (by simp only [kP] <;> rfl) ?_
   iterate 3 (refine SV ?_)
   refine SOps.ev tab_ok rfl (ev_idx_map (by simp only [kE, kT, kL, kC] <;> rfl) (by simp only [kE, kT, kL, kC] <;> rfl) (by omega) (by simp only [kE, kT, kL, kC] <;> rfl)) (by simp only [kP] <;> rfl) ?_
   refine SV ?_
   refine SOps.S0 rfl (OpS.weakM rfl (by simp only [kE, kT, kL, kC] <;> rfl) (by simp only [kE, kT, kL, kC] <;> rfl) cl223 (w_laws_eqMail a[i] b[i])) (by simp only [kP] <;> rfl) ?_
   refine SV ?_
   refine SOps.nil ?_
   refine TOps.nil ?_
   refine Ok.cond (b := _) (by simp only [kE, kT, kL, kC] <;> rfl) (fun hb6 => ?_) (fun hb6 => ?_)
   ·
    try simp only [bsimp] at hb6
    refine OQ ?_
    refine EV ?_
    refine ON ?_
    refine Ok.ret ?_
    with_reducible repeat (first | refine thenQ_ret ?_ | refine blockQ_ret ?_)
    refine RT ?_
    rw [decide_eq_false (fun h => hb6 (by subst h; rfl))]; rfl
   ·
    try simp only [bsimp] at hb6
    refine Ok.skip ?_
    refine Ok.region ?_
    iterate 3 (refine EV ?_)
    refine ON ?_
    refine ⟨i + 1, ?_, rfl, rfl, ⟨by omega, take_next h2 hi hj hb6⟩, by omega⟩
    refine ⟨?_, ?_, ?_, ?_, ?_, ?_, ?_, ?_, ?_, ?_, ?_, ?_, ?_, ?_, ?_, ?_, ?_, ?_, ?_, ?_, ?_, ?_, ?_, ?_, ?_, ?_, ?_, trivial⟩ <;> first | exact le_any _ | with_reducible exact le_rfl' _ | ((rw [wrap_succ (by simp only [List.length_map] at ha; unfold maxLen at ha; omega)]; exact le_rfl' _)) | exact le_rfl' _
  ·
   try simp only [bsimp] at hb4
   refine Ok.exit ?_
   refine OQ ?_
   refine EV ?_
   refine ON ?_
   refine Ok.ret ?_
   with_reducible repeat (first | refine thenQ_ret ?_ | refine blockQ_ret ?_)
   refine RT ?_
   rw [decide_eq_true (eq_of_take (by omega) (by omega) h2)]; rfl
theorem w_laws_eqBox (a b : Box) : Weak Tryz.prog 126 [.agg (cBox a), .agg (cBox b)] (.bool (decide (a = b))) := by
 refine Weak.enter tab_ok Tryz.func126 rfl (.inr (by simp [V.labelsL, V.labels, V.labelsLL, zz, zf, zy, or_imp, forall_and])) (t := [.agg (cBox a), .agg (cBox b), .any, .any, .any, .any, .any, .any, .any, .any, .any, .any, .any, .any, .any, .any, .any, .any, .any, .any, .any, .any, .any, .any, .any, .any, .any, .any, .any, .any, .any, .any, .any, .any, .any, .any, .any, .any]) rfl ?_
 refine OQ ?_
 iterate 3 (refine EV ?_)
 refine ON ?_
 refine Ok.seq ?_
 refine OQ ?_
 iterate 5 (refine EV ?_)
 refine ON ?_
 refine Ok.cond (b := _) (by simp only [kE, kT, kL, kC] <;> rfl) (fun hb1 => ?_) (fun hb1 => ?_)
 ·
  try simp only [bsimp] at hb1
  refine OQ ?_
  refine EV ?_
  refine ON ?_
  refine Ok.ret ?_
  with_reducible repeat (first | refine thenQ_ret ?_ | refine blockQ_ret ?_)
  refine RT ?_
  first | (rw [decide_eq_true (by cases a; cases b; simp_all)]; rfl) | (rw [decide_eq_false (by intro h; subst h; simp_all)]; rfl)
 ·
  try simp only [bsimp] at hb1
  refine Ok.skip ?_
  refine Ok.seq ?_
  refine OQ ?_
  iterate 5 (refine EV ?_)
  refine ON ?_
  refine Ok.cond (b := _) (by simp only [kE, kT, kL, kC] <;> rfl) (fun hb3 => ?_) (fun hb3 => ?_)
  ·
   try simp only [bsimp] at hb3
   refine OQ ?_
   refine EV ?_
   refine ON ?_
   refine Ok.ret ?_
   with_reducible repeat (first | refine thenQ_ret ?_ | refine blockQ_ret ?_)
   refine RT ?_
   first | (rw [decide_eq_true (by cases a; cases b; simp_all)]; rfl) | (rw [decide_eq_false (by intro h; subst h; simp_all)]; rfl)
  ·
   try simp only [bsimp] at hb3
   refine Ok.skip ?_
   refine Ok.seq ?_
   refine OQ ?_
   iterate 4 (refine EV ?_)
   refine OkOps.S0 rfl (OpS.weak' rfl (by simp only [kE, kT, kL, kC] <;> rfl) (by simp only [kE, kT, kL, kC] <;> rfl) cl175 (w_laws_eqStamp a.named b.named)) (by simp only [kP] <;> rfl) ?_
   refine EV ?_
   refine ON ?_
   refine Ok.cond (b := _) (by simp only [kE, kT, kL, kC] <;> rfl) (fun hb5 => ?_) (fun hb5 => ?_)
   ·
    try simp only [bsimp] at hb5
    refine OQ ?_
    refine EV ?_
    refine ON ?_
    refine Ok.ret ?_
    with_reducible repeat (first | refine thenQ_ret ?_ | refine blockQ_ret ?_)
    refine RT ?_
    first | (rw [decide_eq_true (by cases a; cases b; simp_all)]; rfl) | (rw [decide_eq_false (by intro h; subst h; simp_all)]; rfl)
   ·
    try simp only [bsimp] at hb5
    refine Ok.skip ?_
    refine Ok.seq ?_
    refine OQ ?_
    iterate 5 (refine EV ?_)
    refine ON ?_
    refine Ok.cond (b := _) (by simp only [kE, kT, kL, kC] <;> rfl) (fun hb7 => ?_) (fun hb7 => ?_)
    ·
     try simp only [bsimp] at hb7
     refine OQ ?_
     refine EV ?_
     refine ON ?_
     refine Ok.ret ?_
     with_reducible repeat (first | refine thenQ_ret ?_ | refine blockQ_ret ?_)
     refine RT ?_
     first | (rw [decide_eq_true (by cases a; cases b; simp_all)]; rfl) | (rw [decide_eq_false (by intro h; subst h; simp_all)]; rfl)
    ·
     try simp only [bsimp] at hb7
     refine Ok.skip ?_
     refine Ok.seq ?_
     refine OQ ?_
     iterate 4 (refine EV ?_)
     refine OkOps.S0 rfl (OpS.weak' rfl (by simp only [kE, kT, kL, kC] <;> rfl) (by simp only [kE, kT, kL, kC] <;> rfl) cl176 (w_laws_eqMailS a.mails b.mails)) (by simp only [kP] <;> rfl) ?_
     refine EV ?_
     refine ON ?_
     refine Ok.cond (b := _) (by simp only [kE, kT, kL, kC] <;> rfl) (fun hb9 => ?_) (fun hb9 => ?_)
     ·
      try simp only [bsimp] at hb9
      refine OQ ?_
      refine EV ?_
      refine ON ?_
      refine Ok.ret ?_
      with_reducible repeat (first | refine thenQ_ret ?_ | refine blockQ_ret ?_)
      refine RT ?_
      first | (rw [decide_eq_true (by cases a; cases b; simp_all)]; rfl) | (rw [decide_eq_false (by intro h; subst h; simp_all)]; rfl)
     ·
      try simp only [bsimp] at hb9
      refine Ok.skip ?_
      refine Ok.seq ?_
      refine OQ ?_
      iterate 4 (refine EV ?_)
      refine OkOps.S0 rfl (OpS.weak' rfl (by simp only [kE, kT, kL, kC] <;> rfl) (by simp only [kE, kT, kL, kC] <;> rfl) cl62 (w_laws_eqIntS a.gone b.gone)) (by simp only [kP] <;> rfl) ?_
      refine EV ?_
      refine ON ?_
      refine Ok.cond (b := _) (by simp only [kE, kT, kL, kC] <;> rfl) (fun hb11 => ?_) (fun hb11 => ?_)
      ·
       try simp only [bsimp] at hb11
       refine OQ ?_
       refine EV ?_
       refine ON ?_
       refine Ok.ret ?_
       with_reducible repeat (first | refine thenQ_ret ?_ | refine blockQ_ret ?_)
       refine RT ?_
       first | (rw [decide_eq_true (by cases a; cases b; simp_all)]; rfl) | (rw [decide_eq_false (by intro h; subst h; simp_all)]; rfl)
      ·
       try simp only [bsimp] at hb11
       refine Ok.skip ?_
       refine OQ ?_
       refine EV ?_
       refine ON ?_
       refine Ok.ret ?_
       with_reducible repeat (first | refine thenQ_ret ?_ | refine blockQ_ret ?_)
       refine RT ?_
       first | (rw [decide_eq_true (by cases a; cases b; simp_all)]; rfl) | (rw [decide_eq_false (by intro h; subst h; simp_all)]; rfl)
theorem w_laws_eqBoxS (a b : List Box) : Weak Tryz.prog 61 [.sl 0 7 0 (a.map cBox), .sl 0 7 0 (b.map cBox)] (.bool (decide (a = b))) := by
 refine Weak.len 0 rfl fun ha => ?_
 refine Weak.enter tab_ok Tryz.func61 rfl (.inr (by simp [V.labelsL, V.labels, V.labelsLL, zz, zf, zy, or_imp, forall_and])) (t := [.sl 0 7 0 (a.map cBox), .sl 0 7 0 (b.map cBox), .any, .any, .any, .any, .any, .any, .any, .any, .any, .any, .any, .any, .any, .any, .any, .any, .any, .any, .any, .any, .any, .any, .any, .any, .any]) rfl ?_
 refine OQ ?_
 refine EV ?_
 refine ON ?_
 refine Ok.seq ?_
 refine OQ ?_
 iterate 5 (refine EV ?_)
 refine ON ?_
 refine Ok.cond (b := _) (by simp only [kE, kT, kL, kC] <;> rfl) (fun hb1 => ?_) (fun hb1 => ?_)
 ·
  try simp only [bsimp] at hb1
  refine OQ ?_
  refine EV ?_
  refine ON ?_
  refine Ok.ret ?_
  with_reducible repeat (first | refine thenQ_ret ?_ | refine blockQ_ret ?_)
  refine RT ?_
  rw [decide_eq_false (fun h => hb1 (by rw [h]))]; rfl
 ·
  try simp only [bsimp] at hb1
  have hb1 : (a.length : Int) = b.length := by simpa using hb1
  refine Ok.skip ?_
  refine Ok.seq ?_
  refine OQ ?_
  refine EV ?_
  refine ON ?_
  refine Ok.block ?_
  refine Ok.loopW (τ := Nat) (fun x => [(5, .int .i64 (x : Int))]) [4, 11, 12, 13, 14, 15, 16, 17, 18, 19, 20, 21, 22, 23, 24, 25, 26] (fun x => by simp only [kover] <;> rfl) (fun x => x ≤ a.length ∧ a.take x = b.take x) (fun x => a.length - x) 0 (by refine ⟨?_, ?_, ?_, ?_, ?_, ?_, ?_, ?_, ?_, ?_, ?_, ?_, ?_, ?_, ?_, ?_, ?_, ?_, ?_, ?_, ?_, ?_, ?_, ?_, ?_, ?_, ?_, trivial⟩ <;> first | exact le_any _ | with_reducible exact le_rfl' _ | (exact le_rfl' _) | exact le_rfl' _) (⟨Nat.zero_le _, rfl⟩) ?_
  rintro i ⟨h1, h2⟩
  refine Ok.seq ?_
  refine OQ ?_
  iterate 4 (refine EV ?_)
  refine ON ?_
  refine Ok.cond (b := _) (by simp only [kE, kT, kL, kC] <;> rfl) (fun hb4 => ?_) (fun hb4 => ?_)
  ·
   try simp only [bsimp] at hb4
   have hi : i < a.length := by omega
   have hj : i < b.length := by omega
   refine Ok.skip ?_
   refine Ok.seq ?_
   refine Ok.block ?_
   refine Ok.seq ?_
   refine Ok.drawn 10 27 [] (by kernel_rfl) (by kernel_rfl) rfl ?_
   iterate 2 (refine SV ?_)
   refine SOps.ev tab_ok rfl (ev_idx_map (by simp only [kE, kT, kL, kC] <;> rfl) (by simp only [kE, kT, kL, kC] <;> rfl) (by omega) (by simp only [kE, kT, kL, kC] <;> rfl)) (by simp only [kP] <;> rfl) ?_
   iterate 3 (refine SV ?_)
   refine SOps.ev tab_ok rfl (ev_idx_map (by simp only [kE, kT, kL, kC] <;> rfl) (by simp only [kE, kT, kL, kC] <;> rfl) (by omega) (by simp only [kE, kT, kL, kC] <;> rfl)) (by simp only [kP] <;> rfl) ?_
   refine SV ?_
   refine SOps.S0 rfl (OpS.weakM rfl (by simp only [kE, kT, kL, kC] <;> rfl) (by simp only [kE, kT, kL, kC] <;> rfl) cl126 (w_laws_eqBox a[i] b[i])) (by simp only [kP] <;> rfl) ?_
   refine SV ?_
   refine SOps.nil ?_
   refine TOps.nil ?_
   refine Ok.cond (b := _) (by simp only [kE, kT, kL, kC] <;> rfl) (fun hb6 => ?_) (fun hb6 => ?_)
   ·
    try simp only [bsimp] at hb6
    refine OQ ?_
    refine EV ?_
    refine ON ?_
    refine Ok.ret ?_
    with_reducible repeat (first | refine thenQ_ret ?_ | refine blockQ_ret ?_)
    refine RT ?_
    rw [decide_eq_false (fun h => hb6 (by subst h; rfl))]; rfl
   ·
    try simp only [bsimp] at hb6
    refine Ok.skip ?_
    refine Ok.region ?_
    iterate 3 (refine EV ?_)
    refine ON ?_
    refine ⟨i + 1, ?_, rfl, rfl, ⟨by omega, take_next h2 hi hj hb6⟩, by omega⟩
    refine ⟨?_, ?_, ?_, ?_, ?_, ?_, ?_, ?_, ?_, ?_, ?_, ?_, ?_, ?_, ?_, ?_, ?_, ?_, ?_, ?_, ?_, ?_, ?_, ?_, ?_, ?_, ?_, trivial⟩ <;> first | exact le_any _ | with_reducible exact le_rfl' _ | ((rw [wrap_succ (by simp only [List.length_map] at ha; unfold maxLen at ha; omega)]; exact le_rfl' _)) | exact le_rfl' _
  ·
   try simp only [bsimp] at hb4
   refine Ok.exit ?_
   refine OQ ?_
   refine EV ?_
   refine ON ?_
   refine Ok.ret ?_
   with_reducible repeat (first | refine thenQ_ret ?_ | refine blockQ_ret ?_)
   refine RT ?_
   rw [decide_eq_true (eq_of_take (by omega) (by omega) h2)]; rfl
theorem w_laws_eqStore (a b : Store) : Weak Tryz.prog 13 [.agg (cStore a), .agg (cStore b)] (.bool (decide (a = b))) := by
 refine Weak.enter tab_ok Tryz.func13 rfl (.inr (by simp [V.labelsL, V.labels, V.labelsLL, zz, zf, zy, or_imp, forall_and])) (t := [.agg (cStore a), .agg (cStore b), .any, .any, .any, .any, .any, .any, .any, .any, .any, .any, .any, .any, .any, .any, .any, .any, .any, .any, .any, .any, .any, .any, .any, .any, .any]) rfl ?_
 refine OQ ?_
 iterate 3 (refine EV ?_)
 refine ON ?_
 refine Ok.seq ?_
 refine OQ ?_
 iterate 5 (refine EV ?_)
 refine ON ?_
 refine Ok.cond (b := _) (by simp only [kE, kT, kL, kC] <;> rfl) (fun hb1 => ?_) (fun hb1 => ?_)
 ·
  try simp only [bsimp] at hb1
  refine OQ ?_
  refine EV ?_
  refine ON ?_
  refine Ok.ret ?_
  with_reducible repeat (first | refine thenQ_ret ?_ | refine blockQ_ret ?_)
  refine RT ?_
  first | (rw [decide_eq_true (by cases a; cases b; simp_all)]; rfl) | (rw [decide_eq_false (by intro h; subst h; simp_all)]; rfl)
 ·
  try simp only [bsimp] at hb1
  refine Ok.skip ?_
  refine Ok.seq ?_
  refine OQ ?_
  iterate 5 (refine EV ?_)
  refine ON ?_
  refine Ok.cond (b := _) (by simp only [kE, kT, kL, kC] <;> rfl) (fun hb3 => ?_) (fun hb3 => ?_)
  ·
   try simp only [bsimp] at hb3
   refine OQ ?_
   refine EV ?_
   refine ON ?_
   refine Ok.ret ?_
   with_reducible repeat (first | refine thenQ_ret ?_ | refine blockQ_ret ?_)
   refine RT ?_
   first | (rw [decide_eq_true (by cases a; cases b; simp_all)]; rfl) | (rw [decide_eq_false (by intro h; subst h; simp_all)]; rfl)
  ·
   try simp only [bsimp] at hb3
   refine Ok.skip ?_
   refine Ok.seq ?_
   refine OQ ?_
   iterate 4 (refine EV ?_)
   refine OkOps.S0 rfl (OpS.weak' rfl (by simp only [kE, kT, kL, kC] <;> rfl) (by simp only [kE, kT, kL, kC] <;> rfl) cl61 (w_laws_eqBoxS a.boxes b.boxes)) (by simp only [kP] <;> rfl) ?_
   refine EV ?_
   refine ON ?_
   refine Ok.cond (b := _) (by simp only [kE, kT, kL, kC] <;> rfl) (fun hb5 => ?_) (fun hb5 => ?_)
   ·
    try simp only [bsimp] at hb5
    refine OQ ?_
    refine EV ?_
    refine ON ?_
    refine Ok.ret ?_
    with_reducible repeat (first | refine thenQ_ret ?_ | refine blockQ_ret ?_)
    refine RT ?_
    first | (rw [decide_eq_true (by cases a; cases b; simp_all)]; rfl) | (rw [decide_eq_false (by intro h; subst h; simp_all)]; rfl)
   ·
    try simp only [bsimp] at hb5
    refine Ok.skip ?_
    refine Ok.seq ?_
    refine OQ ?_
    iterate 4 (refine EV ?_)
    refine OkOps.S0 rfl (OpS.weak' rfl (by simp only [kE, kT, kL, kC] <;> rfl) (by simp only [kE, kT, kL, kC] <;> rfl) cl62 (w_laws_eqIntS a.gone b.gone)) (by simp only [kP] <;> rfl) ?_
    refine EV ?_
    refine ON ?_
    refine Ok.cond (b := _) (by simp only [kE, kT, kL, kC] <;> rfl) (fun hb7 => ?_) (fun hb7 => ?_)
    ·
     try simp only [bsimp] at hb7
     refine OQ ?_
     refine EV ?_
     refine ON ?_
     refine Ok.ret ?_
     with_reducible repeat (first | refine thenQ_ret ?_ | refine blockQ_ret ?_)
     refine RT ?_
     first | (rw [decide_eq_true (by cases a; cases b; simp_all)]; rfl) | (rw [decide_eq_false (by intro h; subst h; simp_all)]; rfl)
    ·
     try simp only [bsimp] at hb7
     refine Ok.skip ?_
     refine OQ ?_
     refine EV ?_
     refine ON ?_
     refine Ok.ret ?_
     with_reducible repeat (first | refine thenQ_ret ?_ | refine blockQ_ret ?_)
     refine RT ?_
     first | (rw [decide_eq_true (by cases a; cases b; simp_all)]; rfl) | (rw [decide_eq_false (by intro h; subst h; simp_all)]; rfl)
theorem w_laws_eqKept (a b : Kept) : Weak Tryz.prog 190 [.agg (cKept a), .agg (cKept b)] (.bool (decide (a = b))) := by
 refine Weak.enter tab_ok Tryz.func190 rfl (.inr (by simp [V.labelsL, V.labels, V.labelsLL, zz, zf, zy, or_imp, forall_and])) (t := [.agg (cKept a), .agg (cKept b), .any, .any, .any, .any, .any, .any, .any, .any, .any, .any, .any, .any, .any, .any, .any, .any, .any, .any, .any]) rfl ?_
 refine OQ ?_
 iterate 3 (refine EV ?_)
 refine ON ?_
 refine Ok.seq ?_
 refine OQ ?_
 iterate 4 (refine EV ?_)
 refine OkOps.S0 rfl (OpS.weak' rfl (by simp only [kE, kT, kL, kC] <;> rfl) (by simp only [kE, kT, kL, kC] <;> rfl) cl13 (w_laws_eqStore a.store b.store)) (by simp only [kP] <;> rfl) ?_
 refine EV ?_
 refine ON ?_
 refine Ok.cond (b := _) (by simp only [kE, kT, kL, kC] <;> rfl) (fun hb1 => ?_) (fun hb1 => ?_)
 ·
  try simp only [bsimp] at hb1
  refine OQ ?_
  refine EV ?_
  refine ON ?_
  refine Ok.ret ?_
  with_reducible repeat (first | refine thenQ_ret ?_ | refine blockQ_ret ?_)
  refine RT ?_
  first | (rw [decide_eq_true (by cases a; cases b; simp_all)]; rfl) | (rw [decide_eq_false (by intro h; subst h; simp_all)]; rfl)
 ·
  try simp only [bsimp] at hb1
  refine Ok.skip ?_
  refine Ok.seq ?_
  refine OQ ?_
  iterate 5 (refine EV ?_)
  refine ON ?_
  refine Ok.cond (b := _) (by simp only [kE, kT, kL, kC] <;> rfl) (fun hb3 => ?_) (fun hb3 => ?_)
  ·
   try simp only [bsimp] at hb3
   refine OQ ?_
   refine EV ?_
   refine ON ?_
   refine Ok.ret ?_
   with_reducible repeat (first | refine thenQ_ret ?_ | refine blockQ_ret ?_)
   refine RT ?_
   first | (rw [decide_eq_true (by cases a; cases b; simp_all)]; rfl) | (rw [decide_eq_false (by intro h; subst h; simp_all)]; rfl)
  ·
   try simp only [bsimp] at hb3
   refine Ok.skip ?_
   refine Ok.seq ?_
   refine OQ ?_
   iterate 5 (refine EV ?_)
   refine ON ?_
   refine Ok.cond (b := _) (by simp only [kE, kT, kL, kC] <;> rfl) (fun hb5 => ?_) (fun hb5 => ?_)
   ·
    try simp only [bsimp] at hb5
    refine OQ ?_
    refine EV ?_
    refine ON ?_
    refine Ok.ret ?_
    with_reducible repeat (first | refine thenQ_ret ?_ | refine blockQ_ret ?_)
    refine RT ?_
    first | (rw [decide_eq_true (by cases a; cases b; simp_all)]; rfl) | (rw [decide_eq_false (by intro h; subst h; simp_all)]; rfl)
   ·
    try simp only [bsimp] at hb5
    refine Ok.skip ?_
    refine OQ ?_
    refine EV ?_
    refine ON ?_
    refine Ok.ret ?_
    with_reducible repeat (first | refine thenQ_ret ?_ | refine blockQ_ret ?_)
    refine RT ?_
    first | (rw [decide_eq_true (by cases a; cases b; simp_all)]; rfl) | (rw [decide_eq_false (by intro h; subst h; simp_all)]; rfl)
theorem w_laws_eqSession (a b : Session) : Weak Tryz.prog 191 [.agg (cSession a), .agg (cSession b)] (.bool (decide (a = b))) := by
 refine Weak.enter tab_ok Tryz.func191 rfl (.inr (by simp [V.labelsL, V.labels, V.labelsLL, zz, zf, zy, or_imp, forall_and])) (t := [.agg (cSession a), .agg (cSession b), .any, .any, .any, .any, .any, .any, .any, .any, .any, .any, .any, .any, .any, .any, .any, .any, .any, .any, .any, .any, .any, .any, .any, .any, .any, .any, .any, .any, .any, .any, .any, .any, .any, .any]) rfl ?_
 refine OQ ?_
 iterate 3 (refine EV ?_)
 refine ON ?_
 refine Ok.seq ?_
 refine OQ ?_
 iterate 5 (refine EV ?_)
 refine ON ?_
 refine Ok.cond (b := _) (by simp only [kE, kT, kL, kC] <;> rfl) (fun hb1 => ?_) (fun hb1 => ?_)
 ·
  try simp only [bsimp] at hb1
  refine OQ ?_
  refine EV ?_
  refine ON ?_
  refine Ok.ret ?_
  with_reducible repeat (first | refine thenQ_ret ?_ | refine blockQ_ret ?_)
  refine RT ?_
  first | (rw [decide_eq_true (by cases a; cases b; simp_all)]; rfl) | (rw [decide_eq_false (by intro h; subst h; simp_all)]; rfl)
 ·
  try simp only [bsimp] at hb1
  refine Ok.skip ?_
  refine Ok.seq ?_
  refine OQ ?_
  iterate 5 (refine EV ?_)
  refine ON ?_
  refine Ok.cond (b := _) (by simp only [kE, kT, kL, kC] <;> rfl) (fun hb3 => ?_) (fun hb3 => ?_)
  ·
   try simp only [bsimp] at hb3
   refine OQ ?_
   refine EV ?_
   refine ON ?_
   refine Ok.ret ?_
   with_reducible repeat (first | refine thenQ_ret ?_ | refine blockQ_ret ?_)
   refine RT ?_
   first | (rw [decide_eq_true (by cases a; cases b; simp_all)]; rfl) | (rw [decide_eq_false (by intro h; subst h; simp_all)]; rfl)
  ·
   try simp only [bsimp] at hb3
   refine Ok.skip ?_
   refine Ok.seq ?_
   refine OQ ?_
   iterate 5 (refine EV ?_)
   refine ON ?_
   refine Ok.cond (b := _) (by simp only [kE, kT, kL, kC] <;> rfl) (fun hb5 => ?_) (fun hb5 => ?_)
   ·
    try simp only [bsimp] at hb5
    refine OQ ?_
    refine EV ?_
    refine ON ?_
    refine Ok.ret ?_
    with_reducible repeat (first | refine thenQ_ret ?_ | refine blockQ_ret ?_)
    refine RT ?_
    first | (rw [decide_eq_true (by cases a; cases b; simp_all)]; rfl) | (rw [decide_eq_false (by intro h; subst h; simp_all)]; rfl)
   ·
    try simp only [bsimp] at hb5
    refine Ok.skip ?_
    refine Ok.seq ?_
    refine OQ ?_
    iterate 5 (refine EV ?_)
    refine ON ?_
    refine Ok.cond (b := _) (by simp only [kE, kT, kL, kC] <;> rfl) (fun hb7 => ?_) (fun hb7 => ?_)
    ·
     try simp only [bsimp] at hb7
     refine OQ ?_
     refine EV ?_
     refine ON ?_
     refine Ok.ret ?_
     with_reducible repeat (first | refine thenQ_ret ?_ | refine blockQ_ret ?_)
     refine RT ?_
     first | (rw [decide_eq_true (by cases a; cases b; simp_all)]; rfl) | (rw [decide_eq_false (by intro h; subst h; simp_all)]; rfl)
    ·
     try simp only [bsimp] at hb7
     refine Ok.skip ?_
     refine Ok.seq ?_
     refine OQ ?_
     iterate 5 (refine EV ?_)
     refine ON ?_
     refine Ok.cond (b := _) (by simp only [kE, kT, kL, kC] <;> rfl) (fun hb9 => ?_) (fun hb9 => ?_)
     ·
      try simp only [bsimp] at hb9
      refine OQ ?_
      refine EV ?_
      refine ON ?_
      refine Ok.ret ?_
      with_reducible repeat (first | refine thenQ_ret ?_ | refine blockQ_ret ?_)
      refine RT ?_
      first | (rw [decide_eq_true (by cases a; cases b; simp_all)]; rfl) | (rw [decide_eq_false (by intro h; subst h; simp_all)]; rfl)
     ·
      try simp only [bsimp] at hb9
      refine Ok.skip ?_
      refine Ok.seq ?_
      refine OQ ?_
      iterate 4 (refine EV ?_)
      refine OkOps.S0 rfl (OpS.weak' rfl (by simp only [kE, kT, kL, kC] <;> rfl) (by simp only [kE, kT, kL, kC] <;> rfl) cl62 (w_laws_eqIntS a.view b.view)) (by simp only [kP] <;> rfl) ?_
      refine EV ?_
      refine ON ?_
      refine Ok.cond (b := _) (by simp only [kE, kT, kL, kC] <;> rfl) (fun hb11 => ?_) (fun hb11 => ?_)
      ·
       try simp only [bsimp] at hb11
       refine OQ ?_
       refine EV ?_
       refine ON ?_
       refine Ok.ret ?_
       with_reducible repeat (first | refine thenQ_ret ?_ | refine blockQ_ret ?_)
       refine RT ?_
       first | (rw [decide_eq_true (by cases a; cases b; simp_all)]; rfl) | (rw [decide_eq_false (by intro h; subst h; simp_all)]; rfl)
      ·
       try simp only [bsimp] at hb11
       refine Ok.skip ?_
       refine OQ ?_
       refine EV ?_
       refine ON ?_
       refine Ok.ret ?_
       with_reducible repeat (first | refine thenQ_ret ?_ | refine blockQ_ret ?_)
       refine RT ?_
       first | (rw [decide_eq_true (by cases a; cases b; simp_all)]; rfl) | (rw [decide_eq_false (by intro h; subst h; simp_all)]; rfl)
theorem w_laws_eqServer (a b : Server) : Weak Tryz.prog 138 [.agg (cServer a), .agg (cServer b)] (.bool (decide (a = b))) := by
 refine Weak.enter tab_ok Tryz.func138 rfl (.inr (by simp [V.labelsL, V.labels, V.labelsLL, zz, zf, zy, or_imp, forall_and])) (t := [.agg (cServer a), .agg (cServer b), .any, .any, .any, .any, .any, .any, .any, .any, .any, .any, .any, .any, .any, .any, .any, .any, .any, .any, .any, .any]) rfl ?_
 refine OQ ?_
 iterate 3 (refine EV ?_)
 refine ON ?_
 refine Ok.seq ?_
 refine OQ ?_
 iterate 4 (refine EV ?_)
 refine OkOps.S0 rfl (OpS.weak' rfl (by simp only [kE, kT, kL, kC] <;> rfl) (by simp only [kE, kT, kL, kC] <;> rfl) cl190 (w_laws_eqKept a.kept b.kept)) (by simp only [kP] <;> rfl) ?_
 refine EV ?_
 refine ON ?_
 refine Ok.cond (b := _) (by simp only [kE, kT, kL, kC] <;> rfl) (fun hb1 => ?_) (fun hb1 => ?_)
 ·
  try simp only [bsimp] at hb1
  refine OQ ?_
  refine EV ?_
  refine ON ?_
  refine Ok.ret ?_
  with_reducible repeat (first | refine thenQ_ret ?_ | refine blockQ_ret ?_)
  refine RT ?_
  first | (rw [decide_eq_true (by cases a; cases b; simp_all)]; rfl) | (rw [decide_eq_false (by intro h; subst h; simp_all)]; rfl)
 ·
  try simp only [bsimp] at hb1
  refine Ok.skip ?_
  refine Ok.seq ?_
  refine OQ ?_
  iterate 4 (refine EV ?_)
  refine OkOps.S0 rfl (OpS.weak' rfl (by simp only [kE, kT, kL, kC] <;> rfl) (by simp only [kE, kT, kL, kC] <;> rfl) cl191 (w_laws_eqSession a.session b.session)) (by simp only [kP] <;> rfl) ?_
  refine EV ?_
  refine ON ?_
  refine Ok.cond (b := _) (by simp only [kE, kT, kL, kC] <;> rfl) (fun hb3 => ?_) (fun hb3 => ?_)
  ·
   try simp only [bsimp] at hb3
   refine OQ ?_
   refine EV ?_
   refine ON ?_
   refine Ok.ret ?_
   with_reducible repeat (first | refine thenQ_ret ?_ | refine blockQ_ret ?_)
   refine RT ?_
   first | (rw [decide_eq_true (by cases a; cases b; simp_all)]; rfl) | (rw [decide_eq_false (by intro h; subst h; simp_all)]; rfl)
  ·
   try simp only [bsimp] at hb3
   refine Ok.skip ?_
   refine Ok.seq ?_
   refine OQ ?_
   iterate 5 (refine EV ?_)
   refine ON ?_
   refine Ok.cond (b := _) (by simp only [kE, kT, kL, kC] <;> rfl) (fun hb5 => ?_) (fun hb5 => ?_)
   ·
    try simp only [bsimp] at hb5
    refine OQ ?_
    refine EV ?_
    refine ON ?_
    refine Ok.ret ?_
    with_reducible repeat (first | refine thenQ_ret ?_ | refine blockQ_ret ?_)
    refine RT ?_
    first | (rw [decide_eq_true (by cases a; cases b; simp_all)]; rfl) | (rw [decide_eq_false (by intro h; subst h; simp_all)]; rfl)
   ·
    try simp only [bsimp] at hb5
    refine Ok.skip ?_
    refine OQ ?_
    refine EV ?_
    refine ON ?_
    refine Ok.ret ?_
    with_reducible repeat (first | refine thenQ_ret ?_ | refine blockQ_ret ?_)
    refine RT ?_
    first | (rw [decide_eq_true (by cases a; cases b; simp_all)]; rfl) | (rw [decide_eq_false (by intro h; subst h; simp_all)]; rfl)
theorem w_laws_eqLink (a b : Link) : Weak Tryz.prog 59 [.agg (cLink a), .agg (cLink b)] (.bool (decide (a = b))) := by
 refine Weak.enter tab_ok Tryz.func59 rfl (.inr (by simp [V.labelsL, V.labels, V.labelsLL, zz, zf, zy, or_imp, forall_and])) (t := [.agg (cLink a), .agg (cLink b), .any, .any, .any, .any, .any, .any, .any, .any, .any, .any, .any, .any, .any, .any, .any, .any, .any, .any, .any, .any, .any, .any, .any, .any]) rfl ?_
 refine OQ ?_
 iterate 3 (refine EV ?_)
 refine ON ?_
 refine Ok.seq ?_
 refine OQ ?_
 iterate 5 (refine EV ?_)
 refine ON ?_
 refine Ok.cond (b := _) (by simp only [kE, kT, kL, kC] <;> rfl) (fun hb1 => ?_) (fun hb1 => ?_)
 ·
  try simp only [bsimp] at hb1
  refine OQ ?_
  refine EV ?_
  refine ON ?_
  refine Ok.ret ?_
  with_reducible repeat (first | refine thenQ_ret ?_ | refine blockQ_ret ?_)
  refine RT ?_
  first | (rw [decide_eq_true (by cases a; cases b; simp_all)]; rfl) | (rw [decide_eq_false (by intro h; subst h; simp_all)]; rfl)
 ·
  try simp only [bsimp] at hb1
  refine Ok.skip ?_
  refine Ok.seq ?_
  refine OQ ?_
  iterate 4 (refine EV ?_)
  refine OkOps.S0 rfl (OpS.weak' rfl (by simp only [kE, kT, kL, kC] <;> rfl) (by simp only [kE, kT, kL, kC] <;> rfl) cl60 (w_laws_eqStringS a.way b.way)) (by simp only [kP] <;> rfl) ?_
  refine EV ?_
  refine ON ?_
  refine Ok.cond (b := _) (by simp only [kE, kT, kL, kC] <;> rfl) (fun hb3 => ?_) (fun hb3 => ?_)
  ·
   try simp only [bsimp] at hb3
   refine OQ ?_
   refine EV ?_
   refine ON ?_
   refine Ok.ret ?_
   with_reducible repeat (first | refine thenQ_ret ?_ | refine blockQ_ret ?_)
   refine RT ?_
   first | (rw [decide_eq_true (by cases a; cases b; simp_all)]; rfl) | (rw [decide_eq_false (by intro h; subst h; simp_all)]; rfl)
  ·
   try simp only [bsimp] at hb3
   refine Ok.skip ?_
   refine Ok.seq ?_
   refine OQ ?_
   iterate 5 (refine EV ?_)
   refine ON ?_
   refine Ok.cond (b := _) (by simp only [kE, kT, kL, kC] <;> rfl) (fun hb5 => ?_) (fun hb5 => ?_)
   ·
    try simp only [bsimp] at hb5
    refine OQ ?_
    refine EV ?_
    refine ON ?_
    refine Ok.ret ?_
    with_reducible repeat (first | refine thenQ_ret ?_ | refine blockQ_ret ?_)
    refine RT ?_
    first | (rw [decide_eq_true (by cases a; cases b; simp_all)]; rfl) | (rw [decide_eq_false (by intro h; subst h; simp_all)]; rfl)
   ·
    try simp only [bsimp] at hb5
    refine Ok.skip ?_
    refine Ok.seq ?_
    refine OQ ?_
    iterate 5 (refine EV ?_)
    refine ON ?_
    refine Ok.cond (b := _) (by simp only [kE, kT, kL, kC] <;> rfl) (fun hb7 => ?_) (fun hb7 => ?_)
    ·
     try simp only [bsimp] at hb7
     refine OQ ?_
     refine EV ?_
     refine ON ?_
     refine Ok.ret ?_
     with_reducible repeat (first | refine thenQ_ret ?_ | refine blockQ_ret ?_)
     refine RT ?_
     first | (rw [decide_eq_true (by cases a; cases b; simp_all)]; rfl) | (rw [decide_eq_false (by intro h; subst h; simp_all)]; rfl)
    ·
     try simp only [bsimp] at hb7
     refine Ok.skip ?_
     refine OQ ?_
     refine EV ?_
     refine ON ?_
     refine Ok.ret ?_
     with_reducible repeat (first | refine thenQ_ret ?_ | refine blockQ_ret ?_)
     refine RT ?_
     first | (rw [decide_eq_true (by cases a; cases b; simp_all)]; rfl) | (rw [decide_eq_false (by intro h; subst h; simp_all)]; rfl)
theorem w_laws_eqSync (a b : Sync) : Weak Tryz.prog 12 [.agg (cSync a), .agg (cSync b)] (.bool (decide (a = b))) := by
 refine Weak.enter tab_ok Tryz.func12 rfl (.inr (by simp [V.labelsL, V.labels, V.labelsLL, zz, zf, zy, or_imp, forall_and])) (t := [.agg (cSync a), .agg (cSync b), .any, .any, .any, .any, .any, .any, .any, .any, .any, .any, .any, .any, .any, .any, .any, .any, .any, .any, .any, .any, .any, .any, .any, .any, .any, .any, .any, .any, .any, .any, .any, .any, .any, .any, .any]) rfl ?_
 refine OQ ?_
 iterate 3 (refine EV ?_)
 refine ON ?_
 refine Ok.seq ?_
 refine OQ ?_
 iterate 5 (refine EV ?_)
 refine ON ?_
 refine Ok.cond (b := _) (by simp only [kE, kT, kL, kC] <;> rfl) (fun hb1 => ?_) (fun hb1 => ?_)
 ·
  try simp only [bsimp] at hb1
  refine OQ ?_
  refine EV ?_
  refine ON ?_
  refine Ok.ret ?_
  with_reducible repeat (first | refine thenQ_ret ?_ | refine blockQ_ret ?_)
  refine RT ?_
  first | (rw [decide_eq_true (by cases a; cases b; simp_all)]; rfl) | (rw [decide_eq_false (by intro h; subst h; simp_all)]; rfl)
 ·
  try simp only [bsimp] at hb1
  refine Ok.skip ?_
  refine Ok.seq ?_
  refine OQ ?_
  iterate 4 (refine EV ?_)
  refine OkOps.S0 rfl (OpS.weak' rfl (by simp only [kE, kT, kL, kC] <;> rfl) (by simp only [kE, kT, kL, kC] <;> rfl) cl59 (w_laws_eqLink a.link b.link)) (by simp only [kP] <;> rfl) ?_
  refine EV ?_
  refine ON ?_
  refine Ok.cond (b := _) (by simp only [kE, kT, kL, kC] <;> rfl) (fun hb3 => ?_) (fun hb3 => ?_)
  ·
   try simp only [bsimp] at hb3
   refine OQ ?_
   refine EV ?_
   refine ON ?_
   refine Ok.ret ?_
   with_reducible repeat (first | refine thenQ_ret ?_ | refine blockQ_ret ?_)
   refine RT ?_
   first | (rw [decide_eq_true (by cases a; cases b; simp_all)]; rfl) | (rw [decide_eq_false (by intro h; subst h; simp_all)]; rfl)
  ·
   try simp only [bsimp] at hb3
   refine Ok.skip ?_
   refine Ok.seq ?_
   refine OQ ?_
   iterate 5 (refine EV ?_)
   refine ON ?_
   refine Ok.cond (b := _) (by simp only [kE, kT, kL, kC] <;> rfl) (fun hb5 => ?_) (fun hb5 => ?_)
   ·
    try simp only [bsimp] at hb5
    refine OQ ?_
    refine EV ?_
    refine ON ?_
    refine Ok.ret ?_
    with_reducible repeat (first | refine thenQ_ret ?_ | refine blockQ_ret ?_)
    refine RT ?_
    first | (rw [decide_eq_true (by cases a; cases b; simp_all)]; rfl) | (rw [decide_eq_false (by intro h; subst h; simp_all)]; rfl)
   ·
    try simp only [bsimp] at hb5
    refine Ok.skip ?_
    refine Ok.seq ?_
    refine OQ ?_
    iterate 4 (refine EV ?_)
    refine OkOps.S0 rfl (OpS.weak' rfl (by simp only [kE, kT, kL, kC] <;> rfl) (by simp only [kE, kT, kL, kC] <;> rfl) cl60 (w_laws_eqStringS a.pieces b.pieces)) (by simp only [kP] <;> rfl) ?_
    refine EV ?_
    refine ON ?_
    refine Ok.cond (b := _) (by simp only [kE, kT, kL, kC] <;> rfl) (fun hb7 => ?_) (fun hb7 => ?_)
    ·
     try simp only [bsimp] at hb7
     refine OQ ?_
     refine EV ?_
     refine ON ?_
     refine Ok.ret ?_
     with_reducible repeat (first | refine thenQ_ret ?_ | refine blockQ_ret ?_)
     refine RT ?_
     first | (rw [decide_eq_true (by cases a; cases b; simp_all)]; rfl) | (rw [decide_eq_false (by intro h; subst h; simp_all)]; rfl)
    ·
     try simp only [bsimp] at hb7
     refine Ok.skip ?_
     refine Ok.seq ?_
     refine OQ ?_
     iterate 5 (refine EV ?_)
     refine ON ?_
     refine Ok.cond (b := _) (by simp only [kE, kT, kL, kC] <;> rfl) (fun hb9 => ?_) (fun hb9 => ?_)
     ·
      try simp only [bsimp] at hb9
      refine OQ ?_
      refine EV ?_
      refine ON ?_
      refine Ok.ret ?_
      with_reducible repeat (first | refine thenQ_ret ?_ | refine blockQ_ret ?_)
      refine RT ?_
      first | (rw [decide_eq_true (by cases a; cases b; simp_all)]; rfl) | (rw [decide_eq_false (by intro h; subst h; simp_all)]; rfl)
     ·
      try simp only [bsimp] at hb9
      refine Ok.skip ?_
      refine Ok.seq ?_
      refine OQ ?_
      iterate 5 (refine EV ?_)
      refine ON ?_
      refine Ok.cond (b := _) (by simp only [kE, kT, kL, kC] <;> rfl) (fun hb11 => ?_) (fun hb11 => ?_)
      ·
       try simp only [bsimp] at hb11
       refine OQ ?_
       refine EV ?_
       refine ON ?_
       refine Ok.ret ?_
       with_reducible repeat (first | refine thenQ_ret ?_ | refine blockQ_ret ?_)
       refine RT ?_
       first | (rw [decide_eq_true (by cases a; cases b; simp_all)]; rfl) | (rw [decide_eq_false (by intro h; subst h; simp_all)]; rfl)
      ·
       try simp only [bsimp] at hb11
       refine Ok.skip ?_
       refine OQ ?_
       refine EV ?_
       refine ON ?_
       refine Ok.ret ?_
       with_reducible repeat (first | refine thenQ_ret ?_ | refine blockQ_ret ?_)
       refine RT ?_
       first | (rw [decide_eq_true (by cases a; cases b; simp_all)]; rfl) | (rw [decide_eq_false (by intro h; subst h; simp_all)]; rfl)
theorem w_laws_eqLetter (a b : Letter) : Weak Tryz.prog 139 [.agg (cLetter a), .agg (cLetter b)] (.bool (decide (a = b))) := by
 refine Weak.enter tab_ok Tryz.func139 rfl (.inr (by simp [V.labelsL, V.labels, V.labelsLL, zz, zf, zy, or_imp, forall_and])) (t := [.agg (cLetter a), .agg (cLetter b), .any, .any, .any, .any, .any, .any, .any, .any, .any, .any, .any, .any, .any]) rfl ?_
 refine OQ ?_
 iterate 3 (refine EV ?_)
 refine ON ?_
 refine Ok.seq ?_
 refine OQ ?_
 iterate 5 (refine EV ?_)
 refine ON ?_
 refine Ok.cond (b := _) (by simp only [kE, kT, kL, kC] <;> rfl) (fun hb1 => ?_) (fun hb1 => ?_)
 ·
  try simp only [bsimp] at hb1
  refine OQ ?_
  refine EV ?_
  refine ON ?_
  refine Ok.ret ?_
  with_reducible repeat (first | refine thenQ_ret ?_ | refine blockQ_ret ?_)
  refine RT ?_
  first | (rw [decide_eq_true (by cases a; cases b; simp_all)]; rfl) | (rw [decide_eq_false (by intro h; subst h; simp_all)]; rfl)
 ·
  try simp only [bsimp] at hb1
  refine Ok.skip ?_
  refine Ok.seq ?_
  refine OQ ?_
  iterate 5 (refine EV ?_)
  refine ON ?_
  refine Ok.cond (b := _) (by simp only [kE, kT, kL, kC] <;> rfl) (fun hb3 => ?_) (fun hb3 => ?_)
  ·
   try simp only [bsimp] at hb3
   refine OQ ?_
   refine EV ?_
   refine ON ?_
   refine Ok.ret ?_
   with_reducible repeat (first | refine thenQ_ret ?_ | refine blockQ_ret ?_)
   refine RT ?_
   first | (rw [decide_eq_true (by cases a; cases b; simp_all)]; rfl) | (rw [decide_eq_false (by intro h; subst h; simp_all)]; rfl)
  ·
   try simp only [bsimp] at hb3
   refine Ok.skip ?_
   refine OQ ?_
   refine EV ?_
   refine ON ?_
   refine Ok.ret ?_
   with_reducible repeat (first | refine thenQ_ret ?_ | refine blockQ_ret ?_)
   refine RT ?_
   first | (rw [decide_eq_true (by cases a; cases b; simp_all)]; rfl) | (rw [decide_eq_false (by intro h; subst h; simp_all)]; rfl)
theorem w_laws_eqServerS (a b : List Server) : Weak Tryz.prog 80 [.sl 0 13 0 (a.map cServer), .sl 0 13 0 (b.map cServer)] (.bool (decide (a = b))) := by
 refine Weak.len 0 rfl fun ha => ?_
 refine Weak.enter tab_ok Tryz.func80 rfl (.inr (by simp [V.labelsL, V.labels, V.labelsLL, zz, zf, zy, or_imp, forall_and])) (t := [.sl 0 13 0 (a.map cServer), .sl 0 13 0 (b.map cServer), .any, .any, .any, .any, .any, .any, .any, .any, .any, .any, .any, .any, .any, .any, .any, .any, .any, .any, .any, .any, .any, .any, .any, .any, .any]) rfl ?_
 refine OQ ?_
 refine EV ?_
 refine ON ?_
 refine Ok.seq ?_
 refine OQ ?_
 iterate 5 (refine EV ?_)
 refine ON ?_
 refine Ok.cond (b := _) (by simp only [kE, kT, kL, kC] <;> rfl) (fun hb1 => ?_) (fun hb1 => ?_)
 ·
  try simp only [bsimp] at hb1
  refine OQ ?_
  refine EV ?_
  refine ON ?_
  refine Ok.ret ?_
  with_reducible repeat (first | refine thenQ_ret ?_ | refine blockQ_ret ?_)
  refine RT ?_
  rw [decide_eq_false (fun h => hb1 (by rw [h]))]; rfl
 ·
  try simp only [bsimp] at hb1
  have hb1 : (a.length : Int) = b.length := by simpa using hb1
  refine Ok.skip ?_
  refine Ok.seq ?_
  refine OQ ?_
  refine EV ?_
  refine ON ?_
  refine Ok.block ?_
  refine Ok.loopW (τ := Nat) (fun x => [(5, .int .i64 (x : Int))]) [4, 11, 12, 13, 14, 15, 16, 17, 18, 19, 20, 21, 22, 23, 24, 25, 26] (fun x => by simp only [kover] <;> rfl) (fun x => x ≤ a.length ∧ a.take x = b.take x) (fun x => a.length - x) 0 (by refine ⟨?_, ?_, ?_, ?_, ?_, ?_, ?_, ?_, ?_, ?_, ?_, ?_, ?_, ?_, ?_, ?_, ?_, ?_, ?_, ?_, ?_, ?_, ?_, ?_, ?_, ?_, ?_, trivial⟩ <;> first | exact le_any _ | with_reducible exact le_rfl' _ | (exact le_rfl' _) | exact le_rfl' _) (⟨Nat.zero_le _, rfl⟩) ?_
  rintro i ⟨h1, h2⟩
  refine Ok.seq ?_
  refine OQ ?_
  iterate 4 (refine EV ?_)
  refine ON ?_
  refine Ok.cond (b := _) (by simp only [kE, kT, kL, kC] <;> rfl) (fun hb4 => ?_) (fun hb4 => ?_)
  ·
   try simp only [bsimp] at hb4
   have hi : i < a.length := by omega
   have hj : i < b.length := by omega
   refine Ok.skip ?_
   refine Ok.seq ?_
   refine Ok.block ?_
   refine Ok.seq ?_
   refine Ok.drawn 10 27 [] (by kernel_rfl) (by kernel_rfl) rfl ?_
   iterate 2 (refine SV ?_)
   refine SOps.ev tab_ok rfl (ev_idx_map (by simp only [kE, kT, kL, kC] <;> rfl) (by simp only [kE, kT, kL, kC] <;> rfl) (by omega) (by simp only [kE, kT, kL, kC] <;> rfl)) (by simp only [kP] <;> rfl) ?_
   iterate 3 (refine SV ?_)
   refine SOps.ev tab_ok rfl (ev_idx_map (by simp only [kE, kT, kL, kC] <;> rfl) (by simp only [kE, kT, kL, kC] <;> rfl) (by omega) (by simp only [kE, kT, kL, kC] <;> rfl)) (by simp only [kP] <;> rfl) ?_
   refine SV ?_
   refine SOps.S0 rfl (OpS.weakM rfl (by simp only [kE, kT, kL, kC] <;> rfl) (by simp only [kE, kT, kL, kC] <;> rfl) cl138 (w_laws_eqServer a[i] b[i])) (by simp only [kP] <;> rfl) ?_
   refine SV ?_
   refine SOps.nil ?_
   refine TOps.nil ?_
   refine Ok.cond (b := _) (by simp only [kE, kT, kL, kC] <;> rfl) (fun hb6 => ?_) (fun hb6 => ?_)
   ·
    try simp only [bsimp] at hb6
    refine OQ ?_
    refine EV ?_
    refine ON ?_
    refine Ok.ret ?_
    with_reducible repeat (first | refine thenQ_ret ?_ | refine blockQ_ret ?_)
    refine RT ?_
    rw [decide_eq_false (fun h => hb6 (by subst h; rfl))]; rfl
   ·
    try simp only [bsimp] at hb6
    refine Ok.skip ?_
    refine Ok.region ?_
    iterate 3 (refine EV ?_)
    refine ON ?_
    refine ⟨i + 1, ?_, rfl, rfl, ⟨by omega, take_next h2 hi hj hb6⟩, by omega⟩
    refine ⟨?_, ?_, ?_, ?_, ?_, ?_, ?_, ?_, ?_, ?_, ?_, ?_, ?_, ?_, ?_, ?_, ?_, ?_, ?_, ?_, ?_, ?_, ?_, ?_, ?_, ?_, ?_, trivial⟩ <;> first | exact le_any _ | with_reducible exact le_rfl' _ | ((rw [wrap_succ (by simp only [List.length_map] at ha; unfold maxLen at ha; omega)]; exact le_rfl' _)) | exact le_rfl' _
  ·
   try simp only [bsimp] at hb4
   refine Ok.exit ?_
   refine OQ ?_
   refine EV ?_
   refine ON ?_
   refine Ok.ret ?_
   with_reducible repeat (first | refine thenQ_ret ?_ | refine blockQ_ret ?_)
   refine RT ?_
   rw [decide_eq_true (eq_of_take (by omega) (by omega) h2)]; rfl
theorem w_laws_eqSyncS (a b : List Sync) : Weak Tryz.prog 81 [.sl 0 9 0 (a.map cSync), .sl 0 9 0 (b.map cSync)] (.bool (decide (a = b))) := by
 refine Weak.len 0 rfl fun ha => ?_
 refine Weak.enter tab_ok Tryz.func81 rfl (.inr (by simp [V.labelsL, V.labels, V.labelsLL, zz, zf, zy, or_imp, forall_and])) (t := [.sl 0 9 0 (a.map cSync), .sl 0 9 0 (b.map cSync), .any, .any, .any, .any, .any, .any, .any, .any, .any, .any, .any, .any, .any, .any, .any, .any, .any, .any, .any, .any, .any, .any, .any, .any, .any]) rfl ?_
 refine OQ ?_
 refine EV ?_
 refine ON ?_
 refine Ok.seq ?_
 refine OQ ?_
 iterate 5 (refine EV ?_)
 refine ON ?_
 refine Ok.cond (b := _) (by simp only [kE, kT, kL, kC] <;> rfl) (fun hb1 => ?_) (fun hb1 => ?_)
 ·
  try simp only [bsimp] at hb1
  refine OQ ?_
  refine EV ?_
  refine ON ?_
  refine Ok.ret ?_
  with_reducible repeat (first | refine thenQ_ret ?_ | refine blockQ_ret ?_)
  refine RT ?_
  rw [decide_eq_false (fun h => hb1 (by rw [h]))]; rfl
 ·
  try simp only [bsimp] at hb1
  have hb1 : (a.length : Int) = b.length := by simpa using hb1
  refine Ok.skip ?_
  refine Ok.seq ?_
  refine OQ ?_
  refine EV ?_
  refine ON ?_
  refine Ok.block ?_
  refine Ok.loopW (τ := Nat) (fun x => [(5, .int .i64 (x : Int))]) [4, 11, 12, 13, 14, 15, 16, 17, 18, 19, 20, 21, 22, 23, 24, 25, 26] (fun x => by simp only [kover] <;> rfl) (fun x => x ≤ a.length ∧ a.take x = b.take x) (fun x => a.length - x) 0 (by refine ⟨?_, ?_, ?_, ?_, ?_, ?_, ?_, ?_, ?_, ?_, ?_, ?_, ?_, ?_, ?_, ?_, ?_, ?_, ?_, ?_, ?_, ?_, ?_, ?_, ?_, ?_, ?_, trivial⟩ <;> first | exact le_any _ | with_reducible exact le_rfl' _ | (exact le_rfl' _) | exact le_rfl' _) (⟨Nat.zero_le _, rfl⟩) ?_
  rintro i ⟨h1, h2⟩
  refine Ok.seq ?_
  refine OQ ?_
  iterate 4 (refine EV ?_)
  refine ON ?_
  refine Ok.cond (b := _) (by simp only [kE, kT, kL, kC] <;> rfl) (fun hb4 => ?_) (fun hb4 => ?_)
  ·
   try simp only [bsimp] at hb4
   have hi : i < a.length := by omega
   have hj : i < b.length := by omega
   refine Ok.skip ?_
   refine Ok.seq ?_
   refine Ok.block ?_
   refine Ok.seq ?_
   refine Ok.drawn 10 27 [] (by kernel_rfl) (by kernel_rfl) rfl ?_
   iterate 2 (refine SV ?_)
   refine SOps.ev tab_ok rfl (ev_idx_map (by simp only [kE, kT, kL, kC] <;> rfl) (by simp only [kE, kT, kL, kC] <;> rfl) (by omega) (by simp only [kE, kT, kL, kC] <;> rfl)) (by simp only [kP] <;> rfl) ?_
   iterate 3 (refine SV ?_)
   refine SOps.ev tab_ok rfl (ev_idx_map (by simp only [kE, kT, kL, kC] <;> rfl) (by simp only [kE, kT, kL, kC] <;> rfl) (by omega) (by simp only [kE, kT, kL, kC] <;> rfl)) (by simp only [kP] <;> rfl) ?_
   refine SV ?_
   refine SOps.S0 rfl (OpS.weakM rfl (by simp only [kE, kT, kL, kC] <;> rfl) (by simp only [kE, kT, kL, kC] <;> rfl) cl12 (w_laws_eqSync a[i] b[i])) (by simp only [kP] <;> rfl) ?_
   refine SV ?_
   refine SOps.nil ?_
   refine TOps.nil ?_
   refine Ok.cond (b := _) (by simp only [kE, kT, kL, kC] <;> rfl) (fun hb6 => ?_) (fun hb6 => ?_)
   ·
    try simp only [bsimp] at hb6
    refine OQ ?_
    refine EV ?_
    refine ON ?_
    refine Ok.ret ?_
    with_reducible repeat (first | refine thenQ_ret ?_ | refine blockQ_ret ?_)
    refine RT ?_
    rw [decide_eq_false (fun h => hb6 (by subst h; rfl))]; rfl
   ·
    try simp only [bsimp] at hb6
    refine Ok.skip ?_
    refine Ok.region ?_
    iterate 3 (refine EV ?_)
    refine ON ?_
    refine ⟨i + 1, ?_, rfl, rfl, ⟨by omega, take_next h2 hi hj hb6⟩, by omega⟩
    refine ⟨?_, ?_, ?_, ?_, ?_, ?_, ?_, ?_, ?_, ?_, ?_, ?_, ?_, ?_, ?_, ?_, ?_, ?_, ?_, ?_, ?_, ?_, ?_, ?_, ?_, ?_, ?_, trivial⟩ <;> first | exact le_any _ | with_reducible exact le_rfl' _ | ((rw [wrap_succ (by simp only [List.length_map] at ha; unfold maxLen at ha; omega)]; exact le_rfl' _)) | exact le_rfl' _
  ·
   try simp only [bsimp] at hb4
   refine Ok.exit ?_
   refine OQ ?_
   refine EV ?_
   refine ON ?_
   refine Ok.ret ?_
   with_reducible repeat (first | refine thenQ_ret ?_ | refine blockQ_ret ?_)
   refine RT ?_
   rw [decide_eq_true (eq_of_take (by omega) (by omega) h2)]; rfl
theorem w_laws_eqLetterS (a b : List Letter) : Weak Tryz.prog 82 [.sl 0 2 0 (a.map cLetter), .sl 0 2 0 (b.map cLetter)] (.bool (decide (a = b))) := by
 refine Weak.len 0 rfl fun ha => ?_
 refine Weak.enter tab_ok Tryz.func82 rfl (.inr (by simp [V.labelsL, V.labels, V.labelsLL, zz, zf, zy, or_imp, forall_and])) (t := [.sl 0 2 0 (a.map cLetter), .sl 0 2 0 (b.map cLetter), .any, .any, .any, .any, .any, .any, .any, .any, .any, .any, .any, .any, .any, .any, .any, .any, .any, .any, .any, .any, .any, .any, .any, .any, .any]) rfl ?_
 refine OQ ?_
 refine EV ?_
 refine ON ?_
 refine Ok.seq ?_
 refine OQ ?_
 iterate 5 (refine EV ?_)
 refine ON ?_
 refine Ok.cond (b := _) (by simp only [kE, kT, kL, kC] <;> rfl) (fun hb1 => ?_) (fun hb1 => ?_)
 ·
  try simp only [bsimp] at hb1
  refine OQ ?_
  refine EV ?_
  refine ON ?_
  refine Ok.ret ?_
  with_reducible repeat (first | refine thenQ_ret ?_ | refine blockQ_ret ?_)
  refine RT ?_
  rw [decide_eq_false (fun h => hb1 (by rw [h]))]; rfl
 ·
  try simp only [bsimp] at hb1
  have hb1 : (a.length : Int) = b.length := by simpa using hb1
  refine Ok.skip ?_
  refine Ok.seq ?_
  refine OQ ?_
  refine EV ?_
  refine ON ?_
  refine Ok.block ?_
  refine Ok.loopW (τ := Nat) (fun x => [(5, .int .i64 (x : Int))]) [4, 11, 12, 13, 14, 15, 16, 17, 18, 19, 20, 21, 22, 23, 24, 25, 26] (fun x => by simp only [kover] <;> rfl) (fun x => x ≤ a.length ∧ a.take x = b.take x) (fun x => a.length - x) 0 (by refine ⟨?_, ?_, ?_, ?_, ?_, ?_, ?_, ?_, ?_, ?_, ?_, ?_, ?_, ?_, ?_, ?_, ?_, ?_, ?_, ?_, ?_, ?_, ?_, ?_, ?_, ?_, ?_, trivial⟩ <;> first | exact le_any _ | with_reducible exact le_rfl' _ | (exact le_rfl' _) | exact le_rfl' _) (⟨Nat.zero_le _, rfl⟩) ?_
  rintro i ⟨h1, h2⟩
  refine Ok.seq ?_
  refine OQ ?_
  iterate 4 (refine EV ?_)
  refine ON ?_
  refine Ok.cond (b := _) (by simp only [kE, kT, kL, kC] <;> rfl) (fun hb4 => ?_) (fun hb4 => ?_)
  ·
   try simp only [bsimp] at hb4
   have hi : i < a.length := by omega
   have hj : i < b.length := by omega
   refine Ok.skip ?_
   refine Ok.seq ?_
   refine Ok.block ?_
   refine Ok.seq ?_
   refine Ok.drawn 10 27 [] (by kernel_rfl) (by kernel_rfl) rfl ?_
   iterate 2 (refine SV ?_)
   refine SOps.ev tab_ok rfl (ev_idx_map (by simp only [kE, kT, kL, kC] <;> rfl) (by simp only [kE, kT, kL, kC] <;> rfl) (by omega) (by simp only [kE, kT, kL, kC] <;> rfl)) (by simp only [kP] <;> rfl) ?_
   iterate 3 (refine SV ?_)
   refine SOps.ev tab_ok rfl (ev_idx_map (by simp only [kE, kT, kL, kC] <;> rfl) (by simp only [kE, kT, kL, kC] <;> rfl) (by omega) (by simp only [kE, kT, kL, kC] <;> rfl)) (by simp only [kP] <;> rfl) ?_
   refine SV ?_
   refine SOps.S0 rfl (OpS.weakM rfl (by simp only [kE, kT, kL, kC] <;> rfl) (by simp only [kE, kT, kL, kC] <;> rfl) cl139 (w_laws_eqLetter a[i] b[i])) (by simp only [kP] <;> rfl) ?_
   refine SV ?_
   refine SOps.nil ?_
   refine TOps.nil ?_
   refine Ok.cond (b := _) (by simp only [kE, kT, kL, kC] <;> rfl) (fun hb6 => ?_) (fun hb6 => ?_)
   ·
    try simp only [bsimp] at hb6
    refine OQ ?_
    refine EV ?_
    refine ON ?_
    refine Ok.ret ?_
    with_reducible repeat (first | refine thenQ_ret ?_ | refine blockQ_ret ?_)
    refine RT ?_
    rw [decide_eq_false (fun h => hb6 (by subst h; rfl))]; rfl
   ·
    try simp only [bsimp] at hb6
    refine Ok.skip ?_
    refine Ok.region ?_
    iterate 3 (refine EV ?_)
    refine ON ?_
    refine ⟨i + 1, ?_, rfl, rfl, ⟨by omega, take_next h2 hi hj hb6⟩, by omega⟩
    refine ⟨?_, ?_, ?_, ?_, ?_, ?_, ?_, ?_, ?_, ?_, ?_, ?_, ?_, ?_, ?_, ?_, ?_, ?_, ?_, ?_, ?_, ?_, ?_, ?_, ?_, ?_, ?_, trivial⟩ <;> first | exact le_any _ | with_reducible exact le_rfl' _ | ((rw [wrap_succ (by simp only [List.length_map] at ha; unfold maxLen at ha; omega)]; exact le_rfl' _)) | exact le_rfl' _
  ·
   try simp only [bsimp] at hb4
   refine Ok.exit ?_
   refine OQ ?_
   refine EV ?_
   refine ON ?_
   refine Ok.ret ?_
   with_reducible repeat (first | refine thenQ_ret ?_ | refine blockQ_ret ?_)
   refine RT ?_
   rw [decide_eq_true (eq_of_take (by omega) (by omega) h2)]; rfl
theorem w_laws_eqPair (a b : Pair) : Weak Tryz.prog 21 [.agg (cPair a), .agg (cPair b)] (.bool (decide (a = b))) := by
 refine Weak.enter tab_ok Tryz.func21 rfl (.inr (by simp [V.labelsL, V.labels, V.labelsLL, zz, zf, zy, or_imp, forall_and])) (t := [.agg (cPair a), .agg (cPair b), .any, .any, .any, .any, .any, .any, .any, .any, .any, .any, .any, .any, .any, .any, .any, .any, .any, .any, .any, .any, .any, .any, .any, .any, .any, .any]) rfl ?_
 refine OQ ?_
 iterate 3 (refine EV ?_)
 refine ON ?_
 refine Ok.seq ?_
 refine OQ ?_
 iterate 4 (refine EV ?_)
 refine OkOps.S0 rfl (OpS.weak' rfl (by simp only [kE, kT, kL, kC] <;> rfl) (by simp only [kE, kT, kL, kC] <;> rfl) cl80 (w_laws_eqServerS a.servers b.servers)) (by simp only [kP] <;> rfl) ?_
 refine EV ?_
 refine ON ?_
 refine Ok.cond (b := _) (by simp only [kE, kT, kL, kC] <;> rfl) (fun hb1 => ?_) (fun hb1 => ?_)
 ·
  try simp only [bsimp] at hb1
  refine OQ ?_
  refine EV ?_
  refine ON ?_
  refine Ok.ret ?_
  with_reducible repeat (first | refine thenQ_ret ?_ | refine blockQ_ret ?_)
  refine RT ?_
  first | (rw [decide_eq_true (by cases a; cases b; simp_all)]; rfl) | (rw [decide_eq_false (by intro h; subst h; simp_all)]; rfl)
 ·
  try simp only [bsimp] at hb1
  refine Ok.skip ?_
  refine Ok.seq ?_
  refine OQ ?_
  iterate 4 (refine EV ?_)
  refine OkOps.S0 rfl (OpS.weak' rfl (by simp only [kE, kT, kL, kC] <;> rfl) (by simp only [kE, kT, kL, kC] <;> rfl) cl81 (w_laws_eqSyncS a.syncs b.syncs)) (by simp only [kP] <;> rfl) ?_
  refine EV ?_
  refine ON ?_
  refine Ok.cond (b := _) (by simp only [kE, kT, kL, kC] <;> rfl) (fun hb3 => ?_) (fun hb3 => ?_)
  ·
   try simp only [bsimp] at hb3
   refine OQ ?_
   refine EV ?_
   refine ON ?_
   refine Ok.ret ?_
   with_reducible repeat (first | refine thenQ_ret ?_ | refine blockQ_ret ?_)
   refine RT ?_
   first | (rw [decide_eq_true (by cases a; cases b; simp_all)]; rfl) | (rw [decide_eq_false (by intro h; subst h; simp_all)]; rfl)
  ·
   try simp only [bsimp] at hb3
   refine Ok.skip ?_
   refine Ok.seq ?_
   refine OQ ?_
   iterate 4 (refine EV ?_)
   refine OkOps.S0 rfl (OpS.weak' rfl (by simp only [kE, kT, kL, kC] <;> rfl) (by simp only [kE, kT, kL, kC] <;> rfl) cl82 (w_laws_eqLetterS a.net b.net)) (by simp only [kP] <;> rfl) ?_
   refine EV ?_
   refine ON ?_
   refine Ok.cond (b := _) (by simp only [kE, kT, kL, kC] <;> rfl) (fun hb5 => ?_) (fun hb5 => ?_)
   ·
    try simp only [bsimp] at hb5
    refine OQ ?_
    refine EV ?_
    refine ON ?_
    refine Ok.ret ?_
    with_reducible repeat (first | refine thenQ_ret ?_ | refine blockQ_ret ?_)
    refine RT ?_
    first | (rw [decide_eq_true (by cases a; cases b; simp_all)]; rfl) | (rw [decide_eq_false (by intro h; subst h; simp_all)]; rfl)
   ·
    try simp only [bsimp] at hb5
    refine Ok.skip ?_
    refine Ok.seq ?_
    refine OQ ?_
    iterate 5 (refine EV ?_)
    refine ON ?_
    refine Ok.cond (b := _) (by simp only [kE, kT, kL, kC] <;> rfl) (fun hb7 => ?_) (fun hb7 => ?_)
    ·
     try simp only [bsimp] at hb7
     refine OQ ?_
     refine EV ?_
     refine ON ?_
     refine Ok.ret ?_
     with_reducible repeat (first | refine thenQ_ret ?_ | refine blockQ_ret ?_)
     refine RT ?_
     first | (rw [decide_eq_true (by cases a; cases b; simp_all)]; rfl) | (rw [decide_eq_false (by intro h; subst h; simp_all)]; rfl)
    ·
     try simp only [bsimp] at hb7
     refine Ok.skip ?_
     refine OQ ?_
     refine EV ?_
     refine ON ?_
     refine Ok.ret ?_
     with_reducible repeat (first | refine thenQ_ret ?_ | refine blockQ_ret ?_)
     refine RT ?_
     first | (rw [decide_eq_true (by cases a; cases b; simp_all)]; rfl) | (rw [decide_eq_false (by intro h; subst h; simp_all)]; rfl)
end Go.Proofs.YtjhfabimacljhaaGreat.K

/- What a server and a pair show: plain functions. -/
namespace Go.Proofs.YtjhfabimacljhaaGreat.K
open Go Go.RowKit
set_option linter.unusedVariables false
set_option linter.unusedSimpArgs false
section
variable {P : Program} {ti : Tab} {ops : Array Oper} {o : Oper} {l : List Oper} {t t' h h' : List V} {n n' : Nat} {Q : Exit → List V → List V → Nat → Prop}
theorem TOps.append {T e : TypeId} {i : TInfo} {s x : Operand} {L off : Nat} {es es2 es3 : List (List V)} {s1 b1 : Nat} {z1 : List V} (hti : TabOk P ti) (hg : o.guard = none) (ho : o.op = .call ⟨.builtin .append, #[s, x], #[T, T]⟩) (hT : ti T = some ⟨.slice e, s1, b1, z1⟩) (he : ti e = some i)
    (hi : 0 < i.size) (hz : i.zero.length = i.size) (hs : opnd t s = .sl L i.size off es) (hx : (∃ L2 off2, opnd t x = .sl L2 i.size off2 es2) ∨ (es2 = [] ∧ ∃ q, opnd t x = .nil q)) (hL : L ≠ 0) (hLn : L < n)
    (hb : (es.length + es2.length) * i.bytes ≤ 140737488355328) (hb2 : es.length + es2.length ≤ 9223372036854775807) (hone : ∀ e ∈ es2, ∀ y ∈ e, V.one y = true) (he3 : V.killLL L (es ++ es2) = es3) (ht : putV (V.killL L t) o.dst (.sl L i.size 0 es3) = t') (hh : V.killL L h = h')
    (hk : TOps P ops [] Q l t' h' n) : TOps P ops [] Q (o :: l) t h n :=
  TOps.ok h' hg (ht ▸ hh ▸ he3 ▸ ok_append hti hT he hi hz ho hs hx hL hLn hb hb2 hone) hk
end
def fig (d : Nat) : UInt8 := if d < 10 then UInt8.ofNat (48 + d) else UInt8.ofNat (87 + d)
abbrev figT : Str := [48,49,50,51,52,53,54,55,56,57,97,98,99,100,101,102]
def dg (v : Int) : Nat := (v.tmod 10).natAbs
theorem wrap_abs (x : Int) : (IntKind.i64.wrap x).natAbs ≤ x.natAbs := by rw [IntKind.wrap_i64]; omega
theorem quo_abs (v : Int) : (IntKind.i64.wrap (v.tdiv 10)).natAbs ≤ v.natAbs / 10 := by
  have h := wrap_abs (v.tdiv 10)
  rw [Int.natAbs_tdiv] at h
  exact h
def decV (v : Int) (acc : Str) : Str := if h : v = 0 then acc else decV (IntKind.i64.wrap (v.tdiv 10)) (fig (dg v) :: acc)
termination_by v.natAbs
decreasing_by have := quo_abs v; omega
def decimal (v : Int) : Str := if v = 0 then [48] else if v < 0 then 45 :: decV v [] else decV v []
def numS (v : Int) : Str := decimal (if v > 0 then v else 0)
def hexC (c : UInt8) : Str := [fig (c.toNat / 16), fig (c.toNat % 16)]
def hexL (s : Str) : Str := s.flatMap hexC
def hexS (s : Str) : Str := if s.length > 20000 then [] else hexL s
def flB (r : Reg) : Nat := (r.val % 2).toNat
def flN : Nat → List Reg → Nat
  | _, [] => 0
  | i, r :: l => flB r * 2 ^ i + flN (i + 1) l
def mailS (m : Mail) : Str := [32] ++ numS m.uid ++ [32] ++ decimal (flN 0 (m.flags.take 3) : Int) ++ [32] ++ hexS m.text ++ [10]
def boxH (b : Box) : Str := b.name ++ [32] ++ numS b.next ++ [10]
def boxS (b : Box) : Str := boxH b ++ b.mails.flatMap mailS
def saidS (s : Store) : Str := s.boxes.flatMap boxS
def serverS (v : Server) : Str := [115,101,114,118,101,114,32] ++ numS v.kept.store.by_ ++ [32] ++ (if v.up then [117,112] else [100,111,119,110]) ++ [10] ++ saidS v.kept.store
theorem min2 {n : Nat} : (if (n : Int) < 2 then (n : Int) else 2) = ((min 2 n : Nat) : Int) := by split <;> omega
def pairS (p : Pair) (b : Bool) : Str := (p.servers.take 2).flatMap serverS ++ (if b then [97,103,114,101,101,10] else [97,112,97,114,116,10])
end Go.Proofs.YtjhfabimacljhaaGreat.K

/- Loops in which new memory is named in every round; what is appended and stored in a region that draws its order. -/
namespace Go.Proofs.YtjhfabimacljhaaGreat.K
open Go Go.RowKit
set_option linter.unusedVariables false
set_option linter.unusedSimpArgs false
section
variable {P : Program} {ti : Tab} {t t' h : List V} {n n' : Nat} {Q : Exit → List V → List V → Nat → Prop} {ops : Array Oper} {o : Oper} {l : List Oper}
theorem M.le' {base : Base} {σ : Sig} {w : World} {x y : V} {v : Value} (h : V.le x y) (hm : M base σ w x v) : M base σ w y v := by
  rcases h with rfl | rfl | ⟨L, sz, rfl, rfl⟩
  · exact hm
  · exact .any _
  · cases hm with
    | nil _ A => exact .sl L sz 0 [] A 0 (fun _ _ => undef) (Nat.le_refl _) (Nat.zero_le _) (by simp) (.inr (.inl rfl)) (by simp) (by simp)
theorem Ok.cell {c : Code} {d L i o : Nat} {e : List V} (e' : List V) (hd : t[d]? = some (.ptr L i o e)) (hle : leL e e') (ht : t.set d (.ptr L i o e') = t') (hk : Ok P c t' h n Q) : Ok P c t h n Q := by
  subst ht
  intro base w0 hv σ a w g
  refine hk base w0 hv σ a w ⟨⟨by rw [List.length_set]; exact g.ts.1, fun j y u hy hu => ?_⟩, g.hs, g.dfr, g.bel, g.inv⟩
  by_cases hj : d = j
  · subst hj
    rw [List.getElem?_set_self (List.getElem?_eq_some_iff.1 hd).1] at hy
    obtain rfl := Option.some.inj hy
    have hm := g.ts.2 d _ u hd hu
    cases hm with
    | ptr _ _ _ _ ad u4 h4 h5 h6 =>
      have hl := (leL_spec hle).1
      have get : ∀ (c : Nat) y, e'[c]? = some y → ∃ x, e[c]? = some x ∧ V.le x y := by
        intro c y hy
        have hc : c < e.length := by have := (List.getElem?_eq_some_iff.1 hy).1; omega
        exact ⟨e[c], List.getElem?_eq_getElem hc, (leL_spec hle).2 c _ y (List.getElem?_eq_getElem hc) hy⟩
      refine .ptr L i o e' ad u4 (by rw [← hl]; exact h4) (fun c y hy => ?_) (fun c y hy => ?_)
      · obtain ⟨x, hx, _⟩ := get c y hy; exact h5 c x hx
      · obtain ⟨x, hx, hxy⟩ := get c y hy; exact M.le' hxy (h6 c x hx)
  · rw [List.getElem?_set_ne hj] at hy
    exact g.ts.2 j y u hy hu
theorem Ok.loopN {τ : Type} {c : Code} {F : τ → List V} (W : τ → List (Nat × V)) (dead : List Nat) (hF : ∀ x, overW (W x) (overD dead t) = F x) (N : τ → Nat) (p : τ → Prop) (m : τ → Nat) (x : τ) (hle : leL t (F x)) (hn : n ≤ N x) (hp : p x)
    (round : ∀ x, p x → Ok P c (F x) h (N x) (thenQ (fun t' h' n' => ∃ y, leL t' (F y) ∧ h' = h ∧ n' ≤ N y ∧ p y ∧ m y < m x) Q)) : Ok P (.loop c) t h n Q := by
  refine Ok.loop (fun x t' h' n' => leL t' (F x) ∧ h' = h ∧ n' ≤ N x ∧ p x) m x ⟨hle, rfl, hn, hp⟩ ?_
  rintro x t' h' n' ⟨h1, rfl, h3, h4⟩
  refine Ok.bump h3 (Ok.forget (leL_spec h1).1 (leL_spec h1).2 ((round x h4).mono ?_))
  intro e t2 h2 n2 hq
  cases e with
  | normal => obtain ⟨y, a, b, c, d, e⟩ := hq; exact ⟨y, ⟨a, b, c, d⟩, e⟩
  | exit id => exact hq
  | goto l => exact hq
  | ret => exact hq
  | panic ch => exact hq
  | outgrown => exact hq
structure KillF (W : V → V) (L : Nat) : Prop where
  sl : ∀ sz off es, W (.sl L sz off es) = .any
  ptr : ∀ i o e, W (.ptr L i o e) = .any
theorem kill_hom (L : Nat) : Hom (V.kill L) (· = L) :=
  ⟨fun v h => trav_far (fun M sz off es hM => if_neg hM) (fun M i o e hM => if_neg hM) v fun hL => h L hL rfl,
   fun cs => by show V.agg (V.travL _ _ _ cs) = _; rw [travL_eq]; rfl,
   fun M i o e hM => by show killP L M i o (V.travL _ _ _ e) = _; rw [killP, if_neg hM, travL_eq]; rfl,
   fun M sz off es hM => by
    show killS L M sz off (V.travLL _ _ _ es) = _
    rw [killS, if_neg hM, travLL_eq]
    congr 1
    refine List.map_congr_left fun e _ => ?_
    rw [travL_eq]; rfl⟩
theorem kill_killF (L : Nat) : KillF (V.kill L) L :=
  ⟨fun sz off es => by show killS L L sz off _ = _; rw [killS, if_pos rfl], fun i o e => by show killP L L i o _ = _; rw [killP, if_pos rfl]⟩
theorem killLL_far {L : Nat} {es : List (List V)} (h : L ∉ V.labelsLL es) : V.killLL L es = es := travLL_far (L := L) (fun M sz off es hM => if_neg hM) (fun M i o e hM => if_neg hM) es h
theorem OkOps.appendN {T e : TypeId} {i : TInfo} {s x : Operand} {L off : Nat} {es es2 : List (List V)} {s1 b1 : Nat} {z1 : List V} (hti : TabOk P ti) (hg : o.guard = none) (ho : o.op = .call ⟨.builtin .append, #[s, x], #[T, T]⟩) (hT : ti T = some ⟨.slice e, s1, b1, z1⟩) (he : ti e = some i)
    (hi : 0 < i.size) (hz : i.zero.length = i.size) (hs : opnd t s = .sl L i.size off es) (hx : (∃ L2 off2, opnd t x = .sl L2 i.size off2 es2) ∨ (es2 = [] ∧ ∃ q, opnd t x = .nil q)) (hL : L ≠ 0) (hLn : L < n)
    (hb : (es.length + es2.length) * i.bytes ≤ 140737488355328) (hb2 : es.length + es2.length ≤ 9223372036854775807) (hone : ∀ e ∈ es2, ∀ y ∈ e, V.one y = true) (hfar : L ∉ V.labelsLL (es ++ es2)) (ht : ∀ W, Hom W (· = L) → KillF W L → putV (t.map W) o.dst (.sl L i.size 0 (es ++ es2)) = t')
    (hk : OkOps P ops l t' [] n Q) : OkOps P ops (o :: l) t [] n Q :=
  OkOps.append hti hg ho hT he hi hz hs hx hL hLn hb hb2 hone (killLL_far hfar) (by unfold V.killL; rw [travL_eq]; exact ht _ (kill_hom L) (kill_killF L)) rfl hk
theorem TOps.appendN {T e : TypeId} {i : TInfo} {s x : Operand} {L off : Nat} {es es2 : List (List V)} {s1 b1 : Nat} {z1 : List V} (hti : TabOk P ti) (hg : o.guard = none) (ho : o.op = .call ⟨.builtin .append, #[s, x], #[T, T]⟩) (hT : ti T = some ⟨.slice e, s1, b1, z1⟩) (he : ti e = some i)
    (hi : 0 < i.size) (hz : i.zero.length = i.size) (hs : opnd t s = .sl L i.size off es) (hx : (∃ L2 off2, opnd t x = .sl L2 i.size off2 es2) ∨ (es2 = [] ∧ ∃ q, opnd t x = .nil q)) (hL : L ≠ 0) (hLn : L < n)
    (hb : (es.length + es2.length) * i.bytes ≤ 140737488355328) (hb2 : es.length + es2.length ≤ 9223372036854775807) (hone : ∀ e ∈ es2, ∀ y ∈ e, V.one y = true) (hfar : L ∉ V.labelsLL (es ++ es2)) (ht : ∀ W, Hom W (· = L) → KillF W L → putV (t.map W) o.dst (.sl L i.size 0 (es ++ es2)) = t')
    (hk : TOps P ops [] Q l t' [] n) : TOps P ops [] Q (o :: l) t [] n :=
  TOps.append hti hg ho hT he hi hz hs hx hL hLn hb hb2 hone (killLL_far hfar) (by unfold V.killL; rw [travL_eq]; exact ht _ (kill_hom L) (kill_killF L)) rfl hk
theorem TOps.storeN {T : TypeId} {p q : Operand} {L j : Nat} {e' : List V} (hti : TabOk P ti) (hg : o.guard = none) (ho : o.op = .store T p q) (hs : Go.Proofs.YtjhfabimacljhaaGreat.K.storeE (ti T) (opnd t p) (opnd t q) = some (L, j, e')) (hc : ∃ y l, cellsV (opnd t q) = y :: l) (hfree : L ∉ V.labelsL e')
    (ht : ∀ W, Hom W (· = L) → StoreF W L j e' → putV (t.map W) o.dst .any = t') (hk : TOps P ops [] Q l t' [] n) : TOps P ops [] Q (o :: l) t [] n :=
  TOps.storeE hti hg ho hs hc hfree (by unfold V.updL; rw [travL_eq]; exact ht _ (upd_hom L j e') (upd_storeF L j e')) rfl hk
end
theorem rows_snocL {lo : Nat} {α : Type} {f : α → List V} {a : List α} {d : List (List V)} {c : List V} {k m : Nat} (hlo : lo ≤ k + 1) (hi : d.length < a.length) (h1 : V.travLL (fun sz => V.sl 0 sz 0 []) (fun _ sz _ es => V.sl 0 sz 0 es) (fun _ _ o e => V.ptr 0 0 o e) d = (a.take d.length).map f) (h2 : (V.labelsLL d).Nodup) (h3 : ∀ z ∈ V.labelsLL d, lo ≤ z ∧ z < k + 1)
    (hk : 1 ≤ k) (hkm : k ≤ m) (hc1 : V.travL (fun sz => V.sl 0 sz 0 []) (fun _ sz _ es => V.sl 0 sz 0 es) (fun _ _ o e => V.ptr 0 0 o e) c = f a[d.length]) (hc2 : (V.labelsL c).Nodup) (hc3 : ∀ z ∈ V.labelsL c, k + 1 ≤ z ∧ z < m + 1) :
    (d ++ [c]).length ≤ a.length ∧ V.travLL (fun sz => V.sl 0 sz 0 []) (fun _ sz _ es => V.sl 0 sz 0 es) (fun _ _ o e => V.ptr 0 0 o e) (d ++ [c]) = (a.take (d ++ [c]).length).map f ∧ (V.labelsLL (d ++ [c])).Nodup ∧ (∀ z ∈ V.labelsLL (d ++ [c]), lo ≤ z ∧ z < m + 1) ∧ 1 ≤ m := by
  have hl : (d ++ [c]).length = d.length + 1 := by simp
  have hlab : V.labelsLL (d ++ [c]) = V.labelsLL d ++ V.labelsL c := by rw [labelsLL_app]; show V.labelsLL d ++ (V.labelsL c ++ []) = _; rw [List.append_nil]
  refine ⟨by omega, ?_, ?_, ?_, by omega⟩
  · rw [hl, List.take_succ_eq_append_getElem hi, List.map_append, ← h1, travLL_eq, List.map_append, ← travLL_eq]
    show _ ++ [V.travL _ _ _ c] = _
    rw [hc1]; rfl
  · rw [hlab, List.nodup_append]
    exact ⟨h2, hc2, fun y hy z hz h => by have := h3 y hy; have := hc3 z hz; omega⟩
  · intro z hz
    rw [hlab, List.mem_append] at hz
    rcases hz with hz | hz
    · have := h3 z hz; omega
    · have := hc3 z hz; omega
theorem rows_snoc {α : Type} {f : α → List V} {a : List α} {d : List (List V)} {c : List V} {k m : Nat} (hi : d.length < a.length) (h1 : V.travLL (fun sz => V.sl 0 sz 0 []) (fun _ sz _ es => V.sl 0 sz 0 es) (fun _ _ o e => V.ptr 0 0 o e) d = (a.take d.length).map f) (h2 : (V.labelsLL d).Nodup) (h3 : ∀ z ∈ V.labelsLL d, 2 ≤ z ∧ z < k + 1)
    (hk : 1 ≤ k) (hkm : k ≤ m) (hc1 : V.travL (fun sz => V.sl 0 sz 0 []) (fun _ sz _ es => V.sl 0 sz 0 es) (fun _ _ o e => V.ptr 0 0 o e) c = f a[d.length]) (hc2 : (V.labelsL c).Nodup) (hc3 : ∀ z ∈ V.labelsL c, k + 1 ≤ z ∧ z < m + 1) :
    (d ++ [c]).length ≤ a.length ∧ V.travLL (fun sz => V.sl 0 sz 0 []) (fun _ sz _ es => V.sl 0 sz 0 es) (fun _ _ o e => V.ptr 0 0 o e) (d ++ [c]) = (a.take (d ++ [c]).length).map f ∧ (V.labelsLL (d ++ [c])).Nodup ∧ (∀ z ∈ V.labelsLL (d ++ [c]), 2 ≤ z ∧ z < m + 1) ∧ 1 ≤ m := by
  have hl : (d ++ [c]).length = d.length + 1 := by simp
  have hlab : V.labelsLL (d ++ [c]) = V.labelsLL d ++ V.labelsL c := by rw [labelsLL_app]; show V.labelsLL d ++ (V.labelsL c ++ []) = _; rw [List.append_nil]
  refine ⟨by omega, ?_, ?_, ?_, by omega⟩
  · rw [hl, List.take_succ_eq_append_getElem hi, List.map_append, ← h1, travLL_eq, List.map_append, ← travLL_eq]
    show _ ++ [V.travL _ _ _ c] = _
    rw [hc1]; rfl
  · rw [hlab, List.nodup_append]
    exact ⟨h2, hc2, fun y hy z hz h => by have := h3 y hy; have := hc3 z hz; omega⟩
  · intro z hz
    rw [hlab, List.mem_append] at hz
    rcases hz with hz | hz
    · have := h3 z hz; omega
    · have := hc3 z hz; omega
theorem lab_rep {n : Nat} {c : List V} (h : V.labelsL c = []) : V.labelsLL (List.replicate n c) = [] := by
  induction n with
  | zero => rfl
  | succ n ih => rw [List.replicate_succ]; show V.labelsL c ++ V.labelsLL _ = []; rw [h, ih]; rfl
end Go.Proofs.YtjhfabimacljhaaGreat.K

/- Walks: the copies of the program as data of the call's own. Printed by w2.py. -/
namespace Go.Proofs.YtjhfabimacljhaaGreat.K
open Go Go.RowKit
set_option linter.unusedVariables false
set_option linter.unusedSimpArgs false
set_option maxHeartbeats 4000000
set_option maxRecDepth 20000
theorem p_impl_copyRegs (a : List Reg) (ha : a.length ≤ 1048576) : Pure Tryz.prog 260 [.sl 0 3 0 (a.map cReg)] (.sl 0 3 0 (a.map cReg)) := by
 refine Pure.of (by simp [V.dat, V.datL, V.datLL, zz, zf, zy]) (OkCall.enter' tab_ok Tryz.func260 rfl (t := [.sl 0 3 0 (a.map cReg), .any, .any, .any, .any, .any]) rfl ?_)
 refine OQ ?_
 refine EV ?_
 refine ON ?_
 refine OQ ?_
 iterate 2 (refine EV ?_)
 refine OkOps.S rfl (ok_append_nil tab_ok (by simp only [kT] <;> rfl) (by simp only [kT] <;> rfl) (by decide) rfl rfl (by simp only [kE, kT, kL, kC] <;> rfl) (.inl ⟨_, _, by simp only [kE, kT, kL, kC] <;> rfl⟩) (by simp only [List.length_map]; omega) (by simp only [List.length_map]; omega)) (by simp only [kP, kL] <;> rfl) ?_
 refine EV ?_
 refine ON ?_
 refine Ok.ret ?_
 with_reducible repeat (first | refine thenQ_ret ?_ | refine blockQ_ret ?_)
 refine RT ?_
 exact ⟨by simp [V.erase, V.trav, V.travL, V.travLL, packV, zz, zf], by simp [V.labels, V.labelsL, V.labelsLL, packV, zz, zf], by simp [V.labels, V.labelsL, V.labelsLL, packV, zz, zf]⟩
theorem p_impl_copyInts (a : List Int) (ha : a.length ≤ 1048576) : Pure Tryz.prog 225 [.sl 0 1 0 (a.map cZ)] (.sl 0 1 0 (a.map cZ)) := by
 refine Pure.of (by simp [V.dat, V.datL, V.datLL, zz, zf, zy]) (OkCall.enter' tab_ok Tryz.func225 rfl (t := [.sl 0 1 0 (a.map cZ), .any, .any, .any, .any, .any]) rfl ?_)
 refine OQ ?_
 refine EV ?_
 refine ON ?_
 refine OQ ?_
 iterate 2 (refine EV ?_)
 refine OkOps.S rfl (ok_append_nil tab_ok (by simp only [kT] <;> rfl) (by simp only [kT] <;> rfl) (by decide) rfl rfl (by simp only [kE, kT, kL, kC] <;> rfl) (.inl ⟨_, _, by simp only [kE, kT, kL, kC] <;> rfl⟩) (by simp only [List.length_map]; omega) (by simp only [List.length_map]; omega)) (by simp only [kP, kL] <;> rfl) ?_
 refine EV ?_
 refine ON ?_
 refine Ok.ret ?_
 with_reducible repeat (first | refine thenQ_ret ?_ | refine blockQ_ret ?_)
 refine RT ?_
 exact ⟨by simp [V.erase, V.trav, V.travL, V.travLL, packV, zz, zf], by simp [V.labels, V.labelsL, V.labelsLL, packV, zz, zf], by simp [V.labels, V.labelsL, V.labelsLL, packV, zz, zf]⟩
theorem p_spec_l04Copy (a : List Reg) (ha : a.length ≤ 1048576) : Pure Tryz.prog 250 [.sl 0 3 0 (a.map cReg)] (.sl 0 3 0 (a.map cReg)) := by
 refine Pure.of (by simp [V.dat, V.datL, V.datLL, zz, zf, zy]) (OkCall.enter' tab_ok Tryz.func250 rfl (t := [.sl 0 3 0 (a.map cReg), .any, .any, .any, .any, .any]) rfl ?_)
 refine OQ ?_
 refine EV ?_
 refine ON ?_
 refine OQ ?_
 iterate 2 (refine EV ?_)
 refine OkOps.S rfl (ok_append_nil tab_ok (by simp only [kT] <;> rfl) (by simp only [kT] <;> rfl) (by decide) rfl rfl (by simp only [kE, kT, kL, kC] <;> rfl) (.inl ⟨_, _, by simp only [kE, kT, kL, kC] <;> rfl⟩) (by simp only [List.length_map]; omega) (by simp only [List.length_map]; omega)) (by simp only [kP, kL] <;> rfl) ?_
 refine EV ?_
 refine ON ?_
 refine Ok.ret ?_
 with_reducible repeat (first | refine thenQ_ret ?_ | refine blockQ_ret ?_)
 refine RT ?_
 exact ⟨by simp [V.erase, V.trav, V.travL, V.travLL, packV, zz, zf], by simp [V.labels, V.labelsL, V.labelsLL, packV, zz, zf], by simp [V.labels, V.labelsL, V.labelsLL, packV, zz, zf]⟩
theorem p_impl_copyMail (x : Mail) (h : smMail x) : Pure Tryz.prog 258 [.agg (cMail x)] (.agg (cMail x)) := by
 refine Pure.of (by simp [V.dat, V.datL, V.datLL, zz, zf, zy]) (OkCall.enter' tab_ok Tryz.func258 rfl (t := [.agg (cMail x), .any, .any, .any, .any, .any, .any, .any]) rfl ?_)
 refine OQ ?_
 iterate 2 (refine EV ?_)
 refine ON ?_
 refine OQ ?_
 iterate 2 (refine EV ?_)
 obtain ⟨L0a, e0a, hXa, q0a, E0a, M0a, N0a, nda, rga⟩ := ownSReg (2) (x.flags)
 obtain ⟨ma, hma⟩ : ∃ m, 2 + 1 + V.cnt (.sl 0 3 0 ((x.flags).map cReg)) = m + 1 := ⟨2 + V.cnt (.sl 0 3 0 ((x.flags).map cReg)), by omega⟩
 have r0a : ∀ z ∈ V.labels (.sl (L0a + 1) 3 0 e0a), 2 + 1 ≤ z ∧ z < ma + 1 := fun z hz => by have := rga z (by first | exact hz | (simp only [V.labelsL, V.labels, List.mem_append] at hz ⊢; simp only [hz, true_or, or_true])); omega
 refine OkOps.S' rfl (OpS.pure' rfl (by simp only [kE, kT, kL, kC] <;> rfl) (by simp only [kE, kT, kL, kC, V.eraseL, V.erase, V.travL, V.trav, zz, zf, zy] <;> rfl) cl260 (by simp [V.dat, V.datL, V.datLL, zz, zf, zy]) (p_impl_copyRegs x.flags h.1)) hma (by simp only [kP, hXa] <;> rfl) ?_
 refine EV ?_
 refine OkOps.storeN tab_ok rfl rfl (by simp only [kE, kT, kL, kC] <;> rfl) ⟨_, _, by simp only [kE]; rfl⟩ (by first | (simp [V.labelsL, V.labelsLL, V.labels, zz, zf, zy]; done) | (intro h; simp only [V.labelsL, V.labels, List.mem_append, List.append_nil, List.nil_append, List.not_mem_nil, or_false, false_or] at h; first | (have := r0a _ h; omega))) (fun W hW hF => by obtain ⟨z0a, zz0a⟩ := farA hW r0a (fun y h1 h2 h => by omega); have f0 := far0 hW (fun h => by omega); have p1 := fun i o e => hW.ptr (2) i o e (by omega); simp only [List.map_cons, List.map_nil, hW.int, hW.str, hW.bool, hW.any, hW.tup0, hW.agg, hW.nilV, hF.ptr, z0a, zz0a, f0, p1, kP] <;> rfl) ?_
 refine ON ?_
 refine Ok.seq ?_
 refine Ok.drop [4, 5, 6] (by simp only [kover] <;> rfl) ?_
 refine Ok.region ?_
 refine EV ?_
 refine OkOps.storeN tab_ok rfl rfl (by simp only [kE, kT, kL, kC] <;> rfl) ⟨_, _, by simp only [kE]; rfl⟩ (by first | (simp [V.labelsL, V.labelsLL, V.labels, zz, zf, zy]; done) | (intro h; simp only [V.labelsL, V.labels, List.mem_append, List.append_nil, List.nil_append, List.not_mem_nil, or_false, false_or] at h; first | (have := r0a _ h; omega))) (fun W hW hF => by obtain ⟨z0a, zz0a⟩ := farA hW r0a (fun y h1 h2 h => by omega); have f0 := far0 hW (fun h => by omega); have p0 := fun i o e => hW.ptr (1) i o e (by omega); simp only [List.map_cons, List.map_nil, hW.int, hW.str, hW.bool, hW.any, hW.tup0, hW.agg, hW.nilV, hF.ptr, z0a, zz0a, f0, p0, kP] <;> rfl) ?_
 refine ON ?_
 refine Ok.ret ?_
 with_reducible repeat (first | refine thenQ_ret ?_ | refine blockQ_ret ?_)
 refine RT ?_
 exact ⟨(by simp only [packV, V.erase, V.trav, V.travL, V.travLL, zz, zf, zy, E0a] <;> rfl), (by intro L hL; simp only [packV, V.labels, V.labelsL, List.append_nil, List.nil_append] at hL;  first | (have := r0a L hL; omega)), (by simp only [packV, V.labels, V.labelsL, List.append_nil, List.nil_append] at nda ⊢; exact nda)⟩
theorem p_spec_l05Copy (x : Mail) (h : smMail x) : Pure Tryz.prog 236 [.agg (cMail x)] (.agg (cMail x)) := by
 refine Pure.of (by simp [V.dat, V.datL, V.datLL, zz, zf, zy]) (OkCall.enter' tab_ok Tryz.func236 rfl (t := [.agg (cMail x), .any, .any, .any, .any, .any, .any, .any]) rfl ?_)
 refine OQ ?_
 iterate 2 (refine EV ?_)
 refine ON ?_
 refine OQ ?_
 iterate 2 (refine EV ?_)
 obtain ⟨L0a, e0a, hXa, q0a, E0a, M0a, N0a, nda, rga⟩ := ownSReg (2) (x.flags)
 obtain ⟨ma, hma⟩ : ∃ m, 2 + 1 + V.cnt (.sl 0 3 0 ((x.flags).map cReg)) = m + 1 := ⟨2 + V.cnt (.sl 0 3 0 ((x.flags).map cReg)), by omega⟩
 have r0a : ∀ z ∈ V.labels (.sl (L0a + 1) 3 0 e0a), 2 + 1 ≤ z ∧ z < ma + 1 := fun z hz => by have := rga z (by first | exact hz | (simp only [V.labelsL, V.labels, List.mem_append] at hz ⊢; simp only [hz, true_or, or_true])); omega
 refine OkOps.S' rfl (OpS.pure' rfl (by simp only [kE, kT, kL, kC] <;> rfl) (by simp only [kE, kT, kL, kC, V.eraseL, V.erase, V.travL, V.trav, zz, zf, zy] <;> rfl) cl250 (by simp [V.dat, V.datL, V.datLL, zz, zf, zy]) (p_spec_l04Copy x.flags h.1)) hma (by simp only [kP, hXa] <;> rfl) ?_
 refine EV ?_
 refine OkOps.storeN tab_ok rfl rfl (by simp only [kE, kT, kL, kC] <;> rfl) ⟨_, _, by simp only [kE]; rfl⟩ (by first | (simp [V.labelsL, V.labelsLL, V.labels, zz, zf, zy]; done) | (intro h; simp only [V.labelsL, V.labels, List.mem_append, List.append_nil, List.nil_append, List.not_mem_nil, or_false, false_or] at h; first | (have := r0a _ h; omega))) (fun W hW hF => by obtain ⟨z0a, zz0a⟩ := farA hW r0a (fun y h1 h2 h => by omega); have f0 := far0 hW (fun h => by omega); have p1 := fun i o e => hW.ptr (2) i o e (by omega); simp only [List.map_cons, List.map_nil, hW.int, hW.str, hW.bool, hW.any, hW.tup0, hW.agg, hW.nilV, hF.ptr, z0a, zz0a, f0, p1, kP] <;> rfl) ?_
 refine ON ?_
 refine Ok.seq ?_
 refine Ok.drop [4, 5, 6] (by simp only [kover] <;> rfl) ?_
 refine Ok.region ?_
 refine EV ?_
 refine OkOps.storeN tab_ok rfl rfl (by simp only [kE, kT, kL, kC] <;> rfl) ⟨_, _, by simp only [kE]; rfl⟩ (by first | (simp [V.labelsL, V.labelsLL, V.labels, zz, zf, zy]; done) | (intro h; simp only [V.labelsL, V.labels, List.mem_append, List.append_nil, List.nil_append, List.not_mem_nil, or_false, false_or] at h; first | (have := r0a _ h; omega))) (fun W hW hF => by obtain ⟨z0a, zz0a⟩ := farA hW r0a (fun y h1 h2 h => by omega); have f0 := far0 hW (fun h => by omega); have p0 := fun i o e => hW.ptr (1) i o e (by omega); simp only [List.map_cons, List.map_nil, hW.int, hW.str, hW.bool, hW.any, hW.tup0, hW.agg, hW.nilV, hF.ptr, z0a, zz0a, f0, p0, kP] <;> rfl) ?_
 refine ON ?_
 refine Ok.ret ?_
 with_reducible repeat (first | refine thenQ_ret ?_ | refine blockQ_ret ?_)
 refine RT ?_
 exact ⟨(by simp only [packV, V.erase, V.trav, V.travL, V.travLL, zz, zf, zy, E0a] <;> rfl), (by intro L hL; simp only [packV, V.labels, V.labelsL, List.append_nil, List.nil_append] at hL;  first | (have := r0a L hL; omega)), (by simp only [packV, V.labels, V.labelsL, List.append_nil, List.nil_append] at nda ⊢; exact nda)⟩
end Go.Proofs.YtjhfabimacljhaaGreat.K

/- Walks: the copies of the program as data of the call's own, 2. Printed by w2.py. -/
namespace Go.Proofs.YtjhfabimacljhaaGreat.K
open Go Go.RowKit
set_option linter.unusedVariables false
set_option linter.unusedSimpArgs false
set_option maxHeartbeats 4000000
set_option maxRecDepth 20000
theorem p_impl_copyBox (x : Box) (h : smBox x) : Pure Tryz.prog 256 [.agg (cBox x)] (.agg (cBox x)) := by
 refine Pure.of (by simp [V.dat, V.datL, V.datLL, zz, zf, zy]) (OkCall.enter' tab_ok Tryz.func256 rfl (t := [.agg (cBox x), .any, .any, .any, .any, .any, .any, .any, .any, .any, .any, .any, .any, .any, .any, .any, .any, .any, .any, .any, .any, .any, .any, .any, .any, .any, .any, .any, .any]) rfl ?_)
 refine OQ ?_
 iterate 2 (refine EV ?_)
 refine ON ?_
 refine OQ ?_
 iterate 2 (refine EV ?_)
 refine OkOps.storeN tab_ok rfl rfl (by simp only [kE, kT, kL, kC] <;> rfl) ⟨_, _, by simp only [kE]; rfl⟩ (by first | (simp [V.labelsL, V.labelsLL, V.labels, zz, zf, zy]; done) | (intro h; (simp [V.labelsL, V.labels, zz, zf, zy] at h))) (fun W hW hF => by have f0 := far0 hW (fun h => by omega); have p0 := fun i o e => hW.ptr (1) i o e (by omega);  have p1 := fun i o e => hW.ptr (2) i o e (by omega); simp only [List.map_cons, List.map_nil, hW.int, hW.str, hW.bool, hW.any, hW.tup0, hW.agg, hW.nilV, hF.ptr, f0, p0, p1, kP] <;> rfl) ?_
 refine ON ?_
 refine Ok.seq ?_
 refine Ok.drop [6] (by simp only [kover] <;> rfl) ?_
 refine Ok.region ?_
 iterate 2 (refine EV ?_)
 refine OkOps.storeN tab_ok rfl rfl (by simp only [kE, kT, kL, kC] <;> rfl) ⟨_, _, by simp only [kE]; rfl⟩ (by first | (simp [V.labelsL, V.labelsLL, V.labels, zz, zf, zy]; done) | (intro h; (simp [V.labelsL, V.labels, V.labelsLL, zz, zf, zy] at h))) (fun W hW hF => by have f0 := far0 hW (fun h => by omega); have p0 := fun i o e => hW.ptr (1) i o e (by omega);  have p1 := fun i o e => hW.ptr (2) i o e (by omega); simp only [List.map_cons, List.map_nil, hW.int, hW.str, hW.bool, hW.any, hW.tup0, hW.agg, hW.nilV, hF.ptr, f0, p0, p1, kP] <;> rfl) ?_
 refine ON ?_
 refine Ok.seq ?_
 refine Ok.seq ?_
 refine Ok.drop [7, 8] (by simp only [kover] <;> rfl) ?_
 refine Ok.cell (d := 3) [.int .i64 x.gid, .str x.name, .int .i64 x.named.time, .int .i64 x.named.by_, .int .i64 x.next, .sl 4 4 0 [], .sl 0 1 0 (x.gone.map cZ)] rfl ⟨le_rfl' _, le_rfl' _, le_rfl' _, le_rfl' _, le_rfl' _, le_nil 4 _, le_rfl' _, trivial⟩ (by simp only [List.set_cons_zero, List.set_cons_succ] <;> rfl) ?_
 refine Ok.region ?_
 iterate 4 (refine EV ?_)
 refine ON ?_
 refine Ok.block ?_
 refine Ok.loopN (τ := List (List V) × Nat) (fun r => [(3, .ptr 3 0 0 [.int .i64 x.gid, .str x.name, .int .i64 x.named.time, .int .i64 x.named.by_, .int .i64 x.next, .sl 4 4 0 r.1, .sl 0 1 0 (x.gone.map cZ)]), (12, .int .i64 (r.1.length : Int))]) [5, 9, 13, 14, 15, 16, 17, 18, 19, 20, 21, 22, 23] (fun r => by simp only [kover] <;> rfl) (fun r => r.2 + 1) (fun r => r.1.length ≤ x.mails.length ∧ V.travLL (fun sz => V.sl 0 sz 0 []) (fun _ sz _ es => V.sl 0 sz 0 es) (fun _ _ o e => V.ptr 0 0 o e) r.1 = (x.mails.take r.1.length).map cMail ∧ (V.labelsLL r.1).Nodup ∧ (∀ z ∈ V.labelsLL r.1, 5 ≤ z ∧ z < r.2 + 1) ∧ 4 ≤ r.2) (fun r => x.mails.length - r.1.length) ([], 4) (by refine ⟨?_, ?_, ?_, ?_, ?_, ?_, ?_, ?_, ?_, ?_, ?_, ?_, ?_, ?_, ?_, ?_, ?_, ?_, ?_, ?_, ?_, ?_, ?_, ?_, ?_, ?_, ?_, ?_, ?_, trivial⟩ <;> first | exact le_any _ | with_reducible exact le_rfl' _ | (first | exact le_rfl' _ | exact le_nil 1 4) | exact le_rfl' _) (by decide) (⟨Nat.zero_le _, rfl, List.nodup_nil, (fun z hz => by cases hz), Nat.le_refl _⟩) ?_
 rintro ⟨d, k⟩ ⟨h1, h2, h3, h4, h5⟩
 have h1 : d.length ≤ x.mails.length := h1
 have h2 : V.travLL (fun sz => V.sl 0 sz 0 []) (fun _ sz _ es => V.sl 0 sz 0 es) (fun _ _ o e => V.ptr 0 0 o e) d = (x.mails.take d.length).map cMail := h2
 have h3 : (V.labelsLL d).Nodup := h3
 have h4 : ∀ z ∈ V.labelsLL d, 5 ≤ z ∧ z < k + 1 := h4
 have h5 : 4 ≤ k := h5
 refine Ok.seq ?_
 refine Ok.drop [9] (by simp only [kover] <;> rfl) ?_
 refine Ok.region ?_
 refine EV ?_
 refine ON ?_
 refine Ok.seq ?_
 refine Ok.cond (b := _) (by simp only [kE, kT, kL, kC] <;> rfl) (fun hb4 => ?_) (fun hb4 => ?_)
 ·
  try simp only [bsimp] at hb4
  have hi : d.length < x.mails.length := by omega
  refine Ok.skip ?_
  refine Ok.seq ?_
  refine Ok.block ?_
  refine Ok.seq ?_
  refine Ok.drop [13] (by simp only [kover] <;> rfl) ?_
  refine Ok.region ?_
  refine OkOps.ev tab_ok rfl (ev_idx_map (by simp only [kE, kT, kL, kC] <;> rfl) (by simp only [kE, kT, kL, kC] <;> rfl) (by omega) (by simp only [kE, kT, kL, kC] <;> rfl)) (by simp only [kP] <;> rfl) ?_
  iterate 2 (refine EV ?_)
  refine OkOps.storeN tab_ok rfl rfl (by simp only [kE, kT, kL, kC] <;> rfl) ⟨_, _, by simp only [kE]; rfl⟩ (by first | (simp [V.labelsL, V.labelsLL, V.labels, zz, zf, zy]; done) | (intro h; (simp [V.labelsL, V.labels, V.labelsLL, zz, zf, zy] at h))) (fun W hW hF => by have f0 := far0 hW (fun h => by omega); have p9 := fun i o e => hW.ptr 0 i o e (by omega); have wd := hW.far (.sl 4 4 0 d) (fun y hy h => by simp only [V.labels, List.mem_cons] at hy; rcases hy with hy | hy <;> first | omega | (have := h4 y hy; omega)); have w8_2 := hW.far (.sl 0 3 0 ((x.mails[d.length]).flags.map cReg)) (fun z hz h => by have h0 : z = 0 := (show ∀ z ∈ V.labels (.sl 0 3 0 ((x.mails[d.length]).flags.map cReg)), z = 0 by simp [V.labels, zz, zf, zy]) z hz; omega); have p0 := fun i o e => hW.ptr (1) i o e (by omega);  have p1 := fun i o e => hW.ptr (2) i o e (by omega);  have p2 := fun i o e => hW.ptr (3) i o e (by omega); simp only [List.map_cons, List.map_nil, hW.int, hW.str, hW.bool, hW.any, hW.tup0, hW.agg, hW.nilV, hF.ptr, f0, p9, wd, cMail, w8_2, p0, p1, p2, kP] <;> rfl) ?_
  refine ON ?_
  refine Ok.drop [14, 15] (by simp only [kover] <;> rfl) ?_
  refine Ok.drawn 5 29 [] (by kernel_rfl) (by kernel_rfl) rfl ?_
  iterate 3 (refine SV ?_)
  obtain ⟨L2a, e2a, hXa, q2a, E2a, M2a, N2a, nda, rga⟩ := ownMail (k + 1) (x.mails[d.length])
  obtain ⟨ma, hma⟩ : ∃ m, k + 1 + 1 + V.cnt (.agg (cMail (x.mails[d.length]))) = m + 1 := ⟨k + 1 + V.cnt (.agg (cMail (x.mails[d.length]))), by omega⟩
  have r2a : ∀ z ∈ V.labels (.sl (L2a + 1) 3 0 e2a), k + 1 + 1 ≤ z ∧ z < ma + 1 := fun z hz => by have := rga z (by first | exact hz | (simp only [V.labelsL, V.labels, List.mem_append] at hz ⊢; simp only [hz, true_or, or_true])); omega
  refine SOps.S' rfl (OpS.pureM rfl (by simp only [kE, kT, kL, kC] <;> rfl) (by simp only [kE, kT, kL, kC, V.eraseL, V.erase, V.travL, V.trav, zz, zf, zy] <;> rfl) cl258 (by simp [V.dat, V.datL, V.datLL, zz, zf, zy]) (p_impl_copyMail x.mails[d.length] (h.2.1.2 _ (List.getElem_mem hi)))) hma (by simp only [kP, hXa] <;> rfl) ?_
  refine SOps.ev tab_ok rfl (ev_bs (by simp only [kT] <;> rfl) (by simp only [kT] <;> rfl) (by decide) (by decide) (by simp only [kE, kT, kL, kC, List.map_cons, List.map_nil] <;> rfl) (by simp only [kfe, beq_self_eq_true, Bool.and_true, Bool.true_and, decide_true, Nat.zero_add, Nat.lt_add_one, Nat.reduceLT, Nat.reduceAdd, Nat.zero_lt_succ, if_true, ↓reduceIte] <;> rfl)) (by simp only [kP] <;> rfl) ?_
  refine SOps.nil ?_
  refine TOps.appendN tab_ok rfl rfl (by simp only [kT] <;> rfl) (by simp only [kT] <;> rfl) (by decide) rfl (by simp only [kE, kT, kL, kC] <;> rfl) (.inl ⟨_, _, by simp only [kE, kT, kL, kC] <;> rfl⟩) (by omega) (by omega) (by simp only [List.length_cons, List.length_nil]; have := h.2.1.1; omega) (by simp only [List.length_cons, List.length_nil]; have := h.2.1.1; omega) (by simp [V.one]) (by intro h; have u2a : ¬ (4 = L2a + 1) := (fun h => (by (have := r2a _ (List.mem_cons_self ..)); omega)); have v2a : ¬ (4 ∈ V.labelsLL e2a) := (fun h => (by (have := r2a _ (List.mem_cons_of_mem _ h)); omega)); have ud : ¬ (4 ∈ V.labelsLL d) := (fun h => (by (have := h4 _ h); omega)); (revert h; show ¬ _; simp [labelsLL_app, V.labelsLL, V.labelsL, V.labels, zz, zf, zy, u2a, v2a, ud] <;> omega)) (fun W hW hF => by obtain ⟨z2a, zz2a⟩ := farA hW r2a (fun y h1 h2 h => by omega); have f0 := far0 hW (fun h => by omega); have p9 := fun i o e => hW.ptr 0 i o e (by omega); have p8 := fun sz o e => hW.sl (ma + 1) sz o e (by omega); have w8_2 := hW.far (.sl 0 3 0 ((x.mails[d.length]).flags.map cReg)) (fun z hz h => by have h0 : z = 0 := (show ∀ z ∈ V.labels (.sl 0 3 0 ((x.mails[d.length]).flags.map cReg)), z = 0 by simp [V.labels, zz, zf, zy]) z hz; omega); have p0 := fun i o e => hW.ptr (1) i o e (by omega);  have p1 := fun i o e => hW.ptr (2) i o e (by omega);  have p2 := fun i o e => hW.ptr (3) i o e (by omega);  have p3 := fun i o e => hW.ptr (k + 1) i o e (by omega); simp only [List.map_cons, List.map_nil, hW.int, hW.str, hW.bool, hW.any, hW.tup0, hW.agg, hW.nilV, hF.sl, hF.ptr, z2a, zz2a, f0, p9, p8, cMail, w8_2, p0, p1, p2, p3, kP] <;> rfl) ?_
  refine TV ?_
  refine TOps.storeN tab_ok rfl rfl (by simp only [kE, kT, kL, kC] <;> rfl) ⟨_, _, by simp only [kE]; rfl⟩ (by first | (simp [V.labelsL, V.labelsLL, V.labels, zz, zf, zy]; done) | (intro h; have u2a : ¬ (3 = L2a + 1) := (fun h => (by (have := r2a _ (List.mem_cons_self ..)); omega)); have v2a : ¬ (3 ∈ V.labelsLL e2a) := (fun h => (by (have := r2a _ (List.mem_cons_of_mem _ h)); omega)); have ud : ¬ (3 ∈ V.labelsLL d) := (fun h => (by (have := h4 _ h); omega)); (revert h; show ¬ _; simp [labelsLL_app, V.labelsLL, V.labelsL, V.labels, zz, zf, zy, u2a, v2a, ud] <;> omega))) (fun W hW hF => by obtain ⟨z2a, zz2a⟩ := farA hW r2a (fun y h1 h2 h => by omega); have f0 := far0 hW (fun h => by omega); have p9 := fun i o e => hW.ptr 0 i o e (by omega); have p8 := fun sz o e => hW.sl (ma + 1) sz o e (by omega); have p7 := fun sz o e => hW.sl 4 sz o e (by omega); have wl := hW.farLL d (fun y hy h => by have := h4 y hy; omega); have w8_2 := hW.far (.sl 0 3 0 ((x.mails[d.length]).flags.map cReg)) (fun z hz h => by have h0 : z = 0 := (show ∀ z ∈ V.labels (.sl 0 3 0 ((x.mails[d.length]).flags.map cReg)), z = 0 by simp [V.labels, zz, zf, zy]) z hz; omega); have p0 := fun i o e => hW.ptr (1) i o e (by omega);  have p1 := fun i o e => hW.ptr (2) i o e (by omega);  have p3 := fun i o e => hW.ptr (k + 1) i o e (by omega); simp only [List.map_cons, List.map_nil, hW.int, hW.str, hW.bool, hW.any, hW.tup0, hW.agg, hW.nilV, hF.ptr, z2a, zz2a, f0, List.map_append, p9, p8, p7, wl, cMail, w8_2, p0, p1, p3, kP] <;> rfl) ?_
  refine TOps.nil ?_
  refine Ok.drop [16, 17, 18, 19, 20, 21, 22] (by simp only [kover] <;> rfl) ?_
  refine Ok.region ?_
  iterate 2 (refine EV ?_)
  refine ON ?_
  refine ⟨(d ++ [[.int .i64 (x.mails[d.length]).gid, .int .i64 (x.mails[d.length]).uid, .sl (L2a + 1) 3 0 e2a, .str (x.mails[d.length]).text]], ma + 1), ?_, rfl, (by dsimp only; omega), (by obtain ⟨z1, z2, z3, z4, z5⟩ := rows_snocL (k := k) (m := ma + 1) (c := [.int .i64 (x.mails[d.length]).gid, .int .i64 (x.mails[d.length]).uid, .sl (L2a + 1) 3 0 e2a, .str (x.mails[d.length]).text]) (show 5 ≤ k + 1 by omega) hi h2 h3 h4 (by omega) (by omega) (by simp only [V.travL, V.trav, E2a] <;> rfl) nda (fun z hz => by have := rga z hz; omega); exact ⟨z1, z2, z3, z4, by dsimp only; omega⟩), by show x.mails.length - (d ++ [_]).length < x.mails.length - d.length; rw [List.length_append]; simp only [List.length_cons, List.length_nil]; omega⟩
  refine ⟨?_, ?_, ?_, ?_, ?_, ?_, ?_, ?_, ?_, ?_, ?_, ?_, ?_, ?_, ?_, ?_, ?_, ?_, ?_, ?_, ?_, ?_, ?_, ?_, ?_, ?_, ?_, ?_, ?_, trivial⟩ <;> first | exact le_any _ | with_reducible exact le_rfl' _ | (dsimp only; first | exact le_rfl' _ | (rw [wrap_add_one (by have := h.2.1.1; omega)]; refine le_eqm ?_; simp only [List.length_append, List.length_cons, List.length_nil]; done) | (refine le_eqm ?_; simp only [List.length_append, List.length_cons, List.length_nil, Nat.zero_add]; done)) | exact le_rfl' _
 ·
  try simp only [bsimp] at hb4
  have hi : d.length = x.mails.length := by omega
  rw [hi, List.take_length] at h2
  refine Ok.exit ?_
  refine Ok.seq ?_
  refine Ok.drop [13] (by simp only [kover] <;> rfl) ?_
  refine Ok.region ?_
  iterate 2 (refine EV ?_)
  obtain ⟨L0b, e0b, hXb, q0b, E0b, M0b, N0b, ndb, rgb⟩ := ownSInt (k) (x.gone)
  obtain ⟨mb, hmb⟩ : ∃ m, k + 1 + V.cnt (.sl 0 1 0 ((x.gone).map cZ)) = m + 1 := ⟨k + V.cnt (.sl 0 1 0 ((x.gone).map cZ)), by omega⟩
  have r0b : ∀ z ∈ V.labels (.sl (L0b + 1) 1 0 e0b), k + 1 ≤ z ∧ z < mb + 1 := fun z hz => by have := rgb z (by first | exact hz | (simp only [V.labelsL, V.labels, List.mem_append] at hz ⊢; simp only [hz, true_or, or_true])); omega
  refine OkOps.S' rfl (OpS.pure' rfl (by simp only [kE, kT, kL, kC] <;> rfl) (by simp only [kE, kT, kL, kC, V.eraseL, V.erase, V.travL, V.trav, zz, zf, zy] <;> rfl) cl225 (by simp [V.dat, V.datL, V.datLL, zz, zf, zy]) (p_impl_copyInts x.gone h.2.2)) hmb (by simp only [kP, hXb] <;> rfl) ?_
  refine EV ?_
  refine OkOps.storeN tab_ok rfl rfl (by simp only [kE, kT, kL, kC] <;> rfl) ⟨_, _, by simp only [kE]; rfl⟩ (by first | (simp [V.labelsL, V.labelsLL, V.labels, zz, zf, zy]; done) | (intro h; have u0b : ¬ (3 = L0b + 1) := (fun h => (by (have := r0b _ (List.mem_cons_self ..)); omega)); have v0b : ¬ (3 ∈ V.labelsLL e0b) := (fun h => (by (have := r0b _ (List.mem_cons_of_mem _ h)); omega)); have ud : ¬ (3 ∈ V.labelsLL d) := (fun h => (by (have := h4 _ h); omega)); (revert h; show ¬ _; simp [labelsLL_app, V.labelsLL, V.labelsL, V.labels, zz, zf, zy, u0b, v0b, ud] <;> omega))) (fun W hW hF => by obtain ⟨z0b, zz0b⟩ := farA hW r0b (fun y h1 h2 h => by omega); have f0 := far0 hW (fun h => by omega); have p9 := fun i o e => hW.ptr 0 i o e (by omega); have wd := hW.far (.sl 4 4 0 d) (fun y hy h => by simp only [V.labels, List.mem_cons] at hy; rcases hy with hy | hy <;> first | omega | (have := h4 y hy; omega)); have p0 := fun i o e => hW.ptr (1) i o e (by omega);  have p1 := fun i o e => hW.ptr (2) i o e (by omega); simp only [List.map_cons, List.map_nil, hW.int, hW.str, hW.bool, hW.any, hW.tup0, hW.agg, hW.nilV, hF.ptr, z0b, zz0b, f0, p9, wd, cMail, p0, p1, kP] <;> rfl) ?_
  refine ON ?_
  refine Ok.seq ?_
  refine Ok.drop [24, 25, 26, 27] (by simp only [kover] <;> rfl) ?_
  refine Ok.region ?_
  refine EV ?_
  refine OkOps.storeN tab_ok rfl rfl (by simp only [kE, kT, kL, kC] <;> rfl) ⟨_, _, by simp only [kE]; rfl⟩ (by first | (simp [V.labelsL, V.labelsLL, V.labels, zz, zf, zy]; done) | (intro h; have u0b : ¬ (2 = L0b + 1) := (fun h => (by (have := r0b _ (List.mem_cons_self ..)); omega)); have v0b : ¬ (2 ∈ V.labelsLL e0b) := (fun h => (by (have := r0b _ (List.mem_cons_of_mem _ h)); omega)); have ud : ¬ (2 ∈ V.labelsLL d) := (fun h => (by (have := h4 _ h); omega)); (revert h; show ¬ _; simp [labelsLL_app, V.labelsLL, V.labelsL, V.labels, zz, zf, zy, u0b, v0b, ud] <;> omega))) (fun W hW hF => by obtain ⟨z0b, zz0b⟩ := farA hW r0b (fun y h1 h2 h => by omega); have f0 := far0 hW (fun h => by omega); have p9 := fun i o e => hW.ptr 0 i o e (by omega); have wd := hW.far (.sl 4 4 0 d) (fun y hy h => by simp only [V.labels, List.mem_cons] at hy; rcases hy with hy | hy <;> first | omega | (have := h4 y hy; omega)); have p0 := fun i o e => hW.ptr (1) i o e (by omega);  have p2 := fun i o e => hW.ptr (3) i o e (by omega); simp only [List.map_cons, List.map_nil, hW.int, hW.str, hW.bool, hW.any, hW.tup0, hW.agg, hW.nilV, hF.ptr, z0b, zz0b, f0, p9, wd, cMail, p0, p2, kP] <;> rfl) ?_
  refine ON ?_
  refine Ok.ret ?_
  with_reducible repeat (first | refine thenQ_ret ?_ | refine blockQ_ret ?_)
  refine RT ?_
  exact ⟨(by simp only [packV, V.erase, V.trav, V.travL, V.travLL, zz, zf, zy, h2, E0b] <;> rfl), (by intro L hL; simp only [packV, V.labels, V.labelsL, List.append_nil, List.nil_append, List.mem_append, List.mem_cons] at hL; rcases hL with (hL | hL) | hL <;> first | omega | (have := h4 L hL; omega) | (have := r0b L (by simpa only [V.labels, List.mem_cons] using hL); omega)), (by simp only [packV, V.labels, V.labelsL, List.append_nil, List.nil_append]; rw [List.nodup_append]; exact ⟨List.nodup_cons.2 ⟨fun h => by (have := h4 4 h); omega, h3⟩, ndb, fun y hy z hz h => by (have q2 := r0b z hz); (rcases List.mem_cons.1 hy with hy | hy); omega; (have := h4 y hy; omega)⟩)⟩
theorem p_impl_copyBoxes (a : List Box) (ha : a.length ≤ 1048576) (hz : ∀ z ∈ a, smBox z) : Pure Tryz.prog 246 [.sl 0 7 0 (a.map cBox)] (.sl 0 7 0 (a.map cBox)) := by
 refine Pure.of (by simp [V.dat, V.datL, V.datLL, zz, zf, zy]) (OkCall.enter' tab_ok Tryz.func246 rfl (t := [.sl 0 7 0 (a.map cBox), .any, .any, .any, .any, .any, .any, .any, .any, .any, .any, .any, .any, .any, .any, .any, .any, .any, .any, .any]) rfl ?_)
 refine OQ ?_
 refine EV ?_
 refine ON ?_
 refine OQ ?_
 iterate 2 (refine EV ?_)
 refine ON ?_
 refine Ok.seq ?_
 refine Ok.seq ?_
 refine Ok.drop [6] (by simp only [kover] <;> rfl) ?_
 refine Ok.region ?_
 iterate 3 (refine EV ?_)
 refine ON ?_
 refine Ok.block ?_
 refine Ok.loopN (τ := List (List V) × Nat) (fun x => [(3, .sl 1 7 0 x.1), (9, .int .i64 (x.1.length : Int))]) [5, 10, 11, 12, 13, 14, 15, 16, 17, 18] (fun x => by simp only [kover] <;> rfl) (fun x => x.2 + 1) (fun x => x.1.length ≤ a.length ∧ V.travLL (fun sz => V.sl 0 sz 0 []) (fun _ sz _ es => V.sl 0 sz 0 es) (fun _ _ o e => V.ptr 0 0 o e) x.1 = (a.take x.1.length).map cBox ∧ (V.labelsLL x.1).Nodup ∧ (∀ z ∈ V.labelsLL x.1, 2 ≤ z ∧ z < x.2 + 1) ∧ 1 ≤ x.2) (fun x => a.length - x.1.length) ([], 1) (by refine ⟨?_, ?_, ?_, ?_, ?_, ?_, ?_, ?_, ?_, ?_, ?_, ?_, ?_, ?_, ?_, ?_, ?_, ?_, ?_, ?_, trivial⟩ <;> first | exact le_any _ | with_reducible exact le_rfl' _ | (first | exact le_rfl' _ | exact le_nil 1 7) | exact le_rfl' _) (by decide) (⟨Nat.zero_le _, rfl, List.nodup_nil, (fun z hz => by cases hz), Nat.le_refl _⟩) ?_
 rintro ⟨d, k⟩ ⟨h1, h2, h3, h4, h5⟩
 have h1 : d.length ≤ a.length := h1
 have h2 : V.travLL (fun sz => V.sl 0 sz 0 []) (fun _ sz _ es => V.sl 0 sz 0 es) (fun _ _ o e => V.ptr 0 0 o e) d = (a.take d.length).map cBox := h2
 have h3 : (V.labelsLL d).Nodup := h3
 have h4 : ∀ z ∈ V.labelsLL d, 2 ≤ z ∧ z < k + 1 := h4
 have h5 : 1 ≤ k := h5
 refine OQ ?_
 refine EV ?_
 refine ON ?_
 refine Ok.seq ?_
 refine Ok.cond (b := _) (by simp only [kE, kT, kL, kC] <;> rfl) (fun hb3 => ?_) (fun hb3 => ?_)
 ·
  try simp only [bsimp] at hb3
  have hi : d.length < a.length := by omega
  refine Ok.skip ?_
  refine Ok.seq ?_
  refine Ok.block ?_
  refine Ok.seq ?_
  refine Ok.drop [10] (by simp only [kover] <;> rfl) ?_
  refine Ok.region ?_
  refine OkOps.ev tab_ok rfl (ev_idx_map (by simp only [kE, kT, kL, kC] <;> rfl) (by simp only [kE, kT, kL, kC] <;> rfl) (by omega) (by simp only [kE, kT, kL, kC] <;> rfl)) (by simp only [kP] <;> rfl) ?_
  iterate 2 (refine EV ?_)
  refine OkOps.storeN tab_ok rfl rfl (by simp only [kE, kT, kL, kC] <;> rfl) ⟨_, _, by simp only [kE]; rfl⟩ (by first | (simp [V.labelsL, V.labelsLL, V.labels, zz, zf, zy]; done) | (intro h; have := (show ∀ y ∈ V.labelsL (cBox a[d.length]), y = 0 by simp [V.labelsL, V.labels, zz, zf, zy, or_imp, forall_and]) _ h; omega)) (fun W hW hF => by have f0 := far0 hW (fun h => by omega); have wd := hW.far (.sl 1 7 0 d) (fun y hy h => by simp only [V.labels, List.mem_cons] at hy; rcases hy with hy | hy <;> first | omega | (have := h4 y hy; omega)); have p9 := fun i o e => hW.ptr 0 i o e (by omega); simp only [List.map_cons, List.map_nil, hW.int, hW.str, hW.bool, hW.any, hW.tup0, hW.agg, hW.nilV, hF.ptr, f0, wd, p9, cBox, kP] <;> rfl) ?_
  refine ON ?_
  refine Ok.drop [11, 12] (by simp only [kover] <;> rfl) ?_
  refine Ok.region ?_
  iterate 2 (refine EV ?_)
  obtain ⟨L5a, e5a, L6a, e6a, hXa, q5a, E5a, M5a, N5a, q6a, E6a, M6a, N6a, nda, rga⟩ := ownBox (k + 1) (a[d.length])
  obtain ⟨ma, hma⟩ : ∃ m, k + 1 + 1 + V.cnt (.agg (cBox (a[d.length]))) = m + 1 := ⟨k + 1 + V.cnt (.agg (cBox (a[d.length]))), by omega⟩
  have r5a : ∀ z ∈ V.labels (.sl (L5a + 1) 4 0 e5a), k + 1 + 1 ≤ z ∧ z < ma + 1 := fun z hz => by have := rga z (by first | exact hz | (simp only [V.labelsL, V.labels, List.mem_append] at hz ⊢; simp only [hz, true_or, or_true])); omega
  have r6a : ∀ z ∈ V.labels (.sl (L6a + 1) 1 0 e6a), k + 1 + 1 ≤ z ∧ z < ma + 1 := fun z hz => by have := rga z (by first | exact hz | (simp only [V.labelsL, V.labels, List.mem_append] at hz ⊢; simp only [hz, true_or, or_true])); omega
  refine OkOps.S' rfl (OpS.pure' rfl (by simp only [kE, kT, kL, kC] <;> rfl) (by simp only [kE, kT, kL, kC, V.eraseL, V.erase, V.travL, V.trav, zz, zf, zy] <;> rfl) cl256 (by simp [V.dat, V.datL, V.datLL, zz, zf, zy]) (p_impl_copyBox a[d.length] (hz _ (List.getElem_mem hi)))) hma (by simp only [kP, hXa] <;> rfl) ?_
  refine OkOps.ev tab_ok rfl (ev_bs (by simp only [kT] <;> rfl) (by simp only [kT] <;> rfl) (by decide) (by decide) (by simp only [kE, kT, kL, kC, List.map_cons, List.map_nil] <;> rfl) (by simp only [kfe, beq_self_eq_true, Bool.and_true, Bool.true_and, decide_true, Nat.zero_add, Nat.lt_add_one, Nat.reduceLT, Nat.reduceAdd, Nat.zero_lt_succ, if_true, ↓reduceIte] <;> rfl)) (by simp only [kP] <;> rfl) ?_
  refine OkOps.appendN tab_ok rfl rfl (by simp only [kT] <;> rfl) (by simp only [kT] <;> rfl) (by decide) rfl (by simp only [kE, kT, kL, kC] <;> rfl) (.inl ⟨_, _, by simp only [kE, kT, kL, kC] <;> rfl⟩) (by omega) (by omega) (by simp only [List.length_cons, List.length_nil]; omega) (by simp only [List.length_cons, List.length_nil]; omega) (by simp [V.one]) (by intro h; simp only [labelsLL_app, V.labelsLL, V.labelsL, V.labels, List.mem_append, List.append_nil, List.nil_append, List.not_mem_nil, or_false, false_or] at h; rcases h with h | h | h <;> first | (have := h4 1 h; omega) | (have := r5a 1 h; omega) | (have := r6a 1 h; omega)) (fun W hW hF => by obtain ⟨z5a, zz5a⟩ := farA hW r5a (fun y h1 h2 h => by omega); obtain ⟨z6a, zz6a⟩ := farA hW r6a (fun y h1 h2 h => by omega); have f0 := far0 hW (fun h => by omega); have p9 := fun i o e => hW.ptr 0 i o e (by omega); have p8 := fun sz o e => hW.sl (ma + 1) sz o e (by omega); have p0 := fun i o e => hW.ptr (k + 1) i o e (by omega); simp only [List.map_cons, List.map_nil, hW.int, hW.str, hW.bool, hW.any, hW.tup0, hW.agg, hW.nilV, hF.sl, hF.ptr, z5a, zz5a, z6a, zz6a, f0, p9, p8, cBox, p0, kP] <;> rfl) ?_
  refine EV ?_
  refine ON ?_
  refine Ok.drop [13, 14, 15, 16, 17] (by simp only [kover] <;> rfl) ?_
  refine Ok.region ?_
  iterate 2 (refine EV ?_)
  refine ON ?_
  refine ⟨(d ++ [[.int .i64 (a[d.length]).gid, .str (a[d.length]).name, .int .i64 (a[d.length]).named.time, .int .i64 (a[d.length]).named.by_, .int .i64 (a[d.length]).next, .sl (L5a + 1) 4 0 e5a, .sl (L6a + 1) 1 0 e6a]], ma + 1), ?_, rfl, (by dsimp only; omega), rows_snoc hi h2 h3 h4 h5 (by omega) (by simp only [V.travL, V.trav, E5a, E6a] <;> rfl) nda (fun z hz => by have := rga z hz; omega), by show a.length - (d ++ [_]).length < a.length - d.length; rw [List.length_append]; simp only [List.length_cons, List.length_nil]; omega⟩
  refine ⟨?_, ?_, ?_, ?_, ?_, ?_, ?_, ?_, ?_, ?_, ?_, ?_, ?_, ?_, ?_, ?_, ?_, ?_, ?_, ?_, trivial⟩ <;> first | exact le_any _ | with_reducible exact le_rfl' _ | (dsimp only; first | exact le_rfl' _ | (rw [wrap_add_one (by omega)]; refine le_eqm ?_; simp only [List.length_append, List.length_cons, List.length_nil]; done) | (refine le_eqm ?_; simp only [List.length_append, List.length_cons, List.length_nil, Nat.zero_add]; done)) | exact le_rfl' _
 ·
  try simp only [bsimp] at hb3
  have hi : d.length = a.length := by omega
  rw [hi, List.take_length] at h2
  refine Ok.exit ?_
  refine Ok.seq ?_
  refine Ok.drop [10] (by simp only [kover] <;> rfl) ?_
  refine Ok.region ?_
  iterate 2 (refine EV ?_)
  refine ON ?_
  refine Ok.ret ?_
  with_reducible repeat (first | refine thenQ_ret ?_ | refine blockQ_ret ?_)
  refine RT ?_
  exact ⟨(by simp only [packV, V.erase, V.trav, V.travLL, zz, zf, zy, h2] <;> rfl), (by intro L hL; simp only [packV, V.labels, List.mem_cons] at hL; rcases hL with hL | hL <;> first | omega | (have := h4 L hL; omega)), (by simp only [packV, V.labels, List.nodup_cons]; exact ⟨fun h => by have := h4 1 h; omega, h3⟩)⟩
theorem p_spec_l06Copy (x : Box) (h : smBox x) : Pure Tryz.prog 208 [.agg (cBox x)] (.agg (cBox x)) := by
 refine Pure.of (by simp [V.dat, V.datL, V.datLL, zz, zf, zy]) (OkCall.enter' tab_ok Tryz.func208 rfl (t := [.agg (cBox x), .any, .any, .any, .any, .any, .any, .any, .any, .any, .any, .any, .any, .any, .any, .any, .any, .any, .any, .any, .any, .any, .any, .any, .any, .any, .any, .any, .any, .any, .any, .any]) rfl ?_)
 refine OQ ?_
 iterate 2 (refine EV ?_)
 refine ON ?_
 refine OQ ?_
 iterate 2 (refine EV ?_)
 refine OkOps.storeN tab_ok rfl rfl (by simp only [kE, kT, kL, kC] <;> rfl) ⟨_, _, by simp only [kE]; rfl⟩ (by first | (simp [V.labelsL, V.labelsLL, V.labels, zz, zf, zy]; done) | (intro h; (simp [V.labelsL, V.labels, zz, zf, zy] at h))) (fun W hW hF => by have f0 := far0 hW (fun h => by omega); have p0 := fun i o e => hW.ptr (1) i o e (by omega);  have p1 := fun i o e => hW.ptr (2) i o e (by omega); simp only [List.map_cons, List.map_nil, hW.int, hW.str, hW.bool, hW.any, hW.tup0, hW.agg, hW.nilV, hF.ptr, f0, p0, p1, kP] <;> rfl) ?_
 refine ON ?_
 refine Ok.seq ?_
 refine Ok.drop [5] (by simp only [kover] <;> rfl) ?_
 refine Ok.region ?_
 iterate 2 (refine EV ?_)
 refine OkOps.storeN tab_ok rfl rfl (by simp only [kE, kT, kL, kC] <;> rfl) ⟨_, _, by simp only [kE]; rfl⟩ (by first | (simp [V.labelsL, V.labelsLL, V.labels, zz, zf, zy]; done) | (intro h; (simp [V.labelsL, V.labels, V.labelsLL, zz, zf, zy] at h))) (fun W hW hF => by have f0 := far0 hW (fun h => by omega); have p0 := fun i o e => hW.ptr (1) i o e (by omega);  have p1 := fun i o e => hW.ptr (2) i o e (by omega); simp only [List.map_cons, List.map_nil, hW.int, hW.str, hW.bool, hW.any, hW.tup0, hW.agg, hW.nilV, hF.ptr, f0, p0, p1, kP] <;> rfl) ?_
 refine ON ?_
 refine Ok.seq ?_
 refine Ok.seq ?_
 refine Ok.drop [6, 7] (by simp only [kover] <;> rfl) ?_
 refine Ok.cell (d := 3) [.int .i64 x.gid, .str x.name, .int .i64 x.named.time, .int .i64 x.named.by_, .int .i64 x.next, .sl 4 4 0 [], .sl 0 1 0 (x.gone.map cZ)] rfl ⟨le_rfl' _, le_rfl' _, le_rfl' _, le_rfl' _, le_rfl' _, le_nil 4 _, le_rfl' _, trivial⟩ (by simp only [List.set_cons_zero, List.set_cons_succ] <;> rfl) ?_
 refine Ok.region ?_
 refine EV ?_
 refine ON ?_
 refine Ok.block ?_
 refine Ok.loopN (τ := List (List V) × Nat) (fun r => [(3, .ptr 3 0 0 [.int .i64 x.gid, .str x.name, .int .i64 x.named.time, .int .i64 x.named.by_, .int .i64 x.next, .sl 4 4 0 r.1, .sl 0 1 0 (x.gone.map cZ)]), (4, .int .i64 (r.1.length : Int))]) [8, 9, 10, 11, 12, 13, 14, 15, 16, 17, 18, 19, 20, 21, 22, 23, 24, 25] (fun r => by simp only [kover] <;> rfl) (fun r => r.2 + 1) (fun r => r.1.length ≤ x.mails.length ∧ V.travLL (fun sz => V.sl 0 sz 0 []) (fun _ sz _ es => V.sl 0 sz 0 es) (fun _ _ o e => V.ptr 0 0 o e) r.1 = (x.mails.take r.1.length).map cMail ∧ (V.labelsLL r.1).Nodup ∧ (∀ z ∈ V.labelsLL r.1, 5 ≤ z ∧ z < r.2 + 1) ∧ 4 ≤ r.2) (fun r => x.mails.length - r.1.length) ([], 4) (by refine ⟨?_, ?_, ?_, ?_, ?_, ?_, ?_, ?_, ?_, ?_, ?_, ?_, ?_, ?_, ?_, ?_, ?_, ?_, ?_, ?_, ?_, ?_, ?_, ?_, ?_, ?_, ?_, ?_, ?_, ?_, ?_, ?_, trivial⟩ <;> first | exact le_any _ | with_reducible exact le_rfl' _ | (first | exact le_rfl' _ | exact le_nil 1 4) | exact le_rfl' _) (by decide) (⟨Nat.zero_le _, rfl, List.nodup_nil, (fun z hz => by cases hz), Nat.le_refl _⟩) ?_
 rintro ⟨d, k⟩ ⟨h1, h2, h3, h4, h5⟩
 have h1 : d.length ≤ x.mails.length := h1
 have h2 : V.travLL (fun sz => V.sl 0 sz 0 []) (fun _ sz _ es => V.sl 0 sz 0 es) (fun _ _ o e => V.ptr 0 0 o e) d = (x.mails.take d.length).map cMail := h2
 have h3 : (V.labelsLL d).Nodup := h3
 have h4 : ∀ z ∈ V.labelsLL d, 5 ≤ z ∧ z < k + 1 := h4
 have h5 : 4 ≤ k := h5
 refine Ok.seq ?_
 refine OQ ?_
 iterate 5 (refine EV ?_)
 refine ON ?_
 refine Ok.cond (b := _) (by simp only [kE, kT, kL, kC] <;> rfl) (fun hb4 => ?_) (fun hb4 => ?_)
 ·
  try simp only [bsimp] at hb4
  have hi : d.length < x.mails.length := by omega
  refine Ok.skip ?_
  refine Ok.seq ?_
  refine Ok.block ?_
  refine Ok.drop [8, 9, 10, 11, 12] (by simp only [kover] <;> rfl) ?_
  refine Ok.drawn 9 32 [] (by kernel_rfl) (by kernel_rfl) rfl ?_
  iterate 5 (refine SV ?_)
  refine SOps.ev tab_ok rfl (ev_idx_map (by simp only [kE, kT, kL, kC] <;> rfl) (by simp only [kE, kT, kL, kC] <;> rfl) (by omega) (by simp only [kE, kT, kL, kC] <;> rfl)) (by simp only [kP] <;> rfl) ?_
  refine SV ?_
  obtain ⟨L2a, e2a, hXa, q2a, E2a, M2a, N2a, nda, rga⟩ := ownMail (k) (x.mails[d.length])
  obtain ⟨ma, hma⟩ : ∃ m, k + 1 + V.cnt (.agg (cMail (x.mails[d.length]))) = m + 1 := ⟨k + V.cnt (.agg (cMail (x.mails[d.length]))), by omega⟩
  have r2a : ∀ z ∈ V.labels (.sl (L2a + 1) 3 0 e2a), k + 1 ≤ z ∧ z < ma + 1 := fun z hz => by have := rga z (by first | exact hz | (simp only [V.labelsL, V.labels, List.mem_append] at hz ⊢; simp only [hz, true_or, or_true])); omega
  refine SOps.S' rfl (OpS.pureM rfl (by simp only [kE, kT, kL, kC] <;> rfl) (by simp only [kE, kT, kL, kC, V.eraseL, V.erase, V.travL, V.trav, zz, zf, zy] <;> rfl) cl236 (by simp [V.dat, V.datL, V.datLL, zz, zf, zy]) (p_spec_l05Copy x.mails[d.length] (h.2.1.2 _ (List.getElem_mem hi)))) hma (by simp only [kP, hXa] <;> rfl) ?_
  refine SOps.ev tab_ok rfl (ev_bs (by simp only [kT] <;> rfl) (by simp only [kT] <;> rfl) (by decide) (by decide) (by simp only [kE, kT, kL, kC, List.map_cons, List.map_nil] <;> rfl) (by simp only [kfe, beq_self_eq_true, Bool.and_true, Bool.true_and, decide_true, Nat.zero_add, Nat.lt_add_one, Nat.reduceLT, Nat.reduceAdd, Nat.zero_lt_succ, if_true, ↓reduceIte] <;> rfl)) (by simp only [kP] <;> rfl) ?_
  refine SOps.nil ?_
  refine TOps.appendN tab_ok rfl rfl (by simp only [kT] <;> rfl) (by simp only [kT] <;> rfl) (by decide) rfl (by simp only [kE, kT, kL, kC] <;> rfl) (.inl ⟨_, _, by simp only [kE, kT, kL, kC] <;> rfl⟩) (by omega) (by omega) (by simp only [List.length_cons, List.length_nil]; have := h.2.1.1; omega) (by simp only [List.length_cons, List.length_nil]; have := h.2.1.1; omega) (by simp [V.one]) (by intro h; have u2a : ¬ (4 = L2a + 1) := (fun h => (by (have := r2a _ (List.mem_cons_self ..)); omega)); have v2a : ¬ (4 ∈ V.labelsLL e2a) := (fun h => (by (have := r2a _ (List.mem_cons_of_mem _ h)); omega)); have ud : ¬ (4 ∈ V.labelsLL d) := (fun h => (by (have := h4 _ h); omega)); (revert h; show ¬ _; simp [labelsLL_app, V.labelsLL, V.labelsL, V.labels, zz, zf, zy, u2a, v2a, ud] <;> omega)) (fun W hW hF => by obtain ⟨z2a, zz2a⟩ := farA hW r2a (fun y h1 h2 h => by omega); have f0 := far0 hW (fun h => by omega); have p9 := fun i o e => hW.ptr 0 i o e (by omega); have p8 := fun sz o e => hW.sl (ma + 1) sz o e (by omega); have w8_2 := hW.far (.sl 0 3 0 ((x.mails[d.length]).flags.map cReg)) (fun z hz h => by have h0 : z = 0 := (show ∀ z ∈ V.labels (.sl 0 3 0 ((x.mails[d.length]).flags.map cReg)), z = 0 by simp [V.labels, zz, zf, zy]) z hz; omega); have p0 := fun i o e => hW.ptr (1) i o e (by omega);  have p1 := fun i o e => hW.ptr (2) i o e (by omega);  have p2 := fun i o e => hW.ptr (3) i o e (by omega); simp only [List.map_cons, List.map_nil, hW.int, hW.str, hW.bool, hW.any, hW.tup0, hW.agg, hW.nilV, hF.sl, hF.ptr, z2a, zz2a, f0, p9, p8, cMail, w8_2, p0, p1, p2, kP] <;> rfl) ?_
  refine TV ?_
  refine TOps.storeN tab_ok rfl rfl (by simp only [kE, kT, kL, kC] <;> rfl) ⟨_, _, by simp only [kE]; rfl⟩ (by first | (simp [V.labelsL, V.labelsLL, V.labels, zz, zf, zy]; done) | (intro h; have u2a : ¬ (3 = L2a + 1) := (fun h => (by (have := r2a _ (List.mem_cons_self ..)); omega)); have v2a : ¬ (3 ∈ V.labelsLL e2a) := (fun h => (by (have := r2a _ (List.mem_cons_of_mem _ h)); omega)); have ud : ¬ (3 ∈ V.labelsLL d) := (fun h => (by (have := h4 _ h); omega)); (revert h; show ¬ _; simp [labelsLL_app, V.labelsLL, V.labelsL, V.labels, zz, zf, zy, u2a, v2a, ud] <;> omega))) (fun W hW hF => by obtain ⟨z2a, zz2a⟩ := farA hW r2a (fun y h1 h2 h => by omega); have f0 := far0 hW (fun h => by omega); have p9 := fun i o e => hW.ptr 0 i o e (by omega); have p8 := fun sz o e => hW.sl (ma + 1) sz o e (by omega); have p7 := fun sz o e => hW.sl 4 sz o e (by omega); have wl := hW.farLL d (fun y hy h => by have := h4 y hy; omega); have w8_2 := hW.far (.sl 0 3 0 ((x.mails[d.length]).flags.map cReg)) (fun z hz h => by have h0 : z = 0 := (show ∀ z ∈ V.labels (.sl 0 3 0 ((x.mails[d.length]).flags.map cReg)), z = 0 by simp [V.labels, zz, zf, zy]) z hz; omega); have p0 := fun i o e => hW.ptr (1) i o e (by omega);  have p1 := fun i o e => hW.ptr (2) i o e (by omega); simp only [List.map_cons, List.map_nil, hW.int, hW.str, hW.bool, hW.any, hW.tup0, hW.agg, hW.nilV, hF.ptr, z2a, zz2a, f0, List.map_append, p9, p8, p7, wl, cMail, w8_2, p0, p1, kP] <;> rfl) ?_
  refine TOps.nil ?_
  refine Ok.drop [15, 16, 17, 18, 19, 20, 21, 22, 23, 24, 25] (by simp only [kover] <;> rfl) ?_
  refine Ok.region ?_
  iterate 3 (refine EV ?_)
  refine ON ?_
  refine ⟨(d ++ [[.int .i64 (x.mails[d.length]).gid, .int .i64 (x.mails[d.length]).uid, .sl (L2a + 1) 3 0 e2a, .str (x.mails[d.length]).text]], ma + 1), ?_, rfl, (by dsimp only; omega), (by obtain ⟨z1, z2, z3, z4, z5⟩ := rows_snocL (k := k) (m := ma + 1) (c := [.int .i64 (x.mails[d.length]).gid, .int .i64 (x.mails[d.length]).uid, .sl (L2a + 1) 3 0 e2a, .str (x.mails[d.length]).text]) (show 5 ≤ k + 1 by omega) hi h2 h3 h4 (by omega) (by omega) (by simp only [V.travL, V.trav, E2a] <;> rfl) nda (fun z hz => by have := rga z hz; omega); exact ⟨z1, z2, z3, z4, by dsimp only; omega⟩), by show x.mails.length - (d ++ [_]).length < x.mails.length - d.length; rw [List.length_append]; simp only [List.length_cons, List.length_nil]; omega⟩
  refine ⟨?_, ?_, ?_, ?_, ?_, ?_, ?_, ?_, ?_, ?_, ?_, ?_, ?_, ?_, ?_, ?_, ?_, ?_, ?_, ?_, ?_, ?_, ?_, ?_, ?_, ?_, ?_, ?_, ?_, ?_, ?_, ?_, trivial⟩ <;> first | exact le_any _ | with_reducible exact le_rfl' _ | (dsimp only; first | exact le_rfl' _ | (rw [wrap_add_one (by have := h.2.1.1; omega)]; refine le_eqm ?_; simp only [List.length_append, List.length_cons, List.length_nil]; done) | (refine le_eqm ?_; simp only [List.length_append, List.length_cons, List.length_nil, Nat.zero_add]; done)) | exact le_rfl' _
 ·
  try simp only [bsimp] at hb4
  have hi : d.length = x.mails.length := by omega
  rw [hi, List.take_length] at h2
  refine Ok.exit ?_
  refine Ok.seq ?_
  refine Ok.drop [8, 9, 10, 11, 12] (by simp only [kover] <;> rfl) ?_
  refine Ok.region ?_
  iterate 3 (refine EV ?_)
  refine OkOps.S rfl (ok_append_nil tab_ok (by simp only [kT] <;> rfl) (by simp only [kT] <;> rfl) (by decide) rfl rfl (by simp only [kE, kT, kL, kC] <;> rfl) (.inl ⟨_, _, by simp only [kE, kT, kL, kC] <;> rfl⟩) (by simp only [List.length_map]; have := h.2.2; omega) (by simp only [List.length_map]; have := h.2.2; omega)) (by simp only [kP, kL] <;> rfl) ?_
  refine EV ?_
  refine OkOps.storeN tab_ok rfl rfl (by simp only [kE, kT, kL, kC] <;> rfl) ⟨_, _, by simp only [kE]; rfl⟩ (by first | (simp [V.labelsL, V.labelsLL, V.labels, zz, zf, zy]; done) | (intro h; have ud : ¬ (3 ∈ V.labelsLL d) := (fun h => (by (have := h4 _ h); omega)); (revert h; show ¬ _; simp [labelsLL_app, V.labelsLL, V.labelsL, V.labels, zz, zf, zy, ud] <;> omega))) (fun W hW hF => by have f0 := far0 hW (fun h => by omega); have p9 := fun i o e => hW.ptr 0 i o e (by omega); have wd := hW.far (.sl 4 4 0 d) (fun y hy h => by simp only [V.labels, List.mem_cons] at hy; rcases hy with hy | hy <;> first | omega | (have := h4 y hy; omega)); have p6 := hW.far (.sl (k + 1) 1 0 (x.gone.map cZ)) (fun y hy h => by simp [V.labels, zz, zf] at hy; omega); have p0 := fun i o e => hW.ptr (1) i o e (by omega);  have p1 := fun i o e => hW.ptr (2) i o e (by omega); simp only [List.map_cons, List.map_nil, hW.int, hW.str, hW.bool, hW.any, hW.tup0, hW.agg, hW.nilV, hF.ptr, f0, p9, wd, p6, cMail, p0, p1, kP] <;> rfl) ?_
  refine ON ?_
  refine Ok.seq ?_
  refine Ok.drop [26, 27, 28, 29, 30] (by simp only [kover] <;> rfl) ?_
  refine Ok.region ?_
  refine EV ?_
  refine OkOps.storeN tab_ok rfl rfl (by simp only [kE, kT, kL, kC] <;> rfl) ⟨_, _, by simp only [kE]; rfl⟩ (by first | (simp [V.labelsL, V.labelsLL, V.labels, zz, zf, zy]; done) | (intro h; have ud : ¬ (2 ∈ V.labelsLL d) := (fun h => (by (have := h4 _ h); omega)); (revert h; show ¬ _; simp [labelsLL_app, V.labelsLL, V.labelsL, V.labels, zz, zf, zy, ud] <;> omega))) (fun W hW hF => by have f0 := far0 hW (fun h => by omega); have p9 := fun i o e => hW.ptr 0 i o e (by omega); have wd := hW.far (.sl 4 4 0 d) (fun y hy h => by simp only [V.labels, List.mem_cons] at hy; rcases hy with hy | hy <;> first | omega | (have := h4 y hy; omega)); have p6 := hW.far (.sl (k + 1) 1 0 (x.gone.map cZ)) (fun y hy h => by simp [V.labels, zz, zf] at hy; omega); have p0 := fun i o e => hW.ptr (1) i o e (by omega);  have p2 := fun i o e => hW.ptr (3) i o e (by omega); simp only [List.map_cons, List.map_nil, hW.int, hW.str, hW.bool, hW.any, hW.tup0, hW.agg, hW.nilV, hF.ptr, f0, p9, wd, p6, cMail, p0, p2, kP] <;> rfl) ?_
  refine ON ?_
  refine Ok.ret ?_
  with_reducible repeat (first | refine thenQ_ret ?_ | refine blockQ_ret ?_)
  refine RT ?_
  exact ⟨(by simp only [packV, V.erase, V.trav, V.travL, V.travLL, zz, zf, zy, h2] <;> rfl), (by intro L hL; simp [packV, V.labels, V.labelsL, zz, zf] at hL; rcases hL with hL | hL | hL <;> first | omega | (have := h4 L hL; omega)), (by simp only [packV, V.labels, V.labelsL, zz, zf, List.append_nil, List.nil_append]; rw [List.nodup_append]; exact ⟨List.nodup_cons.2 ⟨fun h => by (have := h4 4 h); omega, h3⟩, by simp, fun y hy z hz h => by (rcases List.mem_cons.1 hy with hy | hy) <;> simp at hz <;> first | omega | (have := h4 y hy; omega)⟩)⟩
end Go.Proofs.YtjhfabimacljhaaGreat.K
