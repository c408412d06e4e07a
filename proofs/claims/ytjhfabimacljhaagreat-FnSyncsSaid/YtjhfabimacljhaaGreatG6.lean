/- Walks: right boxes, right stores. Printed by w2.py. -/
import Derived.Test.YtjhfabimacljhaaGreatG5
import Derived.Test.YtjhfabimacljhaaGreatG4
import Derived.Test.YtjhfabimacljhaaGreatG3
namespace Go.Proofs.YtjhfabimacljhaaGreat.K
open Go Go.RowKit
set_option linter.unusedVariables false
set_option linter.unusedSimpArgs false
set_option maxHeartbeats 4000000
set_option maxRecDepth 20000
theorem w_impl_BoxOk (b : Box) (h : smBox b) : Weak Tryz.prog 168 [.agg (cBox b)] (.bool (boxOk b)) := by
 refine Weak.enter tab_ok Tryz.func168 rfl (.inr (by simp [V.labelsL, V.labels, V.labelsLL, zz, zf, zy, or_imp, forall_and])) (t := [.agg (cBox b), .any, .any, .any, .any, .any, .any, .any, .any, .any, .any, .any, .any, .any, .any, .any, .any, .any, .any, .any, .any, .any, .any, .any, .any, .any, .any, .any, .any, .any, .any, .any, .any, .any, .any, .any, .any, .any, .any, .any, .any, .any, .any, .any, .any, .any, .any, .any, .any, .any, .any, .any, .any, .any, .any, .any, .any, .any, .any, .any, .any, .any, .any, .any, .any, .any, .any, .any, .any, .any, .any, .any, .any, .any, .any, .any, .any, .any, .any, .any, .any, .any, .any, .any, .any, .any, .any, .any, .any]) rfl ?_
 refine OQ ?_
 iterate 2 (refine EV ?_)
 refine ON ?_
 refine Ok.seq ?_
 refine Ok.seqC [(38, .bool (!boxHead b))] [5, 6, 7, 8, 9, 10, 11, 12, 13, 14, 15, 16, 17, 18, 19, 20, 21, 22, 23, 24, 25, 26, 27, 28, 29, 30, 31, 32, 33, 34, 35, 36, 37] (by simp only [kover] <;> rfl) ?_ ?_
 ·
  refine Ok.region ?_
  iterate 2 (refine EV ?_)
  refine OW cl214 (w_impl_isGid b.gid) ?_
  iterate 2 (refine EV ?_)
  refine OP (d := 9) (fun hg1_4 => ?_) (fun hg1_4 => ?_)
  ·
   try simp only [bsimp] at hg1_4
   iterate 4 (refine OU ?_)
   iterate 2 (refine EV ?_)
   iterate 4 (refine OU ?_)
   iterate 2 (refine EV ?_)
   iterate 4 (refine OU ?_)
   iterate 2 (refine EV ?_)
   iterate 4 (refine OU ?_)
   iterate 2 (refine EV ?_)
   iterate 4 (refine OU ?_)
   refine EV ?_
   refine ON ?_
   refine ⟨rfl, ?_, rfl, rfl⟩
   (repeat (first | exact trivial | refine leC ?_ | refine leK ?_ ?_)) <;> first | (refine .inl (congrArg V.bool ?_); (first | (simp [boxHead, *]; done) | (simp [boxHead, *] <;> omega) | (rw [Bool.eq_iff_iff]; simp [boxHead, *] <;> omega) | (simp_all [boxHead]; done) | (simp_all [boxHead]; omega))) | exact le_rfl' _
  try simp only [bsimp] at hg1_4
  refine OX ?_
  refine OX ?_
  refine OO ?_
  refine OW cl215 (w_impl_NameOk b.name (by have := h.1; omega)) ?_
  refine OO ?_
  iterate 3 (refine EV ?_)
  refine OP (d := 15) (fun hg1_10 => ?_) (fun hg1_10 => ?_)
  ·
   try simp only [bsimp] at hg1_10
   iterate 4 (refine OU ?_)
   iterate 2 (refine EV ?_)
   iterate 4 (refine OU ?_)
   iterate 2 (refine EV ?_)
   iterate 4 (refine OU ?_)
   iterate 2 (refine EV ?_)
   iterate 4 (refine OU ?_)
   refine EV ?_
   refine ON ?_
   refine ⟨rfl, ?_, rfl, rfl⟩
   (repeat (first | exact trivial | refine leC ?_ | refine leK ?_ ?_)) <;> first | (refine .inl (congrArg V.bool ?_); (first | (simp [boxHead, *]; done) | (simp [boxHead, *] <;> omega) | (rw [Bool.eq_iff_iff]; simp [boxHead, *] <;> omega) | (simp_all [boxHead]; done) | (simp_all [boxHead]; omega))) | exact le_rfl' _
  try simp only [bsimp] at hg1_10
  refine OX ?_
  refine OX ?_
  refine OO ?_
  refine OW cl216 (w_impl_StampOk b.named) ?_
  refine OO ?_
  iterate 3 (refine EV ?_)
  refine OP (d := 21) (fun hg1_16 => ?_) (fun hg1_16 => ?_)
  ·
   try simp only [bsimp] at hg1_16
   iterate 4 (refine OU ?_)
   iterate 2 (refine EV ?_)
   iterate 4 (refine OU ?_)
   iterate 2 (refine EV ?_)
   iterate 4 (refine OU ?_)
   refine EV ?_
   refine ON ?_
   refine ⟨rfl, ?_, rfl, rfl⟩
   (repeat (first | exact trivial | refine leC ?_ | refine leK ?_ ?_)) <;> first | (refine .inl (congrArg V.bool ?_); (first | (simp [boxHead, *]; done) | (simp [boxHead, *] <;> omega) | (rw [Bool.eq_iff_iff]; simp [boxHead, *] <;> omega) | (simp_all [boxHead]; done) | (simp_all [boxHead]; omega))) | exact le_rfl' _
  try simp only [bsimp] at hg1_16
  refine OX ?_
  refine OX ?_
  refine OO ?_
  refine OW cl124 (w_impl_within b.next 1 10000) ?_
  refine OO ?_
  iterate 3 (refine EV ?_)
  refine OP (d := 27) (fun hg1_22 => ?_) (fun hg1_22 => ?_)
  ·
   try simp only [bsimp] at hg1_22
   iterate 4 (refine OU ?_)
   iterate 2 (refine EV ?_)
   iterate 4 (refine OU ?_)
   refine EV ?_
   refine ON ?_
   refine ⟨rfl, ?_, rfl, rfl⟩
   (repeat (first | exact trivial | refine leC ?_ | refine leK ?_ ?_)) <;> first | (refine .inl (congrArg V.bool ?_); (first | (simp [boxHead, *]; done) | (simp [boxHead, *] <;> omega) | (rw [Bool.eq_iff_iff]; simp [boxHead, *] <;> omega) | (simp_all [boxHead]; done) | (simp_all [boxHead]; omega))) | exact le_rfl' _
  try simp only [bsimp] at hg1_22
  iterate 3 (refine OX ?_)
  refine OO ?_
  iterate 3 (refine EV ?_)
  refine OP (d := 33) (fun hg1_28 => ?_) (fun hg1_28 => ?_)
  ·
   try simp only [bsimp] at hg1_28
   iterate 4 (refine OU ?_)
   refine EV ?_
   refine ON ?_
   refine ⟨rfl, ?_, rfl, rfl⟩
   (repeat (first | exact trivial | refine leC ?_ | refine leK ?_ ?_)) <;> first | (refine .inl (congrArg V.bool ?_); (first | (simp [boxHead, *]; done) | (simp [boxHead, *] <;> omega) | (rw [Bool.eq_iff_iff]; simp [boxHead, *] <;> omega) | (simp_all [boxHead]; done) | (simp_all [boxHead]; omega))) | exact le_rfl' _
  try simp only [bsimp] at hg1_28
  refine OX ?_
  refine OX ?_
  refine OO ?_
  refine OW cl167 (w_impl_areGids b.gone 40 (by have := h.2.2; omega)) ?_
  refine OO ?_
  iterate 2 (refine EV ?_)
  refine ON ?_
  refine ⟨rfl, ?_, rfl, rfl⟩
  (repeat (first | exact trivial | refine leC ?_ | refine leK ?_ ?_)) <;> first | (refine .inl (congrArg V.bool ?_); (first | (simp [boxHead, *]; done) | (simp [boxHead, *] <;> omega) | (rw [Bool.eq_iff_iff]; simp [boxHead, *] <;> omega) | (simp_all [boxHead]; done) | (simp_all [boxHead]; omega))) | exact le_rfl' _
 refine OC (fun hb1 => ?_) (fun hb1 => ?_)
 ·
  try simp only [bsimp] at hb1
  rw [show boxOk b = false by unfold boxOk; rw [show boxHead b = false from hb1, Bool.false_and]]
  refine OQ ?_
  refine EV ?_
  refine ON ?_
  refine Ok.ret ?_
  with_reducible repeat (first | refine thenQ_ret ?_ | refine blockQ_ret ?_)
  refine RT ?_
  rfl
 try simp only [bsimp] at hb1
 have hh : boxHead b = true := hb1
 refine Ok.skip ?_
 refine Ok.seq ?_
 refine OQ ?_
 iterate 4 (refine EV ?_)
 refine ON ?_
 refine Ok.block ?_
 refine Ok.loopWZ (τ := Nat) (fun x => [(42, .int .i64 (x : Int))]) [2, 3, 4, 43, 44, 45, 46, 47, 48, 49, 50, 51, 52, 53, 54, 55, 56, 57, 58, 59, 60, 61, 62, 63, 64, 65, 66, 67, 68, 69, 70, 71, 72, 73, 74, 75, 76, 77, 78, 79, 80, 81, 82, 83, 84, 85, 86, 87, 88] (fun x => by simp only [kover] <;> rfl) (fun x => x ≤ b.mails.length ∧ ∀ k, k < x → mailFine b k = true) (fun x => b.mails.length - x) 0 (by omega) (by (repeat (first | exact trivial | refine leC ?_ | refine leK ?_ ?_)) <;> first | (exact le_rfl' _) | exact le_rfl' _) (⟨Nat.zero_le _, fun k h => by omega⟩) ?_
 rintro i ⟨h1, h2⟩
 refine OQ ?_
 refine EV ?_
 refine ON ?_
 refine Ok.seq ?_
 refine OC (fun hb4 => ?_) (fun hb4 => ?_)
 ·
  try simp only [bsimp] at hb4
  have hi : i < b.mails.length := by omega
  have hmf := mailFine_at hi
  have hcap := h.2.1.1
  refine Ok.skip ?_
  refine Ok.seq ?_
  refine Ok.block ?_
  refine OQ ?_
  refine EV ?_
  refine OkOps.ev tab_ok rfl (ev_idx_map (by simp only [kE, kT, kL, kC] <;> rfl) (by simp only [kE, kT, kL, kC] <;> rfl) (by omega) (by simp only [kE, kT, kL, kC] <;> rfl)) (by simp only [kP] <;> rfl) ?_
  iterate 3 (refine EV ?_)
  refine OE ?_
  refine ON ?_
  refine Ok.seqC [(87, .bool (!mailFine b i))] [47, 48, 49, 50, 51, 52, 53, 54, 55, 56, 57, 58, 59, 60, 61, 62, 63, 64, 65, 66, 67, 68, 69, 70, 71, 72, 73, 74, 75, 76, 77, 78, 79, 80, 81, 82, 83, 84, 85, 86] (by simp only [kover] <;> rfl) ?_ ?_
  ·
   refine Ok.drawn 41 89 [] (by kernel_rfl) (by kernel_rfl) rfl ?_
   refine SV ?_
   refine SOps.S0 rfl (OpS.weakM rfl (by simp only [kE, kT, kL, kC] <;> rfl) (by simp only [kE, kT, kL, kC] <;> rfl) cl217 (w_impl_MailOk b.mails[i] (by have := (h.2.1.2 _ (List.getElem_mem hi)).1; omega))) (by simp only [kP] <;> rfl) ?_
   iterate 2 (refine SV ?_)
   refine SOps.split (d := 50) (by simp only [kE, kT, kL, kC] <;> rfl) (by simp only [kP] <;> rfl) (by simp only [kP] <;> rfl) (fun hg6_3 => ?_) (fun hg6_3 => ?_)
   ·
    try simp only [bsimp] at hg6_3
    iterate 5 (refine SU ?_)
    iterate 2 (refine SV ?_)
    iterate 14 (refine SU ?_)
    iterate 2 (refine SV ?_)
    iterate 6 (refine SU ?_)
    iterate 2 (refine SV ?_)
    iterate 5 (refine SU ?_)
    refine SV ?_
    refine SOps.nil ?_
    refine TOps.nil ?_
    refine ⟨rfl, ?_, rfl, rfl⟩
    (repeat (first | exact trivial | refine leC ?_ | refine leK ?_ ?_)) <;> first | (refine .inl (congrArg V.bool ?_); (first | (simp [hmf, *]; done) | (simp [hmf, *] <;> omega) | (rw [Bool.eq_iff_iff]; simp [hmf, *] <;> omega) | (simp_all [hmf]; done) | (simp_all [hmf]; omega))) | exact le_rfl' _
   try simp only [bsimp] at hg6_3
   iterate 5 (refine SN ?_)
   iterate 2 (refine SV ?_)
   refine SOps.split (d := 57) (by simp only [kE, kT, kL, kC] <;> rfl) (by simp only [kP] <;> rfl) (by simp only [kP] <;> rfl) (fun hg6_10 => ?_) (fun hg6_10 => ?_)
   ·
    try simp only [bsimp] at hg6_10
    iterate 14 (refine SU ?_)
    iterate 2 (refine SV ?_)
    iterate 6 (refine SU ?_)
    iterate 2 (refine SV ?_)
    iterate 5 (refine SU ?_)
    refine SV ?_
    refine SOps.nil ?_
    refine TOps.nil ?_
    refine ⟨rfl, ?_, rfl, rfl⟩
    (repeat (first | exact trivial | refine leC ?_ | refine leK ?_ ?_)) <;> first | (refine .inl (congrArg V.bool ?_); (first | (simp [hmf, *]; done) | (simp [hmf, *] <;> omega) | (rw [Bool.eq_iff_iff]; simp [hmf, *] <;> omega) | (simp_all [hmf]; done) | (simp_all [hmf]; omega))) | exact le_rfl' _
   try simp only [bsimp] at hg6_10
   iterate 3 (refine SN ?_)
   refine SOps.split (d := 60) (by simp only [kE, kT, kL, kC] <;> rfl) (by simp only [kP] <;> rfl) (by simp only [kP] <;> rfl) (fun hg6_13 => ?_) (fun hg6_13 => ?_)
   ·
    try simp only [bsimp] at hg6_13
    have hpos : 0 < i := by omega
    have hbf := beforeB_get (p := fun (x y : Mail) => decide (x.uid < y.uid)) hi hpos
    iterate 3 (refine SN ?_)
    refine SOps.onEv tab_ok rfl rfl (by simp only [kE, kT, kL, kC]) (by simp only [kE, kT, kL, kC, wrap_pred hpos (by omega)] <;> rfl) (by simp only [kP] <;> rfl) ?_
    refine SOps.onEv tab_ok rfl rfl (by simp only [kE, kT, kL, kC]) (ev_idx_map (by simp only [kE, kT, kL, kC] <;> rfl) (by simp only [kE, kT, kL, kC] <;> rfl) (by omega) (by simp only [kE, kT, kL, kC] <;> rfl)) (by simp only [kP] <;> rfl) ?_
    iterate 6 (refine SN ?_)
    iterate 2 (refine SV ?_)
    refine SOps.split (d := 73) (by simp only [kE, kT, kL, kC] <;> rfl) (by simp only [kP] <;> rfl) (by simp only [kP] <;> rfl) (fun hg6_26 => ?_) (fun hg6_26 => ?_)
    ·
     try simp only [bsimp] at hg6_26
     iterate 6 (refine SU ?_)
     iterate 2 (refine SV ?_)
     iterate 5 (refine SU ?_)
     refine SV ?_
     refine SOps.nil ?_
     refine TOps.nil ?_
     refine ⟨rfl, ?_, rfl, rfl⟩
     (repeat (first | exact trivial | refine leC ?_ | refine leK ?_ ?_)) <;> first | (refine .inl (congrArg V.bool ?_); (first | (simp [hmf, *]; done) | (simp [hmf, *] <;> omega) | (rw [Bool.eq_iff_iff]; simp [hmf, *] <;> omega) | (simp_all [hmf]; done) | (simp_all [hmf]; omega))) | exact le_rfl' _
    try simp only [bsimp] at hg6_26
    iterate 3 (refine SN ?_)
    refine SOps.onS0 rfl rfl (by simp only [kE, kT, kL, kC]) (OpS.weakM rfl (by simp only [kE, kT, kL, kC] <;> rfl) (by simp only [kE, kT, kL, kC] <;> rfl) cl218 (w_impl_MailAt b b.mails[i].gid (by have := h.2.1.1; omega))) (by simp only [kP] <;> rfl) ?_
    refine SN ?_
    refine SN ?_
    iterate 2 (refine SV ?_)
    refine SOps.split (d := 81) (by simp only [kE, kT, kL, kC] <;> rfl) (by simp only [kP] <;> rfl) (by simp only [kP] <;> rfl) (fun hg6_34 => ?_) (fun hg6_34 => ?_)
    ·
     try simp only [bsimp] at hg6_34
     iterate 5 (refine SU ?_)
     refine SV ?_
     refine SOps.nil ?_
     refine TOps.nil ?_
     refine ⟨rfl, ?_, rfl, rfl⟩
     (repeat (first | exact trivial | refine leC ?_ | refine leK ?_ ?_)) <;> first | (refine .inl (congrArg V.bool ?_); (first | (simp [hmf, *]; done) | (simp [hmf, *] <;> omega) | (rw [Bool.eq_iff_iff]; simp [hmf, *] <;> omega) | (simp_all [hmf]; done) | (simp_all [hmf]; omega))) | exact le_rfl' _
    try simp only [bsimp] at hg6_34
    iterate 4 (refine SN ?_)
    refine SOps.onS0 rfl rfl (by simp only [kE, kT, kL, kC]) (OpS.weakM rfl (by simp only [kE, kT, kL, kC] <;> rfl) (by simp only [kE, kT, kL, kC] <;> rfl) cl170 (w_slices_Contains___int_int_ b.gone b.mails[i].gid (by have := h.2.2; omega))) (by simp only [kP] <;> rfl) ?_
    refine SV ?_
    refine SOps.nil ?_
    refine TOps.nil ?_
    refine ⟨rfl, ?_, rfl, rfl⟩
    (repeat (first | exact trivial | refine leC ?_ | refine leK ?_ ?_)) <;> first | (refine .inl (congrArg V.bool ?_); (first | (simp [hmf, *]; done) | (simp [hmf, *] <;> omega) | (rw [Bool.eq_iff_iff]; simp [hmf, *] <;> omega) | (simp_all [hmf]; done) | (simp_all [hmf]; omega))) | exact le_rfl' _
   try simp only [bsimp] at hg6_13
   have hbf : beforeB b.mails (fun x y => decide (x.uid < y.uid)) i = true := by rw [show i = 0 by omega]; rfl
   iterate 10 (refine SU ?_)
   refine SN ?_
   iterate 2 (refine SV ?_)
   iterate 3 (refine SN ?_)
   refine SOps.onS0 rfl rfl (by simp only [kE, kT, kL, kC]) (OpS.weakM rfl (by simp only [kE, kT, kL, kC] <;> rfl) (by simp only [kE, kT, kL, kC] <;> rfl) cl218 (w_impl_MailAt b b.mails[i].gid (by have := h.2.1.1; omega))) (by simp only [kP] <;> rfl) ?_
   refine SN ?_
   refine SN ?_
   iterate 2 (refine SV ?_)
   refine SOps.split (d := 81) (by simp only [kE, kT, kL, kC] <;> rfl) (by simp only [kP] <;> rfl) (by simp only [kP] <;> rfl) (fun hg6_34 => ?_) (fun hg6_34 => ?_)
   ·
    try simp only [bsimp] at hg6_34
    iterate 5 (refine SU ?_)
    refine SV ?_
    refine SOps.nil ?_
    refine TOps.nil ?_
    refine ⟨rfl, ?_, rfl, rfl⟩
    (repeat (first | exact trivial | refine leC ?_ | refine leK ?_ ?_)) <;> first | (refine .inl (congrArg V.bool ?_); (first | (simp [hmf, *]; done) | (simp [hmf, *] <;> omega) | (rw [Bool.eq_iff_iff]; simp [hmf, *] <;> omega) | (simp_all [hmf]; done) | (simp_all [hmf]; omega))) | exact le_rfl' _
   try simp only [bsimp] at hg6_34
   iterate 4 (refine SN ?_)
   refine SOps.onS0 rfl rfl (by simp only [kE, kT, kL, kC]) (OpS.weakM rfl (by simp only [kE, kT, kL, kC] <;> rfl) (by simp only [kE, kT, kL, kC] <;> rfl) cl170 (w_slices_Contains___int_int_ b.gone b.mails[i].gid (by have := h.2.2; omega))) (by simp only [kP] <;> rfl) ?_
   refine SV ?_
   refine SOps.nil ?_
   refine TOps.nil ?_
   refine ⟨rfl, ?_, rfl, rfl⟩
   (repeat (first | exact trivial | refine leC ?_ | refine leK ?_ ?_)) <;> first | (refine .inl (congrArg V.bool ?_); (first | (simp [hmf, *]; done) | (simp [hmf, *] <;> omega) | (rw [Bool.eq_iff_iff]; simp [hmf, *] <;> omega) | (simp_all [hmf]; done) | (simp_all [hmf]; omega))) | exact le_rfl' _
  refine OC (fun hb6 => ?_) (fun hb6 => ?_)
  ·
   try simp only [bsimp] at hb6
   rw [show boxOk b = false by unfold boxOk; rw [allUp_no hi hb6, Bool.and_false]]
   refine OQ ?_
   refine EV ?_
   refine ON ?_
   refine Ok.ret ?_
   with_reducible repeat (first | refine thenQ_ret ?_ | refine blockQ_ret ?_)
   refine RT ?_
   rfl
  try simp only [bsimp] at hb6
  refine Ok.skip ?_
  refine Ok.region ?_
  iterate 2 (refine EV ?_)
  refine ON ?_
  refine ⟨i + 1, ?_, rfl, ⟨by omega, up_next h2 hb6⟩, by omega⟩
  simp only [V.renL, V.travL, V.travLL, V.trav, frz, zz, zf, zy, Nat.reduceLeDiff, ↓reduceIte]
  (repeat (first | exact trivial | refine leC ?_ | refine leK ?_ ?_)) <;> first | ((rw [wrap_add_one (by have := h.2.1.1; omega)]; exact le_rfl' _)) | exact le_rfl' _
 try simp only [bsimp] at hb4
 obtain rfl : i = b.mails.length := by omega
 rw [show boxOk b = true by unfold boxOk; rw [hh, allUp_yes h2]; rfl]
 refine Ok.exit ?_
 refine OQ ?_
 refine EV ?_
 refine ON ?_
 refine Ok.ret ?_
 with_reducible repeat (first | refine thenQ_ret ?_ | refine blockQ_ret ?_)
 refine RT ?_
 rfl
theorem w_impl_StoreOk (s : Store) (h : smStore s) : Weak Tryz.prog 120 [.agg (cStore s)] (.bool (storeOk s)) := by
 refine Weak.enter tab_ok Tryz.func120 rfl (.inr (by simp [V.labelsL, V.labels, V.labelsLL, zz, zf, zy, or_imp, forall_and])) (t := [.agg (cStore s), .any, .any, .any, .any, .any, .any, .any, .any, .any, .any, .any, .any, .any, .any, .any, .any, .any, .any, .any, .any, .any, .any, .any, .any, .any, .any, .any, .any, .any, .any, .any, .any, .any, .any, .any, .any, .any, .any, .any, .any, .any, .any, .any, .any, .any, .any, .any, .any, .any, .any, .any, .any, .any, .any, .any, .any, .any, .any, .any, .any, .any, .any, .any, .any, .any, .any, .any, .any, .any, .any, .any, .any, .any, .any, .any, .any, .any, .any, .any, .any, .any, .any, .any, .any, .any, .any, .any, .any, .any, .any, .any, .any, .any, .any, .any, .any]) rfl ?_
 refine OQ ?_
 iterate 2 (refine EV ?_)
 refine ON ?_
 refine Ok.seq ?_
 refine Ok.seqC [(29, .bool (!storeHead s))] [8, 9, 10, 11, 12, 13, 14, 15, 16, 17, 18, 19, 20, 21, 22, 23, 24, 25, 26, 27, 28] (by simp only [kover] <;> rfl) ?_ ?_
 ·
  refine Ok.region ?_
  iterate 2 (refine EV ?_)
  refine OW cl124 (w_impl_within s.by_ 1 2) ?_
  iterate 2 (refine EV ?_)
  refine OP (d := 12) (fun hg1_4 => ?_) (fun hg1_4 => ?_)
  ·
   try simp only [bsimp] at hg1_4
   iterate 4 (refine OU ?_)
   iterate 2 (refine EV ?_)
   iterate 4 (refine OU ?_)
   iterate 2 (refine EV ?_)
   iterate 4 (refine OU ?_)
   refine EV ?_
   refine ON ?_
   refine ⟨rfl, ?_, rfl, rfl⟩
   (repeat (first | exact trivial | refine leC ?_ | refine leK ?_ ?_)) <;> first | (refine .inl (congrArg V.bool ?_); (first | (simp [storeHead, *]; done) | (simp [storeHead, *] <;> omega) | (rw [Bool.eq_iff_iff]; simp [storeHead, *] <;> omega) | (simp_all [storeHead]; done) | (simp_all [storeHead]; omega))) | exact le_rfl' _
  try simp only [bsimp] at hg1_4
  refine OX ?_
  refine OX ?_
  refine OO ?_
  refine OW cl124 (w_impl_within s.time 0 100000) ?_
  refine OO ?_
  iterate 3 (refine EV ?_)
  refine OP (d := 18) (fun hg1_10 => ?_) (fun hg1_10 => ?_)
  ·
   try simp only [bsimp] at hg1_10
   iterate 4 (refine OU ?_)
   iterate 2 (refine EV ?_)
   iterate 4 (refine OU ?_)
   refine EV ?_
   refine ON ?_
   refine ⟨rfl, ?_, rfl, rfl⟩
   (repeat (first | exact trivial | refine leC ?_ | refine leK ?_ ?_)) <;> first | (refine .inl (congrArg V.bool ?_); (first | (simp [storeHead, *]; done) | (simp [storeHead, *] <;> omega) | (rw [Bool.eq_iff_iff]; simp [storeHead, *] <;> omega) | (simp_all [storeHead]; done) | (simp_all [storeHead]; omega))) | exact le_rfl' _
  try simp only [bsimp] at hg1_10
  iterate 3 (refine OX ?_)
  refine OO ?_
  iterate 3 (refine EV ?_)
  refine OP (d := 24) (fun hg1_16 => ?_) (fun hg1_16 => ?_)
  ·
   try simp only [bsimp] at hg1_16
   iterate 4 (refine OU ?_)
   refine EV ?_
   refine ON ?_
   refine ⟨rfl, ?_, rfl, rfl⟩
   (repeat (first | exact trivial | refine leC ?_ | refine leK ?_ ?_)) <;> first | (refine .inl (congrArg V.bool ?_); (first | (simp [storeHead, *]; done) | (simp [storeHead, *] <;> omega) | (rw [Bool.eq_iff_iff]; simp [storeHead, *] <;> omega) | (simp_all [storeHead]; done) | (simp_all [storeHead]; omega))) | exact le_rfl' _
  try simp only [bsimp] at hg1_16
  refine OX ?_
  refine OX ?_
  refine OO ?_
  refine OW cl167 (w_impl_areGids s.gone 20 (by have := h.2; omega)) ?_
  refine OO ?_
  iterate 2 (refine EV ?_)
  refine ON ?_
  refine ⟨rfl, ?_, rfl, rfl⟩
  (repeat (first | exact trivial | refine leC ?_ | refine leK ?_ ?_)) <;> first | (refine .inl (congrArg V.bool ?_); (first | (simp [storeHead, *]; done) | (simp [storeHead, *] <;> omega) | (rw [Bool.eq_iff_iff]; simp [storeHead, *] <;> omega) | (simp_all [storeHead]; done) | (simp_all [storeHead]; omega))) | exact le_rfl' _
 refine OC (fun hb1 => ?_) (fun hb1 => ?_)
 ·
  try simp only [bsimp] at hb1
  rw [show storeOk s = false by unfold storeOk; rw [show storeHead s = false from hb1, Bool.false_and]]
  refine OQ ?_
  refine EV ?_
  refine ON ?_
  refine Ok.ret ?_
  with_reducible repeat (first | refine thenQ_ret ?_ | refine blockQ_ret ?_)
  refine RT ?_
  rfl
 try simp only [bsimp] at hb1
 have hh : storeHead s = true := hb1
 have hcap := h.1.1
 refine Ok.skip ?_
 refine OQ ?_
 iterate 2 (refine EV ?_)
 refine ON ?_
 refine Ok.seq ?_
 refine OQ ?_
 iterate 4 (refine EV ?_)
 refine ON ?_
 refine Ok.block ?_
 refine Ok.bump (n' := 3) (by omega) ?_
 refine Ok.loopWZ (τ := Nat) (fun x => [(3, .sl 2 1 0 ((seenG s x 0).map cZ)), (34, .int .i64 (x : Int))]) [2, 4, 5, 7, 35, 36, 37, 38, 39, 40, 41, 42, 43, 44, 45, 46, 47, 48, 49, 50, 51, 52, 53, 54, 55, 56, 57, 58, 59, 60, 61, 62, 63, 64, 65, 66, 67, 68, 69, 70, 71, 72, 73, 74, 75, 76, 77, 78, 79, 80, 81, 82, 83, 84, 85, 86, 87, 88, 89, 90, 91, 92, 93, 94, 95, 96] (fun x => by simp only [kover] <;> rfl) (fun x => x ≤ s.boxes.length ∧ ∀ k, k < x → boxGood s k = true) (fun x => s.boxes.length - x) 0 (by omega) (by (repeat (first | exact trivial | refine leC ?_ | refine leK ?_ ?_)) <;> first | (first | exact le_rfl' _ | (rw [seen_zero]; exact le_nil 2 1)) | exact le_rfl' _) (⟨Nat.zero_le _, fun k h => by omega⟩) ?_
 rintro i ⟨h1, h2⟩
 refine OQ ?_
 refine EV ?_
 refine ON ?_
 refine Ok.seq ?_
 refine OC (fun hb5 => ?_) (fun hb5 => ?_)
 ·
  try simp only [bsimp] at hb5
  have hi : i < s.boxes.length := by omega
  have hmf := boxFine_at hi
  have hmc := (h.1.2 _ (List.getElem_mem hi)).2.1.1
  refine Ok.skip ?_
  refine Ok.seq ?_
  refine Ok.block ?_
  refine OQ ?_
  refine EV ?_
  refine OkOps.ev tab_ok rfl (ev_idx_map (by simp only [kE, kT, kL, kC] <;> rfl) (by simp only [kE, kT, kL, kC] <;> rfl) (by omega) (by simp only [kE, kT, kL, kC] <;> rfl)) (by simp only [kP] <;> rfl) ?_
  iterate 3 (refine EV ?_)
  refine OE ?_
  refine ON ?_
  refine Ok.seq ?_
  refine Ok.seqC [(78, .bool (!boxFine s i))] [39, 40, 41, 42, 43, 44, 45, 46, 47, 48, 49, 50, 51, 52, 53, 54, 55, 56, 57, 58, 59, 60, 61, 62, 63, 64, 65, 66, 67, 68, 69, 70, 71, 72, 73, 74, 75, 76, 77] (by simp only [kover] <;> rfl) ?_ ?_
  ·
   refine Ok.drawn 40 97 [] (by kernel_rfl) (by kernel_rfl) rfl ?_
   refine SV ?_
   refine SOps.S0 rfl (OpS.weakM rfl (by simp only [kE, kT, kL, kC] <;> rfl) (by simp only [kE, kT, kL, kC] <;> rfl) cl168 (w_impl_BoxOk s.boxes[i] (h.1.2 _ (List.getElem_mem hi)))) (by simp only [kP] <;> rfl) ?_
   iterate 2 (refine SV ?_)
   refine SOps.split (d := 42) (by simp only [kE, kT, kL, kC] <;> rfl) (by simp only [kP] <;> rfl) (by simp only [kP] <;> rfl) (fun hg7_3 => ?_) (fun hg7_3 => ?_)
   ·
    try simp only [bsimp] at hg7_3
    iterate 14 (refine SU ?_)
    iterate 2 (refine SV ?_)
    iterate 6 (refine SU ?_)
    iterate 2 (refine SV ?_)
    iterate 5 (refine SU ?_)
    iterate 2 (refine SV ?_)
    iterate 4 (refine SU ?_)
    refine SV ?_
    refine SOps.nil ?_
    refine TOps.nil ?_
    refine ⟨rfl, ?_, rfl, rfl⟩
    (repeat (first | exact trivial | refine leC ?_ | refine leK ?_ ?_)) <;> first | (refine .inl (congrArg V.bool ?_); (first | (simp [hmf, *]; done) | (simp [hmf, *] <;> omega) | (rw [Bool.eq_iff_iff]; simp [hmf, *] <;> omega) | (simp_all [hmf]; done) | (simp_all [hmf]; omega))) | exact le_rfl' _
   try simp only [bsimp] at hg7_3
   iterate 3 (refine SN ?_)
   refine SOps.split (d := 45) (by simp only [kE, kT, kL, kC] <;> rfl) (by simp only [kP] <;> rfl) (by simp only [kP] <;> rfl) (fun hg7_6 => ?_) (fun hg7_6 => ?_)
   ·
    try simp only [bsimp] at hg7_6
    have hpos : 0 < i := by omega
    have hbf := beforeB_get (p := fun (x y : Box) => decide (x.gid < y.gid)) hi hpos
    iterate 3 (refine SN ?_)
    refine SOps.onEv tab_ok rfl rfl (by simp only [kE, kT, kL, kC]) (by simp only [kE, kT, kL, kC, wrap_pred hpos (by omega)] <;> rfl) (by simp only [kP] <;> rfl) ?_
    refine SOps.onEv tab_ok rfl rfl (by simp only [kE, kT, kL, kC]) (ev_idx_map (by simp only [kE, kT, kL, kC] <;> rfl) (by simp only [kE, kT, kL, kC] <;> rfl) (by omega) (by simp only [kE, kT, kL, kC] <;> rfl)) (by simp only [kP] <;> rfl) ?_
    iterate 6 (refine SN ?_)
    iterate 2 (refine SV ?_)
    refine SOps.split (d := 58) (by simp only [kE, kT, kL, kC] <;> rfl) (by simp only [kP] <;> rfl) (by simp only [kP] <;> rfl) (fun hg7_19 => ?_) (fun hg7_19 => ?_)
    ·
     try simp only [bsimp] at hg7_19
     iterate 6 (refine SU ?_)
     iterate 2 (refine SV ?_)
     iterate 5 (refine SU ?_)
     iterate 2 (refine SV ?_)
     iterate 4 (refine SU ?_)
     refine SV ?_
     refine SOps.nil ?_
     refine TOps.nil ?_
     refine ⟨rfl, ?_, rfl, rfl⟩
     (repeat (first | exact trivial | refine leC ?_ | refine leK ?_ ?_)) <;> first | (refine .inl (congrArg V.bool ?_); (first | (simp [hmf, *]; done) | (simp [hmf, *] <;> omega) | (rw [Bool.eq_iff_iff]; simp [hmf, *] <;> omega) | (simp_all [hmf]; done) | (simp_all [hmf]; omega))) | exact le_rfl' _
    try simp only [bsimp] at hg7_19
    iterate 3 (refine SN ?_)
    refine SOps.onS0 rfl rfl (by simp only [kE, kT, kL, kC]) (OpS.weakM rfl (by simp only [kE, kT, kL, kC] <;> rfl) (by simp only [kE, kT, kL, kC] <;> rfl) cl169 (w_impl_BoxNamed s s.boxes[i].name (by have := h.1.1; omega))) (by simp only [kP] <;> rfl) ?_
    refine SN ?_
    refine SN ?_
    iterate 2 (refine SV ?_)
    refine SOps.split (d := 66) (by simp only [kE, kT, kL, kC] <;> rfl) (by simp only [kP] <;> rfl) (by simp only [kP] <;> rfl) (fun hg7_27 => ?_) (fun hg7_27 => ?_)
    ·
     try simp only [bsimp] at hg7_27
     iterate 5 (refine SU ?_)
     iterate 2 (refine SV ?_)
     iterate 4 (refine SU ?_)
     refine SV ?_
     refine SOps.nil ?_
     refine TOps.nil ?_
     refine ⟨rfl, ?_, rfl, rfl⟩
     (repeat (first | exact trivial | refine leC ?_ | refine leK ?_ ?_)) <;> first | (refine .inl (congrArg V.bool ?_); (first | (simp [hmf, *]; done) | (simp [hmf, *] <;> omega) | (rw [Bool.eq_iff_iff]; simp [hmf, *] <;> omega) | (simp_all [hmf]; done) | (simp_all [hmf]; omega))) | exact le_rfl' _
    try simp only [bsimp] at hg7_27
    iterate 4 (refine SN ?_)
    refine SOps.onS0 rfl rfl (by simp only [kE, kT, kL, kC]) (OpS.weakM rfl (by simp only [kE, kT, kL, kC] <;> rfl) (by simp only [kE, kT, kL, kC] <;> rfl) cl170 (w_slices_Contains___int_int_ s.gone s.boxes[i].gid (by have := h.2; omega))) (by simp only [kP] <;> rfl) ?_
    iterate 2 (refine SV ?_)
    refine SOps.split (d := 73) (by simp only [kE, kT, kL, kC] <;> rfl) (by simp only [kP] <;> rfl) (by simp only [kP] <;> rfl) (fun hg7_34 => ?_) (fun hg7_34 => ?_)
    ·
     try simp only [bsimp] at hg7_34
     iterate 4 (refine SU ?_)
     refine SV ?_
     refine SOps.nil ?_
     refine TOps.nil ?_
     refine ⟨rfl, ?_, rfl, rfl⟩
     (repeat (first | exact trivial | refine leC ?_ | refine leK ?_ ?_)) <;> first | (refine .inl (congrArg V.bool ?_); (first | (simp [hmf, *]; done) | (simp [hmf, *] <;> omega) | (rw [Bool.eq_iff_iff]; simp [hmf, *] <;> omega) | (simp_all [hmf]; done) | (simp_all [hmf]; omega))) | exact le_rfl' _
    try simp only [bsimp] at hg7_34
    iterate 3 (refine SN ?_)
    refine SOps.onS0 rfl rfl (by simp only [kE, kT, kL, kC]) (OpS.weakM rfl (by simp only [kE, kT, kL, kC] <;> rfl) (by simp only [kE, kT, kL, kC] <;> rfl) cl171 (w_impl_isLate s.boxes[i] s.time (by have := (h.1.2 _ (List.getElem_mem hi)).2.1.1; omega) (fun m hm => by have := ((h.1.2 _ (List.getElem_mem hi)).2.1.2 m hm).1; omega))) (by simp only [kP] <;> rfl) ?_
    refine SV ?_
    refine SOps.nil ?_
    refine TOps.nil ?_
    refine ⟨rfl, ?_, rfl, rfl⟩
    (repeat (first | exact trivial | refine leC ?_ | refine leK ?_ ?_)) <;> first | (refine .inl (congrArg V.bool ?_); (first | (simp [hmf, *]; done) | (simp [hmf, *] <;> omega) | (rw [Bool.eq_iff_iff]; simp [hmf, *] <;> omega) | (simp_all [hmf]; done) | (simp_all [hmf]; omega))) | exact le_rfl' _
   try simp only [bsimp] at hg7_6
   have hbf : beforeB s.boxes (fun x y => decide (x.gid < y.gid)) i = true := by rw [show i = 0 by omega]; rfl
   iterate 10 (refine SU ?_)
   refine SN ?_
   iterate 2 (refine SV ?_)
   iterate 3 (refine SN ?_)
   refine SOps.onS0 rfl rfl (by simp only [kE, kT, kL, kC]) (OpS.weakM rfl (by simp only [kE, kT, kL, kC] <;> rfl) (by simp only [kE, kT, kL, kC] <;> rfl) cl169 (w_impl_BoxNamed s s.boxes[i].name (by have := h.1.1; omega))) (by simp only [kP] <;> rfl) ?_
   refine SN ?_
   refine SN ?_
   iterate 2 (refine SV ?_)
   refine SOps.split (d := 66) (by simp only [kE, kT, kL, kC] <;> rfl) (by simp only [kP] <;> rfl) (by simp only [kP] <;> rfl) (fun hg7_27 => ?_) (fun hg7_27 => ?_)
   ·
    try simp only [bsimp] at hg7_27
    iterate 5 (refine SU ?_)
    iterate 2 (refine SV ?_)
    iterate 4 (refine SU ?_)
    refine SV ?_
    refine SOps.nil ?_
    refine TOps.nil ?_
    refine ⟨rfl, ?_, rfl, rfl⟩
    (repeat (first | exact trivial | refine leC ?_ | refine leK ?_ ?_)) <;> first | (refine .inl (congrArg V.bool ?_); (first | (simp [hmf, *]; done) | (simp [hmf, *] <;> omega) | (rw [Bool.eq_iff_iff]; simp [hmf, *] <;> omega) | (simp_all [hmf]; done) | (simp_all [hmf]; omega))) | exact le_rfl' _
   try simp only [bsimp] at hg7_27
   iterate 4 (refine SN ?_)
   refine SOps.onS0 rfl rfl (by simp only [kE, kT, kL, kC]) (OpS.weakM rfl (by simp only [kE, kT, kL, kC] <;> rfl) (by simp only [kE, kT, kL, kC] <;> rfl) cl170 (w_slices_Contains___int_int_ s.gone s.boxes[i].gid (by have := h.2; omega))) (by simp only [kP] <;> rfl) ?_
   iterate 2 (refine SV ?_)
   refine SOps.split (d := 73) (by simp only [kE, kT, kL, kC] <;> rfl) (by simp only [kP] <;> rfl) (by simp only [kP] <;> rfl) (fun hg7_34 => ?_) (fun hg7_34 => ?_)
   ·
    try simp only [bsimp] at hg7_34
    iterate 4 (refine SU ?_)
    refine SV ?_
    refine SOps.nil ?_
    refine TOps.nil ?_
    refine ⟨rfl, ?_, rfl, rfl⟩
    (repeat (first | exact trivial | refine leC ?_ | refine leK ?_ ?_)) <;> first | (refine .inl (congrArg V.bool ?_); (first | (simp [hmf, *]; done) | (simp [hmf, *] <;> omega) | (rw [Bool.eq_iff_iff]; simp [hmf, *] <;> omega) | (simp_all [hmf]; done) | (simp_all [hmf]; omega))) | exact le_rfl' _
   try simp only [bsimp] at hg7_34
   iterate 3 (refine SN ?_)
   refine SOps.onS0 rfl rfl (by simp only [kE, kT, kL, kC]) (OpS.weakM rfl (by simp only [kE, kT, kL, kC] <;> rfl) (by simp only [kE, kT, kL, kC] <;> rfl) cl171 (w_impl_isLate s.boxes[i] s.time (by have := (h.1.2 _ (List.getElem_mem hi)).2.1.1; omega) (fun m hm => by have := ((h.1.2 _ (List.getElem_mem hi)).2.1.2 m hm).1; omega))) (by simp only [kP] <;> rfl) ?_
   refine SV ?_
   refine SOps.nil ?_
   refine TOps.nil ?_
   refine ⟨rfl, ?_, rfl, rfl⟩
   (repeat (first | exact trivial | refine leC ?_ | refine leK ?_ ?_)) <;> first | (refine .inl (congrArg V.bool ?_); (first | (simp [hmf, *]; done) | (simp [hmf, *] <;> omega) | (rw [Bool.eq_iff_iff]; simp [hmf, *] <;> omega) | (simp_all [hmf]; done) | (simp_all [hmf]; omega))) | exact le_rfl' _
  refine OC (fun hb7 => ?_) (fun hb7 => ?_)
  ·
   try simp only [bsimp] at hb7
   rw [show storeOk s = false by unfold storeOk; rw [allUp_no hi (show boxGood s i = false by unfold boxGood; rw [hb7, Bool.false_and]), Bool.and_false]]
   refine OQ ?_
   refine EV ?_
   refine ON ?_
   refine Ok.ret ?_
   with_reducible repeat (first | refine thenQ_ret ?_ | refine blockQ_ret ?_)
   refine RT ?_
   rfl
  try simp only [bsimp] at hb7
  refine Ok.skip ?_
  refine OQ ?_
  iterate 4 (refine EV ?_)
  refine ON ?_
  refine Ok.block ?_
  refine Ok.loopWZ (τ := Nat) (fun x => [(3, .sl 2 1 0 ((seenG s i x).map cZ)), (82, .int .i64 (x : Int))]) [2, 7, 83, 84, 85, 86, 87, 88, 89, 90, 91, 92, 93, 94, 95] (fun x => by simp only [kover] <;> rfl) (fun x => x ≤ s.boxes[i].mails.length ∧ ∀ k, k < x → newAt s i k = true) (fun x => s.boxes[i].mails.length - x) 0 (by omega) (by (repeat (first | exact trivial | refine leC ?_ | refine leK ?_ ?_)) <;> first | (exact le_rfl' _) | exact le_rfl' _) (⟨Nat.zero_le _, fun k h => by omega⟩) ?_
  rintro j ⟨g1, g2⟩
  refine OQ ?_
  refine EV ?_
  refine ON ?_
  refine Ok.seq ?_
  refine OC (fun hb10 => ?_) (fun hb10 => ?_)
  ·
   try simp only [bsimp] at hb10
   have hj : j < s.boxes[i].mails.length := by omega
   have hna := newAt_get hi hj
   have hsl := seen_len h hi hj
   refine Ok.skip ?_
   refine Ok.seq ?_
   refine Ok.block ?_
   refine OQ ?_
   refine OkOps.ev tab_ok rfl (ev_idx_map (by simp only [kE, kT, kL, kC] <;> rfl) (by simp only [kE, kT, kL, kC] <;> rfl) (by omega) (by simp only [kE, kT, kL, kC] <;> rfl)) (by simp only [kP] <;> rfl) ?_
   iterate 2 (refine EV ?_)
   refine OE ?_
   refine ON ?_
   refine Ok.seq ?_
   refine OQ ?_
   iterate 3 (refine EV ?_)
   refine OkOps.S0 rfl (OpS.weakE rfl (by simp only [kE, kT, kL, kC] <;> rfl) (by simp only [kE, kT, kL, kC, V.eraseL, V.erase, V.travL, V.trav, zz, zf, zy] <;> rfl) cl170 (by simp [V.labels, V.labelsL, V.labelsLL, zz, zf, zy]) (w_slices_Contains___int_int_ (seenG s i j) s.boxes[i].mails[j].gid (by omega))) (by simp only [kP] <;> rfl) ?_
   refine ON ?_
   refine OC (fun hb12 => ?_) (fun hb12 => ?_)
   ·
    try simp only [bsimp] at hb12
    have hnw : newAt s i j = false := by rw [hna]; simpa using hb12
    rw [show storeOk s = false by unfold storeOk; rw [allUp_no hi (show boxGood s i = false by unfold boxGood; rw [boxNew_get hi, allUp_no hj hnw, Bool.and_false]), Bool.and_false]]
    refine OQ ?_
    refine EV ?_
    refine ON ?_
    refine Ok.ret ?_
    with_reducible repeat (first | refine thenQ_ret ?_ | refine blockQ_ret ?_)
    refine RT ?_
    rfl
   try simp only [bsimp] at hb12
   have hnw : newAt s i j = true := by rw [hna]; simpa using hb12
   refine Ok.skip ?_
   refine Ok.region ?_
   iterate 3 (refine EV ?_)
   refine OkOps.ev tab_ok rfl (ev_bs (by simp only [kT] <;> rfl) (by simp only [kT] <;> rfl) (by decide) (by decide) (by simp only [kE, kT, kL, kC, List.map_cons, List.map_nil] <;> rfl) (by simp only [kfe, beq_self_eq_true, Bool.and_true, Bool.true_and, decide_true, Nat.zero_add, Nat.lt_add_one, Nat.reduceLT, Nat.reduceAdd, Nat.zero_lt_succ, if_true, ↓reduceIte] <;> rfl)) (by simp only [kP] <;> rfl) ?_
   refine OkOps.append tab_ok rfl rfl (by simp only [kT] <;> rfl) (by simp only [kT] <;> rfl) (by decide) rfl (by simp only [kE, kT, kL, kC] <;> rfl) (.inl ⟨_, _, by simp only [kE, kT, kL, kC] <;> rfl⟩) (by omega) (by omega) (by simp only [List.length_map, List.length_cons, List.length_nil]; omega) (by simp only [List.length_map, List.length_cons, List.length_nil]; omega) (by simp [V.one]) (by simp only [V.killL, V.killLL, V.travL, V.travLL, V.trav, killS, killP, Nat.reduceEqDiff, ↓reduceIte, reduceCtorEq, if_true, if_false, List.append_nil, List.nil_append, List.cons_append, zz, zf, zy] <;> rfl) (by simp only [V.killL, V.killLL, V.travL, V.travLL, V.trav, killS, killP, Nat.reduceEqDiff, ↓reduceIte, reduceCtorEq, if_true, if_false, List.append_nil, List.nil_append, List.cons_append, zz, zf, zy, kP] <;> rfl) (rfl) ?_
   refine EV ?_
   refine ON ?_
   refine Ok.region ?_
   iterate 2 (refine EV ?_)
   refine ON ?_
   refine ⟨j + 1, ?_, rfl, ⟨by omega, up_next g2 hnw⟩, by omega⟩
   simp only [V.renL, V.travL, V.travLL, V.trav, frz, zz, zf, zy, Nat.reduceLeDiff, ↓reduceIte]
   (repeat (first | exact trivial | refine leC ?_ | refine leK ?_ ?_)) <;> first | ((first | (rw [wrap_add_one (by omega)]; exact le_rfl' _) | (rw [seen_mail hi hj, List.map_append]; exact le_rfl' _) | (refine le_eqm ?_; rw [seen_mail hi hj, List.map_append]; rfl))) | exact le_rfl' _
  try simp only [bsimp] at hb10
  obtain rfl : j = s.boxes[i].mails.length := by omega
  have hgd : boxGood s i = true := by unfold boxGood; rw [hb7, boxNew_get hi, allUp_yes g2]; rfl
  refine Ok.exit ?_
  refine Ok.region ?_
  iterate 2 (refine EV ?_)
  refine ON ?_
  refine ⟨i + 1, ?_, rfl, ⟨by omega, up_next h2 hgd⟩, by omega⟩
  simp only [V.renL, V.travL, V.travLL, V.trav, frz, zz, zf, zy, Nat.reduceLeDiff, ↓reduceIte]
  (repeat (first | exact trivial | refine leC ?_ | refine leK ?_ ?_)) <;> first | ((first | (rw [wrap_add_one (by omega)]; exact le_rfl' _) | (rw [seen_box hi]; exact le_rfl' _))) | exact le_rfl' _
 try simp only [bsimp] at hb5
 obtain rfl : i = s.boxes.length := by omega
 rw [show storeOk s = true by unfold storeOk; rw [hh, allUp_yes h2]; rfl]
 refine Ok.exit ?_
 refine OQ ?_
 refine EV ?_
 refine ON ?_
 refine Ok.ret ?_
 with_reducible repeat (first | refine thenQ_ret ?_ | refine blockQ_ret ?_)
 refine RT ?_
 rfl
theorem w_spec_BoxOk (b : Box) (h : smBox b) : Weak Tryz.prog 148 [.agg (cBox b)] (.bool (boxOk b)) := by
 refine Weak.enter tab_ok Tryz.func148 rfl (.inr (by simp [V.labelsL, V.labels, V.labelsLL, zz, zf, zy, or_imp, forall_and])) (t := [.agg (cBox b), .any, .any, .any, .any, .any, .any, .any, .any, .any, .any, .any, .any, .any, .any, .any, .any, .any, .any, .any, .any, .any, .any, .any, .any, .any, .any, .any, .any, .any, .any, .any, .any, .any, .any, .any, .any, .any, .any, .any, .any, .any, .any, .any, .any, .any, .any, .any, .any, .any, .any, .any, .any, .any, .any, .any, .any, .any, .any, .any, .any, .any, .any, .any, .any, .any, .any, .any, .any, .any, .any, .any, .any, .any, .any, .any, .any, .any, .any, .any, .any, .any, .any, .any, .any, .any, .any, .any, .any, .any, .any, .any]) rfl ?_
 refine OQ ?_
 iterate 2 (refine EV ?_)
 refine ON ?_
 refine Ok.seq ?_
 refine Ok.seqC [(38, .bool (!boxHead b))] [5, 6, 7, 8, 9, 10, 11, 12, 13, 14, 15, 16, 17, 18, 19, 20, 21, 22, 23, 24, 25, 26, 27, 28, 29, 30, 31, 32, 33, 34, 35, 36, 37] (by simp only [kover] <;> rfl) ?_ ?_
 ·
  refine Ok.region ?_
  iterate 2 (refine EV ?_)
  refine OW cl118 (w_spec_l01In b.gid 1 9999) ?_
  iterate 2 (refine EV ?_)
  refine OP (d := 9) (fun hg1_4 => ?_) (fun hg1_4 => ?_)
  ·
   try simp only [bsimp] at hg1_4
   iterate 4 (refine OU ?_)
   iterate 2 (refine EV ?_)
   iterate 4 (refine OU ?_)
   iterate 2 (refine EV ?_)
   iterate 4 (refine OU ?_)
   iterate 2 (refine EV ?_)
   iterate 4 (refine OU ?_)
   iterate 2 (refine EV ?_)
   iterate 4 (refine OU ?_)
   refine EV ?_
   refine ON ?_
   refine ⟨rfl, ?_, rfl, rfl⟩
   (repeat (first | exact trivial | refine leC ?_ | refine leK ?_ ?_)) <;> first | (refine .inl (congrArg V.bool ?_); (first | (simp [boxHead, gidOk, *]; done) | (simp [boxHead, gidOk, *] <;> omega) | (rw [Bool.eq_iff_iff]; simp [boxHead, gidOk, *] <;> omega) | (simp_all [boxHead, gidOk]; done) | (simp_all [boxHead, gidOk]; omega))) | exact le_rfl' _
  try simp only [bsimp] at hg1_4
  refine OX ?_
  refine OX ?_
  refine OO ?_
  refine OW cl201 (w_spec_NameOk b.name (by have := h.1; omega)) ?_
  refine OO ?_
  iterate 3 (refine EV ?_)
  refine OP (d := 15) (fun hg1_10 => ?_) (fun hg1_10 => ?_)
  ·
   try simp only [bsimp] at hg1_10
   iterate 4 (refine OU ?_)
   iterate 2 (refine EV ?_)
   iterate 4 (refine OU ?_)
   iterate 2 (refine EV ?_)
   iterate 4 (refine OU ?_)
   iterate 2 (refine EV ?_)
   iterate 4 (refine OU ?_)
   refine EV ?_
   refine ON ?_
   refine ⟨rfl, ?_, rfl, rfl⟩
   (repeat (first | exact trivial | refine leC ?_ | refine leK ?_ ?_)) <;> first | (refine .inl (congrArg V.bool ?_); (first | (simp [boxHead, gidOk, *]; done) | (simp [boxHead, gidOk, *] <;> omega) | (rw [Bool.eq_iff_iff]; simp [boxHead, gidOk, *] <;> omega) | (simp_all [boxHead, gidOk]; done) | (simp_all [boxHead, gidOk]; omega))) | exact le_rfl' _
  try simp only [bsimp] at hg1_10
  refine OX ?_
  refine OX ?_
  refine OO ?_
  refine OW cl202 (w_spec_StampOk b.named) ?_
  refine OO ?_
  iterate 3 (refine EV ?_)
  refine OP (d := 21) (fun hg1_16 => ?_) (fun hg1_16 => ?_)
  ·
   try simp only [bsimp] at hg1_16
   iterate 4 (refine OU ?_)
   iterate 2 (refine EV ?_)
   iterate 4 (refine OU ?_)
   iterate 2 (refine EV ?_)
   iterate 4 (refine OU ?_)
   refine EV ?_
   refine ON ?_
   refine ⟨rfl, ?_, rfl, rfl⟩
   (repeat (first | exact trivial | refine leC ?_ | refine leK ?_ ?_)) <;> first | (refine .inl (congrArg V.bool ?_); (first | (simp [boxHead, gidOk, *]; done) | (simp [boxHead, gidOk, *] <;> omega) | (rw [Bool.eq_iff_iff]; simp [boxHead, gidOk, *] <;> omega) | (simp_all [boxHead, gidOk]; done) | (simp_all [boxHead, gidOk]; omega))) | exact le_rfl' _
  try simp only [bsimp] at hg1_16
  refine OX ?_
  refine OX ?_
  refine OO ?_
  refine OW cl118 (w_spec_l01In b.next 1 10000) ?_
  refine OO ?_
  iterate 3 (refine EV ?_)
  refine OP (d := 27) (fun hg1_22 => ?_) (fun hg1_22 => ?_)
  ·
   try simp only [bsimp] at hg1_22
   iterate 4 (refine OU ?_)
   iterate 2 (refine EV ?_)
   iterate 4 (refine OU ?_)
   refine EV ?_
   refine ON ?_
   refine ⟨rfl, ?_, rfl, rfl⟩
   (repeat (first | exact trivial | refine leC ?_ | refine leK ?_ ?_)) <;> first | (refine .inl (congrArg V.bool ?_); (first | (simp [boxHead, gidOk, *]; done) | (simp [boxHead, gidOk, *] <;> omega) | (rw [Bool.eq_iff_iff]; simp [boxHead, gidOk, *] <;> omega) | (simp_all [boxHead, gidOk]; done) | (simp_all [boxHead, gidOk]; omega))) | exact le_rfl' _
  try simp only [bsimp] at hg1_22
  iterate 3 (refine OX ?_)
  refine OO ?_
  iterate 3 (refine EV ?_)
  refine OP (d := 33) (fun hg1_28 => ?_) (fun hg1_28 => ?_)
  ·
   try simp only [bsimp] at hg1_28
   iterate 4 (refine OU ?_)
   refine EV ?_
   refine ON ?_
   refine ⟨rfl, ?_, rfl, rfl⟩
   (repeat (first | exact trivial | refine leC ?_ | refine leK ?_ ?_)) <;> first | (refine .inl (congrArg V.bool ?_); (first | (simp [boxHead, gidOk, *]; done) | (simp [boxHead, gidOk, *] <;> omega) | (rw [Bool.eq_iff_iff]; simp [boxHead, gidOk, *] <;> omega) | (simp_all [boxHead, gidOk]; done) | (simp_all [boxHead, gidOk]; omega))) | exact le_rfl' _
  try simp only [bsimp] at hg1_28
  refine OX ?_
  refine OX ?_
  refine OO ?_
  refine OW cl147 (w_spec_l06Sorted b.gone 40 (by have := h.2.2; omega)) ?_
  refine OO ?_
  iterate 2 (refine EV ?_)
  refine ON ?_
  refine ⟨rfl, ?_, rfl, rfl⟩
  (repeat (first | exact trivial | refine leC ?_ | refine leK ?_ ?_)) <;> first | (refine .inl (congrArg V.bool ?_); (first | (simp [boxHead, gidOk, *]; done) | (simp [boxHead, gidOk, *] <;> omega) | (rw [Bool.eq_iff_iff]; simp [boxHead, gidOk, *] <;> omega) | (simp_all [boxHead, gidOk]; done) | (simp_all [boxHead, gidOk]; omega))) | exact le_rfl' _
 refine OC (fun hb1 => ?_) (fun hb1 => ?_)
 ·
  try simp only [bsimp] at hb1
  rw [show boxOk b = false by unfold boxOk; rw [show boxHead b = false from hb1, Bool.false_and]]
  refine OQ ?_
  refine EV ?_
  refine ON ?_
  refine Ok.ret ?_
  with_reducible repeat (first | refine thenQ_ret ?_ | refine blockQ_ret ?_)
  refine RT ?_
  rfl
 try simp only [bsimp] at hb1
 have hh : boxHead b = true := hb1
 refine Ok.skip ?_
 refine Ok.seq ?_
 refine OQ ?_
 refine EV ?_
 refine ON ?_
 refine Ok.block ?_
 refine Ok.loopWZ (τ := Nat) (fun x => [(3, .int .i64 (x : Int))]) [2, 4, 39, 40, 41, 42, 43, 44, 45, 46, 47, 48, 49, 50, 51, 52, 53, 54, 55, 56, 57, 58, 59, 60, 61, 62, 63, 64, 65, 66, 67, 68, 69, 70, 71, 72, 73, 74, 75, 76, 77, 78, 79, 80, 81, 82, 83, 84, 85, 86, 87, 88, 89, 90, 91] (fun x => by simp only [kover] <;> rfl) (fun x => x ≤ b.mails.length ∧ ∀ k, k < x → mailFine b k = true) (fun x => b.mails.length - x) 0 (by omega) (by (repeat (first | exact trivial | refine leC ?_ | refine leK ?_ ?_)) <;> first | (exact le_rfl' _) | exact le_rfl' _) (⟨Nat.zero_le _, fun k h => by omega⟩) ?_
 rintro i ⟨h1, h2⟩
 refine Ok.seq ?_
 refine OQ ?_
 iterate 5 (refine EV ?_)
 refine ON ?_
 refine OC (fun hb4 => ?_) (fun hb4 => ?_)
 ·
  try simp only [bsimp] at hb4
  have hi : i < b.mails.length := by omega
  have hmf := mailFine_at hi
  have hcap := h.2.1.1
  refine Ok.skip ?_
  refine Ok.seq ?_
  refine Ok.block ?_
  refine OQ ?_
  iterate 3 (refine EV ?_)
  refine OkOps.ev tab_ok rfl (ev_idx_map (by simp only [kE, kT, kL, kC] <;> rfl) (by simp only [kE, kT, kL, kC] <;> rfl) (by omega) (by simp only [kE, kT, kL, kC] <;> rfl)) (by simp only [kP] <;> rfl) ?_
  iterate 2 (refine EV ?_)
  refine OE ?_
  refine ON ?_
  refine Ok.seqC [(91, .bool (!mailFine b i))] [51, 52, 53, 54, 55, 56, 57, 58, 59, 60, 61, 62, 63, 64, 65, 66, 67, 68, 69, 70, 71, 72, 73, 74, 75, 76, 77, 78, 79, 80, 81, 82, 83, 84, 85, 86, 87, 88, 89, 90] (by simp only [kover] <;> rfl) ?_ ?_
  ·
   refine Ok.drawn 41 92 [] (by kernel_rfl) (by kernel_rfl) rfl ?_
   refine SV ?_
   refine SOps.S0 rfl (OpS.weakM rfl (by simp only [kE, kT, kL, kC] <;> rfl) (by simp only [kE, kT, kL, kC] <;> rfl) cl203 (w_spec_MailOk b.mails[i] (by have := (h.2.1.2 _ (List.getElem_mem hi)).1; omega))) (by simp only [kP] <;> rfl) ?_
   iterate 2 (refine SV ?_)
   refine SOps.split (d := 54) (by simp only [kE, kT, kL, kC] <;> rfl) (by simp only [kP] <;> rfl) (by simp only [kP] <;> rfl) (fun hg7_3 => ?_) (fun hg7_3 => ?_)
   ·
    try simp only [bsimp] at hg7_3
    iterate 5 (refine SU ?_)
    iterate 2 (refine SV ?_)
    iterate 14 (refine SU ?_)
    iterate 2 (refine SV ?_)
    iterate 5 (refine SU ?_)
    iterate 2 (refine SV ?_)
    iterate 6 (refine SU ?_)
    refine SV ?_
    refine SOps.nil ?_
    refine TOps.nil ?_
    refine ⟨rfl, ?_, rfl, rfl⟩
    (repeat (first | exact trivial | refine leC ?_ | refine leK ?_ ?_)) <;> first | (refine .inl (congrArg V.bool ?_); (first | (simp [hmf, *]; done) | (simp [hmf, *] <;> omega) | (rw [Bool.eq_iff_iff]; simp [hmf, *] <;> omega) | (simp_all [hmf]; done) | (simp_all [hmf]; omega))) | exact le_rfl' _
   try simp only [bsimp] at hg7_3
   iterate 5 (refine SN ?_)
   iterate 2 (refine SV ?_)
   refine SOps.split (d := 61) (by simp only [kE, kT, kL, kC] <;> rfl) (by simp only [kP] <;> rfl) (by simp only [kP] <;> rfl) (fun hg7_10 => ?_) (fun hg7_10 => ?_)
   ·
    try simp only [bsimp] at hg7_10
    iterate 14 (refine SU ?_)
    iterate 2 (refine SV ?_)
    iterate 5 (refine SU ?_)
    iterate 2 (refine SV ?_)
    iterate 6 (refine SU ?_)
    refine SV ?_
    refine SOps.nil ?_
    refine TOps.nil ?_
    refine ⟨rfl, ?_, rfl, rfl⟩
    (repeat (first | exact trivial | refine leC ?_ | refine leK ?_ ?_)) <;> first | (refine .inl (congrArg V.bool ?_); (first | (simp [hmf, *]; done) | (simp [hmf, *] <;> omega) | (rw [Bool.eq_iff_iff]; simp [hmf, *] <;> omega) | (simp_all [hmf]; done) | (simp_all [hmf]; omega))) | exact le_rfl' _
   try simp only [bsimp] at hg7_10
   iterate 3 (refine SN ?_)
   refine SOps.split (d := 64) (by simp only [kE, kT, kL, kC] <;> rfl) (by simp only [kP] <;> rfl) (by simp only [kP] <;> rfl) (fun hg7_13 => ?_) (fun hg7_13 => ?_)
   ·
    try simp only [bsimp] at hg7_13
    have hpos : 0 < i := by omega
    have hbf := beforeB_get (p := fun (x y : Mail) => decide (x.uid < y.uid)) hi hpos
    iterate 3 (refine SN ?_)
    refine SOps.onEv tab_ok rfl rfl (by simp only [kE, kT, kL, kC]) (by simp only [kE, kT, kL, kC, wrap_pred hpos (by omega)] <;> rfl) (by simp only [kP] <;> rfl) ?_
    refine SOps.onEv tab_ok rfl rfl (by simp only [kE, kT, kL, kC]) (ev_idx_map (by simp only [kE, kT, kL, kC] <;> rfl) (by simp only [kE, kT, kL, kC] <;> rfl) (by omega) (by simp only [kE, kT, kL, kC] <;> rfl)) (by simp only [kP] <;> rfl) ?_
    iterate 6 (refine SN ?_)
    iterate 2 (refine SV ?_)
    refine SOps.split (d := 77) (by simp only [kE, kT, kL, kC] <;> rfl) (by simp only [kP] <;> rfl) (by simp only [kP] <;> rfl) (fun hg7_26 => ?_) (fun hg7_26 => ?_)
    ·
     try simp only [bsimp] at hg7_26
     iterate 5 (refine SU ?_)
     iterate 2 (refine SV ?_)
     iterate 6 (refine SU ?_)
     refine SV ?_
     refine SOps.nil ?_
     refine TOps.nil ?_
     refine ⟨rfl, ?_, rfl, rfl⟩
     (repeat (first | exact trivial | refine leC ?_ | refine leK ?_ ?_)) <;> first | (refine .inl (congrArg V.bool ?_); (first | (simp [hmf, *]; done) | (simp [hmf, *] <;> omega) | (rw [Bool.eq_iff_iff]; simp [hmf, *] <;> omega) | (simp_all [hmf]; done) | (simp_all [hmf]; omega))) | exact le_rfl' _
    try simp only [bsimp] at hg7_26
    iterate 4 (refine SN ?_)
    refine SOps.onS0 rfl rfl (by simp only [kE, kT, kL, kC]) (OpS.weakM rfl (by simp only [kE, kT, kL, kC] <;> rfl) (by simp only [kE, kT, kL, kC] <;> rfl) cl150 (w_spec_l06In b.gone b.mails[i].gid (by have := h.2.2; omega))) (by simp only [kP] <;> rfl) ?_
    iterate 2 (refine SV ?_)
    refine SOps.split (d := 84) (by simp only [kE, kT, kL, kC] <;> rfl) (by simp only [kP] <;> rfl) (by simp only [kP] <;> rfl) (fun hg7_33 => ?_) (fun hg7_33 => ?_)
    ·
     try simp only [bsimp] at hg7_33
     iterate 6 (refine SU ?_)
     refine SV ?_
     refine SOps.nil ?_
     refine TOps.nil ?_
     refine ⟨rfl, ?_, rfl, rfl⟩
     (repeat (first | exact trivial | refine leC ?_ | refine leK ?_ ?_)) <;> first | (refine .inl (congrArg V.bool ?_); (first | (simp [hmf, *]; done) | (simp [hmf, *] <;> omega) | (rw [Bool.eq_iff_iff]; simp [hmf, *] <;> omega) | (simp_all [hmf]; done) | (simp_all [hmf]; omega))) | exact le_rfl' _
    try simp only [bsimp] at hg7_33
    iterate 3 (refine SN ?_)
    refine SOps.onS0 rfl rfl (by simp only [kE, kT, kL, kC]) (OpS.weakM rfl (by simp only [kE, kT, kL, kC] <;> rfl) (by simp only [kE, kT, kL, kC] <;> rfl) cl204 (w_spec_MailAt b b.mails[i].gid (by have := h.2.1.1; omega))) (by simp only [kP] <;> rfl) ?_
    refine SN ?_
    refine SN ?_
    refine SV ?_
    refine SOps.nil ?_
    refine TOps.nil ?_
    refine ⟨rfl, ?_, rfl, rfl⟩
    (repeat (first | exact trivial | refine leC ?_ | refine leK ?_ ?_)) <;> first | (refine .inl (congrArg V.bool ?_); (first | (simp [hmf, *]; done) | (simp [hmf, *] <;> omega) | (rw [Bool.eq_iff_iff]; simp [hmf, *] <;> omega) | (simp_all [hmf]; done) | (simp_all [hmf]; omega))) | exact le_rfl' _
   try simp only [bsimp] at hg7_13
   have hbf : beforeB b.mails (fun x y => decide (x.uid < y.uid)) i = true := by rw [show i = 0 by omega]; rfl
   iterate 10 (refine SU ?_)
   refine SN ?_
   iterate 2 (refine SV ?_)
   iterate 4 (refine SN ?_)
   refine SOps.onS0 rfl rfl (by simp only [kE, kT, kL, kC]) (OpS.weakM rfl (by simp only [kE, kT, kL, kC] <;> rfl) (by simp only [kE, kT, kL, kC] <;> rfl) cl150 (w_spec_l06In b.gone b.mails[i].gid (by have := h.2.2; omega))) (by simp only [kP] <;> rfl) ?_
   iterate 2 (refine SV ?_)
   refine SOps.split (d := 84) (by simp only [kE, kT, kL, kC] <;> rfl) (by simp only [kP] <;> rfl) (by simp only [kP] <;> rfl) (fun hg7_33 => ?_) (fun hg7_33 => ?_)
   ·
    try simp only [bsimp] at hg7_33
    iterate 6 (refine SU ?_)
    refine SV ?_
    refine SOps.nil ?_
    refine TOps.nil ?_
    refine ⟨rfl, ?_, rfl, rfl⟩
    (repeat (first | exact trivial | refine leC ?_ | refine leK ?_ ?_)) <;> first | (refine .inl (congrArg V.bool ?_); (first | (simp [hmf, *]; done) | (simp [hmf, *] <;> omega) | (rw [Bool.eq_iff_iff]; simp [hmf, *] <;> omega) | (simp_all [hmf]; done) | (simp_all [hmf]; omega))) | exact le_rfl' _
   try simp only [bsimp] at hg7_33
   iterate 3 (refine SN ?_)
   refine SOps.onS0 rfl rfl (by simp only [kE, kT, kL, kC]) (OpS.weakM rfl (by simp only [kE, kT, kL, kC] <;> rfl) (by simp only [kE, kT, kL, kC] <;> rfl) cl204 (w_spec_MailAt b b.mails[i].gid (by have := h.2.1.1; omega))) (by simp only [kP] <;> rfl) ?_
   refine SN ?_
   refine SN ?_
   refine SV ?_
   refine SOps.nil ?_
   refine TOps.nil ?_
   refine ⟨rfl, ?_, rfl, rfl⟩
   (repeat (first | exact trivial | refine leC ?_ | refine leK ?_ ?_)) <;> first | (refine .inl (congrArg V.bool ?_); (first | (simp [hmf, *]; done) | (simp [hmf, *] <;> omega) | (rw [Bool.eq_iff_iff]; simp [hmf, *] <;> omega) | (simp_all [hmf]; done) | (simp_all [hmf]; omega))) | exact le_rfl' _
  refine OC (fun hb7 => ?_) (fun hb7 => ?_)
  ·
   try simp only [bsimp] at hb7
   rw [show boxOk b = false by unfold boxOk; rw [allUp_no hi hb7, Bool.and_false]]
   refine OQ ?_
   refine EV ?_
   refine ON ?_
   refine Ok.ret ?_
   with_reducible repeat (first | refine thenQ_ret ?_ | refine blockQ_ret ?_)
   refine RT ?_
   rfl
  try simp only [bsimp] at hb7
  refine Ok.skip ?_
  refine Ok.region ?_
  iterate 3 (refine EV ?_)
  refine ON ?_
  refine ⟨i + 1, ?_, rfl, ⟨by omega, up_next h2 hb7⟩, by omega⟩
  simp only [V.renL, V.travL, V.travLL, V.trav, frz, zz, zf, zy, Nat.reduceLeDiff, ↓reduceIte]
  (repeat (first | exact trivial | refine leC ?_ | refine leK ?_ ?_)) <;> first | ((rw [wrap_add_one (by have := h.2.1.1; omega)]; exact le_rfl' _)) | exact le_rfl' _
 try simp only [bsimp] at hb4
 obtain rfl : i = b.mails.length := by omega
 rw [show boxOk b = true by unfold boxOk; rw [hh, allUp_yes h2]; rfl]
 refine Ok.exit ?_
 refine OQ ?_
 refine EV ?_
 refine ON ?_
 refine Ok.ret ?_
 with_reducible repeat (first | refine thenQ_ret ?_ | refine blockQ_ret ?_)
 refine RT ?_
 rfl
theorem w_spec_StoreOk (s : Store) (h : smStore s) : Weak Tryz.prog 97 [.agg (cStore s)] (.bool (storeOk s)) := by
 refine Weak.enter tab_ok Tryz.func97 rfl (.inr (by simp [V.labelsL, V.labels, V.labelsLL, zz, zf, zy, or_imp, forall_and])) (t := [.agg (cStore s), .any, .any, .any, .any, .any, .any, .any, .any, .any, .any, .any, .any, .any, .any, .any, .any, .any, .any, .any, .any, .any, .any, .any, .any, .any, .any, .any, .any, .any, .any, .any, .any, .any, .any, .any, .any, .any, .any, .any, .any, .any, .any, .any, .any, .any, .any, .any, .any, .any, .any, .any, .any, .any, .any, .any, .any, .any, .any, .any, .any, .any, .any, .any, .any, .any, .any, .any, .any, .any, .any, .any, .any, .any, .any, .any, .any, .any, .any, .any, .any, .any, .any, .any, .any, .any, .any, .any, .any, .any, .any, .any, .any, .any, .any, .any, .any, .any, .any, .any, .any, .any, .any, .any, .any, .any, .any]) rfl ?_
 refine OQ ?_
 iterate 2 (refine EV ?_)
 refine ON ?_
 refine Ok.seq ?_
 refine Ok.seqC [(28, .bool (!storeHead s))] [7, 8, 9, 10, 11, 12, 13, 14, 15, 16, 17, 18, 19, 20, 21, 22, 23, 24, 25, 26, 27] (by simp only [kover] <;> rfl) ?_ ?_
 ·
  refine Ok.region ?_
  iterate 2 (refine EV ?_)
  refine OW cl118 (w_spec_l01In s.by_ 1 2) ?_
  iterate 2 (refine EV ?_)
  refine OP (d := 11) (fun hg1_4 => ?_) (fun hg1_4 => ?_)
  ·
   try simp only [bsimp] at hg1_4
   iterate 4 (refine OU ?_)
   iterate 2 (refine EV ?_)
   iterate 4 (refine OU ?_)
   iterate 2 (refine EV ?_)
   iterate 4 (refine OU ?_)
   refine EV ?_
   refine ON ?_
   refine ⟨rfl, ?_, rfl, rfl⟩
   (repeat (first | exact trivial | refine leC ?_ | refine leK ?_ ?_)) <;> first | (refine .inl (congrArg V.bool ?_); (first | (simp [storeHead, *]; done) | (simp [storeHead, *] <;> omega) | (rw [Bool.eq_iff_iff]; simp [storeHead, *] <;> omega) | (simp_all [storeHead]; done) | (simp_all [storeHead]; omega))) | exact le_rfl' _
  try simp only [bsimp] at hg1_4
  refine OX ?_
  refine OX ?_
  refine OO ?_
  refine OW cl118 (w_spec_l01In s.time 0 100000) ?_
  refine OO ?_
  iterate 3 (refine EV ?_)
  refine OP (d := 17) (fun hg1_10 => ?_) (fun hg1_10 => ?_)
  ·
   try simp only [bsimp] at hg1_10
   iterate 4 (refine OU ?_)
   iterate 2 (refine EV ?_)
   iterate 4 (refine OU ?_)
   refine EV ?_
   refine ON ?_
   refine ⟨rfl, ?_, rfl, rfl⟩
   (repeat (first | exact trivial | refine leC ?_ | refine leK ?_ ?_)) <;> first | (refine .inl (congrArg V.bool ?_); (first | (simp [storeHead, *]; done) | (simp [storeHead, *] <;> omega) | (rw [Bool.eq_iff_iff]; simp [storeHead, *] <;> omega) | (simp_all [storeHead]; done) | (simp_all [storeHead]; omega))) | exact le_rfl' _
  try simp only [bsimp] at hg1_10
  iterate 3 (refine OX ?_)
  refine OO ?_
  iterate 3 (refine EV ?_)
  refine OP (d := 23) (fun hg1_16 => ?_) (fun hg1_16 => ?_)
  ·
   try simp only [bsimp] at hg1_16
   iterate 4 (refine OU ?_)
   refine EV ?_
   refine ON ?_
   refine ⟨rfl, ?_, rfl, rfl⟩
   (repeat (first | exact trivial | refine leC ?_ | refine leK ?_ ?_)) <;> first | (refine .inl (congrArg V.bool ?_); (first | (simp [storeHead, *]; done) | (simp [storeHead, *] <;> omega) | (rw [Bool.eq_iff_iff]; simp [storeHead, *] <;> omega) | (simp_all [storeHead]; done) | (simp_all [storeHead]; omega))) | exact le_rfl' _
  try simp only [bsimp] at hg1_16
  refine OX ?_
  refine OX ?_
  refine OO ?_
  refine OW cl147 (w_spec_l06Sorted s.gone 20 (by have := h.2; omega)) ?_
  refine OO ?_
  iterate 2 (refine EV ?_)
  refine ON ?_
  refine ⟨rfl, ?_, rfl, rfl⟩
  (repeat (first | exact trivial | refine leC ?_ | refine leK ?_ ?_)) <;> first | (refine .inl (congrArg V.bool ?_); (first | (simp [storeHead, *]; done) | (simp [storeHead, *] <;> omega) | (rw [Bool.eq_iff_iff]; simp [storeHead, *] <;> omega) | (simp_all [storeHead]; done) | (simp_all [storeHead]; omega))) | exact le_rfl' _
 refine OC (fun hb1 => ?_) (fun hb1 => ?_)
 ·
  try simp only [bsimp] at hb1
  rw [show storeOk s = false by unfold storeOk; rw [show storeHead s = false from hb1, Bool.false_and]]
  refine OQ ?_
  refine EV ?_
  refine ON ?_
  refine Ok.ret ?_
  with_reducible repeat (first | refine thenQ_ret ?_ | refine blockQ_ret ?_)
  refine RT ?_
  rfl
 try simp only [bsimp] at hb1
 have hh : storeHead s = true := hb1
 have hcap := h.1.1
 refine Ok.skip ?_
 refine OQ ?_
 iterate 2 (refine EV ?_)
 refine ON ?_
 refine Ok.seq ?_
 refine OQ ?_
 refine EV ?_
 refine ON ?_
 refine Ok.block ?_
 refine Ok.bump (n' := 3) (by omega) ?_
 refine Ok.loopWZ (τ := Nat) (fun x => [(3, .sl 2 1 0 ((seenG s x 0).map cZ)), (4, .int .i64 (x : Int))]) [2, 5, 6, 30, 31, 32, 33, 34, 35, 36, 37, 38, 39, 40, 41, 42, 43, 44, 45, 46, 47, 48, 49, 50, 51, 52, 53, 54, 55, 56, 57, 58, 59, 60, 61, 62, 63, 64, 65, 66, 67, 68, 69, 70, 71, 72, 73, 74, 75, 76, 77, 78, 79, 80, 81, 82, 83, 84, 85, 86, 87, 88, 89, 90, 91, 92, 93, 94, 95, 96, 97, 98, 99, 100, 101, 102, 103, 104, 105, 106] (fun x => by simp only [kover] <;> rfl) (fun x => x ≤ s.boxes.length ∧ ∀ k, k < x → boxGood s k = true) (fun x => s.boxes.length - x) 0 (by omega) (by (repeat (first | exact trivial | refine leC ?_ | refine leK ?_ ?_)) <;> first | (first | exact le_rfl' _ | (rw [seen_zero]; exact le_nil 2 1)) | exact le_rfl' _) (⟨Nat.zero_le _, fun k h => by omega⟩) ?_
 rintro i ⟨h1, h2⟩
 refine Ok.seq ?_
 refine OQ ?_
 iterate 5 (refine EV ?_)
 refine ON ?_
 refine OC (fun hb5 => ?_) (fun hb5 => ?_)
 ·
  try simp only [bsimp] at hb5
  have hi : i < s.boxes.length := by omega
  have hmf := boxFine_at hi
  have hmc := (h.1.2 _ (List.getElem_mem hi)).2.1.1
  refine Ok.skip ?_
  refine Ok.seq ?_
  refine Ok.block ?_
  refine OQ ?_
  iterate 3 (refine EV ?_)
  refine OkOps.ev tab_ok rfl (ev_idx_map (by simp only [kE, kT, kL, kC] <;> rfl) (by simp only [kE, kT, kL, kC] <;> rfl) (by omega) (by simp only [kE, kT, kL, kC] <;> rfl)) (by simp only [kP] <;> rfl) ?_
  iterate 2 (refine EV ?_)
  refine OE ?_
  refine ON ?_
  refine Ok.seq ?_
  refine Ok.seqC [(82, .bool (!boxFine s i))] [42, 43, 44, 45, 46, 47, 48, 49, 50, 51, 52, 53, 54, 55, 56, 57, 58, 59, 60, 61, 62, 63, 64, 65, 66, 67, 68, 69, 70, 71, 72, 73, 74, 75, 76, 77, 78, 79, 80, 81] (by simp only [kover] <;> rfl) ?_ ?_
  ·
   refine Ok.drawn 41 107 [] (by kernel_rfl) (by kernel_rfl) rfl ?_
   refine SV ?_
   refine SOps.S0 rfl (OpS.weakM rfl (by simp only [kE, kT, kL, kC] <;> rfl) (by simp only [kE, kT, kL, kC] <;> rfl) cl148 (w_spec_BoxOk s.boxes[i] (h.1.2 _ (List.getElem_mem hi)))) (by simp only [kP] <;> rfl) ?_
   iterate 2 (refine SV ?_)
   refine SOps.split (d := 45) (by simp only [kE, kT, kL, kC] <;> rfl) (by simp only [kP] <;> rfl) (by simp only [kP] <;> rfl) (fun hg8_3 => ?_) (fun hg8_3 => ?_)
   ·
    try simp only [bsimp] at hg8_3
    iterate 14 (refine SU ?_)
    iterate 2 (refine SV ?_)
    iterate 6 (refine SU ?_)
    iterate 2 (refine SV ?_)
    iterate 5 (refine SU ?_)
    iterate 2 (refine SV ?_)
    iterate 5 (refine SU ?_)
    refine SV ?_
    refine SOps.nil ?_
    refine TOps.nil ?_
    refine ⟨rfl, ?_, rfl, rfl⟩
    (repeat (first | exact trivial | refine leC ?_ | refine leK ?_ ?_)) <;> first | (refine .inl (congrArg V.bool ?_); (first | (simp [hmf, *]; done) | (simp [hmf, *] <;> omega) | (rw [Bool.eq_iff_iff]; simp [hmf, *] <;> omega) | (simp_all [hmf]; done) | (simp_all [hmf]; omega))) | exact le_rfl' _
   try simp only [bsimp] at hg8_3
   iterate 3 (refine SN ?_)
   refine SOps.split (d := 48) (by simp only [kE, kT, kL, kC] <;> rfl) (by simp only [kP] <;> rfl) (by simp only [kP] <;> rfl) (fun hg8_6 => ?_) (fun hg8_6 => ?_)
   ·
    try simp only [bsimp] at hg8_6
    have hpos : 0 < i := by omega
    have hbf := beforeB_get (p := fun (x y : Box) => decide (x.gid < y.gid)) hi hpos
    iterate 3 (refine SN ?_)
    refine SOps.onEv tab_ok rfl rfl (by simp only [kE, kT, kL, kC]) (by simp only [kE, kT, kL, kC, wrap_pred hpos (by omega)] <;> rfl) (by simp only [kP] <;> rfl) ?_
    refine SOps.onEv tab_ok rfl rfl (by simp only [kE, kT, kL, kC]) (ev_idx_map (by simp only [kE, kT, kL, kC] <;> rfl) (by simp only [kE, kT, kL, kC] <;> rfl) (by omega) (by simp only [kE, kT, kL, kC] <;> rfl)) (by simp only [kP] <;> rfl) ?_
    iterate 6 (refine SN ?_)
    iterate 2 (refine SV ?_)
    refine SOps.split (d := 61) (by simp only [kE, kT, kL, kC] <;> rfl) (by simp only [kP] <;> rfl) (by simp only [kP] <;> rfl) (fun hg8_19 => ?_) (fun hg8_19 => ?_)
    ·
     try simp only [bsimp] at hg8_19
     iterate 6 (refine SU ?_)
     iterate 2 (refine SV ?_)
     iterate 5 (refine SU ?_)
     iterate 2 (refine SV ?_)
     iterate 5 (refine SU ?_)
     refine SV ?_
     refine SOps.nil ?_
     refine TOps.nil ?_
     refine ⟨rfl, ?_, rfl, rfl⟩
     (repeat (first | exact trivial | refine leC ?_ | refine leK ?_ ?_)) <;> first | (refine .inl (congrArg V.bool ?_); (first | (simp [hmf, *]; done) | (simp [hmf, *] <;> omega) | (rw [Bool.eq_iff_iff]; simp [hmf, *] <;> omega) | (simp_all [hmf]; done) | (simp_all [hmf]; omega))) | exact le_rfl' _
    try simp only [bsimp] at hg8_19
    iterate 3 (refine SN ?_)
    refine SOps.onS0 rfl rfl (by simp only [kE, kT, kL, kC]) (OpS.weakM rfl (by simp only [kE, kT, kL, kC] <;> rfl) (by simp only [kE, kT, kL, kC] <;> rfl) cl149 (w_spec_BoxNamed s s.boxes[i].name (by have := h.1.1; omega))) (by simp only [kP] <;> rfl) ?_
    refine SN ?_
    refine SN ?_
    iterate 2 (refine SV ?_)
    refine SOps.split (d := 69) (by simp only [kE, kT, kL, kC] <;> rfl) (by simp only [kP] <;> rfl) (by simp only [kP] <;> rfl) (fun hg8_27 => ?_) (fun hg8_27 => ?_)
    ·
     try simp only [bsimp] at hg8_27
     iterate 5 (refine SU ?_)
     iterate 2 (refine SV ?_)
     iterate 5 (refine SU ?_)
     refine SV ?_
     refine SOps.nil ?_
     refine TOps.nil ?_
     refine ⟨rfl, ?_, rfl, rfl⟩
     (repeat (first | exact trivial | refine leC ?_ | refine leK ?_ ?_)) <;> first | (refine .inl (congrArg V.bool ?_); (first | (simp [hmf, *]; done) | (simp [hmf, *] <;> omega) | (rw [Bool.eq_iff_iff]; simp [hmf, *] <;> omega) | (simp_all [hmf]; done) | (simp_all [hmf]; omega))) | exact le_rfl' _
    try simp only [bsimp] at hg8_27
    iterate 4 (refine SN ?_)
    refine SOps.onS0 rfl rfl (by simp only [kE, kT, kL, kC]) (OpS.weakM rfl (by simp only [kE, kT, kL, kC] <;> rfl) (by simp only [kE, kT, kL, kC] <;> rfl) cl150 (w_spec_l06In s.gone s.boxes[i].gid (by have := h.2; omega))) (by simp only [kP] <;> rfl) ?_
    iterate 2 (refine SV ?_)
    refine SOps.split (d := 76) (by simp only [kE, kT, kL, kC] <;> rfl) (by simp only [kP] <;> rfl) (by simp only [kP] <;> rfl) (fun hg8_34 => ?_) (fun hg8_34 => ?_)
    ·
     try simp only [bsimp] at hg8_34
     iterate 5 (refine SU ?_)
     refine SV ?_
     refine SOps.nil ?_
     refine TOps.nil ?_
     refine ⟨rfl, ?_, rfl, rfl⟩
     (repeat (first | exact trivial | refine leC ?_ | refine leK ?_ ?_)) <;> first | (refine .inl (congrArg V.bool ?_); (first | (simp [hmf, *]; done) | (simp [hmf, *] <;> omega) | (rw [Bool.eq_iff_iff]; simp [hmf, *] <;> omega) | (simp_all [hmf]; done) | (simp_all [hmf]; omega))) | exact le_rfl' _
    try simp only [bsimp] at hg8_34
    iterate 3 (refine SN ?_)
    refine SOps.onS0 rfl rfl (by simp only [kE, kT, kL, kC]) (OpS.weakM rfl (by simp only [kE, kT, kL, kC] <;> rfl) (by simp only [kE, kT, kL, kC] <;> rfl) cl151 (w_spec_l07Times s.boxes[i] s.time (by have := (h.1.2 _ (List.getElem_mem hi)).2.1.1; omega) (fun m hm => by have := ((h.1.2 _ (List.getElem_mem hi)).2.1.2 m hm).1; omega))) (by simp only [kP] <;> rfl) ?_
    refine SN ?_
    refine SV ?_
    refine SOps.nil ?_
    refine TOps.nil ?_
    refine ⟨rfl, ?_, rfl, rfl⟩
    (repeat (first | exact trivial | refine leC ?_ | refine leK ?_ ?_)) <;> first | (refine .inl (congrArg V.bool ?_); (first | (simp [hmf, *]; done) | (simp [hmf, *] <;> omega) | (rw [Bool.eq_iff_iff]; simp [hmf, *] <;> omega) | (simp_all [hmf]; done) | (simp_all [hmf]; omega))) | exact le_rfl' _
   try simp only [bsimp] at hg8_6
   have hbf : beforeB s.boxes (fun x y => decide (x.gid < y.gid)) i = true := by rw [show i = 0 by omega]; rfl
   iterate 10 (refine SU ?_)
   refine SN ?_
   iterate 2 (refine SV ?_)
   iterate 3 (refine SN ?_)
   refine SOps.onS0 rfl rfl (by simp only [kE, kT, kL, kC]) (OpS.weakM rfl (by simp only [kE, kT, kL, kC] <;> rfl) (by simp only [kE, kT, kL, kC] <;> rfl) cl149 (w_spec_BoxNamed s s.boxes[i].name (by have := h.1.1; omega))) (by simp only [kP] <;> rfl) ?_
   refine SN ?_
   refine SN ?_
   iterate 2 (refine SV ?_)
   refine SOps.split (d := 69) (by simp only [kE, kT, kL, kC] <;> rfl) (by simp only [kP] <;> rfl) (by simp only [kP] <;> rfl) (fun hg8_27 => ?_) (fun hg8_27 => ?_)
   ·
    try simp only [bsimp] at hg8_27
    iterate 5 (refine SU ?_)
    iterate 2 (refine SV ?_)
    iterate 5 (refine SU ?_)
    refine SV ?_
    refine SOps.nil ?_
    refine TOps.nil ?_
    refine ⟨rfl, ?_, rfl, rfl⟩
    (repeat (first | exact trivial | refine leC ?_ | refine leK ?_ ?_)) <;> first | (refine .inl (congrArg V.bool ?_); (first | (simp [hmf, *]; done) | (simp [hmf, *] <;> omega) | (rw [Bool.eq_iff_iff]; simp [hmf, *] <;> omega) | (simp_all [hmf]; done) | (simp_all [hmf]; omega))) | exact le_rfl' _
   try simp only [bsimp] at hg8_27
   iterate 4 (refine SN ?_)
   refine SOps.onS0 rfl rfl (by simp only [kE, kT, kL, kC]) (OpS.weakM rfl (by simp only [kE, kT, kL, kC] <;> rfl) (by simp only [kE, kT, kL, kC] <;> rfl) cl150 (w_spec_l06In s.gone s.boxes[i].gid (by have := h.2; omega))) (by simp only [kP] <;> rfl) ?_
   iterate 2 (refine SV ?_)
   refine SOps.split (d := 76) (by simp only [kE, kT, kL, kC] <;> rfl) (by simp only [kP] <;> rfl) (by simp only [kP] <;> rfl) (fun hg8_34 => ?_) (fun hg8_34 => ?_)
   ·
    try simp only [bsimp] at hg8_34
    iterate 5 (refine SU ?_)
    refine SV ?_
    refine SOps.nil ?_
    refine TOps.nil ?_
    refine ⟨rfl, ?_, rfl, rfl⟩
    (repeat (first | exact trivial | refine leC ?_ | refine leK ?_ ?_)) <;> first | (refine .inl (congrArg V.bool ?_); (first | (simp [hmf, *]; done) | (simp [hmf, *] <;> omega) | (rw [Bool.eq_iff_iff]; simp [hmf, *] <;> omega) | (simp_all [hmf]; done) | (simp_all [hmf]; omega))) | exact le_rfl' _
   try simp only [bsimp] at hg8_34
   iterate 3 (refine SN ?_)
   refine SOps.onS0 rfl rfl (by simp only [kE, kT, kL, kC]) (OpS.weakM rfl (by simp only [kE, kT, kL, kC] <;> rfl) (by simp only [kE, kT, kL, kC] <;> rfl) cl151 (w_spec_l07Times s.boxes[i] s.time (by have := (h.1.2 _ (List.getElem_mem hi)).2.1.1; omega) (fun m hm => by have := ((h.1.2 _ (List.getElem_mem hi)).2.1.2 m hm).1; omega))) (by simp only [kP] <;> rfl) ?_
   refine SN ?_
   refine SV ?_
   refine SOps.nil ?_
   refine TOps.nil ?_
   refine ⟨rfl, ?_, rfl, rfl⟩
   (repeat (first | exact trivial | refine leC ?_ | refine leK ?_ ?_)) <;> first | (refine .inl (congrArg V.bool ?_); (first | (simp [hmf, *]; done) | (simp [hmf, *] <;> omega) | (rw [Bool.eq_iff_iff]; simp [hmf, *] <;> omega) | (simp_all [hmf]; done) | (simp_all [hmf]; omega))) | exact le_rfl' _
  refine OC (fun hb8 => ?_) (fun hb8 => ?_)
  ·
   try simp only [bsimp] at hb8
   rw [show storeOk s = false by unfold storeOk; rw [allUp_no hi (show boxGood s i = false by unfold boxGood; rw [hb8, Bool.false_and]), Bool.and_false]]
   refine OQ ?_
   refine EV ?_
   refine ON ?_
   refine Ok.ret ?_
   with_reducible repeat (first | refine thenQ_ret ?_ | refine blockQ_ret ?_)
   refine RT ?_
   rfl
  try simp only [bsimp] at hb8
  refine Ok.skip ?_
  refine OQ ?_
  refine EV ?_
  refine ON ?_
  refine Ok.block ?_
  refine Ok.loopWZ (τ := Nat) (fun x => [(3, .sl 2 1 0 ((seenG s i x).map cZ)), (6, .int .i64 (x : Int))]) [2, 83, 84, 85, 86, 87, 88, 89, 90, 91, 92, 93, 94, 95, 96, 97, 98, 99, 100, 101, 102, 103, 104, 105, 106] (fun x => by simp only [kover] <;> rfl) (fun x => x ≤ s.boxes[i].mails.length ∧ ∀ k, k < x → newAt s i k = true) (fun x => s.boxes[i].mails.length - x) 0 (by omega) (by (repeat (first | exact trivial | refine leC ?_ | refine leK ?_ ?_)) <;> first | (exact le_rfl' _) | exact le_rfl' _) (⟨Nat.zero_le _, fun k h => by omega⟩) ?_
  rintro j ⟨g1, g2⟩
  refine Ok.seq ?_
  refine OQ ?_
  iterate 5 (refine EV ?_)
  refine ON ?_
  refine OC (fun hb11 => ?_) (fun hb11 => ?_)
  ·
   try simp only [bsimp] at hb11
   have hj : j < s.boxes[i].mails.length := by omega
   have hna := newAt_get hi hj
   have hsl := seen_len h hi hj
   refine Ok.skip ?_
   refine Ok.seq ?_
   refine Ok.block ?_
   refine Ok.seq ?_
   refine OQ ?_
   iterate 4 (refine EV ?_)
   refine OkOps.ev tab_ok rfl (ev_idx_map (by simp only [kE, kT, kL, kC] <;> rfl) (by simp only [kE, kT, kL, kC] <;> rfl) (by omega) (by simp only [kE, kT, kL, kC] <;> rfl)) (by simp only [kP] <;> rfl) ?_
   iterate 2 (refine EV ?_)
   refine OkOps.S0 rfl (OpS.weakE rfl (by simp only [kE, kT, kL, kC] <;> rfl) (by simp only [kE, kT, kL, kC, V.eraseL, V.erase, V.travL, V.trav, zz, zf, zy] <;> rfl) cl150 (by simp [V.labels, V.labelsL, V.labelsLL, zz, zf, zy]) (w_spec_l06In (seenG s i j) s.boxes[i].mails[j].gid (by omega))) (by simp only [kP] <;> rfl) ?_
   refine ON ?_
   refine OC (fun hb13 => ?_) (fun hb13 => ?_)
   ·
    try simp only [bsimp] at hb13
    have hnw : newAt s i j = false := by rw [hna]; simpa using hb13
    rw [show storeOk s = false by unfold storeOk; rw [allUp_no hi (show boxGood s i = false by unfold boxGood; rw [boxNew_get hi, allUp_no hj hnw, Bool.and_false]), Bool.and_false]]
    refine OQ ?_
    refine EV ?_
    refine ON ?_
    refine Ok.ret ?_
    with_reducible repeat (first | refine thenQ_ret ?_ | refine blockQ_ret ?_)
    refine RT ?_
    rfl
   try simp only [bsimp] at hb13
   have hnw : newAt s i j = true := by rw [hna]; simpa using hb13
   refine Ok.skip ?_
   refine Ok.region ?_
   iterate 4 (refine EV ?_)
   refine OkOps.ev tab_ok rfl (ev_idx_map (by simp only [kE, kT, kL, kC] <;> rfl) (by simp only [kE, kT, kL, kC] <;> rfl) (by omega) (by simp only [kE, kT, kL, kC] <;> rfl)) (by simp only [kP] <;> rfl) ?_
   iterate 2 (refine EV ?_)
   refine OkOps.ev tab_ok rfl (ev_bs (by simp only [kT] <;> rfl) (by simp only [kT] <;> rfl) (by decide) (by decide) (by simp only [kE, kT, kL, kC, List.map_cons, List.map_nil] <;> rfl) (by simp only [kfe, beq_self_eq_true, Bool.and_true, Bool.true_and, decide_true, Nat.zero_add, Nat.lt_add_one, Nat.reduceLT, Nat.reduceAdd, Nat.zero_lt_succ, if_true, ↓reduceIte] <;> rfl)) (by simp only [kP] <;> rfl) ?_
   refine OkOps.append tab_ok rfl rfl (by simp only [kT] <;> rfl) (by simp only [kT] <;> rfl) (by decide) rfl (by simp only [kE, kT, kL, kC] <;> rfl) (.inl ⟨_, _, by simp only [kE, kT, kL, kC] <;> rfl⟩) (by omega) (by omega) (by simp only [List.length_map, List.length_cons, List.length_nil]; omega) (by simp only [List.length_map, List.length_cons, List.length_nil]; omega) (by simp [V.one]) (by simp only [V.killL, V.killLL, V.travL, V.travLL, V.trav, killS, killP, Nat.reduceEqDiff, ↓reduceIte, reduceCtorEq, if_true, if_false, List.append_nil, List.nil_append, List.cons_append, zz, zf, zy] <;> rfl) (by simp only [V.killL, V.killLL, V.travL, V.travLL, V.trav, killS, killP, Nat.reduceEqDiff, ↓reduceIte, reduceCtorEq, if_true, if_false, List.append_nil, List.nil_append, List.cons_append, zz, zf, zy, kP] <;> rfl) (rfl) ?_
   refine EV ?_
   refine ON ?_
   refine Ok.region ?_
   iterate 3 (refine EV ?_)
   refine ON ?_
   refine ⟨j + 1, ?_, rfl, ⟨by omega, up_next g2 hnw⟩, by omega⟩
   simp only [V.renL, V.travL, V.travLL, V.trav, frz, zz, zf, zy, Nat.reduceLeDiff, ↓reduceIte]
   (repeat (first | exact trivial | refine leC ?_ | refine leK ?_ ?_)) <;> first | ((first | (rw [wrap_add_one (by omega)]; exact le_rfl' _) | (rw [seen_mail hi hj, List.map_append]; exact le_rfl' _) | (refine le_eqm ?_; rw [seen_mail hi hj, List.map_append]; rfl))) | exact le_rfl' _
  try simp only [bsimp] at hb11
  obtain rfl : j = s.boxes[i].mails.length := by omega
  have hgd : boxGood s i = true := by unfold boxGood; rw [hb8, boxNew_get hi, allUp_yes g2]; rfl
  refine Ok.exit ?_
  refine Ok.region ?_
  iterate 3 (refine EV ?_)
  refine ON ?_
  refine ⟨i + 1, ?_, rfl, ⟨by omega, up_next h2 hgd⟩, by omega⟩
  simp only [V.renL, V.travL, V.travLL, V.trav, frz, zz, zf, zy, Nat.reduceLeDiff, ↓reduceIte]
  (repeat (first | exact trivial | refine leC ?_ | refine leK ?_ ?_)) <;> first | ((first | (rw [wrap_add_one (by omega)]; exact le_rfl' _) | (rw [seen_box hi]; exact le_rfl' _))) | exact le_rfl' _
 try simp only [bsimp] at hb5
 obtain rfl : i = s.boxes.length := by omega
 rw [show storeOk s = true by unfold storeOk; rw [hh, allUp_yes h2]; rfl]
 refine Ok.exit ?_
 refine OQ ?_
 refine EV ?_
 refine ON ?_
 refine Ok.ret ?_
 with_reducible repeat (first | refine thenQ_ret ?_ | refine blockQ_ret ?_)
 refine RT ?_
 rfl
end Go.Proofs.YtjhfabimacljhaaGreat.K

/- Marks on data of the call's own: what becomes of the values is told by a map that keeps all else. -/
namespace Go.Proofs.YtjhfabimacljhaaGreat.K
open Go Go.RowKit
set_option linter.unusedVariables false
set_option linter.unusedSimpArgs false
theorem le_eqm {a b : V} (h : a = b) : V.le a b := h ▸ le_rfl' a
mutual
theorem trav_far {L : Nat} {fs : Nat → Nat → Nat → List (List V) → V} {fp : Nat → Nat → Nat → List V → V} (hs : ∀ M sz off es, M ≠ L → fs M sz off es = .sl M sz off es) (hp : ∀ M i o e, M ≠ L → fp M i o e = .ptr M i o e) : ∀ x : V, L ∉ V.labels x → V.trav V.nil fs fp x = x
  | .sl M sz off es, h => by
    simp only [V.labels, List.mem_cons, not_or] at h
    show fs M sz off (V.travLL V.nil fs fp es) = _
    rw [hs _ _ _ _ (Ne.symm h.1), travLL_far hs hp es h.2]
  | .ptr M i o e, h => by
    simp only [V.labels, List.mem_cons, not_or] at h
    show fp M i o (V.travL V.nil fs fp e) = _
    rw [hp _ _ _ _ (Ne.symm h.1), travL_far hs hp e h.2]
  | .fn f cs, h => by show V.fn f (V.travL V.nil fs fp cs) = _; rw [travL_far hs hp cs h]
  | .agg cs, h => by show V.agg (V.travL V.nil fs fp cs) = _; rw [travL_far hs hp cs h]
  | .tup cs, h => by show V.tup (V.travL V.nil fs fp cs) = _; rw [travL_far hs hp cs h]
  | .any, _ => rfl
  | .bool _, _ => rfl
  | .int .., _ => rfl
  | .str _, _ => rfl
  | .nil s, _ => rfl
  | .nilP, _ => rfl
theorem travL_far {L : Nat} {fs : Nat → Nat → Nat → List (List V) → V} {fp : Nat → Nat → Nat → List V → V} (hs : ∀ M sz off es, M ≠ L → fs M sz off es = .sl M sz off es) (hp : ∀ M i o e, M ≠ L → fp M i o e = .ptr M i o e) : ∀ l : List V, L ∉ V.labelsL l → V.travL V.nil fs fp l = l
  | [], _ => rfl
  | x :: l, h => by
    simp only [V.labelsL, List.mem_append, not_or] at h
    show V.trav V.nil fs fp x :: V.travL V.nil fs fp l = _
    rw [trav_far hs hp x h.1, travL_far hs hp l h.2]
theorem travLL_far {L : Nat} {fs : Nat → Nat → Nat → List (List V) → V} {fp : Nat → Nat → Nat → List V → V} (hs : ∀ M sz off es, M ≠ L → fs M sz off es = .sl M sz off es) (hp : ∀ M i o e, M ≠ L → fp M i o e = .ptr M i o e) : ∀ l : List (List V), L ∉ V.labelsLL l → V.travLL V.nil fs fp l = l
  | [], _ => rfl
  | x :: l, h => by
    simp only [V.labelsLL, List.mem_append, not_or] at h
    show V.travL V.nil fs fp x :: V.travLL V.nil fs fp l = _
    rw [travL_far hs hp x h.1, travLL_far hs hp l h.2]
end
structure Hom (f : V → V) (Ls : Nat → Prop) : Prop where
  far : ∀ v, (∀ L ∈ V.labels v, ¬ Ls L) → f v = v
  agg : ∀ cs, f (.agg cs) = .agg (cs.map f)
  ptr : ∀ L i o e, ¬ Ls L → f (.ptr L i o e) = .ptr L i o (e.map f)
  sl : ∀ L sz off es, ¬ Ls L → f (.sl L sz off es) = .sl L sz off (es.map (List.map f))
section
variable {f g : V → V} {A B : Nat → Prop}
theorem Hom.id' (A : Nat → Prop) : Hom id A :=
  ⟨fun _ _ => rfl, fun cs => by rw [List.map_id]; rfl, fun L i o e _ => by rw [List.map_id]; rfl, fun L sz off es _ => by rw [show (List.map id : List V → List V) = id from funext fun l => List.map_id l, List.map_id]; rfl⟩
theorem Hom.comp (hg : Hom g A) (hf : Hom f A) : Hom (g ∘ f) A :=
  ⟨fun v h => by show g (f v) = v; rw [hf.far v h, hg.far v h], fun cs => by show g (f _) = _; rw [hf.agg, hg.agg, List.map_map],
   fun L i o e h => by show g (f _) = _; rw [hf.ptr _ _ _ _ h, hg.ptr _ _ _ _ h, List.map_map],
   fun L sz off es h => by
    show g (f _) = _
    rw [hf.sl _ _ _ _ h, hg.sl _ _ _ _ h, List.map_map]
    congr 1
    refine List.map_congr_left fun e _ => ?_
    show List.map g (List.map f e) = _
    rw [List.map_map]⟩
theorem Hom.mono (hf : Hom f A) (h : ∀ L, A L → B L) : Hom f B :=
  ⟨fun v hv => hf.far v fun L hL hA => hv L hL (h L hA), hf.agg, fun L i o e hL => hf.ptr L i o e fun hA => hL (h L hA), fun L sz off es hL => hf.sl L sz off es fun hA => hL (h L hA)⟩
theorem Hom.int (hf : Hom f A) (k : IntKind) (n : Int) : f (.int k n) = .int k n := hf.far _ fun L h => by cases h
theorem Hom.str (hf : Hom f A) (s : List UInt8) : f (.str s) = .str s := hf.far _ fun L h => by cases h
theorem Hom.bool (hf : Hom f A) (b : Bool) : f (.bool b) = .bool b := hf.far _ fun L h => by cases h
theorem Hom.any (hf : Hom f A) : f .any = .any := hf.far _ fun L h => by cases h
theorem Hom.tup0 (hf : Hom f A) : f (.tup []) = .tup [] := hf.far _ fun L h => by cases h
theorem Hom.farL (hf : Hom f A) (l : List V) (h : ∀ L ∈ V.labelsL l, ¬ A L) : l.map f = l := by
  induction l with
  | nil => rfl
  | cons x xs ih =>
    simp only [V.labelsL, List.mem_append] at h
    rw [List.map_cons, hf.far x fun L hL => h L (.inl hL), ih fun L hL => h L (.inr hL)]
theorem Hom.farLL (hf : Hom f A) (l : List (List V)) (h : ∀ L ∈ V.labelsLL l, ¬ A L) : l.map (List.map f) = l := by
  induction l with
  | nil => rfl
  | cons x xs ih =>
    simp only [V.labelsLL, List.mem_append] at h
    rw [List.map_cons, hf.farL x fun L hL => h L (.inl hL), ih fun L hL => h L (.inr hL)]
end
theorem upd_hom (L j : Nat) (e' : List V) : Hom (V.upd L j e') (· = L) :=
  ⟨fun v h => trav_far (fun M sz off es hM => if_neg fun hh => hM hh.1) (fun M i o e hM => if_neg fun hh => hM hh.1) v fun hL => h L hL rfl,
   fun cs => by show V.agg (V.travL _ _ _ cs) = _; rw [travL_eq]; rfl,
   fun M i o e hM => by show updP L j e' M i o (V.travL _ _ _ e) = _; rw [updP, if_neg fun hh => hM hh.1, travL_eq]; rfl,
   fun M sz off es hM => by
    show updS L j e' M sz off (V.travLL _ _ _ es) = _
    rw [updS, if_neg fun hh => hM hh.1, travLL_eq]
    congr 1
    refine List.map_congr_left fun e _ => ?_
    rw [travL_eq]; rfl⟩
structure StoreF (W : V → V) (L j : Nat) (e' : List V) : Prop where
  sl : ∀ sz es, L ∉ V.labelsLL es → W (.sl L sz 0 es) = .sl L sz 0 (es.set j e')
  ptr : ∀ o e, W (.ptr L j o e) = .ptr L j o e'
theorem upd_storeF (L j : Nat) (e' : List V) : StoreF (V.upd L j e') L j e' :=
  ⟨fun sz es h => by
    show updS L j e' L sz 0 (V.travLL _ _ _ es) = _
    rw [travLL_far (L := L) (fs := updS L j e') (fp := updP L j e') (fun M sz off es hM => if_neg fun hh => hM hh.1) (fun M i o e hM => if_neg fun hh => hM hh.1) es h, updS, if_pos ⟨rfl, Nat.zero_le _⟩, Nat.sub_zero],
   fun o e => by show updP L j e' L j o (V.travL _ _ _ e) = _; rw [updP, if_pos ⟨rfl, rfl⟩]⟩
mutual
def V.mn : V → Nat
  | .sl _ _ _ es => V.mnLL es
  | .ptr .. => 0
  | .fn .. => 0
  | .agg _ => 0
  | .tup _ => 0
  | .any => 0
  | .bool _ => 1
  | .int .. => 1
  | .str _ => 1
  | .nil _ => 0
  | .nilP => 0
def V.mnL : List V → Nat
  | [] => 0
  | x :: xs => V.mn x + V.mnL xs
def V.mnLL : List (List V) → Nat
  | [] => 0
  | e :: es => V.mnL e + V.mnLL es
end
mutual
def V.mk (k : Nat) : V → V
  | .sl L sz off es => .sl L sz off (V.mkLL k es)
  | .ptr L i o e => .ptr L i o e
  | .fn f cs => .fn f cs
  | .agg cs => .agg cs
  | .tup cs => .tup cs
  | .any => .any
  | .bool _ => .bool (decide ((k : Int).tmod 3 = 0))
  | .int κ _ => .int κ (k : Int)
  | .str _ => .str (markT k)
  | .nil s => .nil s
  | .nilP => .nilP
def V.mkL (k : Nat) : List V → List V
  | [] => []
  | x :: xs => V.mk k x :: V.mkL (k + V.mn x) xs
def V.mkLL (k : Nat) : List (List V) → List (List V)
  | [] => []
  | e :: es => V.mkL k e :: V.mkLL (k + V.mnL e) es
end
mutual
theorem mk_labels : ∀ (x : V) (k : Nat), V.labels (V.mk k x) = V.labels x
  | .sl L sz off es, k => by show L :: V.labelsLL (V.mkLL k es) = _; rw [mkLL_labels es k]; rfl
  | .ptr L i o e, k => rfl
  | .fn f cs, k => rfl
  | .agg cs, k => rfl
  | .tup cs, k => rfl
  | .any, k => rfl
  | .bool _, k => rfl
  | .int .., k => rfl
  | .str _, k => rfl
  | .nil s, k => rfl
  | .nilP, k => rfl
theorem mkL_labels : ∀ (l : List V) (k : Nat), V.labelsL (V.mkL k l) = V.labelsL l
  | [], k => rfl
  | x :: l, k => by show V.labels (V.mk k x) ++ V.labelsL (V.mkL _ l) = _; rw [mk_labels x k, mkL_labels l]; rfl
theorem mkLL_labels : ∀ (l : List (List V)) (k : Nat), V.labelsLL (V.mkLL k l) = V.labelsLL l
  | [], k => rfl
  | x :: l, k => by show V.labelsL (V.mkL k x) ++ V.labelsLL (V.mkLL _ l) = _; rw [mkL_labels x k, mkLL_labels l]; rfl
end
mutual
theorem mn_erase : ∀ x : V, V.mn (V.erase x) = V.mn x
  | .sl L sz off es => by show V.mnLL (V.eraseLL es) = _; rw [mnLL_erase es]; rfl
  | .ptr L i o e => rfl
  | .fn f cs => rfl
  | .agg cs => rfl
  | .tup cs => rfl
  | .any => rfl
  | .bool _ => rfl
  | .int .. => rfl
  | .str _ => rfl
  | .nil s => rfl
  | .nilP => rfl
theorem mnL_erase : ∀ l : List V, V.mnL (V.eraseL l) = V.mnL l
  | [] => rfl
  | x :: l => by show V.mn (V.erase x) + V.mnL (V.eraseL l) = _; rw [mn_erase x, mnL_erase l]; rfl
theorem mnLL_erase : ∀ l : List (List V), V.mnLL (V.eraseLL l) = V.mnLL l
  | [] => rfl
  | x :: l => by show V.mnL (V.eraseL x) + V.mnLL (V.eraseLL l) = _; rw [mnL_erase x, mnLL_erase l]; rfl
end
mutual
def V.pl : V → Bool
  | .sl _ _ off es => off == 0 && V.plLL es
  | .bool _ => true
  | .int .. => true
  | .str _ => true
  | .ptr .. => false
  | .fn .. => false
  | .agg _ => false
  | .tup _ => false
  | .any => false
  | .nil _ => false
  | .nilP => false
def V.plL : List V → Bool
  | [] => true
  | x :: xs => V.pl x && V.plL xs
def V.plLL : List (List V) → Bool
  | [] => true
  | e :: es => V.plL e && V.plLL es
end
mutual
theorem mk_erase : ∀ (x : V) (k : Nat), V.pl x = true → V.erase (V.mk k x) = V.mk k (V.erase x)
  | .sl L sz off es, k, h => by
    simp only [V.pl, Bool.and_eq_true] at h
    show V.sl 0 sz 0 (V.eraseLL (V.mkLL k es)) = V.sl 0 sz 0 (V.mkLL k (V.eraseLL es))
    rw [mkLL_erase es k h.2]
  | .bool _, k, h => rfl
  | .int .., k, h => rfl
  | .str _, k, h => rfl
  | .ptr .., k, h => by cases h
  | .fn .., k, h => by cases h
  | .agg _, k, h => by cases h
  | .tup _, k, h => by cases h
  | .any, k, h => by cases h
  | .nil _, k, h => by cases h
  | .nilP, k, h => by cases h
theorem mkL_erase : ∀ (l : List V) (k : Nat), V.plL l = true → V.eraseL (V.mkL k l) = V.mkL k (V.eraseL l)
  | [], k, h => rfl
  | x :: l, k, h => by
    simp only [V.plL, Bool.and_eq_true] at h
    show V.erase (V.mk k x) :: V.eraseL (V.mkL _ l) = V.mk k (V.erase x) :: V.mkL (k + V.mn (V.erase x)) (V.eraseL l)
    rw [mk_erase x k h.1, mkL_erase l _ h.2, mn_erase]
theorem mkLL_erase : ∀ (l : List (List V)) (k : Nat), V.plLL l = true → V.eraseLL (V.mkLL k l) = V.mkLL k (V.eraseLL l)
  | [], k, h => rfl
  | x :: l, k, h => by
    simp only [V.plLL, Bool.and_eq_true] at h
    show V.eraseL (V.mkL k x) :: V.eraseLL (V.mkLL _ l) = V.mkL k (V.eraseL x) :: V.mkLL (k + V.mnL (V.eraseL x)) (V.eraseLL l)
    rw [mkL_erase x k h.1, mkLL_erase l _ h.2, mnL_erase]
end
theorem labelsLL_app (a b : List (List V)) : V.labelsLL (a ++ b) = V.labelsLL a ++ V.labelsLL b := by
  induction a with
  | nil => rfl
  | cons x a ih => rw [List.cons_append]; show V.labelsL x ++ V.labelsLL (a ++ b) = V.labelsL x ++ V.labelsLL a ++ V.labelsLL b; rw [ih, List.append_assoc]
def MarkQ (A : Nat → Prop) (a a' R : V) (h : List V) (m : Nat) : V → List V → Nat → Prop := fun r h1 n1 => r = R ∧ n1 = m ∧ ∃ U, Hom U A ∧ U a = a' ∧ h1 = h.map U
section
variable {P : Program} {ti : Tab} {t h h0 : List V} {n n' : Nat} {Q : Exit → List V → List V → Nat → Prop} {ops : Array Oper} {o : Oper} {l : List Oper} {t' : List V}
theorem setN_set : ∀ (t : List V) (d : Nat) (x : V), setN t d x = t.set d x
  | [], d, x => by cases d <;> rfl
  | y :: t, 0, x => rfl
  | y :: t, d + 1, x => by show y :: setN t d x = y :: t.set d x; rw [setN_set t d x]
theorem Ok.drop {c : Code} (dead : List Nat) (ht : overD dead t = t') (hk : Ok P c t' h n Q) : Ok P c t h n Q := by
  have hlen : ∀ (dead : List Nat) (t : List V), (overD dead t).length = t.length := by
    intro dead
    induction dead with
    | nil => intro t; rfl
    | cons d l ih => intro t; show (overD l (setN t d .any)).length = _; rw [ih, setN_set, List.length_set]
  have hget : ∀ (dead : List Nat) (t : List V) (i : Nat) (x y : V), t[i]? = some x → (overD dead t)[i]? = some y → y = x ∨ y = .any := by
    intro dead
    induction dead with
    | nil => intro t i x y hx hy; exact .inl (Option.some.inj (hy.symm.trans hx))
    | cons d l ih =>
      intro t i x y hx hy
      have hy' : (overD l (setN t d .any))[i]? = some y := hy
      by_cases hdi : d = i
      · subst hdi
        have hs : (setN t d .any)[d]? = some .any := by
          have hi := (List.getElem?_eq_some_iff.1 hx).1
          rw [setN_set, List.getElem?_set_self hi]
        rcases ih _ _ _ _ hs hy' with h | h
        · exact .inr h
        · exact .inr h
      · have hs : (setN t d .any)[i]? = some x := by rw [setN_set, List.getElem?_set_ne hdi, hx]
        exact ih _ _ _ _ hs hy'
  subst ht
  refine Ok.forget (hlen dead t).symm (fun i x y hx hy => ?_) hk
  rcases hget dead t i x y hx hy with rfl | rfl
  · exact le_rfl' _
  · exact le_any _
theorem OkOps.storeU {T : TypeId} {p q : Operand} {L j : Nat} {e' : List V} {U0 : V → V} {v0 x x' : V} {B : Nat → Prop} (hti : TabOk P ti) (hg : o.guard = none) (ho : o.op = .store T p q) (hs : Go.Proofs.YtjhfabimacljhaaGreat.K.storeE (ti T) (opnd t p) (opnd t q) = some (L, j, e')) (hc : ∃ y l, cellsV (opnd t q) = y :: l) (hfree : L ∉ V.labelsL e')
    (hU : Hom U0 B) (hv : U0 v0 = x) (hB : B L) (hx : ∀ W, Hom W (· = L) → StoreF W L j e' → W x = x') (ht : ∀ W, Hom W (· = L) → StoreF W L j e' → putV (t.map W) o.dst .any = t')
    (hk : ∀ U, Hom U B → U v0 = x' → OkOps P ops l t' (h0.map U) n Q) : OkOps P ops (o :: l) t (h0.map U0) n Q := by
  have hW := upd_hom L j e'
  have hF := upd_storeF L j e'
  refine OkOps.storeE hti hg ho hs hc hfree (t' := t') (h' := h0.map (V.upd L j e' ∘ U0)) ?_ ?_ ?_
  · unfold V.updL; rw [travL_eq]; exact ht _ hW hF
  · unfold V.updL; rw [travL_eq, List.map_map]; rfl
  · exact hk _ ((hW.mono fun M hM => by rw [hM]; exact hB).comp hU) (by show V.upd L j e' (U0 v0) = x'; rw [hv, hx _ hW hF])
end
end Go.Proofs.YtjhfabimacljhaaGreat.K

/- Walks: texts of stores. Printed by w2.py. -/
namespace Go.Proofs.YtjhfabimacljhaaGreat.K
open Go Go.RowKit
set_option linter.unusedVariables false
set_option linter.unusedSimpArgs false
set_option maxHeartbeats 4000000
set_option maxRecDepth 20000
theorem w_impl_MailText (m : Mail) (h : smMail m) : Weak Tryz.prog 172 [.agg (cMail m)] (vO (mailText m)) := by
 refine Weak.enter tab_ok Tryz.func172 rfl (.inr (by simp [V.labelsL, V.labels, V.labelsLL, zz, zf, zy, or_imp, forall_and])) (t := [.agg (cMail m), .any, .any, .any, .any, .any, .any, .any, .any, .any, .any, .any, .any, .any, .any, .any, .any, .any, .any, .any, .any, .any, .any, .any, .any, .any, .any, .any, .any, .any, .any, .any, .any, .any, .any, .any, .any, .any, .any, .any, .any]) rfl ?_
 refine OQ ?_
 iterate 3 (refine EV ?_)
 refine ON ?_
 refine Ok.seq ?_
 refine OQ ?_
 refine EV ?_
 refine OW cl217 (w_impl_MailOk m (by have := h.1; omega)) ?_
 refine EV ?_
 refine ON ?_
 refine OC (fun hb1 => ?_) (fun hb1 => ?_)
 ·
  try simp only [bsimp] at hb1
  have hk : mailOk m = false := by simpa using hb1
  rw [mailText_no hk]
  refine OQ ?_
  iterate 2 (refine EV ?_)
  refine ON ?_
  refine Ok.ret ?_
  with_reducible repeat (first | refine thenQ_ret ?_ | refine blockQ_ret ?_)
  refine RT ?_
  first | rfl | (simp [packV, mailT, V.erase, V.trav, V.travL, varsZ]; done)
 try simp only [bsimp] at hb1
 have hk : mailOk m = true := by simpa using hb1
 rw [mailText_yes hk]
 obtain ⟨k1, k2, k3, k4, k5⟩ := mailOk_is hk
 have v1 := varI_len (z := m.gid) (by omega)
 have v2 := varI_len (z := m.uid) (by omega)
 refine Ok.skip ?_
 refine OQ ?_
 iterate 4 (refine EV ?_)
 refine OkOps.ev tab_ok rfl (ev_bs (by simp only [kT] <;> rfl) (by simp only [kT] <;> rfl) (by decide) (by decide) (by simp only [kE, kT, kL, kC, List.map_cons, List.map_nil] <;> rfl) (by simp only [kfe, beq_self_eq_true, Bool.and_true, Bool.true_and, decide_true, Nat.zero_add, Nat.lt_add_one, Nat.reduceLT, Nat.reduceAdd, Nat.zero_lt_succ, if_true, ↓reduceIte] <;> rfl)) (by simp only [kP] <;> rfl) ?_
 refine OkOps.S0 rfl (OpS.weakE rfl (by simp only [kE, kT, kL, kC] <;> rfl) (by simp only [kE, kT, kL, kC, V.eraseL, V.erase, V.travL, V.trav, zz, zf, zy] <;> rfl) cl58 (by simp [V.labels, V.labelsL, V.labelsLL, zz, zf, zy]) (w_impl_vars [m.gid, m.uid] (by intro z hz; simp only [List.mem_cons, List.not_mem_nil, or_false] at hz; rcases hz with rfl | rfl <;> exact in9 (by omega)) (by simp))) (by simp only [kP] <;> rfl) ?_
 refine EV ?_
 refine ON ?_
 refine Ok.seq ?_
 refine OQ ?_
 iterate 4 (refine EV ?_)
 refine ON ?_
 refine Ok.block ?_
 refine Ok.loopWZ (τ := Nat) (fun x => [(4, .str (varsZ [m.gid, m.uid] ++ (m.flags.take x).flatMap regT)), (19, .int .i64 (x : Int))]) [6, 20, 21, 22, 23, 24, 25, 26, 27, 28, 29, 30, 31, 32, 33, 34, 35] (fun x => by simp only [kover] <;> rfl) (fun x => x ≤ m.flags.length) (fun x => m.flags.length - x) 0 (by omega) (by (repeat (first | exact trivial | refine leC ?_ | refine leK ?_ ?_)) <;> first | (first | exact le_rfl' _ | exact le_eqm (by rw [List.take_zero, List.flatMap_nil, List.append_nil]) | exact le_eqm (congrArg V.str (by simp))) | exact le_rfl' _) (Nat.zero_le _) ?_
 rintro i h1
 refine OQ ?_
 refine EV ?_
 refine ON ?_
 refine Ok.seq ?_
 refine OC (fun hb5 => ?_) (fun hb5 => ?_)
 ·
  try simp only [bsimp] at hb5
  have hi : i < m.flags.length := by omega
  have hn := flat_next (f := regT) hi
  have q0 := regs_len (l := m.flags.take i) (fun r hr => k3 r (List.mem_of_mem_take hr))
  have q1 : (m.flags.take i).length ≤ 3 := by rw [List.length_take]; omega
  have hr := regOk_is (flagOk_is (k3 _ (List.getElem_mem hi))).1
  have v3 := varI_len (z := m.flags[i].val) (by omega)
  have v4 := varI_len (z := m.flags[i].stamp.time) (by omega)
  have v5 := varI_len (z := m.flags[i].stamp.by_) (by omega)
  refine Ok.skip ?_
  refine Ok.seq ?_
  refine Ok.block ?_
  refine OQ ?_
  refine OkOps.ev tab_ok rfl (ev_idx_map (by simp only [kE, kT, kL, kC] <;> rfl) (by simp only [kE, kT, kL, kC] <;> rfl) (by omega) (by simp only [kE, kT, kL, kC] <;> rfl)) (by simp only [kP] <;> rfl) ?_
  iterate 2 (refine EV ?_)
  refine OE ?_
  refine ON ?_
  refine Ok.region ?_
  iterate 9 (refine EV ?_)
  refine OkOps.ev tab_ok rfl (ev_bs (by simp only [kT] <;> rfl) (by simp only [kT] <;> rfl) (by decide) (by decide) (by simp only [kE, kT, kL, kC, List.map_cons, List.map_nil] <;> rfl) (by simp only [kfe, beq_self_eq_true, Bool.and_true, Bool.true_and, decide_true, Nat.zero_add, Nat.lt_add_one, Nat.reduceLT, Nat.reduceAdd, Nat.zero_lt_succ, if_true, ↓reduceIte] <;> rfl)) (by simp only [kP] <;> rfl) ?_
  refine OkOps.S0 rfl (OpS.weakE rfl (by simp only [kE, kT, kL, kC] <;> rfl) (by simp only [kE, kT, kL, kC, V.eraseL, V.erase, V.travL, V.trav, zz, zf, zy] <;> rfl) cl58 (by simp [V.labels, V.labelsL, V.labelsLL, zz, zf, zy]) (w_impl_vars [m.flags[i].val, m.flags[i].stamp.time, m.flags[i].stamp.by_] (by intro z hz; simp only [List.mem_cons, List.not_mem_nil, or_false] at hz; rcases hz with rfl | rfl | rfl <;> exact in9 (by omega)) (by simp))) (by simp only [kP] <;> rfl) ?_
  refine OkOps.ev tab_ok rfl (ev_cat (by simp only [kE, kT, kL, kC] <;> rfl) (by simp only [kE, kT, kL, kC] <;> rfl) (by first | omega | (simp only [varsZ, Int.toNat_natCast, List.length_append, List.length_nil, List.length_cons] at *; omega) | (simp only [varsZ, varsZ_flat, Int.toNat_natCast, List.length_append, List.length_nil, List.length_cons] at *; omega))) (by simp only [kP] <;> rfl) ?_
  refine EV ?_
  refine ON ?_
  refine Ok.region ?_
  iterate 2 (refine EV ?_)
  refine ON ?_
  refine ⟨i + 1, ?_, rfl, by omega, by omega⟩
  simp only [V.renL, V.travL, V.travLL, V.trav, frz, zz, zf, zy, Nat.reduceLeDiff, ↓reduceIte]
  (repeat (first | exact trivial | refine leC ?_ | refine leK ?_ ?_)) <;> first | (first | (rw [wrap_add_one (by omega)]; exact le_rfl' _) | exact le_eqm (congrArg V.str (by rw [hn]; simp only [regT, varsZ, gT, List.append_assoc, List.append_nil])) | exact le_eqm (congrArg V.str (by rw [hn]; simp [regT, varsZ, gT]))) | exact le_rfl' _
 try simp only [bsimp] at hb5
 rw [show i = m.flags.length by omega, List.take_length]
 have q0 := regs_len k3
 have v3 := varT_len5 (n := m.text.length) (by omega)
 refine Ok.exit ?_
 refine OQ ?_
 iterate 3 (refine EV ?_)
 refine OW cl145 (w_impl_short m.text (by omega)) ?_
 refine OkOps.ev tab_ok rfl (ev_cat (by simp only [kE, kT, kL, kC] <;> rfl) (by simp only [kE, kT, kL, kC] <;> rfl) (by first | omega | (simp only [varsZ, Int.toNat_natCast, List.length_append, List.length_nil, List.length_cons] at *; omega) | (simp only [varsZ, varsZ_flat, Int.toNat_natCast, List.length_append, List.length_nil, List.length_cons] at *; omega))) (by simp only [kP] <;> rfl) ?_
 iterate 2 (refine EV ?_)
 refine ON ?_
 refine Ok.ret ?_
 with_reducible repeat (first | refine thenQ_ret ?_ | refine blockQ_ret ?_)
 refine RT ?_
 first | rfl | (simp [packV, mailT, V.erase, V.trav, V.travL, varsZ]; done)
theorem w_spec_MailText (m : Mail) (h : smMail m) : Weak Tryz.prog 152 [.agg (cMail m)] (vO (mailText m)) := by
 refine Weak.enter tab_ok Tryz.func152 rfl (.inr (by simp [V.labelsL, V.labels, V.labelsLL, zz, zf, zy, or_imp, forall_and])) (t := [.agg (cMail m), .any, .any, .any, .any, .any, .any, .any, .any, .any, .any, .any, .any, .any, .any, .any, .any, .any, .any, .any, .any, .any, .any, .any, .any, .any, .any, .any, .any, .any, .any, .any, .any, .any, .any, .any, .any, .any, .any, .any, .any, .any, .any, .any, .any, .any, .any, .any, .any, .any, .any, .any, .any, .any, .any, .any, .any, .any, .any]) rfl ?_
 refine OQ ?_
 iterate 3 (refine EV ?_)
 refine ON ?_
 refine Ok.seq ?_
 refine OQ ?_
 refine EV ?_
 refine OW cl203 (w_spec_MailOk m (by have := h.1; omega)) ?_
 refine EV ?_
 refine ON ?_
 refine OC (fun hb1 => ?_) (fun hb1 => ?_)
 ·
  try simp only [bsimp] at hb1
  have hk : mailOk m = false := by simpa using hb1
  rw [mailText_no hk]
  refine OQ ?_
  iterate 2 (refine EV ?_)
  refine ON ?_
  refine Ok.ret ?_
  with_reducible repeat (first | refine thenQ_ret ?_ | refine blockQ_ret ?_)
  refine RT ?_
  first | rfl | (simp [packV, mailT, V.erase, V.trav, V.travL, varsZ]; done)
 try simp only [bsimp] at hb1
 have hk : mailOk m = true := by simpa using hb1
 rw [mailText_yes hk]
 obtain ⟨k1, k2, k3, k4, k5⟩ := mailOk_is hk
 have v1 := varI_len (z := m.gid) (by omega)
 have v2 := varI_len (z := m.uid) (by omega)
 refine Ok.skip ?_
 refine Ok.seq ?_
 refine Ok.drawn 8 59 [] (by kernel_rfl) (by kernel_rfl) rfl ?_
 iterate 2 (refine SV ?_)
 refine SOps.S0 rfl (OpS.weakM rfl (by simp only [kE, kT, kL, kC] <;> rfl) (by simp only [kE, kT, kL, kC] <;> rfl) cl52 (w_spec_l01Var m.gid (by omega))) (by simp only [kP] <;> rfl) ?_
 iterate 2 (refine SV ?_)
 refine SOps.S0 rfl (OpS.weakM rfl (by simp only [kE, kT, kL, kC] <;> rfl) (by simp only [kE, kT, kL, kC] <;> rfl) cl52 (w_spec_l01Var m.uid (by omega))) (by simp only [kP] <;> rfl) ?_
 refine SOps.ev tab_ok rfl (ev_cat (by simp only [kE, kT, kL, kC] <;> rfl) (by simp only [kE, kT, kL, kC] <;> rfl) (by first | omega | (simp only [varsZ, Int.toNat_natCast, List.length_append, List.length_nil, List.length_cons] at *; omega) | (simp only [varsZ, varsZ_flat, Int.toNat_natCast, List.length_append, List.length_nil, List.length_cons] at *; omega))) (by simp only [kP] <;> rfl) ?_
 refine SV ?_
 refine SOps.nil ?_
 refine TOps.nil ?_
 refine Ok.seq ?_
 refine OQ ?_
 refine EV ?_
 refine ON ?_
 refine Ok.block ?_
 refine Ok.loopW (τ := Nat) (fun x => [(4, .str (varT m.gid.toNat ++ varT m.uid.toNat ++ (m.flags.take x).flatMap regT)), (5, .int .i64 (x : Int))]) [16, 17, 18, 19, 20, 21, 22, 23, 24, 25, 26, 27, 28, 29, 30, 31, 32, 33, 34, 35, 36, 37, 38, 39, 40, 41, 42, 43, 44, 45, 46, 47, 48, 49] (fun x => by simp only [kover] <;> rfl) (fun x => x ≤ m.flags.length) (fun x => m.flags.length - x) 0 (by (repeat (first | exact trivial | refine leC ?_ | refine leK ?_ ?_)) <;> first | (first | exact le_rfl' _ | exact le_eqm (by rw [List.take_zero, List.flatMap_nil, List.append_nil]) | exact le_eqm (congrArg V.str (by simp))) | exact le_rfl' _) (Nat.zero_le _) ?_
 rintro i h1
 refine Ok.seq ?_
 refine OQ ?_
 iterate 5 (refine EV ?_)
 refine ON ?_
 refine OC (fun hb5 => ?_) (fun hb5 => ?_)
 ·
  try simp only [bsimp] at hb5
  have hi : i < m.flags.length := by omega
  have hn := flat_next (f := regT) hi
  have q0 := regs_len (l := m.flags.take i) (fun r hr => k3 r (List.mem_of_mem_take hr))
  have q1 : (m.flags.take i).length ≤ 3 := by rw [List.length_take]; omega
  have hr := regOk_is (flagOk_is (k3 _ (List.getElem_mem hi))).1
  have v3 := varI_len (z := m.flags[i].val) (by omega)
  have v4 := varI_len (z := m.flags[i].stamp.time) (by omega)
  have v5 := varI_len (z := m.flags[i].stamp.by_) (by omega)
  refine Ok.skip ?_
  refine Ok.seq ?_
  refine Ok.block ?_
  refine Ok.drawn 27 59 [] (by kernel_rfl) (by kernel_rfl) rfl ?_
  iterate 4 (refine SV ?_)
  refine SOps.ev tab_ok rfl (ev_idx_map (by simp only [kE, kT, kL, kC] <;> rfl) (by simp only [kE, kT, kL, kC] <;> rfl) (by omega) (by simp only [kE, kT, kL, kC] <;> rfl)) (by simp only [kP] <;> rfl) ?_
  iterate 2 (refine SV ?_)
  refine SOps.S0 rfl (OpS.weakM rfl (by simp only [kE, kT, kL, kC] <;> rfl) (by simp only [kE, kT, kL, kC] <;> rfl) cl52 (w_spec_l01Var m.flags[i].val (by omega))) (by simp only [kP] <;> rfl) ?_
  refine SOps.ev tab_ok rfl (ev_cat (by simp only [kE, kT, kL, kC] <;> rfl) (by simp only [kE, kT, kL, kC] <;> rfl) (by first | omega | (simp only [varsZ, Int.toNat_natCast, List.length_append, List.length_nil, List.length_cons] at *; omega) | (simp only [varsZ, varsZ_flat, Int.toNat_natCast, List.length_append, List.length_nil, List.length_cons] at *; omega))) (by simp only [kP] <;> rfl) ?_
  iterate 3 (refine SV ?_)
  refine SOps.ev tab_ok rfl (ev_idx_map (by simp only [kE, kT, kL, kC] <;> rfl) (by simp only [kE, kT, kL, kC] <;> rfl) (by omega) (by simp only [kE, kT, kL, kC] <;> rfl)) (by simp only [kP] <;> rfl) ?_
  iterate 3 (refine SV ?_)
  refine SOps.S0 rfl (OpS.weakM rfl (by simp only [kE, kT, kL, kC] <;> rfl) (by simp only [kE, kT, kL, kC] <;> rfl) cl52 (w_spec_l01Var m.flags[i].stamp.time (by omega))) (by simp only [kP] <;> rfl) ?_
  refine SOps.ev tab_ok rfl (ev_cat (by simp only [kE, kT, kL, kC] <;> rfl) (by simp only [kE, kT, kL, kC] <;> rfl) (by first | omega | (simp only [varsZ, Int.toNat_natCast, List.length_append, List.length_nil, List.length_cons] at *; omega) | (simp only [varsZ, varsZ_flat, Int.toNat_natCast, List.length_append, List.length_nil, List.length_cons] at *; omega))) (by simp only [kP] <;> rfl) ?_
  iterate 3 (refine SV ?_)
  refine SOps.ev tab_ok rfl (ev_idx_map (by simp only [kE, kT, kL, kC] <;> rfl) (by simp only [kE, kT, kL, kC] <;> rfl) (by omega) (by simp only [kE, kT, kL, kC] <;> rfl)) (by simp only [kP] <;> rfl) ?_
  iterate 3 (refine SV ?_)
  refine SOps.S0 rfl (OpS.weakM rfl (by simp only [kE, kT, kL, kC] <;> rfl) (by simp only [kE, kT, kL, kC] <;> rfl) cl52 (w_spec_l01Var m.flags[i].stamp.by_ (by omega))) (by simp only [kP] <;> rfl) ?_
  refine SOps.ev tab_ok rfl (ev_cat (by simp only [kE, kT, kL, kC] <;> rfl) (by simp only [kE, kT, kL, kC] <;> rfl) (by first | omega | (simp only [varsZ, Int.toNat_natCast, List.length_append, List.length_nil, List.length_cons] at *; omega) | (simp only [varsZ, varsZ_flat, Int.toNat_natCast, List.length_append, List.length_nil, List.length_cons] at *; omega))) (by simp only [kP] <;> rfl) ?_
  refine SOps.nil ?_
  refine TV ?_
  refine TOps.nil ?_
  refine Ok.region ?_
  iterate 3 (refine EV ?_)
  refine ON ?_
  refine ⟨i + 1, ?_, rfl, rfl, by omega, by omega⟩
  (repeat (first | exact trivial | refine leC ?_ | refine leK ?_ ?_)) <;> first | (first | (rw [wrap_add_one (by omega)]; exact le_rfl' _) | exact le_eqm (congrArg V.str (by rw [hn]; simp only [regT, varsZ, gT, List.append_assoc, List.append_nil])) | exact le_eqm (congrArg V.str (by rw [hn]; simp [regT, varsZ, gT]))) | exact le_rfl' _
 try simp only [bsimp] at hb5
 rw [show i = m.flags.length by omega, List.take_length]
 have q0 := regs_len k3
 have v3 := varT_len5 (n := m.text.length) (by omega)
 refine Ok.exit ?_
 refine Ok.seq ?_
 refine Ok.drawn 11 59 [] (by kernel_rfl) (by kernel_rfl) rfl ?_
 iterate 4 (refine SV ?_)
 refine SOps.S0 rfl (OpS.weakM rfl (by simp only [kE, kT, kL, kC] <;> rfl) (by simp only [kE, kT, kL, kC] <;> rfl) cl52 (w_spec_l01Var (m.text.length : Int) (by omega))) (by simp only [kP] <;> rfl) ?_
 refine SOps.ev tab_ok rfl (ev_cat (by simp only [kE, kT, kL, kC, Int.toNat_natCast] <;> rfl) (by simp only [kE, kT, kL, kC, Int.toNat_natCast] <;> rfl) (by first | omega | (simp only [varsZ, Int.toNat_natCast, List.length_append, List.length_nil, List.length_cons] at *; omega) | (simp only [varsZ, varsZ_flat, Int.toNat_natCast, List.length_append, List.length_nil, List.length_cons] at *; omega))) (by simp only [kP] <;> rfl) ?_
 iterate 2 (refine SV ?_)
 refine SOps.ev tab_ok rfl (ev_cat (by simp only [kE, kT, kL, kC] <;> rfl) (by simp only [kE, kT, kL, kC] <;> rfl) (by first | omega | (simp only [varsZ, Int.toNat_natCast, List.length_append, List.length_nil, List.length_cons] at *; omega) | (simp only [varsZ, varsZ_flat, Int.toNat_natCast, List.length_append, List.length_nil, List.length_cons] at *; omega))) (by simp only [kP] <;> rfl) ?_
 iterate 2 (refine SV ?_)
 refine SOps.nil ?_
 refine TOps.nil ?_
 refine Ok.ret ?_
 with_reducible repeat (first | refine thenQ_ret ?_ | refine blockQ_ret ?_)
 refine RT ?_
 first | rfl | (simp [packV, mailT, V.erase, V.trav, V.travL, varsZ]; done)
theorem w_impl_boxText (b : Box) (h : smBox b) (hk : boxOk b = true) : Weak Tryz.prog 121 [.agg (cBox b)] (.str (boxT b)) := by
 obtain ⟨k1, k2, k3, k4, k5, k6, k7, k8⟩ := boxOk_is hk
 have v1 := varI_len (z := b.gid) (by omega)
 have v2 := varT_len5 (n := b.name.length) (by omega)
 have v3 := varI_len (z := b.named.time) (by omega)
 have v4 := varI_len (z := b.named.by_) (by omega)
 have v5 := varI_len (z := b.next) (by omega)
 have v6 := varT_len5 (n := b.mails.length) (by omega)
 have v7 := varT_len5 (n := b.gone.length) (by omega)
 refine Weak.enter tab_ok Tryz.func121 rfl (.inr (by simp [V.labelsL, V.labels, V.labelsLL, zz, zf, zy, or_imp, forall_and])) (t := [.agg (cBox b), .any, .any, .any, .any, .any, .any, .any, .any, .any, .any, .any, .any, .any, .any, .any, .any, .any, .any, .any, .any, .any, .any, .any, .any, .any, .any, .any, .any, .any, .any, .any, .any, .any, .any, .any, .any, .any, .any, .any, .any, .any, .any, .any, .any, .any, .any, .any, .any, .any, .any, .any, .any, .any, .any, .any, .any]) rfl ?_
 refine OQ ?_
 iterate 2 (refine EV ?_)
 refine ON ?_
 refine Ok.seq ?_
 refine Ok.drawn 23 57 [] (by kernel_rfl) (by kernel_rfl) rfl ?_
 iterate 2 (refine SV ?_)
 refine SOps.ev tab_ok rfl (ev_bs (by simp only [kT] <;> rfl) (by simp only [kT] <;> rfl) (by decide) (by decide) (by simp only [kE, kT, kL, kC, List.map_cons, List.map_nil] <;> rfl) (by simp only [kfe, beq_self_eq_true, Bool.and_true, Bool.true_and, decide_true, Nat.zero_add, Nat.lt_add_one, Nat.reduceLT, Nat.reduceAdd, Nat.zero_lt_succ, if_true, ↓reduceIte] <;> rfl)) (by simp only [kP] <;> rfl) ?_
 refine SOps.S0 rfl (OpS.weakEM rfl (by simp only [kE, kT, kL, kC] <;> rfl) (by simp only [kE, kT, kL, kC, V.eraseL, V.erase, V.travL, V.trav, zz, zf, zy] <;> rfl) cl58 (by simp [V.labels, V.labelsL, V.labelsLL, zz, zf, zy]) (w_impl_vars [b.gid] (by intro z hz; simp only [List.mem_cons, List.not_mem_nil, or_false] at hz; rcases hz with rfl <;> exact in9 (by omega)) (by simp))) (by simp only [kP] <;> rfl) ?_
 iterate 2 (refine SV ?_)
 refine SOps.S0 rfl (OpS.weakM rfl (by simp only [kE, kT, kL, kC] <;> rfl) (by simp only [kE, kT, kL, kC] <;> rfl) cl145 (w_impl_short b.name (by omega))) (by simp only [kP] <;> rfl) ?_
 refine SOps.ev tab_ok rfl (ev_cat (by simp only [kE, kT, kL, kC] <;> rfl) (by simp only [kE, kT, kL, kC] <;> rfl) (by first | omega | (simp only [varsZ, Int.toNat_natCast, List.length_append, List.length_nil, List.length_cons] at *; omega) | (simp only [varsZ, varsZ_flat, Int.toNat_natCast, List.length_append, List.length_nil, List.length_cons] at *; omega))) (by simp only [kP] <;> rfl) ?_
 iterate 11 (refine SV ?_)
 refine SOps.ev tab_ok rfl (ev_bs (by simp only [kT] <;> rfl) (by simp only [kT] <;> rfl) (by decide) (by decide) (by simp only [kE, kT, kL, kC, List.map_cons, List.map_nil] <;> rfl) (by simp only [kfe, beq_self_eq_true, Bool.and_true, Bool.true_and, decide_true, Nat.zero_add, Nat.lt_add_one, Nat.reduceLT, Nat.reduceAdd, Nat.zero_lt_succ, if_true, ↓reduceIte] <;> rfl)) (by simp only [kP] <;> rfl) ?_
 refine SOps.S0 rfl (OpS.weakEM rfl (by simp only [kE, kT, kL, kC] <;> rfl) (by simp only [kE, kT, kL, kC, V.eraseL, V.erase, V.travL, V.trav, zz, zf, zy] <;> rfl) cl58 (by simp [V.labels, V.labelsL, V.labelsLL, zz, zf, zy]) (w_impl_vars [b.named.time, b.named.by_, b.next, (b.mails.length : Int)] (by intro z hz; simp only [List.mem_cons, List.not_mem_nil, or_false] at hz; rcases hz with rfl | rfl | rfl | rfl <;> exact in9 (by omega)) (by simp))) (by simp only [kP] <;> rfl) ?_
 refine SOps.ev tab_ok rfl (ev_cat (by simp only [kE, kT, kL, kC] <;> rfl) (by simp only [kE, kT, kL, kC] <;> rfl) (by first | omega | (simp only [varsZ, Int.toNat_natCast, List.length_append, List.length_nil, List.length_cons] at *; omega) | (simp only [varsZ, varsZ_flat, Int.toNat_natCast, List.length_append, List.length_nil, List.length_cons] at *; omega))) (by simp only [kP] <;> rfl) ?_
 refine SV ?_
 refine SOps.nil ?_
 refine TOps.nil ?_
 refine Ok.seq ?_
 refine OQ ?_
 iterate 4 (refine EV ?_)
 refine ON ?_
 refine Ok.block ?_
 refine Ok.loopWZ (τ := Nat) (fun x => [(3, .str ((varsZ [b.gid] ++ (varT b.name.length ++ b.name) ++ varsZ [b.named.time, b.named.by_, b.next, (b.mails.length : Int)]) ++ (b.mails.take x).flatMap mailT)), (33, .int .i64 (x : Int))]) [5, 6, 7, 34, 35, 36, 37, 38, 39, 40, 41, 42, 43, 44, 45] (fun x => by simp only [kover] <;> rfl) (fun x => x ≤ b.mails.length) (fun x => b.mails.length - x) 0 (by omega) (by (repeat (first | exact trivial | refine leC ?_ | refine leK ?_ ?_)) <;> first | (first | exact le_rfl' _ | exact le_eqm (by rw [List.take_zero, List.flatMap_nil, List.append_nil]) | exact le_eqm (congrArg V.str (by simp))) | exact le_rfl' _) (Nat.zero_le _) ?_
 rintro i h1
 refine OQ ?_
 refine EV ?_
 refine ON ?_
 refine Ok.seq ?_
 refine OC (fun hb3 => ?_) (fun hb3 => ?_)
 ·
  try simp only [bsimp] at hb3
  have hi : i < b.mails.length := by omega
  have hn := flat_next (f := mailT) hi
  have q0 := mails_le (l := b.mails.take i) (fun r hr => k6 r (List.mem_of_mem_take hr))
  have q1 : (b.mails.take i).length ≤ 10 := by rw [List.length_take]; omega
  have hmk := k6 _ (List.getElem_mem hi)
  have q2 := mailT_len hmk
  have hmt := mailText_yes hmk
  have hsm := h.2.1.2 _ (List.getElem_mem hi)
  refine Ok.skip ?_
  refine Ok.seq ?_
  refine Ok.block ?_
  refine OQ ?_
  refine OkOps.ev tab_ok rfl (ev_idx_map (by simp only [kE, kT, kL, kC] <;> rfl) (by simp only [kE, kT, kL, kC] <;> rfl) (by omega) (by simp only [kE, kT, kL, kC] <;> rfl)) (by simp only [kP] <;> rfl) ?_
  iterate 2 (refine EV ?_)
  refine OE ?_
  refine ON ?_
  refine OQ ?_
  refine EV ?_
  refine OW cl172 (w_impl_MailText b.mails[i] hsm) ?_
  iterate 3 (refine OkOps.ev tab_ok rfl (by simp only [kE, kT, kL, kC, hmt, Option.getD_some, Option.isSome_some] <;> rfl) (by simp only [kP] <;> rfl) ?_)
  iterate 2 (refine EV ?_)
  refine ON ?_
  refine Ok.region ?_
  iterate 2 (refine EV ?_)
  refine OkOps.ev tab_ok rfl (ev_cat (by simp only [kE, kT, kL, kC] <;> rfl) (by simp only [kE, kT, kL, kC] <;> rfl) (by first | omega | (simp only [varsZ, Int.toNat_natCast, List.length_append, List.length_nil, List.length_cons] at *; omega) | (simp only [varsZ, varsZ_flat, Int.toNat_natCast, List.length_append, List.length_nil, List.length_cons] at *; omega))) (by simp only [kP] <;> rfl) ?_
  refine EV ?_
  refine ON ?_
  refine Ok.region ?_
  iterate 2 (refine EV ?_)
  refine ON ?_
  refine ⟨i + 1, ?_, rfl, by omega, by omega⟩
  simp only [V.renL, V.travL, V.travLL, V.trav, frz, zz, zf, zy, Nat.reduceLeDiff, ↓reduceIte]
  (repeat (first | exact trivial | refine leC ?_ | refine leK ?_ ?_)) <;> first | (first | (rw [wrap_add_one (by omega)]; exact le_rfl' _) | exact le_eqm (congrArg V.str (by rw [hn]; simp only [regT, varsZ, gT, List.append_assoc, List.append_nil])) | exact le_eqm (congrArg V.str (by rw [hn]; simp [regT, varsZ, gT]))) | exact le_rfl' _
 try simp only [bsimp] at hb3
 obtain rfl : i = b.mails.length := by omega
 rw [List.take_length]
 have q0 := mails_le k6
 have q9 := gone_len k7
 refine Ok.exit ?_
 refine Ok.seq ?_
 refine Ok.drawn 12 57 [] (by kernel_rfl) (by kernel_rfl) rfl ?_
 iterate 4 (refine SV ?_)
 refine SOps.ev tab_ok rfl (ev_bs (by simp only [kT] <;> rfl) (by simp only [kT] <;> rfl) (by decide) (by decide) (by simp only [kE, kT, kL, kC, List.map_cons, List.map_nil] <;> rfl) (by simp only [kfe, beq_self_eq_true, Bool.and_true, Bool.true_and, decide_true, Nat.zero_add, Nat.lt_add_one, Nat.reduceLT, Nat.reduceAdd, Nat.zero_lt_succ, if_true, ↓reduceIte] <;> rfl)) (by simp only [kP] <;> rfl) ?_
 refine SOps.S0 rfl (OpS.weakEM rfl (by simp only [kE, kT, kL, kC] <;> rfl) (by simp only [kE, kT, kL, kC, V.eraseL, V.erase, V.travL, V.trav, zz, zf, zy] <;> rfl) cl58 (by simp [V.labels, V.labelsL, V.labelsLL, zz, zf, zy]) (w_impl_vars [(b.gone.length : Int)] (by intro z hz; simp only [List.mem_cons, List.not_mem_nil, or_false] at hz; rcases hz with rfl <;> exact in9 (by omega)) (by simp))) (by simp only [kP] <;> rfl) ?_
 refine SOps.ev tab_ok rfl (ev_cat (by simp only [kE, kT, kL, kC] <;> rfl) (by simp only [kE, kT, kL, kC] <;> rfl) (by first | omega | (simp only [varsZ, Int.toNat_natCast, List.length_append, List.length_nil, List.length_cons] at *; omega) | (simp only [varsZ, varsZ_flat, Int.toNat_natCast, List.length_append, List.length_nil, List.length_cons] at *; omega))) (by simp only [kP] <;> rfl) ?_
 iterate 2 (refine SV ?_)
 refine SOps.S0 rfl (OpS.weakM rfl (by simp only [kE, kT, kL, kC, varsZ_flat b.gone] <;> rfl) (by simp only [kE, kT, kL, kC, varsZ_flat b.gone] <;> rfl) cl58 (w_impl_vars b.gone (fun z hz => in9 (by have := k7 z hz; omega)) (by omega))) (by simp only [kP] <;> rfl) ?_
 refine SOps.ev tab_ok rfl (ev_cat (by simp only [kE, kT, kL, kC] <;> rfl) (by simp only [kE, kT, kL, kC] <;> rfl) (by first | omega | (simp only [varsZ, Int.toNat_natCast, List.length_append, List.length_nil, List.length_cons] at *; omega) | (simp only [varsZ, varsZ_flat, Int.toNat_natCast, List.length_append, List.length_nil, List.length_cons] at *; omega))) (by simp only [kP] <;> rfl) ?_
 refine SV ?_
 refine SOps.nil ?_
 refine TOps.nil ?_
 refine Ok.ret ?_
 with_reducible repeat (first | refine thenQ_ret ?_ | refine blockQ_ret ?_)
 refine RT ?_
 simp [packV, boxT, goneT_eq, V.erase, V.trav, V.travL, varsZ, varsZ_flat]
theorem w_spec_BoxText (b : Box) (h : smBox b) : Weak Tryz.prog 98 [.agg (cBox b)] (vO (boxText b)) := by
 refine Weak.enter tab_ok Tryz.func98 rfl (.inr (by simp [V.labelsL, V.labels, V.labelsLL, zz, zf, zy, or_imp, forall_and])) (t := [.agg (cBox b), .any, .any, .any, .any, .any, .any, .any, .any, .any, .any, .any, .any, .any, .any, .any, .any, .any, .any, .any, .any, .any, .any, .any, .any, .any, .any, .any, .any, .any, .any, .any, .any, .any, .any, .any, .any, .any, .any, .any, .any, .any, .any, .any, .any, .any, .any, .any, .any, .any, .any, .any, .any, .any, .any, .any, .any, .any, .any, .any, .any, .any, .any, .any, .any, .any, .any, .any, .any, .any, .any, .any, .any, .any, .any, .any, .any, .any, .any, .any, .any, .any, .any]) rfl ?_
 refine OQ ?_
 iterate 3 (refine EV ?_)
 refine ON ?_
 refine Ok.seq ?_
 refine OQ ?_
 refine EV ?_
 refine OW cl148 (w_spec_BoxOk b h) ?_
 refine EV ?_
 refine ON ?_
 refine OC (fun hb1 => ?_) (fun hb1 => ?_)
 ·
  try simp only [bsimp] at hb1
  have hk : boxOk b = false := by simpa using hb1
  rw [boxText_no hk]
  refine OQ ?_
  iterate 2 (refine EV ?_)
  refine ON ?_
  refine Ok.ret ?_
  with_reducible repeat (first | refine thenQ_ret ?_ | refine blockQ_ret ?_)
  refine RT ?_
  first | rfl | (simp [packV, boxT, goneT_eq, V.erase, V.trav, V.travL]; done)
 try simp only [bsimp] at hb1
 have hk : boxOk b = true := by simpa using hb1
 rw [boxText_yes hk]
 obtain ⟨k1, k2, k3, k4, k5, k6, k7, k8⟩ := boxOk_is hk
 have v1 := varI_len (z := b.gid) (by omega)
 have v2 := varT_len5 (n := b.name.length) (by omega)
 have v3 := varI_len (z := b.named.time) (by omega)
 have v4 := varI_len (z := b.named.by_) (by omega)
 have v5 := varI_len (z := b.next) (by omega)
 have v6 := varT_len5 (n := b.mails.length) (by omega)
 have v7 := varT_len5 (n := b.gone.length) (by omega)
 refine Ok.skip ?_
 refine Ok.seq ?_
 refine Ok.drawn 31 83 [] (by kernel_rfl) (by kernel_rfl) rfl ?_
 iterate 2 (refine SV ?_)
 refine SOps.S0 rfl (OpS.weakM rfl (by simp only [kE, kT, kL, kC] <;> rfl) (by simp only [kE, kT, kL, kC] <;> rfl) cl52 (w_spec_l01Var b.gid (by omega))) (by simp only [kP] <;> rfl) ?_
 iterate 3 (refine SV ?_)
 refine SOps.S0 rfl (OpS.weakM rfl (by simp only [kE, kT, kL, kC] <;> rfl) (by simp only [kE, kT, kL, kC] <;> rfl) cl52 (w_spec_l01Var (b.name.length : Int) (by omega))) (by simp only [kP] <;> rfl) ?_
 refine SOps.ev tab_ok rfl (ev_cat (by simp only [kE, kT, kL, kC, Int.toNat_natCast] <;> rfl) (by simp only [kE, kT, kL, kC, Int.toNat_natCast] <;> rfl) (by first | omega | (simp only [varsZ, Int.toNat_natCast, List.length_append, List.length_nil, List.length_cons] at *; omega) | (simp only [varsZ, varsZ_flat, Int.toNat_natCast, List.length_append, List.length_nil, List.length_cons] at *; omega))) (by simp only [kP] <;> rfl) ?_
 iterate 2 (refine SV ?_)
 refine SOps.ev tab_ok rfl (ev_cat (by simp only [kE, kT, kL, kC] <;> rfl) (by simp only [kE, kT, kL, kC] <;> rfl) (by first | omega | (simp only [varsZ, Int.toNat_natCast, List.length_append, List.length_nil, List.length_cons] at *; omega) | (simp only [varsZ, varsZ_flat, Int.toNat_natCast, List.length_append, List.length_nil, List.length_cons] at *; omega))) (by simp only [kP] <;> rfl) ?_
 iterate 3 (refine SV ?_)
 refine SOps.S0 rfl (OpS.weakM rfl (by simp only [kE, kT, kL, kC] <;> rfl) (by simp only [kE, kT, kL, kC] <;> rfl) cl52 (w_spec_l01Var b.named.time (by omega))) (by simp only [kP] <;> rfl) ?_
 refine SOps.ev tab_ok rfl (ev_cat (by simp only [kE, kT, kL, kC] <;> rfl) (by simp only [kE, kT, kL, kC] <;> rfl) (by first | omega | (simp only [varsZ, Int.toNat_natCast, List.length_append, List.length_nil, List.length_cons] at *; omega) | (simp only [varsZ, varsZ_flat, Int.toNat_natCast, List.length_append, List.length_nil, List.length_cons] at *; omega))) (by simp only [kP] <;> rfl) ?_
 iterate 3 (refine SV ?_)
 refine SOps.S0 rfl (OpS.weakM rfl (by simp only [kE, kT, kL, kC] <;> rfl) (by simp only [kE, kT, kL, kC] <;> rfl) cl52 (w_spec_l01Var b.named.by_ (by omega))) (by simp only [kP] <;> rfl) ?_
 refine SOps.ev tab_ok rfl (ev_cat (by simp only [kE, kT, kL, kC] <;> rfl) (by simp only [kE, kT, kL, kC] <;> rfl) (by first | omega | (simp only [varsZ, Int.toNat_natCast, List.length_append, List.length_nil, List.length_cons] at *; omega) | (simp only [varsZ, varsZ_flat, Int.toNat_natCast, List.length_append, List.length_nil, List.length_cons] at *; omega))) (by simp only [kP] <;> rfl) ?_
 iterate 2 (refine SV ?_)
 refine SOps.S0 rfl (OpS.weakM rfl (by simp only [kE, kT, kL, kC] <;> rfl) (by simp only [kE, kT, kL, kC] <;> rfl) cl52 (w_spec_l01Var b.next (by omega))) (by simp only [kP] <;> rfl) ?_
 refine SOps.ev tab_ok rfl (ev_cat (by simp only [kE, kT, kL, kC] <;> rfl) (by simp only [kE, kT, kL, kC] <;> rfl) (by first | omega | (simp only [varsZ, Int.toNat_natCast, List.length_append, List.length_nil, List.length_cons] at *; omega) | (simp only [varsZ, varsZ_flat, Int.toNat_natCast, List.length_append, List.length_nil, List.length_cons] at *; omega))) (by simp only [kP] <;> rfl) ?_
 iterate 3 (refine SV ?_)
 refine SOps.S0 rfl (OpS.weakM rfl (by simp only [kE, kT, kL, kC] <;> rfl) (by simp only [kE, kT, kL, kC] <;> rfl) cl52 (w_spec_l01Var (b.mails.length : Int) (by omega))) (by simp only [kP] <;> rfl) ?_
 refine SOps.ev tab_ok rfl (ev_cat (by simp only [kE, kT, kL, kC, Int.toNat_natCast] <;> rfl) (by simp only [kE, kT, kL, kC, Int.toNat_natCast] <;> rfl) (by first | omega | (simp only [varsZ, Int.toNat_natCast, List.length_append, List.length_nil, List.length_cons] at *; omega) | (simp only [varsZ, varsZ_flat, Int.toNat_natCast, List.length_append, List.length_nil, List.length_cons] at *; omega))) (by simp only [kP] <;> rfl) ?_
 refine SV ?_
 refine SOps.nil ?_
 refine TOps.nil ?_
 refine Ok.seq ?_
 refine OQ ?_
 refine EV ?_
 refine ON ?_
 refine Ok.block ?_
 refine Ok.loopW (τ := Nat) (fun x => [(4, .str ((varT b.gid.toNat ++ varT b.name.length ++ b.name ++ varT b.named.time.toNat ++ varT b.named.by_.toNat ++ varT b.next.toNat ++ varT b.mails.length) ++ (b.mails.take x).flatMap mailT)), (5, .int .i64 (x : Int))]) [6, 7, 42, 43, 44, 45, 46, 47, 48, 49, 50, 51, 52, 53, 54, 55, 56, 57, 58, 59, 60] (fun x => by simp only [kover] <;> rfl) (fun x => x ≤ b.mails.length) (fun x => b.mails.length - x) 0 (by (repeat (first | exact trivial | refine leC ?_ | refine leK ?_ ?_)) <;> first | (first | exact le_rfl' _ | exact le_eqm (by rw [List.take_zero, List.flatMap_nil, List.append_nil]) | exact le_eqm (congrArg V.str (by simp))) | exact le_rfl' _) (Nat.zero_le _) ?_
 rintro i h1
 refine Ok.seq ?_
 refine OQ ?_
 iterate 5 (refine EV ?_)
 refine ON ?_
 refine OC (fun hb5 => ?_) (fun hb5 => ?_)
 ·
  try simp only [bsimp] at hb5
  have hi : i < b.mails.length := by omega
  have hn := flat_next (f := mailT) hi
  have q0 := mails_le (l := b.mails.take i) (fun r hr => k6 r (List.mem_of_mem_take hr))
  have q1 : (b.mails.take i).length ≤ 10 := by rw [List.length_take]; omega
  have hmk := k6 _ (List.getElem_mem hi)
  have q2 := mailT_len hmk
  have hmt := mailText_yes hmk
  have hsm := h.2.1.2 _ (List.getElem_mem hi)
  refine Ok.skip ?_
  refine Ok.seq ?_
  refine Ok.block ?_
  refine OQ ?_
  iterate 3 (refine EV ?_)
  refine OkOps.ev tab_ok rfl (ev_idx_map (by simp only [kE, kT, kL, kC] <;> rfl) (by simp only [kE, kT, kL, kC] <;> rfl) (by omega) (by simp only [kE, kT, kL, kC] <;> rfl)) (by simp only [kP] <;> rfl) ?_
  refine EV ?_
  refine OW cl152 (w_spec_MailText b.mails[i] hsm) ?_
  iterate 3 (refine OkOps.ev tab_ok rfl (by simp only [kE, kT, kL, kC, hmt, Option.getD_some, Option.isSome_some] <;> rfl) (by simp only [kP] <;> rfl) ?_)
  iterate 2 (refine EV ?_)
  refine ON ?_
  refine Ok.region ?_
  iterate 2 (refine EV ?_)
  refine OkOps.ev tab_ok rfl (ev_cat (by simp only [kE, kT, kL, kC] <;> rfl) (by simp only [kE, kT, kL, kC] <;> rfl) (by first | omega | (simp only [varsZ, Int.toNat_natCast, List.length_append, List.length_nil, List.length_cons] at *; omega) | (simp only [varsZ, varsZ_flat, Int.toNat_natCast, List.length_append, List.length_nil, List.length_cons] at *; omega))) (by simp only [kP] <;> rfl) ?_
  refine EV ?_
  refine ON ?_
  refine Ok.region ?_
  iterate 3 (refine EV ?_)
  refine ON ?_
  refine ⟨i + 1, ?_, rfl, rfl, by omega, by omega⟩
  (repeat (first | exact trivial | refine leC ?_ | refine leK ?_ ?_)) <;> first | (first | (rw [wrap_add_one (by omega)]; exact le_rfl' _) | exact le_eqm (congrArg V.str (by rw [hn]; simp only [regT, varsZ, gT, List.append_assoc, List.append_nil])) | exact le_eqm (congrArg V.str (by rw [hn]; simp [regT, varsZ, gT]))) | exact le_rfl' _
 try simp only [bsimp] at hb5
 obtain rfl : i = b.mails.length := by omega
 rw [List.take_length]
 have q0 := mails_le k6
 have q9 := gone_len k7
 refine Ok.exit ?_
 refine OQ ?_
 iterate 4 (refine EV ?_)
 refine OW cl52 (w_spec_l01Var (b.gone.length : Int) (by omega)) ?_
 refine OkOps.ev tab_ok rfl (ev_cat (by simp only [kE, kT, kL, kC, Int.toNat_natCast] <;> rfl) (by simp only [kE, kT, kL, kC, Int.toNat_natCast] <;> rfl) (by first | omega | (simp only [varsZ, Int.toNat_natCast, List.length_append, List.length_nil, List.length_cons] at *; omega) | (simp only [varsZ, varsZ_flat, Int.toNat_natCast, List.length_append, List.length_nil, List.length_cons] at *; omega))) (by simp only [kP] <;> rfl) ?_
 refine EV ?_
 refine ON ?_
 refine Ok.seq ?_
 refine OQ ?_
 refine EV ?_
 refine ON ?_
 refine Ok.block ?_
 refine Ok.loopW (τ := Nat) (fun x => [(4, .str (((varT b.gid.toNat ++ varT b.name.length ++ b.name ++ varT b.named.time.toNat ++ varT b.named.by_.toNat ++ varT b.next.toNat ++ varT b.mails.length) ++ b.mails.flatMap mailT ++ varT b.gone.length) ++ (b.gone.take x).flatMap gT)), (8, .int .i64 (x : Int))]) [67, 68, 69, 70, 71, 72, 73, 74, 75, 76, 77, 78, 79, 80, 81] (fun x => by simp only [kover] <;> rfl) (fun x => x ≤ b.gone.length) (fun x => b.gone.length - x) 0 (by (repeat (first | exact trivial | refine leC ?_ | refine leK ?_ ?_)) <;> first | (first | exact le_rfl' _ | exact le_eqm (by rw [List.take_zero, List.flatMap_nil, List.append_nil]) | exact le_eqm (congrArg V.str (by simp))) | exact le_rfl' _) (Nat.zero_le _) ?_
 rintro j g1
 refine Ok.seq ?_
 refine OQ ?_
 iterate 5 (refine EV ?_)
 refine ON ?_
 refine OC (fun hb11 => ?_) (fun hb11 => ?_)
 ·
  try simp only [bsimp] at hb11
  have hj : j < b.gone.length := by omega
  have gn := flat_next (f := gT) hj
  have p0 := gone_len (l := b.gone.take j) (fun r hr => k7 r (List.mem_of_mem_take hr))
  have p1 : (b.gone.take j).length ≤ 40 := by rw [List.length_take]; omega
  have p2 := k7 _ (List.getElem_mem hj)
  have p3 := varI_len (z := b.gone[j]) (by omega)
  refine Ok.skip ?_
  refine Ok.seq ?_
  refine Ok.block ?_
  refine Ok.region ?_
  iterate 4 (refine EV ?_)
  refine OkOps.ev tab_ok rfl (ev_idx_map (by simp only [kE, kT, kL, kC] <;> rfl) (by simp only [kE, kT, kL, kC] <;> rfl) (by omega) (by simp only [kE, kT, kL, kC] <;> rfl)) (by simp only [kP] <;> rfl) ?_
  refine EV ?_
  refine OW cl52 (w_spec_l01Var b.gone[j] (by omega)) ?_
  refine OkOps.ev tab_ok rfl (ev_cat (by simp only [kE, kT, kL, kC] <;> rfl) (by simp only [kE, kT, kL, kC] <;> rfl) (by first | omega | (simp only [varsZ, Int.toNat_natCast, List.length_append, List.length_nil, List.length_cons] at *; omega) | (simp only [varsZ, varsZ_flat, Int.toNat_natCast, List.length_append, List.length_nil, List.length_cons] at *; omega))) (by simp only [kP] <;> rfl) ?_
  refine EV ?_
  refine ON ?_
  refine Ok.region ?_
  iterate 3 (refine EV ?_)
  refine ON ?_
  refine ⟨j + 1, ?_, rfl, rfl, by omega, by omega⟩
  (repeat (first | exact trivial | refine leC ?_ | refine leK ?_ ?_)) <;> first | (first | (rw [wrap_add_one (by omega)]; exact le_rfl' _) | exact le_eqm (congrArg V.str (by rw [gn]; simp only [regT, varsZ, gT, List.append_assoc, List.append_nil])) | exact le_eqm (congrArg V.str (by rw [gn]; simp [regT, varsZ, gT]))) | exact le_rfl' _
 try simp only [bsimp] at hb11
 rw [show j = b.gone.length by omega, List.take_length]
 refine Ok.exit ?_
 refine OQ ?_
 iterate 3 (refine EV ?_)
 refine ON ?_
 refine Ok.ret ?_
 with_reducible repeat (first | refine thenQ_ret ?_ | refine blockQ_ret ?_)
 refine RT ?_
 first | rfl | (simp [packV, boxT, goneT_eq, V.erase, V.trav, V.travL]; done)
theorem w_impl_StoreText (s : Store) (h : smStore s) : Weak Tryz.prog 55 [.agg (cStore s)] (vO (storeText s)) := by
 refine Weak.enter tab_ok Tryz.func55 rfl (.inr (by simp [V.labelsL, V.labels, V.labelsLL, zz, zf, zy, or_imp, forall_and])) (t := [.agg (cStore s), .any, .any, .any, .any, .any, .any, .any, .any, .any, .any, .any, .any, .any, .any, .any, .any, .any, .any, .any, .any, .any, .any, .any, .any, .any, .any, .any, .any, .any, .any, .any, .any, .any, .any, .any, .any, .any, .any, .any, .any, .any, .any, .any, .any]) rfl ?_
 refine OQ ?_
 iterate 3 (refine EV ?_)
 refine ON ?_
 refine Ok.seq ?_
 refine OQ ?_
 refine EV ?_
 refine OW cl120 (w_impl_StoreOk s h) ?_
 refine EV ?_
 refine ON ?_
 refine OC (fun hb1 => ?_) (fun hb1 => ?_)
 ·
  try simp only [bsimp] at hb1
  have hk : storeOk s = false := by simpa using hb1
  rw [storeText_no hk]
  refine OQ ?_
  iterate 2 (refine EV ?_)
  refine ON ?_
  refine Ok.ret ?_
  with_reducible repeat (first | refine thenQ_ret ?_ | refine blockQ_ret ?_)
  refine RT ?_
  first | rfl | (simp [packV, storeB, goneT_eq, V.erase, V.trav, V.travL, varsZ, varsZ_flat]; done)
 try simp only [bsimp] at hb1
 have hk : storeOk s = true := by simpa using hb1
 obtain ⟨k1, k2, k3, k4, k7, k8⟩ := storeOk_is hk
 rw [storeText_ok hk]
 have v3 := varI_len (z := s.time) (by omega)
 have v4 := varI_len (z := s.by_) (by omega)
 have v6 := varT_len5 (n := s.boxes.length) (by omega)
 have v7 := varT_len5 (n := s.gone.length) (by omega)
 refine Ok.skip ?_
 refine OQ ?_
 iterate 7 (refine EV ?_)
 refine OkOps.ev tab_ok rfl (ev_bs (by simp only [kT] <;> rfl) (by simp only [kT] <;> rfl) (by decide) (by decide) (by simp only [kE, kT, kL, kC, List.map_cons, List.map_nil] <;> rfl) (by simp only [kfe, beq_self_eq_true, Bool.and_true, Bool.true_and, decide_true, Nat.zero_add, Nat.lt_add_one, Nat.reduceLT, Nat.reduceAdd, Nat.zero_lt_succ, if_true, ↓reduceIte] <;> rfl)) (by simp only [kP] <;> rfl) ?_
 refine OkOps.S0 rfl (OpS.weakE rfl (by simp only [kE, kT, kL, kC] <;> rfl) (by simp only [kE, kT, kL, kC, V.eraseL, V.erase, V.travL, V.trav, zz, zf, zy] <;> rfl) cl58 (by simp [V.labels, V.labelsL, V.labelsLL, zz, zf, zy]) (w_impl_vars [s.by_, s.time, (s.boxes.length : Int)] (by intro z hz; simp only [List.mem_cons, List.not_mem_nil, or_false] at hz; rcases hz with rfl | rfl | rfl <;> exact in9 (by omega)) (by simp))) (by simp only [kP] <;> rfl) ?_
 refine EV ?_
 refine ON ?_
 refine Ok.seq ?_
 refine OQ ?_
 iterate 4 (refine EV ?_)
 refine ON ?_
 refine Ok.block ?_
 refine Ok.loopWZ (τ := Nat) (fun x => [(4, .str (varsZ [s.by_, s.time, (s.boxes.length : Int)] ++ (s.boxes.take x).flatMap boxT)), (22, .int .i64 (x : Int))]) [6, 23, 24, 25, 26, 27, 28, 29, 30] (fun x => by simp only [kover] <;> rfl) (fun x => x ≤ s.boxes.length) (fun x => s.boxes.length - x) 0 (by omega) (by (repeat (first | exact trivial | refine leC ?_ | refine leK ?_ ?_)) <;> first | (first | exact le_rfl' _ | exact le_eqm (by rw [List.take_zero, List.flatMap_nil, List.append_nil]) | exact le_eqm (congrArg V.str (by simp))) | exact le_rfl' _) (Nat.zero_le _) ?_
 rintro i h1
 refine OQ ?_
 refine EV ?_
 refine ON ?_
 refine Ok.seq ?_
 refine OC (fun hb5 => ?_) (fun hb5 => ?_)
 ·
  try simp only [bsimp] at hb5
  have hi : i < s.boxes.length := by omega
  have hn := flat_next (f := boxT) hi
  have q0 := boxes_le (l := s.boxes.take i) (fun r hr => k4 r (List.mem_of_mem_take hr))
  have q1 : (s.boxes.take i).length ≤ 5 := by rw [List.length_take]; omega
  have hbk := k4 _ (List.getElem_mem hi)
  have q2 := boxT_len hbk
  have hbt := boxText_yes hbk
  have hsb := h.1.2 _ (List.getElem_mem hi)
  refine Ok.skip ?_
  refine Ok.seq ?_
  refine Ok.block ?_
  refine OQ ?_
  refine OkOps.ev tab_ok rfl (ev_idx_map (by simp only [kE, kT, kL, kC] <;> rfl) (by simp only [kE, kT, kL, kC] <;> rfl) (by omega) (by simp only [kE, kT, kL, kC] <;> rfl)) (by simp only [kP] <;> rfl) ?_
  iterate 2 (refine EV ?_)
  refine OE ?_
  refine ON ?_
  refine Ok.region ?_
  iterate 2 (refine EV ?_)
  refine OW cl121 (w_impl_boxText s.boxes[i] hsb hbk) ?_
  refine OkOps.ev tab_ok rfl (ev_cat (by simp only [kE, kT, kL, kC] <;> rfl) (by simp only [kE, kT, kL, kC] <;> rfl) (by first | omega | (simp only [varsZ, Int.toNat_natCast, List.length_append, List.length_nil, List.length_cons] at *; omega) | (simp only [varsZ, varsZ_flat, Int.toNat_natCast, List.length_append, List.length_nil, List.length_cons] at *; omega))) (by simp only [kP] <;> rfl) ?_
  refine EV ?_
  refine ON ?_
  refine Ok.region ?_
  iterate 2 (refine EV ?_)
  refine ON ?_
  refine ⟨i + 1, ?_, rfl, by omega, by omega⟩
  simp only [V.renL, V.travL, V.travLL, V.trav, frz, zz, zf, zy, Nat.reduceLeDiff, ↓reduceIte]
  (repeat (first | exact trivial | refine leC ?_ | refine leK ?_ ?_)) <;> first | (first | (rw [wrap_add_one (by omega)]; exact le_rfl' _) | exact le_eqm (congrArg V.str (by rw [hn]; simp only [regT, varsZ, gT, List.append_assoc, List.append_nil])) | exact le_eqm (congrArg V.str (by rw [hn]; simp [regT, varsZ, gT]))) | exact le_rfl' _
 try simp only [bsimp] at hb5
 obtain rfl : i = s.boxes.length := by omega
 rw [List.take_length]
 have q0 := boxes_le k4
 have q9 := gone_len k7
 refine Ok.exit ?_
 refine Ok.seq ?_
 refine Ok.drawn 16 45 [] (by kernel_rfl) (by kernel_rfl) rfl ?_
 iterate 4 (refine SV ?_)
 refine SOps.ev tab_ok rfl (ev_bs (by simp only [kT] <;> rfl) (by simp only [kT] <;> rfl) (by decide) (by decide) (by simp only [kE, kT, kL, kC, List.map_cons, List.map_nil] <;> rfl) (by simp only [kfe, beq_self_eq_true, Bool.and_true, Bool.true_and, decide_true, Nat.zero_add, Nat.lt_add_one, Nat.reduceLT, Nat.reduceAdd, Nat.zero_lt_succ, if_true, ↓reduceIte] <;> rfl)) (by simp only [kP] <;> rfl) ?_
 refine SOps.S0 rfl (OpS.weakEM rfl (by simp only [kE, kT, kL, kC] <;> rfl) (by simp only [kE, kT, kL, kC, V.eraseL, V.erase, V.travL, V.trav, zz, zf, zy] <;> rfl) cl58 (by simp [V.labels, V.labelsL, V.labelsLL, zz, zf, zy]) (w_impl_vars [(s.gone.length : Int)] (by intro z hz; simp only [List.mem_cons, List.not_mem_nil, or_false] at hz; rcases hz with rfl <;> exact in9 (by omega)) (by simp))) (by simp only [kP] <;> rfl) ?_
 refine SOps.ev tab_ok rfl (ev_cat (by simp only [kE, kT, kL, kC] <;> rfl) (by simp only [kE, kT, kL, kC] <;> rfl) (by first | omega | (simp only [varsZ, Int.toNat_natCast, List.length_append, List.length_nil, List.length_cons] at *; omega) | (simp only [varsZ, varsZ_flat, Int.toNat_natCast, List.length_append, List.length_nil, List.length_cons] at *; omega))) (by simp only [kP] <;> rfl) ?_
 iterate 2 (refine SV ?_)
 refine SOps.S0 rfl (OpS.weakM rfl (by simp only [kE, kT, kL, kC, varsZ_flat s.gone] <;> rfl) (by simp only [kE, kT, kL, kC, varsZ_flat s.gone] <;> rfl) cl58 (w_impl_vars s.gone (fun z hz => in9 (by have := k7 z hz; omega)) (by omega))) (by simp only [kP] <;> rfl) ?_
 refine SOps.ev tab_ok rfl (ev_cat (by simp only [kE, kT, kL, kC] <;> rfl) (by simp only [kE, kT, kL, kC] <;> rfl) (by first | omega | (simp only [varsZ, Int.toNat_natCast, List.length_append, List.length_nil, List.length_cons] at *; omega) | (simp only [varsZ, varsZ_flat, Int.toNat_natCast, List.length_append, List.length_nil, List.length_cons] at *; omega))) (by simp only [kP] <;> rfl) ?_
 refine SOps.S0 rfl (OpS.weakM rfl (by simp only [kE, kT, kL, kC] <;> rfl) (by simp only [kE, kT, kL, kC] <;> rfl) cl122 (w_impl_Sealed _)) (by simp only [kP] <;> rfl) ?_
 iterate 4 (refine SV ?_)
 refine SOps.nil ?_
 refine TOps.nil ?_
 refine Ok.ret ?_
 with_reducible repeat (first | refine thenQ_ret ?_ | refine blockQ_ret ?_)
 refine RT ?_
 first | rfl | (simp [packV, storeB, goneT_eq, V.erase, V.trav, V.travL, varsZ, varsZ_flat]; done)
theorem w_spec_StoreText (s : Store) (h : smStore s) : Weak Tryz.prog 31 [.agg (cStore s)] (vO (storeText s)) := by
 refine Weak.enter tab_ok Tryz.func31 rfl (.inr (by simp [V.labelsL, V.labels, V.labelsLL, zz, zf, zy, or_imp, forall_and])) (t := [.agg (cStore s), .any, .any, .any, .any, .any, .any, .any, .any, .any, .any, .any, .any, .any, .any, .any, .any, .any, .any, .any, .any, .any, .any, .any, .any, .any, .any, .any, .any, .any, .any, .any, .any, .any, .any, .any, .any, .any, .any, .any, .any, .any, .any, .any, .any, .any, .any, .any, .any, .any, .any, .any, .any, .any, .any, .any, .any, .any, .any, .any, .any, .any, .any, .any, .any, .any, .any, .any]) rfl ?_
 refine OQ ?_
 iterate 3 (refine EV ?_)
 refine ON ?_
 refine Ok.seq ?_
 refine OQ ?_
 refine EV ?_
 refine OW cl97 (w_spec_StoreOk s h) ?_
 refine EV ?_
 refine ON ?_
 refine OC (fun hb1 => ?_) (fun hb1 => ?_)
 ·
  try simp only [bsimp] at hb1
  have hk : storeOk s = false := by simpa using hb1
  rw [storeText_no hk]
  refine OQ ?_
  iterate 2 (refine EV ?_)
  refine ON ?_
  refine Ok.ret ?_
  with_reducible repeat (first | refine thenQ_ret ?_ | refine blockQ_ret ?_)
  refine RT ?_
  first | rfl | (simp [packV, storeB, goneT_eq, V.erase, V.trav, V.travL, varsZ, varsZ_flat]; done)
 try simp only [bsimp] at hb1
 have hk : storeOk s = true := by simpa using hb1
 obtain ⟨k1, k2, k3, k4, k7, k8⟩ := storeOk_is hk
 rw [storeText_ok hk]
 have v3 := varI_len (z := s.time) (by omega)
 have v4 := varI_len (z := s.by_) (by omega)
 have v6 := varT_len5 (n := s.boxes.length) (by omega)
 have v7 := varT_len5 (n := s.gone.length) (by omega)
 refine Ok.skip ?_
 refine Ok.seq ?_
 refine Ok.drawn 13 68 [] (by kernel_rfl) (by kernel_rfl) rfl ?_
 iterate 2 (refine SV ?_)
 refine SOps.S0 rfl (OpS.weakM rfl (by simp only [kE, kT, kL, kC] <;> rfl) (by simp only [kE, kT, kL, kC] <;> rfl) cl52 (w_spec_l01Var s.by_ (by omega))) (by simp only [kP] <;> rfl) ?_
 iterate 2 (refine SV ?_)
 refine SOps.S0 rfl (OpS.weakM rfl (by simp only [kE, kT, kL, kC] <;> rfl) (by simp only [kE, kT, kL, kC] <;> rfl) cl52 (w_spec_l01Var s.time (by omega))) (by simp only [kP] <;> rfl) ?_
 refine SOps.ev tab_ok rfl (ev_cat (by simp only [kE, kT, kL, kC] <;> rfl) (by simp only [kE, kT, kL, kC] <;> rfl) (by first | omega | (simp only [varsZ, Int.toNat_natCast, List.length_append, List.length_nil, List.length_cons] at *; omega) | (simp only [varsZ, varsZ_flat, Int.toNat_natCast, List.length_append, List.length_nil, List.length_cons] at *; omega))) (by simp only [kP] <;> rfl) ?_
 iterate 3 (refine SV ?_)
 refine SOps.S0 rfl (OpS.weakM rfl (by simp only [kE, kT, kL, kC] <;> rfl) (by simp only [kE, kT, kL, kC] <;> rfl) cl52 (w_spec_l01Var (s.boxes.length : Int) (by omega))) (by simp only [kP] <;> rfl) ?_
 refine SOps.ev tab_ok rfl (ev_cat (by simp only [kE, kT, kL, kC, Int.toNat_natCast] <;> rfl) (by simp only [kE, kT, kL, kC, Int.toNat_natCast] <;> rfl) (by first | omega | (simp only [varsZ, Int.toNat_natCast, List.length_append, List.length_nil, List.length_cons] at *; omega) | (simp only [varsZ, varsZ_flat, Int.toNat_natCast, List.length_append, List.length_nil, List.length_cons] at *; omega))) (by simp only [kP] <;> rfl) ?_
 refine SV ?_
 refine SOps.nil ?_
 refine TOps.nil ?_
 refine Ok.seq ?_
 refine OQ ?_
 refine EV ?_
 refine ON ?_
 refine Ok.block ?_
 refine Ok.loopW (τ := Nat) (fun x => [(4, .str ((varT s.by_.toNat ++ varT s.time.toNat ++ varT s.boxes.length) ++ (s.boxes.take x).flatMap boxT)), (5, .int .i64 (x : Int))]) [6, 7, 24, 25, 26, 27, 28, 29, 30, 31, 32, 33, 34, 35, 36, 37, 38, 39, 40, 41, 42] (fun x => by simp only [kover] <;> rfl) (fun x => x ≤ s.boxes.length) (fun x => s.boxes.length - x) 0 (by (repeat (first | exact trivial | refine leC ?_ | refine leK ?_ ?_)) <;> first | (first | exact le_rfl' _ | exact le_eqm (by rw [List.take_zero, List.flatMap_nil, List.append_nil]) | exact le_eqm (congrArg V.str (by simp))) | exact le_rfl' _) (Nat.zero_le _) ?_
 rintro i h1
 refine Ok.seq ?_
 refine OQ ?_
 iterate 5 (refine EV ?_)
 refine ON ?_
 refine OC (fun hb5 => ?_) (fun hb5 => ?_)
 ·
  try simp only [bsimp] at hb5
  have hi : i < s.boxes.length := by omega
  have hn := flat_next (f := boxT) hi
  have q0 := boxes_le (l := s.boxes.take i) (fun r hr => k4 r (List.mem_of_mem_take hr))
  have q1 : (s.boxes.take i).length ≤ 5 := by rw [List.length_take]; omega
  have hbk := k4 _ (List.getElem_mem hi)
  have q2 := boxT_len hbk
  have hbt := boxText_yes hbk
  have hsb := h.1.2 _ (List.getElem_mem hi)
  refine Ok.skip ?_
  refine Ok.seq ?_
  refine Ok.block ?_
  refine OQ ?_
  iterate 3 (refine EV ?_)
  refine OkOps.ev tab_ok rfl (ev_idx_map (by simp only [kE, kT, kL, kC] <;> rfl) (by simp only [kE, kT, kL, kC] <;> rfl) (by omega) (by simp only [kE, kT, kL, kC] <;> rfl)) (by simp only [kP] <;> rfl) ?_
  refine EV ?_
  refine OW cl98 (w_spec_BoxText s.boxes[i] hsb) ?_
  iterate 3 (refine OkOps.ev tab_ok rfl (by simp only [kE, kT, kL, kC, hbt, Option.getD_some, Option.isSome_some] <;> rfl) (by simp only [kP] <;> rfl) ?_)
  iterate 2 (refine EV ?_)
  refine ON ?_
  refine Ok.region ?_
  iterate 2 (refine EV ?_)
  refine OkOps.ev tab_ok rfl (ev_cat (by simp only [kE, kT, kL, kC] <;> rfl) (by simp only [kE, kT, kL, kC] <;> rfl) (by first | omega | (simp only [varsZ, Int.toNat_natCast, List.length_append, List.length_nil, List.length_cons] at *; omega) | (simp only [varsZ, varsZ_flat, Int.toNat_natCast, List.length_append, List.length_nil, List.length_cons] at *; omega))) (by simp only [kP] <;> rfl) ?_
  refine EV ?_
  refine ON ?_
  refine Ok.region ?_
  iterate 3 (refine EV ?_)
  refine ON ?_
  refine ⟨i + 1, ?_, rfl, rfl, by omega, by omega⟩
  (repeat (first | exact trivial | refine leC ?_ | refine leK ?_ ?_)) <;> first | (first | (rw [wrap_add_one (by omega)]; exact le_rfl' _) | exact le_eqm (congrArg V.str (by rw [hn]; simp only [regT, varsZ, gT, List.append_assoc, List.append_nil])) | exact le_eqm (congrArg V.str (by rw [hn]; simp [regT, varsZ, gT]))) | exact le_rfl' _
 try simp only [bsimp] at hb5
 obtain rfl : i = s.boxes.length := by omega
 rw [List.take_length]
 have q0 := boxes_le k4
 have q9 := gone_len k7
 refine Ok.exit ?_
 refine OQ ?_
 iterate 4 (refine EV ?_)
 refine OW cl52 (w_spec_l01Var (s.gone.length : Int) (by omega)) ?_
 refine OkOps.ev tab_ok rfl (ev_cat (by simp only [kE, kT, kL, kC, Int.toNat_natCast] <;> rfl) (by simp only [kE, kT, kL, kC, Int.toNat_natCast] <;> rfl) (by first | omega | (simp only [varsZ, Int.toNat_natCast, List.length_append, List.length_nil, List.length_cons] at *; omega) | (simp only [varsZ, varsZ_flat, Int.toNat_natCast, List.length_append, List.length_nil, List.length_cons] at *; omega))) (by simp only [kP] <;> rfl) ?_
 refine EV ?_
 refine ON ?_
 refine Ok.seq ?_
 refine OQ ?_
 refine EV ?_
 refine ON ?_
 refine Ok.block ?_
 refine Ok.loopW (τ := Nat) (fun x => [(4, .str (((varT s.by_.toNat ++ varT s.time.toNat ++ varT s.boxes.length) ++ s.boxes.flatMap boxT ++ varT s.gone.length) ++ (s.gone.take x).flatMap gT)), (8, .int .i64 (x : Int))]) [49, 50, 51, 52, 53, 54, 55, 56, 57, 58, 59, 60, 61, 62, 63] (fun x => by simp only [kover] <;> rfl) (fun x => x ≤ s.gone.length) (fun x => s.gone.length - x) 0 (by (repeat (first | exact trivial | refine leC ?_ | refine leK ?_ ?_)) <;> first | (first | exact le_rfl' _ | exact le_eqm (by rw [List.take_zero, List.flatMap_nil, List.append_nil]) | exact le_eqm (congrArg V.str (by simp))) | exact le_rfl' _) (Nat.zero_le _) ?_
 rintro j g1
 refine Ok.seq ?_
 refine OQ ?_
 iterate 5 (refine EV ?_)
 refine ON ?_
 refine OC (fun hb11 => ?_) (fun hb11 => ?_)
 ·
  try simp only [bsimp] at hb11
  have hj : j < s.gone.length := by omega
  have gn := flat_next (f := gT) hj
  have p0 := gone_len (l := s.gone.take j) (fun r hr => k7 r (List.mem_of_mem_take hr))
  have p1 : (s.gone.take j).length ≤ 20 := by rw [List.length_take]; omega
  have p2 := k7 _ (List.getElem_mem hj)
  have p3 := varI_len (z := s.gone[j]) (by omega)
  refine Ok.skip ?_
  refine Ok.seq ?_
  refine Ok.block ?_
  refine Ok.region ?_
  iterate 4 (refine EV ?_)
  refine OkOps.ev tab_ok rfl (ev_idx_map (by simp only [kE, kT, kL, kC] <;> rfl) (by simp only [kE, kT, kL, kC] <;> rfl) (by omega) (by simp only [kE, kT, kL, kC] <;> rfl)) (by simp only [kP] <;> rfl) ?_
  refine EV ?_
  refine OW cl52 (w_spec_l01Var s.gone[j] (by omega)) ?_
  refine OkOps.ev tab_ok rfl (ev_cat (by simp only [kE, kT, kL, kC] <;> rfl) (by simp only [kE, kT, kL, kC] <;> rfl) (by first | omega | (simp only [varsZ, Int.toNat_natCast, List.length_append, List.length_nil, List.length_cons] at *; omega) | (simp only [varsZ, varsZ_flat, Int.toNat_natCast, List.length_append, List.length_nil, List.length_cons] at *; omega))) (by simp only [kP] <;> rfl) ?_
  refine EV ?_
  refine ON ?_
  refine Ok.region ?_
  iterate 3 (refine EV ?_)
  refine ON ?_
  refine ⟨j + 1, ?_, rfl, rfl, by omega, by omega⟩
  (repeat (first | exact trivial | refine leC ?_ | refine leK ?_ ?_)) <;> first | (first | (rw [wrap_add_one (by omega)]; exact le_rfl' _) | exact le_eqm (congrArg V.str (by rw [gn]; simp only [regT, varsZ, gT, List.append_assoc, List.append_nil])) | exact le_eqm (congrArg V.str (by rw [gn]; simp [regT, varsZ, gT]))) | exact le_rfl' _
 try simp only [bsimp] at hb11
 rw [show j = s.gone.length by omega, List.take_length]
 refine Ok.exit ?_
 refine OQ ?_
 refine EV ?_
 refine OW cl99 (w_spec_Sealed _) ?_
 iterate 4 (refine EV ?_)
 refine ON ?_
 refine Ok.ret ?_
 with_reducible repeat (first | refine thenQ_ret ?_ | refine blockQ_ret ?_)
 refine RT ?_
 first | rfl | (simp [packV, storeB, goneT_eq, V.erase, V.trav, V.travL, varsZ, varsZ_flat]; done)
end Go.Proofs.YtjhfabimacljhaaGreat.K

/- Rows of data of the call's own. Printed by genis.py. -/
namespace Go.Proofs.YtjhfabimacljhaaGreat.K
open Go Go.RowKit
set_option linter.unusedVariables false
set_option linter.unusedSimpArgs false
def isInt (c : List V) : Prop := ∃ n : Int, c = [.int .i64 n]
def isText (c : List V) : Prop := ∃ s : Str, c = [.str s]
def isReg (c : List V) : Prop := ∃ (v0 : Int) (v1 : Int) (v2 : Int), c = [.int .i64 v0, .int .i64 v1, .int .i64 v2]
def isMail (c : List V) : Prop := ∃ (v0 : Int) (v1 : Int) (L2 : Nat) (e2 : List (List V)) (v3 : Str), c = [.int .i64 v0, .int .i64 v1, .sl (L2 + 1) 3 0 e2, .str v3] ∧ (∀ r ∈ e2, isReg r)
def isBox (c : List V) : Prop := ∃ (v0 : Int) (v1 : Str) (v2 : Int) (v3 : Int) (v4 : Int) (L5 : Nat) (e5 : List (List V)) (L6 : Nat) (e6 : List (List V)), c = [.int .i64 v0, .str v1, .int .i64 v2, .int .i64 v3, .int .i64 v4, .sl (L5 + 1) 4 0 e5, .sl (L6 + 1) 1 0 e6] ∧ (∀ r ∈ e5, isMail r) ∧ (∀ r ∈ e6, isInt r)
def isServer (c : List V) : Prop := ∃ (v0 : Int) (v1 : Int) (L2 : Nat) (e2 : List (List V)) (L3 : Nat) (e3 : List (List V)) (v4 : Str) (v5 : Int) (v6 : Str) (v7 : Str) (v8 : Bool) (v9 : Bool) (v10 : Int) (L11 : Nat) (e11 : List (List V)) (v12 : Bool), c = [.int .i64 v0, .int .i64 v1, .sl (L2 + 1) 7 0 e2, .sl (L3 + 1) 1 0 e3, .str v4, .int .i64 v5, .str v6, .str v7, .bool v8, .bool v9, .int .i64 v10, .sl (L11 + 1) 1 0 e11, .bool v12] ∧ (∀ r ∈ e2, isBox r) ∧ (∀ r ∈ e3, isInt r) ∧ (∀ r ∈ e11, isInt r)
def isSync (c : List V) : Prop := ∃ (v0 : Int) (v1 : Int) (L2 : Nat) (e2 : List (List V)) (v3 : Int) (v4 : Int) (v5 : Int) (L6 : Nat) (e6 : List (List V)) (v7 : Bool) (v8 : Bool), c = [.int .i64 v0, .int .i64 v1, .sl (L2 + 1) 1 0 e2, .int .i64 v3, .int .i64 v4, .int .i64 v5, .sl (L6 + 1) 1 0 e6, .bool v7, .bool v8] ∧ (∀ r ∈ e2, isText r) ∧ (∀ r ∈ e6, isText r)
def isLetter (c : List V) : Prop := ∃ (v0 : Int) (v1 : Str), c = [.int .i64 v0, .str v1]
end Go.Proofs.YtjhfabimacljhaaGreat.K

/- Data of the call's own. Printed by genown.py. -/
namespace Go.Proofs.YtjhfabimacljhaaGreat.K
open Go Go.RowKit
set_option linter.unusedVariables false
set_option linter.unusedSimpArgs false
theorem Hom.nilV {f : V → V} {A : Nat → Prop} (hf : Hom f A) (s : Nat) : f (.nil s) = .nil s := hf.far _ fun L h => by cases h
theorem plLL_of : ∀ (es : List (List V)), (∀ r ∈ es, V.plL r = true) → V.plLL es = true
  | [], _ => rfl
  | x :: es, h => by
    simp only [V.plLL, h x (List.mem_cons_self ..), plLL_of es fun r hr => h r (List.mem_cons_of_mem _ hr), Bool.and_self]
theorem erase_tagd {es d : List (List V)} {n : Nat} (hd : V.datLL d = true) (he : V.eraseLL d = d) (h : es = V.tagLL n d) (hp : ∀ r ∈ es, V.plL r = true) : V.travLL (fun sz => V.sl 0 sz 0 []) (fun _ sz _ es => V.sl 0 sz 0 es) (fun _ _ o e => V.ptr 0 0 o e) es = d ∧ ∀ K, V.travLL (fun sz => V.sl 0 sz 0 []) (fun _ sz _ es => V.sl 0 sz 0 es) (fun _ _ o e => V.ptr 0 0 o e) (V.mkLL K es) = V.mkLL K d := by
  have e1 : V.eraseLL es = d := by rw [h, tagLL_erase _ _ hd, he]
  exact ⟨e1, fun K => by show V.eraseLL _ = _; rw [mkLL_erase es K (plLL_of es hp), e1]⟩
section
variable {P : Program} {ti : Tab} {t t' : List V} {n n' : Nat} {Q : Exit → List V → List V → Nat → Prop} {ops : Array Oper} {o : Oper} {l : List Oper}
theorem OkOps.storeN {T : TypeId} {p q : Operand} {L j : Nat} {e' : List V} (hti : TabOk P ti) (hg : o.guard = none) (ho : o.op = .store T p q) (hs : Go.Proofs.YtjhfabimacljhaaGreat.K.storeE (ti T) (opnd t p) (opnd t q) = some (L, j, e')) (hc : ∃ y l, cellsV (opnd t q) = y :: l) (hfree : L ∉ V.labelsL e')
    (ht : ∀ W, Hom W (· = L) → StoreF W L j e' → putV (t.map W) o.dst .any = t') (hk : OkOps P ops l t' [] n Q) : OkOps P ops (o :: l) t [] n Q :=
  OkOps.storeU (h0 := []) (U0 := id) (v0 := .any) (x := .any) (x' := .any) (B := (· = L)) hti hg ho hs hc hfree (Hom.id' _) rfl rfl (fun W hW _ => hW.any) ht (fun _ _ _ => hk)
end
theorem pl_int {c : List V} (h : isInt c) : V.plL c = true := by
  obtain ⟨v0, rfl⟩ := h
  simp only [V.plL, V.pl, Bool.and_true, Bool.true_and, beq_self_eq_true]
theorem own_int : ∀ (xs : List Int) (n : Nat), ∀ r ∈ V.tagLL (n + 1) (xs.map cZ), isInt r
  | [], n, r, hr => by cases hr
  | x :: xs, n, r, hr => by
    rw [List.map_cons] at hr
    rcases List.mem_cons.1 (show r ∈ V.tagL (n + 1) (cZ x) :: V.tagLL (n + 1 + V.cntL (cZ x)) (xs.map cZ) from hr) with rfl | hr
    · refine ⟨x, ?_⟩
      simp only [cZ, V.tagL, V.tag, V.cnt, Nat.add_zero]
    · rw [show n + 1 + V.cntL (cZ x) = (n + V.cntL (cZ x)) + 1 by omega] at hr; exact own_int xs _ r hr
theorem pl_Reg {c : List V} (h : isReg c) : V.plL c = true := by
  obtain ⟨v0, v1, v2, rfl⟩ := h
  simp only [V.plL, V.pl, Bool.and_true, Bool.true_and, beq_self_eq_true]
theorem own_Reg : ∀ (xs : List Reg) (n : Nat), ∀ r ∈ V.tagLL (n + 1) (xs.map cReg), isReg r
  | [], n, r, hr => by cases hr
  | x :: xs, n, r, hr => by
    rw [List.map_cons] at hr
    rcases List.mem_cons.1 (show r ∈ V.tagL (n + 1) (cReg x) :: V.tagLL (n + 1 + V.cntL (cReg x)) (xs.map cReg) from hr) with rfl | hr
    · refine ⟨x.val, x.stamp.time, x.stamp.by_, ?_⟩
      simp only [cReg, V.tagL, V.tag, V.cnt, Nat.add_zero]
    · rw [show n + 1 + V.cntL (cReg x) = (n + V.cntL (cReg x)) + 1 by omega] at hr; exact own_Reg xs _ r hr
theorem pl_Mail {c : List V} (h : isMail c) : V.plL c = true := by
  obtain ⟨v0, v1, L2, e2, v3, rfl, q2⟩ := h
  have h2 := plLL_of e2 fun r hr => pl_Reg (q2 r hr)
  simp only [V.plL, V.pl, Bool.and_true, Bool.true_and, beq_self_eq_true, h2]
theorem own_Mail : ∀ (xs : List Mail) (n : Nat), ∀ r ∈ V.tagLL (n + 1) (xs.map cMail), isMail r
  | [], n, r, hr => by cases hr
  | x :: xs, n, r, hr => by
    rw [List.map_cons] at hr
    rcases List.mem_cons.1 (show r ∈ V.tagL (n + 1) (cMail x) :: V.tagLL (n + 1 + V.cntL (cMail x)) (xs.map cMail) from hr) with rfl | hr
    · refine ⟨x.gid, x.uid, n, V.tagLL (n + 1 + 1) (x.flags.map cReg), x.text, ?_, fun r hr => own_Reg x.flags (n + 1) r hr⟩
      simp only [cMail, V.tagL, V.tag, V.cnt, Nat.add_zero]
    · rw [show n + 1 + V.cntL (cMail x) = (n + V.cntL (cMail x)) + 1 by omega] at hr; exact own_Mail xs _ r hr
theorem ownMail (n : Nat) (x : Mail) : ∃ (L2 : Nat) (e2 : List (List V)), V.tag (n + 1) (.agg (cMail x)) = .agg [.int .i64 x.gid, .int .i64 x.uid, .sl (L2 + 1) 3 0 e2, .str x.text] ∧ (∀ r ∈ e2, isReg r) ∧ V.travLL (fun sz => V.sl 0 sz 0 []) (fun _ sz _ es => V.sl 0 sz 0 es) (fun _ _ o e => V.ptr 0 0 o e) e2 = x.flags.map cReg ∧ (∀ K, V.travLL (fun sz => V.sl 0 sz 0 []) (fun _ sz _ es => V.sl 0 sz 0 es) (fun _ _ o e => V.ptr 0 0 o e) (V.mkLL K e2) = V.mkLL K (x.flags.map cReg)) ∧ V.mnLL e2 = V.mnLL (x.flags.map cReg) ∧ (V.labelsL [.int .i64 x.gid, .int .i64 x.uid, .sl (L2 + 1) 3 0 e2, .str x.text]).Nodup ∧ (∀ z ∈ V.labelsL [.int .i64 x.gid, .int .i64 x.uid, .sl (L2 + 1) 3 0 e2, .str x.text], n + 1 ≤ z ∧ z < n + 1 + V.cnt (.agg (cMail x))) := by
  have hX : V.tagL (n + 1) (cMail x) = [.int .i64 x.gid, .int .i64 x.uid, .sl (n + 1) 3 0 (V.tagLL (n + 1 + 1) (x.flags.map cReg)), .str x.text] := by
    simp only [cMail, V.tagL, V.tag, V.cnt, Nat.add_zero]
  have hl := tagL_labels (cMail x) (n + 1)
  rw [hX] at hl
  have q2 := fun r hr => own_Reg x.flags (n + 1) r hr
  have d2 := erase_tagd (es := V.tagLL (n + 1 + 1) (x.flags.map cReg)) (n := n + 1 + 1) (by simp [zz, zf, zy]) (by simp [V.eraseLL, zz, zf, zy]) rfl (fun r hr => pl_Reg (q2 r hr))
  have m2 := mnLL_erase (V.tagLL (n + 1 + 1) (x.flags.map cReg))
  rw [show V.eraseLL (V.tagLL (n + 1 + 1) (x.flags.map cReg)) = x.flags.map cReg from d2.1] at m2
  refine ⟨n, _, congrArg V.agg hX, q2, d2.1, d2.2, m2.symm, ?_, ?_⟩
  · rw [hl]; exact List.nodup_range'
  · intro z hz; rw [hl, List.mem_range'_1] at hz; exact hz
theorem ownBox (n : Nat) (x : Box) : ∃ (L5 : Nat) (e5 : List (List V)) (L6 : Nat) (e6 : List (List V)), V.tag (n + 1) (.agg (cBox x)) = .agg [.int .i64 x.gid, .str x.name, .int .i64 x.named.time, .int .i64 x.named.by_, .int .i64 x.next, .sl (L5 + 1) 4 0 e5, .sl (L6 + 1) 1 0 e6] ∧ (∀ r ∈ e5, isMail r) ∧ V.travLL (fun sz => V.sl 0 sz 0 []) (fun _ sz _ es => V.sl 0 sz 0 es) (fun _ _ o e => V.ptr 0 0 o e) e5 = x.mails.map cMail ∧ (∀ K, V.travLL (fun sz => V.sl 0 sz 0 []) (fun _ sz _ es => V.sl 0 sz 0 es) (fun _ _ o e => V.ptr 0 0 o e) (V.mkLL K e5) = V.mkLL K (x.mails.map cMail)) ∧ V.mnLL e5 = V.mnLL (x.mails.map cMail) ∧ (∀ r ∈ e6, isInt r) ∧ V.travLL (fun sz => V.sl 0 sz 0 []) (fun _ sz _ es => V.sl 0 sz 0 es) (fun _ _ o e => V.ptr 0 0 o e) e6 = x.gone.map cZ ∧ (∀ K, V.travLL (fun sz => V.sl 0 sz 0 []) (fun _ sz _ es => V.sl 0 sz 0 es) (fun _ _ o e => V.ptr 0 0 o e) (V.mkLL K e6) = V.mkLL K (x.gone.map cZ)) ∧ V.mnLL e6 = V.mnLL (x.gone.map cZ) ∧ (V.labelsL [.int .i64 x.gid, .str x.name, .int .i64 x.named.time, .int .i64 x.named.by_, .int .i64 x.next, .sl (L5 + 1) 4 0 e5, .sl (L6 + 1) 1 0 e6]).Nodup ∧ (∀ z ∈ V.labelsL [.int .i64 x.gid, .str x.name, .int .i64 x.named.time, .int .i64 x.named.by_, .int .i64 x.next, .sl (L5 + 1) 4 0 e5, .sl (L6 + 1) 1 0 e6], n + 1 ≤ z ∧ z < n + 1 + V.cnt (.agg (cBox x))) := by
  have hX : V.tagL (n + 1) (cBox x) = [.int .i64 x.gid, .str x.name, .int .i64 x.named.time, .int .i64 x.named.by_, .int .i64 x.next, .sl (n + 1) 4 0 (V.tagLL (n + 1 + 1) (x.mails.map cMail)), .sl (n + (1 + V.cntLL (x.mails.map cMail)) + 1) 1 0 (V.tagLL (n + (1 + V.cntLL (x.mails.map cMail)) + 1 + 1) (x.gone.map cZ))] := by
    simp only [cBox, V.tagL, V.tag, V.cnt, Nat.add_zero, (show n + 1 + (1 + V.cntLL (x.mails.map cMail)) = n + (1 + V.cntLL (x.mails.map cMail)) + 1 by omega)]
  have hl := tagL_labels (cBox x) (n + 1)
  rw [hX] at hl
  have q5 := fun r hr => own_Mail x.mails (n + 1) r hr
  have d5 := erase_tagd (es := V.tagLL (n + 1 + 1) (x.mails.map cMail)) (n := n + 1 + 1) (by simp [zz, zf, zy]) (by simp [V.eraseLL, zz, zf, zy]) rfl (fun r hr => pl_Mail (q5 r hr))
  have m5 := mnLL_erase (V.tagLL (n + 1 + 1) (x.mails.map cMail))
  rw [show V.eraseLL (V.tagLL (n + 1 + 1) (x.mails.map cMail)) = x.mails.map cMail from d5.1] at m5
  have q6 := fun r hr => own_int x.gone (n + (1 + V.cntLL (x.mails.map cMail)) + 1) r hr
  have d6 := erase_tagd (es := V.tagLL (n + (1 + V.cntLL (x.mails.map cMail)) + 1 + 1) (x.gone.map cZ)) (n := n + (1 + V.cntLL (x.mails.map cMail)) + 1 + 1) (by simp [zz, zf, zy]) (by simp [V.eraseLL, zz, zf, zy]) rfl (fun r hr => pl_int (q6 r hr))
  have m6 := mnLL_erase (V.tagLL (n + (1 + V.cntLL (x.mails.map cMail)) + 1 + 1) (x.gone.map cZ))
  rw [show V.eraseLL (V.tagLL (n + (1 + V.cntLL (x.mails.map cMail)) + 1 + 1) (x.gone.map cZ)) = x.gone.map cZ from d6.1] at m6
  refine ⟨n, _, n + (1 + V.cntLL (x.mails.map cMail)), _, congrArg V.agg hX, q5, d5.1, d5.2, m5.symm, q6, d6.1, d6.2, m6.symm, ?_, ?_⟩
  · rw [hl]; exact List.nodup_range'
  · intro z hz; rw [hl, List.mem_range'_1] at hz; exact hz
theorem ownSReg (n : Nat) (xs : List Reg) : ∃ (L0 : Nat) (e0 : List (List V)), V.tag (n + 1) (.sl 0 3 0 (xs.map cReg)) = .sl (L0 + 1) 3 0 e0 ∧ (∀ r ∈ e0, isReg r) ∧ V.travLL (fun sz => V.sl 0 sz 0 []) (fun _ sz _ es => V.sl 0 sz 0 es) (fun _ _ o e => V.ptr 0 0 o e) e0 = xs.map cReg ∧ (∀ K, V.travLL (fun sz => V.sl 0 sz 0 []) (fun _ sz _ es => V.sl 0 sz 0 es) (fun _ _ o e => V.ptr 0 0 o e) (V.mkLL K e0) = V.mkLL K (xs.map cReg)) ∧ V.mnLL e0 = V.mnLL (xs.map cReg) ∧ (V.labels (.sl (L0 + 1) 3 0 e0)).Nodup ∧ (∀ z ∈ V.labels (.sl (L0 + 1) 3 0 e0), n + 1 ≤ z ∧ z < n + 1 + V.cnt (.sl 0 3 0 (xs.map cReg))) := by
  have hl := tag_labels (.sl 0 3 0 (xs.map cReg)) (n + 1)
  have q0 := fun r hr => own_Reg xs (n + 1) r hr
  have d0 := erase_tagd (es := V.tagLL (n + 1 + 1) (xs.map cReg)) (n := n + 1 + 1) (by simp [zz, zf, zy]) (by simp [V.eraseLL, zz, zf, zy]) rfl (fun r hr => pl_Reg (q0 r hr))
  have m0 := mnLL_erase (V.tagLL (n + 1 + 1) (xs.map cReg))
  rw [show V.eraseLL (V.tagLL (n + 1 + 1) (xs.map cReg)) = xs.map cReg from d0.1] at m0
  refine ⟨n, _, rfl, q0, d0.1, d0.2, m0.symm, ?_, ?_⟩
  · exact (show (V.labels (V.tag (n + 1) (.sl 0 3 0 (xs.map cReg)))).Nodup by rw [hl]; exact List.nodup_range')
  · intro z hz; have hz2 : z ∈ V.labels (V.tag (n + 1) (.sl 0 3 0 (xs.map cReg))) := hz; rw [hl, List.mem_range'_1] at hz2; exact hz2
end Go.Proofs.YtjhfabimacljhaaGreat.K

/- What is far is kept: for short texts. -/
namespace Go.Proofs.YtjhfabimacljhaaGreat.K
open Go Go.RowKit
set_option linter.unusedVariables false
set_option linter.unusedSimpArgs false
section
variable {P : Program} {ti : Tab} {t t' h h' : List V} {n n' : Nat} {Q : Exit → List V → List V → Nat → Prop} {ops : Array Oper} {o : Oper} {l : List Oper} {late : List Nat}
end
theorem farA {W : V → V} {A : Nat → Prop} (hW : Hom W A) {L sz : Nat} {e : List (List V)} {lo hi : Nat} (r : ∀ z ∈ V.labels (.sl (L + 1) sz 0 e), lo ≤ z ∧ z < hi) (h : ∀ y, lo ≤ y → y < hi → ¬ A y) :
    W (.sl (L + 1) sz 0 e) = .sl (L + 1) sz 0 e ∧ ∀ K, W (.sl (L + 1) sz 0 (V.mkLL K e)) = .sl (L + 1) sz 0 (V.mkLL K e) :=
  ⟨hW.far _ fun y hy ha => h y (r y hy).1 (r y hy).2 ha, fun K => hW.far _ fun y hy ha => by
    have hy' : y ∈ V.labels (.sl (L + 1) sz 0 e) := by simp only [V.labels, mkLL_labels] at hy ⊢; exact hy
    exact h y (r y hy').1 (r y hy').2 ha⟩
theorem far00 {W : V → V} {A : Nat → Prop} (hW : Hom W A) (h0 : ¬ A 0) {α : Type} {f : α → List V} (hf : ∀ xs : List α, ∀ L ∈ V.labelsLL (xs.map f), L = 0) (sz : Nat) (xs : List α) : W (.sl 0 sz 0 (xs.map f)) = .sl 0 sz 0 (xs.map f) :=
  hW.far _ fun y hy ha => by
    rcases List.mem_cons.1 hy with rfl | hy
    · exact h0 ha
    · exact h0 (hf xs y hy ▸ ha)
theorem far0 {W : V → V} {A : Nat → Prop} (hW : Hom W A) (h0 : ¬ A 0) : (∀ (sz : Nat) (xs : List Str), W (.sl 0 sz 0 (xs.map cS)) = .sl 0 sz 0 (xs.map cS)) ∧ (∀ (sz : Nat) (xs : List Int), W (.sl 0 sz 0 (xs.map cZ)) = .sl 0 sz 0 (xs.map cZ)) ∧ (∀ (sz : Nat) (xs : List Reg), W (.sl 0 sz 0 (xs.map cReg)) = .sl 0 sz 0 (xs.map cReg)) ∧ (∀ (sz : Nat) (xs : List Mail), W (.sl 0 sz 0 (xs.map cMail)) = .sl 0 sz 0 (xs.map cMail)) ∧ (∀ (sz : Nat) (xs : List Box), W (.sl 0 sz 0 (xs.map cBox)) = .sl 0 sz 0 (xs.map cBox)) ∧ (∀ (sz : Nat) (xs : List Server), W (.sl 0 sz 0 (xs.map cServer)) = .sl 0 sz 0 (xs.map cServer)) ∧ (∀ (sz : Nat) (xs : List Sync), W (.sl 0 sz 0 (xs.map cSync)) = .sl 0 sz 0 (xs.map cSync)) ∧ (∀ (sz : Nat) (xs : List Letter), W (.sl 0 sz 0 (xs.map cLetter)) = .sl 0 sz 0 (xs.map cLetter)) ∧ (∀ (sz : Nat) (xs : List UInt8), W (.sl 0 sz 0 (xs.map cB)) = .sl 0 sz 0 (xs.map cB)) :=
  ⟨far00 hW h0 (fun xs => by simp [zz, zf, zy]), far00 hW h0 (fun xs => by simp [zz, zf, zy]), far00 hW h0 (fun xs => by simp [zz, zf, zy]), far00 hW h0 (fun xs => by simp [zz, zf, zy]), far00 hW h0 (fun xs => by simp [zz, zf, zy]), far00 hW h0 (fun xs => by simp [zz, zf, zy]), far00 hW h0 (fun xs => by simp [zz, zf, zy]), far00 hW h0 (fun xs => by simp [zz, zf, zy]), far00 hW h0 (fun xs => by simp [zz, zf, zy])⟩
end Go.Proofs.YtjhfabimacljhaaGreat.K

/- Loops in which new memory is named in every round; what is appended and stored in a region that draws its order. -/
namespace Go.Proofs.YtjhfabimacljhaaGreat.K
open Go Go.RowKit
set_option linter.unusedVariables false
set_option linter.unusedSimpArgs false
section
variable {P : Program} {ti : Tab} {t t' h : List V} {n n' : Nat} {Q : Exit → List V → List V → Nat → Prop} {ops : Array Oper} {o : Oper} {l : List Oper}
theorem M.le' {base : Base} {σ : Sig} {w : World} {x y : V} {v : Value} (h : V.le x y) (hm : M base σ w x v) : M base σ w y v := by
  rcases h with rfl | rfl | ⟨L, sz, rfl, rfl⟩
  · exact hm
  · exact .any _
  · cases hm with
    | nil _ A => exact .sl L sz 0 [] A 0 (fun _ _ => undef) (Nat.le_refl _) (Nat.zero_le _) (by simp) (.inr (.inl rfl)) (by simp) (by simp)
theorem Ok.cell {c : Code} {d L i o : Nat} {e : List V} (e' : List V) (hd : t[d]? = some (.ptr L i o e)) (hle : leL e e') (ht : t.set d (.ptr L i o e') = t') (hk : Ok P c t' h n Q) : Ok P c t h n Q := by
  subst ht
  intro base w0 hv σ a w g
  refine hk base w0 hv σ a w ⟨⟨by rw [List.length_set]; exact g.ts.1, fun j y u hy hu => ?_⟩, g.hs, g.dfr, g.bel, g.inv⟩
  by_cases hj : d = j
  · subst hj
    rw [List.getElem?_set_self (List.getElem?_eq_some_iff.1 hd).1] at hy
    obtain rfl := Option.some.inj hy
    have hm := g.ts.2 d _ u hd hu
    cases hm with
    | ptr _ _ _ _ ad u4 h4 h5 h6 =>
      have hl := (leL_spec hle).1
      have get : ∀ (c : Nat) y, e'[c]? = some y → ∃ x, e[c]? = some x ∧ V.le x y := by
        intro c y hy
        have hc : c < e.length := by have := (List.getElem?_eq_some_iff.1 hy).1; omega
        exact ⟨e[c], List.getElem?_eq_getElem hc, (leL_spec hle).2 c _ y (List.getElem?_eq_getElem hc) hy⟩
      refine .ptr L i o e' ad u4 (by rw [← hl]; exact h4) (fun c y hy => ?_) (fun c y hy => ?_)
      · obtain ⟨x, hx, _⟩ := get c y hy; exact h5 c x hx
      · obtain ⟨x, hx, hxy⟩ := get c y hy; exact M.le' hxy (h6 c x hx)
  · rw [List.getElem?_set_ne hj] at hy
    exact g.ts.2 j y u hy hu
theorem Ok.loopN {τ : Type} {c : Code} {F : τ → List V} (W : τ → List (Nat × V)) (dead : List Nat) (hF : ∀ x, overW (W x) (overD dead t) = F x) (N : τ → Nat) (p : τ → Prop) (m : τ → Nat) (x : τ) (hle : leL t (F x)) (hn : n ≤ N x) (hp : p x)
    (round : ∀ x, p x → Ok P c (F x) h (N x) (thenQ (fun t' h' n' => ∃ y, leL t' (F y) ∧ h' = h ∧ n' ≤ N y ∧ p y ∧ m y < m x) Q)) : Ok P (.loop c) t h n Q := by
  refine Ok.loop (fun x t' h' n' => leL t' (F x) ∧ h' = h ∧ n' ≤ N x ∧ p x) m x ⟨hle, rfl, hn, hp⟩ ?_
  rintro x t' h' n' ⟨h1, rfl, h3, h4⟩
  refine Ok.bump h3 (Ok.forget (leL_spec h1).1 (leL_spec h1).2 ((round x h4).mono ?_))
  intro e t2 h2 n2 hq
  cases e with
  | normal => obtain ⟨y, a, b, c, d, e⟩ := hq; exact ⟨y, ⟨a, b, c, d⟩, e⟩
  | exit id => exact hq
  | goto l => exact hq
  | ret => exact hq
  | panic ch => exact hq
  | outgrown => exact hq
structure KillF (W : V → V) (L : Nat) : Prop where
  sl : ∀ sz off es, W (.sl L sz off es) = .any
  ptr : ∀ i o e, W (.ptr L i o e) = .any
theorem kill_hom (L : Nat) : Hom (V.kill L) (· = L) :=
  ⟨fun v h => trav_far (fun M sz off es hM => if_neg hM) (fun M i o e hM => if_neg hM) v fun hL => h L hL rfl,
   fun cs => by show V.agg (V.travL _ _ _ cs) = _; rw [travL_eq]; rfl,
   fun M i o e hM => by show killP L M i o (V.travL _ _ _ e) = _; rw [killP, if_neg hM, travL_eq]; rfl,
   fun M sz off es hM => by
    show killS L M sz off (V.travLL _ _ _ es) = _
    rw [killS, if_neg hM, travLL_eq]
    congr 1
    refine List.map_congr_left fun e _ => ?_
    rw [travL_eq]; rfl⟩
theorem kill_killF (L : Nat) : KillF (V.kill L) L :=
  ⟨fun sz off es => by show killS L L sz off _ = _; rw [killS, if_pos rfl], fun i o e => by show killP L L i o _ = _; rw [killP, if_pos rfl]⟩
theorem killLL_far {L : Nat} {es : List (List V)} (h : L ∉ V.labelsLL es) : V.killLL L es = es := travLL_far (L := L) (fun M sz off es hM => if_neg hM) (fun M i o e hM => if_neg hM) es h
theorem OkOps.appendN {T e : TypeId} {i : TInfo} {s x : Operand} {L off : Nat} {es es2 : List (List V)} {s1 b1 : Nat} {z1 : List V} (hti : TabOk P ti) (hg : o.guard = none) (ho : o.op = .call ⟨.builtin .append, #[s, x], #[T, T]⟩) (hT : ti T = some ⟨.slice e, s1, b1, z1⟩) (he : ti e = some i)
    (hi : 0 < i.size) (hz : i.zero.length = i.size) (hs : opnd t s = .sl L i.size off es) (hx : (∃ L2 off2, opnd t x = .sl L2 i.size off2 es2) ∨ (es2 = [] ∧ ∃ q, opnd t x = .nil q)) (hL : L ≠ 0) (hLn : L < n)
    (hb : (es.length + es2.length) * i.bytes ≤ 140737488355328) (hb2 : es.length + es2.length ≤ 9223372036854775807) (hone : ∀ e ∈ es2, ∀ y ∈ e, V.one y = true) (hfar : L ∉ V.labelsLL (es ++ es2)) (ht : ∀ W, Hom W (· = L) → KillF W L → putV (t.map W) o.dst (.sl L i.size 0 (es ++ es2)) = t')
    (hk : OkOps P ops l t' [] n Q) : OkOps P ops (o :: l) t [] n Q :=
  OkOps.append hti hg ho hT he hi hz hs hx hL hLn hb hb2 hone (killLL_far hfar) (by unfold V.killL; rw [travL_eq]; exact ht _ (kill_hom L) (kill_killF L)) rfl hk
theorem TOps.appendN {T e : TypeId} {i : TInfo} {s x : Operand} {L off : Nat} {es es2 : List (List V)} {s1 b1 : Nat} {z1 : List V} (hti : TabOk P ti) (hg : o.guard = none) (ho : o.op = .call ⟨.builtin .append, #[s, x], #[T, T]⟩) (hT : ti T = some ⟨.slice e, s1, b1, z1⟩) (he : ti e = some i)
    (hi : 0 < i.size) (hz : i.zero.length = i.size) (hs : opnd t s = .sl L i.size off es) (hx : (∃ L2 off2, opnd t x = .sl L2 i.size off2 es2) ∨ (es2 = [] ∧ ∃ q, opnd t x = .nil q)) (hL : L ≠ 0) (hLn : L < n)
    (hb : (es.length + es2.length) * i.bytes ≤ 140737488355328) (hb2 : es.length + es2.length ≤ 9223372036854775807) (hone : ∀ e ∈ es2, ∀ y ∈ e, V.one y = true) (hfar : L ∉ V.labelsLL (es ++ es2)) (ht : ∀ W, Hom W (· = L) → KillF W L → putV (t.map W) o.dst (.sl L i.size 0 (es ++ es2)) = t')
    (hk : TOps P ops [] Q l t' [] n) : TOps P ops [] Q (o :: l) t [] n :=
  TOps.append hti hg ho hT he hi hz hs hx hL hLn hb hb2 hone (killLL_far hfar) (by unfold V.killL; rw [travL_eq]; exact ht _ (kill_hom L) (kill_killF L)) rfl hk
theorem TOps.storeN {T : TypeId} {p q : Operand} {L j : Nat} {e' : List V} (hti : TabOk P ti) (hg : o.guard = none) (ho : o.op = .store T p q) (hs : Go.Proofs.YtjhfabimacljhaaGreat.K.storeE (ti T) (opnd t p) (opnd t q) = some (L, j, e')) (hc : ∃ y l, cellsV (opnd t q) = y :: l) (hfree : L ∉ V.labelsL e')
    (ht : ∀ W, Hom W (· = L) → StoreF W L j e' → putV (t.map W) o.dst .any = t') (hk : TOps P ops [] Q l t' [] n) : TOps P ops [] Q (o :: l) t [] n :=
  TOps.storeE hti hg ho hs hc hfree (by unfold V.updL; rw [travL_eq]; exact ht _ (upd_hom L j e') (upd_storeF L j e')) rfl hk
end
theorem rows_snocL {lo : Nat} {α : Type} {f : α → List V} {a : List α} {d : List (List V)} {c : List V} {k m : Nat} (hlo : lo ≤ k + 1) (hi : d.length < a.length) (h1 : V.travLL (fun sz => V.sl 0 sz 0 []) (fun _ sz _ es => V.sl 0 sz 0 es) (fun _ _ o e => V.ptr 0 0 o e) d = (a.take d.length).map f) (h2 : (V.labelsLL d).Nodup) (h3 : ∀ z ∈ V.labelsLL d, lo ≤ z ∧ z < k + 1)
    (hk : 1 ≤ k) (hkm : k ≤ m) (hc1 : V.travL (fun sz => V.sl 0 sz 0 []) (fun _ sz _ es => V.sl 0 sz 0 es) (fun _ _ o e => V.ptr 0 0 o e) c = f a[d.length]) (hc2 : (V.labelsL c).Nodup) (hc3 : ∀ z ∈ V.labelsL c, k + 1 ≤ z ∧ z < m + 1) :
    (d ++ [c]).length ≤ a.length ∧ V.travLL (fun sz => V.sl 0 sz 0 []) (fun _ sz _ es => V.sl 0 sz 0 es) (fun _ _ o e => V.ptr 0 0 o e) (d ++ [c]) = (a.take (d ++ [c]).length).map f ∧ (V.labelsLL (d ++ [c])).Nodup ∧ (∀ z ∈ V.labelsLL (d ++ [c]), lo ≤ z ∧ z < m + 1) ∧ 1 ≤ m := by
  have hl : (d ++ [c]).length = d.length + 1 := by simp
  have hlab : V.labelsLL (d ++ [c]) = V.labelsLL d ++ V.labelsL c := by rw [labelsLL_app]; show V.labelsLL d ++ (V.labelsL c ++ []) = _; rw [List.append_nil]
  refine ⟨by omega, ?_, ?_, ?_, by omega⟩
  · rw [hl, List.take_succ_eq_append_getElem hi, List.map_append, ← h1, travLL_eq, List.map_append, ← travLL_eq]
    show _ ++ [V.travL _ _ _ c] = _
    rw [hc1]; rfl
  · rw [hlab, List.nodup_append]
    exact ⟨h2, hc2, fun y hy z hz h => by have := h3 y hy; have := hc3 z hz; omega⟩
  · intro z hz
    rw [hlab, List.mem_append] at hz
    rcases hz with hz | hz
    · have := h3 z hz; omega
    · have := hc3 z hz; omega
end Go.Proofs.YtjhfabimacljhaaGreat.K

/- Walks: the copies of the program as data of the call's own. Printed by w2.py. -/
namespace Go.Proofs.YtjhfabimacljhaaGreat.K
open Go Go.RowKit
set_option linter.unusedVariables false
set_option linter.unusedSimpArgs false
set_option maxHeartbeats 4000000
set_option maxRecDepth 20000
theorem p_spec_l04Copy (a : List Reg) (ha : a.length ≤ 1048576) : Pure Tryz.prog 250 [.sl 0 3 0 (a.map cReg)] (.sl 0 3 0 (a.map cReg)) := by
 refine Pure.of (by simp [V.dat, V.datL, V.datLL, zz, zf, zy]) (OkCall.enter' tab_ok Tryz.func250 rfl (t := [.sl 0 3 0 (a.map cReg), .any, .any, .any, .any, .any]) rfl ?_)
 refine OQ ?_
 refine EV ?_
 refine ON ?_
 refine OQ ?_
 iterate 2 (refine EV ?_)
 refine OkOps.S rfl (ok_append_nil tab_ok (by simp only [kT] <;> rfl) (by simp only [kT] <;> rfl) (by decide) rfl rfl (by simp only [kE, kT, kL, kC] <;> rfl) (.inl ⟨_, _, by simp only [kE, kT, kL, kC] <;> rfl⟩) (by simp only [List.length_map]; omega) (by simp only [List.length_map]; omega)) (by simp only [kP, kL] <;> rfl) ?_
 refine EV ?_
 refine ON ?_
 refine Ok.ret ?_
 with_reducible repeat (first | refine thenQ_ret ?_ | refine blockQ_ret ?_)
 refine RT ?_
 exact ⟨by simp [V.erase, V.trav, V.travL, V.travLL, packV, zz, zf], by simp [V.labels, V.labelsL, V.labelsLL, packV, zz, zf], by simp [V.labels, V.labelsL, V.labelsLL, packV, zz, zf]⟩
theorem p_spec_l05Copy (x : Mail) (h : smMail x) : Pure Tryz.prog 236 [.agg (cMail x)] (.agg (cMail x)) := by
 refine Pure.of (by simp [V.dat, V.datL, V.datLL, zz, zf, zy]) (OkCall.enter' tab_ok Tryz.func236 rfl (t := [.agg (cMail x), .any, .any, .any, .any, .any, .any, .any]) rfl ?_)
 refine OQ ?_
 iterate 2 (refine EV ?_)
 refine ON ?_
 refine OQ ?_
 iterate 2 (refine EV ?_)
 obtain ⟨L0a, e0a, hXa, q0a, E0a, M0a, N0a, nda, rga⟩ := ownSReg (2) (x.flags)
 obtain ⟨ma, hma⟩ : ∃ m, 2 + 1 + V.cnt (.sl 0 3 0 ((x.flags).map cReg)) = m + 1 := ⟨2 + V.cnt (.sl 0 3 0 ((x.flags).map cReg)), by omega⟩
 have r0a : ∀ z ∈ V.labels (.sl (L0a + 1) 3 0 e0a), 2 + 1 ≤ z ∧ z < ma + 1 := fun z hz => by have := rga z (by first | exact hz | (simp only [V.labelsL, V.labels, List.mem_append] at hz ⊢; simp only [hz, true_or, or_true])); omega
 refine OkOps.S' rfl (OpS.pure' rfl (by simp only [kE, kT, kL, kC] <;> rfl) (by simp only [kE, kT, kL, kC, V.eraseL, V.erase, V.travL, V.trav, zz, zf, zy] <;> rfl) cl250 (by simp [V.dat, V.datL, V.datLL, zz, zf, zy]) (p_spec_l04Copy x.flags h.1)) hma (by simp only [kP, hXa] <;> rfl) ?_
 refine EV ?_
 refine OkOps.storeN tab_ok rfl rfl (by simp only [kE, kT, kL, kC] <;> rfl) ⟨_, _, by simp only [kE]; rfl⟩ (by first | (simp [V.labelsL, V.labelsLL, V.labels, zz, zf, zy]; done) | (intro h; simp only [V.labelsL, V.labels, List.mem_append, List.append_nil, List.nil_append, List.not_mem_nil, or_false, false_or] at h; first | (have := r0a _ h; omega))) (fun W hW hF => by obtain ⟨z0a, zz0a⟩ := farA hW r0a (fun y h1 h2 h => by omega); have f0 := far0 hW (fun h => by omega); have p1 := fun i o e => hW.ptr (2) i o e (by omega); simp only [List.map_cons, List.map_nil, hW.int, hW.str, hW.bool, hW.any, hW.tup0, hW.agg, hW.nilV, hF.ptr, z0a, zz0a, f0, p1, kP] <;> rfl) ?_
 refine ON ?_
 refine Ok.seq ?_
 refine Ok.drop [4, 5, 6] (by simp only [kover] <;> rfl) ?_
 refine Ok.region ?_
 refine EV ?_
 refine OkOps.storeN tab_ok rfl rfl (by simp only [kE, kT, kL, kC] <;> rfl) ⟨_, _, by simp only [kE]; rfl⟩ (by first | (simp [V.labelsL, V.labelsLL, V.labels, zz, zf, zy]; done) | (intro h; simp only [V.labelsL, V.labels, List.mem_append, List.append_nil, List.nil_append, List.not_mem_nil, or_false, false_or] at h; first | (have := r0a _ h; omega))) (fun W hW hF => by obtain ⟨z0a, zz0a⟩ := farA hW r0a (fun y h1 h2 h => by omega); have f0 := far0 hW (fun h => by omega); have p0 := fun i o e => hW.ptr (1) i o e (by omega); simp only [List.map_cons, List.map_nil, hW.int, hW.str, hW.bool, hW.any, hW.tup0, hW.agg, hW.nilV, hF.ptr, z0a, zz0a, f0, p0, kP] <;> rfl) ?_
 refine ON ?_
 refine Ok.ret ?_
 with_reducible repeat (first | refine thenQ_ret ?_ | refine blockQ_ret ?_)
 refine RT ?_
 exact ⟨(by simp only [packV, V.erase, V.trav, V.travL, V.travLL, zz, zf, zy, E0a] <;> rfl), (by intro L hL; simp only [packV, V.labels, V.labelsL, List.append_nil, List.nil_append] at hL;  first | (have := r0a L hL; omega)), (by simp only [packV, V.labels, V.labelsL, List.append_nil, List.nil_append] at nda ⊢; exact nda)⟩
end Go.Proofs.YtjhfabimacljhaaGreat.K
