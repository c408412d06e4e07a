/- Walks: right boxes, right stores. Printed by w2.py. -/
import Derived.Test.YtjhfabimacljhaaGreatG5
namespace Go.Proofs.YtjhfabimacljhaaGreat.K
open Go Go.RowKit
set_option linter.unusedVariables false
set_option linter.unusedSimpArgs false
set_option maxHeartbeats 4000000
set_option maxRecDepth 20000
theorem w_impl_BoxOk (b : Box) (h : smBox b) : Weak Tryz.prog 168 [.agg (cBox b)] (.bool (boxOk b)) := by
 refine Weak.enter tab_ok Tryz.func168 rfl (.inr (by simp [V.labelsL, V.labels, V.labelsLL, zz, zf, zy, or_imp, forall_and])) (t := [.agg (cBox b), .any, .any, .any, .any, .any, .any, .any, .any, .any, .any, .any, .any, .any, .any, .any, .any, .any, .any, .any, .any, .any, .any, .any, .any, .any, .any, .any, .any, .any, .any, .any, .any, .any, .any, .any, .any, .any, .any, .any, .any, .any, .any, .any, .any, .any, .any, .any, .any, .any, .any, .any, .any, .any, .any, .any, .any, .any, .any, .any, .any, .any, .any, .any, .any, .any, .any, .any, .any, .any, .any, .any, .any, .any, .any, .any, .any, .any, .any, .any, .any, .any, .any, .any, .any, .any, .any, .any, .any]) rfl ?_
 refine OQ ?_
 iterate 2 (refine EV ?_)
 refine ON ?_
 refine Ok.seq ?_
 refine Ok.seqC [(38, .bool (!boxHead b))] [5, 6, 7, 8, 9, 10, 11, 12, 13, 14, 15, 16, 17, 18, 19, 20, 21, 22, 23, 24, 25, 26, 27, 28, 29, 30, 31, 32, 33, 34, 35, 36, 37] (by simp only [kover] <;> rfl) ?_ ?_
 ·
  refine Ok.region ?_
  iterate 2 (refine EV ?_)
  refine OkOps.S0 rfl (OpS.weak' rfl (by simp only [kE, kT, kL, kC] <;> rfl) (by simp only [kE, kT, kL, kC] <;> rfl) cl214 (w_impl_isGid b.gid)) (by simp only [kP] <;> rfl) ?_
  iterate 2 (refine EV ?_)
  refine OkOps.split (d := 9) (by simp only [kE, kT, kL, kC] <;> rfl) (by simp only [kP] <;> rfl) (by simp only [kP] <;> rfl) (fun hg1_4 => ?_) (fun hg1_4 => ?_)
  ·
   try simp only [bsimp] at hg1_4
   refine OkOps.offU rfl rfl (.inl (by simp only [kE, kT, kL, kC, Bool.not_true, Bool.not_false])) (by simp only [kP] <;> rfl) ?_
   refine OkOps.offU rfl rfl (.inl (by simp only [kE, kT, kL, kC, Bool.not_true, Bool.not_false])) (by simp only [kP] <;> rfl) ?_
   refine OkOps.offU rfl rfl (.inl (by simp only [kE, kT, kL, kC, Bool.not_true, Bool.not_false])) (by simp only [kP] <;> rfl) ?_
   refine OkOps.offU rfl rfl (.inl (by simp only [kE, kT, kL, kC, Bool.not_true, Bool.not_false])) (by simp only [kP] <;> rfl) ?_
   iterate 2 (refine EV ?_)
   refine OkOps.offU rfl rfl (.inl (by simp only [kE, kT, kL, kC, Bool.not_true, Bool.not_false])) (by simp only [kP] <;> rfl) ?_
   refine OkOps.offU rfl rfl (.inl (by simp only [kE, kT, kL, kC, Bool.not_true, Bool.not_false])) (by simp only [kP] <;> rfl) ?_
   refine OkOps.offU rfl rfl (.inl (by simp only [kE, kT, kL, kC, Bool.not_true, Bool.not_false])) (by simp only [kP] <;> rfl) ?_
   refine OkOps.offU rfl rfl (.inl (by simp only [kE, kT, kL, kC, Bool.not_true, Bool.not_false])) (by simp only [kP] <;> rfl) ?_
   iterate 2 (refine EV ?_)
   refine OkOps.offU rfl rfl (.inl (by simp only [kE, kT, kL, kC, Bool.not_true, Bool.not_false])) (by simp only [kP] <;> rfl) ?_
   refine OkOps.offU rfl rfl (.inl (by simp only [kE, kT, kL, kC, Bool.not_true, Bool.not_false])) (by simp only [kP] <;> rfl) ?_
   refine OkOps.offU rfl rfl (.inl (by simp only [kE, kT, kL, kC, Bool.not_true, Bool.not_false])) (by simp only [kP] <;> rfl) ?_
   refine OkOps.offU rfl rfl (.inl (by simp only [kE, kT, kL, kC, Bool.not_true, Bool.not_false])) (by simp only [kP] <;> rfl) ?_
   iterate 2 (refine EV ?_)
   refine OkOps.offU rfl rfl (.inl (by simp only [kE, kT, kL, kC, Bool.not_true, Bool.not_false])) (by simp only [kP] <;> rfl) ?_
   refine OkOps.offU rfl rfl (.inl (by simp only [kE, kT, kL, kC, Bool.not_true, Bool.not_false])) (by simp only [kP] <;> rfl) ?_
   refine OkOps.offU rfl rfl (.inl (by simp only [kE, kT, kL, kC, Bool.not_true, Bool.not_false])) (by simp only [kP] <;> rfl) ?_
   refine OkOps.offU rfl rfl (.inl (by simp only [kE, kT, kL, kC, Bool.not_true, Bool.not_false])) (by simp only [kP] <;> rfl) ?_
   iterate 2 (refine EV ?_)
   refine OkOps.offU rfl rfl (.inl (by simp only [kE, kT, kL, kC, Bool.not_true, Bool.not_false])) (by simp only [kP] <;> rfl) ?_
   refine OkOps.offU rfl rfl (.inl (by simp only [kE, kT, kL, kC, Bool.not_true, Bool.not_false])) (by simp only [kP] <;> rfl) ?_
   refine OkOps.offU rfl rfl (.inl (by simp only [kE, kT, kL, kC, Bool.not_true, Bool.not_false])) (by simp only [kP] <;> rfl) ?_
   refine OkOps.offU rfl rfl (.inl (by simp only [kE, kT, kL, kC, Bool.not_true, Bool.not_false])) (by simp only [kP] <;> rfl) ?_
   refine EV ?_
   refine ON ?_
   refine ⟨rfl, ?_, rfl, rfl⟩
   refine ⟨?_, ?_, ?_, ?_, ?_, ?_, ?_, ?_, ?_, ?_, ?_, ?_, ?_, ?_, ?_, ?_, ?_, ?_, ?_, ?_, ?_, ?_, ?_, ?_, ?_, ?_, ?_, ?_, ?_, ?_, ?_, ?_, ?_, ?_, ?_, ?_, ?_, ?_, ?_, ?_, ?_, ?_, ?_, ?_, ?_, ?_, ?_, ?_, ?_, ?_, ?_, ?_, ?_, ?_, ?_, ?_, ?_, ?_, ?_, ?_, ?_, ?_, ?_, ?_, ?_, ?_, ?_, ?_, ?_, ?_, ?_, ?_, ?_, ?_, ?_, ?_, ?_, ?_, ?_, ?_, ?_, ?_, ?_, ?_, ?_, ?_, ?_, ?_, ?_, trivial⟩ <;> first | exact le_any _ | with_reducible exact le_rfl' _ | (refine .inl (congrArg V.bool ?_); (first | (simp [boxHead, *]; done) | (simp [boxHead, *] <;> omega) | (rw [Bool.eq_iff_iff]; simp [boxHead, *] <;> omega) | (simp_all [boxHead]; done) | (simp_all [boxHead]; omega))) | exact le_rfl' _
  ·
   try simp only [bsimp] at hg1_4
   refine OO ?_
   refine EV ?_
   refine OO ?_
   refine EV ?_
   refine OO ?_
   refine OkOps.S0 rfl (OpS.weak' rfl (by simp only [kE, kT, kL, kC] <;> rfl) (by simp only [kE, kT, kL, kC] <;> rfl) cl215 (w_impl_NameOk b.name (by have := h.1; omega))) (by simp only [kP] <;> rfl) ?_
   refine OO ?_
   iterate 3 (refine EV ?_)
   refine OkOps.split (d := 15) (by simp only [kE, kT, kL, kC] <;> rfl) (by simp only [kP] <;> rfl) (by simp only [kP] <;> rfl) (fun hg1_10 => ?_) (fun hg1_10 => ?_)
   ·
    try simp only [bsimp] at hg1_10
    refine OkOps.offU rfl rfl (.inl (by simp only [kE, kT, kL, kC, Bool.not_true, Bool.not_false])) (by simp only [kP] <;> rfl) ?_
    refine OkOps.offU rfl rfl (.inl (by simp only [kE, kT, kL, kC, Bool.not_true, Bool.not_false])) (by simp only [kP] <;> rfl) ?_
    refine OkOps.offU rfl rfl (.inl (by simp only [kE, kT, kL, kC, Bool.not_true, Bool.not_false])) (by simp only [kP] <;> rfl) ?_
    refine OkOps.offU rfl rfl (.inl (by simp only [kE, kT, kL, kC, Bool.not_true, Bool.not_false])) (by simp only [kP] <;> rfl) ?_
    iterate 2 (refine EV ?_)
    refine OkOps.offU rfl rfl (.inl (by simp only [kE, kT, kL, kC, Bool.not_true, Bool.not_false])) (by simp only [kP] <;> rfl) ?_
    refine OkOps.offU rfl rfl (.inl (by simp only [kE, kT, kL, kC, Bool.not_true, Bool.not_false])) (by simp only [kP] <;> rfl) ?_
    refine OkOps.offU rfl rfl (.inl (by simp only [kE, kT, kL, kC, Bool.not_true, Bool.not_false])) (by simp only [kP] <;> rfl) ?_
    refine OkOps.offU rfl rfl (.inl (by simp only [kE, kT, kL, kC, Bool.not_true, Bool.not_false])) (by simp only [kP] <;> rfl) ?_
    iterate 2 (refine EV ?_)
    refine OkOps.offU rfl rfl (.inl (by simp only [kE, kT, kL, kC, Bool.not_true, Bool.not_false])) (by simp only [kP] <;> rfl) ?_
    refine OkOps.offU rfl rfl (.inl (by simp only [kE, kT, kL, kC, Bool.not_true, Bool.not_false])) (by simp only [kP] <;> rfl) ?_
    refine OkOps.offU rfl rfl (.inl (by simp only [kE, kT, kL, kC, Bool.not_true, Bool.not_false])) (by simp only [kP] <;> rfl) ?_
    refine OkOps.offU rfl rfl (.inl (by simp only [kE, kT, kL, kC, Bool.not_true, Bool.not_false])) (by simp only [kP] <;> rfl) ?_
    iterate 2 (refine EV ?_)
    refine OkOps.offU rfl rfl (.inl (by simp only [kE, kT, kL, kC, Bool.not_true, Bool.not_false])) (by simp only [kP] <;> rfl) ?_
    refine OkOps.offU rfl rfl (.inl (by simp only [kE, kT, kL, kC, Bool.not_true, Bool.not_false])) (by simp only [kP] <;> rfl) ?_
    refine OkOps.offU rfl rfl (.inl (by simp only [kE, kT, kL, kC, Bool.not_true, Bool.not_false])) (by simp only [kP] <;> rfl) ?_
    refine OkOps.offU rfl rfl (.inl (by simp only [kE, kT, kL, kC, Bool.not_true, Bool.not_false])) (by simp only [kP] <;> rfl) ?_
    refine EV ?_
    refine ON ?_
    refine ⟨rfl, ?_, rfl, rfl⟩
    refine ⟨?_, ?_, ?_, ?_, ?_, ?_, ?_, ?_, ?_, ?_, ?_, ?_, ?_, ?_, ?_, ?_, ?_, ?_, ?_, ?_, ?_, ?_, ?_, ?_, ?_, ?_, ?_, ?_, ?_, ?_, ?_, ?_, ?_, ?_, ?_, ?_, ?_, ?_, ?_, ?_, ?_, ?_, ?_, ?_, ?_, ?_, ?_, ?_, ?_, ?_, ?_, ?_, ?_, ?_, ?_, ?_, ?_, ?_, ?_, ?_, ?_, ?_, ?_, ?_, ?_, ?_, ?_, ?_, ?_, ?_, ?_, ?_, ?_, ?_, ?_, ?_, ?_, ?_, ?_, ?_, ?_, ?_, ?_, ?_, ?_, ?_, ?_, ?_, ?_, trivial⟩ <;> first | exact le_any _ | with_reducible exact le_rfl' _ | (refine .inl (congrArg V.bool ?_); (first | (simp [boxHead, *]; done) | (simp [boxHead, *] <;> omega) | (rw [Bool.eq_iff_iff]; simp [boxHead, *] <;> omega) | (simp_all [boxHead]; done) | (simp_all [boxHead]; omega))) | exact le_rfl' _
   ·
    try simp only [bsimp] at hg1_10
    refine OO ?_
    refine EV ?_
    refine OO ?_
    refine EV ?_
    refine OO ?_
    refine OkOps.S0 rfl (OpS.weak' rfl (by simp only [kE, kT, kL, kC] <;> rfl) (by simp only [kE, kT, kL, kC] <;> rfl) cl216 (w_impl_StampOk b.named)) (by simp only [kP] <;> rfl) ?_
    refine OO ?_
    iterate 3 (refine EV ?_)
    refine OkOps.split (d := 21) (by simp only [kE, kT, kL, kC] <;> rfl) (by simp only [kP] <;> rfl) (by simp only [kP] <;> rfl) (fun hg1_16 => ?_) (fun hg1_16 => ?_)
    ·
     try simp only [bsimp] at hg1_16
     refine OkOps.offU rfl rfl (.inl (by simp only [kE, kT, kL, kC, Bool.not_true, Bool.not_false])) (by simp only [kP] <;> rfl) ?_
     refine OkOps.offU rfl rfl (.inl (by simp only [kE, kT, kL, kC, Bool.not_true, Bool.not_false])) (by simp only [kP] <;> rfl) ?_
     refine OkOps.offU rfl rfl (.inl (by simp only [kE, kT, kL, kC, Bool.not_true, Bool.not_false])) (by simp only [kP] <;> rfl) ?_
     refine OkOps.offU rfl rfl (.inl (by simp only [kE, kT, kL, kC, Bool.not_true, Bool.not_false])) (by simp only [kP] <;> rfl) ?_
     iterate 2 (refine EV ?_)
     refine OkOps.offU rfl rfl (.inl (by simp only [kE, kT, kL, kC, Bool.not_true, Bool.not_false])) (by simp only [kP] <;> rfl) ?_
     refine OkOps.offU rfl rfl (.inl (by simp only [kE, kT, kL, kC, Bool.not_true, Bool.not_false])) (by simp only [kP] <;> rfl) ?_
     refine OkOps.offU rfl rfl (.inl (by simp only [kE, kT, kL, kC, Bool.not_true, Bool.not_false])) (by simp only [kP] <;> rfl) ?_
     refine OkOps.offU rfl rfl (.inl (by simp only [kE, kT, kL, kC, Bool.not_true, Bool.not_false])) (by simp only [kP] <;> rfl) ?_
     iterate 2 (refine EV ?_)
     refine OkOps.offU rfl rfl (.inl (by simp only [kE, kT, kL, kC, Bool.not_true, Bool.not_false])) (by simp only [kP] <;> rfl) ?_
     refine OkOps.offU rfl rfl (.inl (by simp only [kE, kT, kL, kC, Bool.not_true, Bool.not_false])) (by simp only [kP] <;> rfl) ?_
     refine OkOps.offU rfl rfl (.inl (by simp only [kE, kT, kL, kC, Bool.not_true, Bool.not_false])) (by simp only [kP] <;> rfl) ?_
     refine OkOps.offU rfl rfl (.inl (by simp only [kE, kT, kL, kC, Bool.not_true, Bool.not_false])) (by simp only [kP] <;> rfl) ?_
     refine EV ?_
     refine ON ?_
     refine ⟨rfl, ?_, rfl, rfl⟩
     refine ⟨?_, ?_, ?_, ?_, ?_, ?_, ?_, ?_, ?_, ?_, ?_, ?_, ?_, ?_, ?_, ?_, ?_, ?_, ?_, ?_, ?_, ?_, ?_, ?_, ?_, ?_, ?_, ?_, ?_, ?_, ?_, ?_, ?_, ?_, ?_, ?_, ?_, ?_, ?_, ?_, ?_, ?_, ?_, ?_, ?_, ?_, ?_, ?_, ?_, ?_, ?_, ?_, ?_, ?_, ?_, ?_, ?_, ?_, ?_, ?_, ?_, ?_, ?_, ?_, ?_, ?_, ?_, ?_, ?_, ?_, ?_, ?_, ?_, ?_, ?_, ?_, ?_, ?_, ?_, ?_, ?_, ?_, ?_, ?_, ?_, ?_, ?_, ?_, ?_, trivial⟩ <;> first | exact le_any _ | with_reducible exact le_rfl' _ | (refine .inl (congrArg V.bool ?_); (first | (simp [boxHead, *]; done) | (simp [boxHead, *] <;> omega) | (rw [Bool.eq_iff_iff]; simp [boxHead, *] <;> omega) | (simp_all [boxHead]; done) | (simp_all [boxHead]; omega))) | exact le_rfl' _
    ·
     try simp only [bsimp] at hg1_16
     refine OO ?_
     refine EV ?_
     refine OO ?_
     refine EV ?_
     refine OO ?_
     refine OkOps.S0 rfl (OpS.weak' rfl (by simp only [kE, kT, kL, kC] <;> rfl) (by simp only [kE, kT, kL, kC] <;> rfl) cl124 (w_impl_within b.next 1 10000)) (by simp only [kP] <;> rfl) ?_
     refine OO ?_
     iterate 3 (refine EV ?_)
     refine OkOps.split (d := 27) (by simp only [kE, kT, kL, kC] <;> rfl) (by simp only [kP] <;> rfl) (by simp only [kP] <;> rfl) (fun hg1_22 => ?_) (fun hg1_22 => ?_)
     ·
      try simp only [bsimp] at hg1_22
      refine OkOps.offU rfl rfl (.inl (by simp only [kE, kT, kL, kC, Bool.not_true, Bool.not_false])) (by simp only [kP] <;> rfl) ?_
      refine OkOps.offU rfl rfl (.inl (by simp only [kE, kT, kL, kC, Bool.not_true, Bool.not_false])) (by simp only [kP] <;> rfl) ?_
      refine OkOps.offU rfl rfl (.inl (by simp only [kE, kT, kL, kC, Bool.not_true, Bool.not_false])) (by simp only [kP] <;> rfl) ?_
      refine OkOps.offU rfl rfl (.inl (by simp only [kE, kT, kL, kC, Bool.not_true, Bool.not_false])) (by simp only [kP] <;> rfl) ?_
      iterate 2 (refine EV ?_)
      refine OkOps.offU rfl rfl (.inl (by simp only [kE, kT, kL, kC, Bool.not_true, Bool.not_false])) (by simp only [kP] <;> rfl) ?_
      refine OkOps.offU rfl rfl (.inl (by simp only [kE, kT, kL, kC, Bool.not_true, Bool.not_false])) (by simp only [kP] <;> rfl) ?_
      refine OkOps.offU rfl rfl (.inl (by simp only [kE, kT, kL, kC, Bool.not_true, Bool.not_false])) (by simp only [kP] <;> rfl) ?_
      refine OkOps.offU rfl rfl (.inl (by simp only [kE, kT, kL, kC, Bool.not_true, Bool.not_false])) (by simp only [kP] <;> rfl) ?_
      refine EV ?_
      refine ON ?_
      refine ⟨rfl, ?_, rfl, rfl⟩
      refine ⟨?_, ?_, ?_, ?_, ?_, ?_, ?_, ?_, ?_, ?_, ?_, ?_, ?_, ?_, ?_, ?_, ?_, ?_, ?_, ?_, ?_, ?_, ?_, ?_, ?_, ?_, ?_, ?_, ?_, ?_, ?_, ?_, ?_, ?_, ?_, ?_, ?_, ?_, ?_, ?_, ?_, ?_, ?_, ?_, ?_, ?_, ?_, ?_, ?_, ?_, ?_, ?_, ?_, ?_, ?_, ?_, ?_, ?_, ?_, ?_, ?_, ?_, ?_, ?_, ?_, ?_, ?_, ?_, ?_, ?_, ?_, ?_, ?_, ?_, ?_, ?_, ?_, ?_, ?_, ?_, ?_, ?_, ?_, ?_, ?_, ?_, ?_, ?_, ?_, trivial⟩ <;> first | exact le_any _ | with_reducible exact le_rfl' _ | (refine .inl (congrArg V.bool ?_); (first | (simp [boxHead, *]; done) | (simp [boxHead, *] <;> omega) | (rw [Bool.eq_iff_iff]; simp [boxHead, *] <;> omega) | (simp_all [boxHead]; done) | (simp_all [boxHead]; omega))) | exact le_rfl' _
     ·
      try simp only [bsimp] at hg1_22
      refine OO ?_
      refine EV ?_
      refine OO ?_
      refine EV ?_
      refine OO ?_
      refine EV ?_
      refine OO ?_
      iterate 3 (refine EV ?_)
      refine OkOps.split (d := 33) (by simp only [kE, kT, kL, kC] <;> rfl) (by simp only [kP] <;> rfl) (by simp only [kP] <;> rfl) (fun hg1_28 => ?_) (fun hg1_28 => ?_)
      ·
       try simp only [bsimp] at hg1_28
       refine OkOps.offU rfl rfl (.inl (by simp only [kE, kT, kL, kC, Bool.not_true, Bool.not_false])) (by simp only [kP] <;> rfl) ?_
       refine OkOps.offU rfl rfl (.inl (by simp only [kE, kT, kL, kC, Bool.not_true, Bool.not_false])) (by simp only [kP] <;> rfl) ?_
       refine OkOps.offU rfl rfl (.inl (by simp only [kE, kT, kL, kC, Bool.not_true, Bool.not_false])) (by simp only [kP] <;> rfl) ?_
       refine OkOps.offU rfl rfl (.inl (by simp only [kE, kT, kL, kC, Bool.not_true, Bool.not_false])) (by simp only [kP] <;> rfl) ?_
       refine EV ?_
       refine ON ?_
       refine ⟨rfl, ?_, rfl, rfl⟩
       refine ⟨?_, ?_, ?_, ?_, ?_, ?_, ?_, ?_, ?_, ?_, ?_, ?_, ?_, ?_, ?_, ?_, ?_, ?_, ?_, ?_, ?_, ?_, ?_, ?_, ?_, ?_, ?_, ?_, ?_, ?_, ?_, ?_, ?_, ?_, ?_, ?_, ?_, ?_, ?_, ?_, ?_, ?_, ?_, ?_, ?_, ?_, ?_, ?_, ?_, ?_, ?_, ?_, ?_, ?_, ?_, ?_, ?_, ?_, ?_, ?_, ?_, ?_, ?_, ?_, ?_, ?_, ?_, ?_, ?_, ?_, ?_, ?_, ?_, ?_, ?_, ?_, ?_, ?_, ?_, ?_, ?_, ?_, ?_, ?_, ?_, ?_, ?_, ?_, ?_, trivial⟩ <;> first | exact le_any _ | with_reducible exact le_rfl' _ | (refine .inl (congrArg V.bool ?_); (first | (simp [boxHead, *]; done) | (simp [boxHead, *] <;> omega) | (rw [Bool.eq_iff_iff]; simp [boxHead, *] <;> omega) | (simp_all [boxHead]; done) | (simp_all [boxHead]; omega))) | exact le_rfl' _
      ·
       try simp only [bsimp] at hg1_28
       refine OO ?_
       refine EV ?_
       refine OO ?_
       refine EV ?_
       refine OO ?_
       refine OkOps.S0 rfl (OpS.weak' rfl (by simp only [kE, kT, kL, kC] <;> rfl) (by simp only [kE, kT, kL, kC] <;> rfl) cl167 (w_impl_areGids b.gone 40 (by have := h.2.2; omega))) (by simp only [kP] <;> rfl) ?_
       refine OO ?_
       iterate 2 (refine EV ?_)
       refine ON ?_
       refine ⟨rfl, ?_, rfl, rfl⟩
       refine ⟨?_, ?_, ?_, ?_, ?_, ?_, ?_, ?_, ?_, ?_, ?_, ?_, ?_, ?_, ?_, ?_, ?_, ?_, ?_, ?_, ?_, ?_, ?_, ?_, ?_, ?_, ?_, ?_, ?_, ?_, ?_, ?_, ?_, ?_, ?_, ?_, ?_, ?_, ?_, ?_, ?_, ?_, ?_, ?_, ?_, ?_, ?_, ?_, ?_, ?_, ?_, ?_, ?_, ?_, ?_, ?_, ?_, ?_, ?_, ?_, ?_, ?_, ?_, ?_, ?_, ?_, ?_, ?_, ?_, ?_, ?_, ?_, ?_, ?_, ?_, ?_, ?_, ?_, ?_, ?_, ?_, ?_, ?_, ?_, ?_, ?_, ?_, ?_, ?_, trivial⟩ <;> first | exact le_any _ | with_reducible exact le_rfl' _ | (refine .inl (congrArg V.bool ?_); (first | (simp [boxHead, *]; done) | (simp [boxHead, *] <;> omega) | (rw [Bool.eq_iff_iff]; simp [boxHead, *] <;> omega) | (simp_all [boxHead]; done) | (simp_all [boxHead]; omega))) | exact le_rfl' _
 ·
  refine Ok.cond (b := _) (by simp only [kE, kT, kL, kC] <;> rfl) (fun hb1 => ?_) (fun hb1 => ?_)
  ·
   try simp only [bsimp] at hb1
   rw [show boxOk b = false by unfold boxOk; rw [show boxHead b = false from hb1, Bool.false_and]]
   refine OQ ?_
   refine EV ?_
   refine ON ?_
   refine Ok.ret ?_
   with_reducible repeat (first | refine thenQ_ret ?_ | refine blockQ_ret ?_)
   refine RT ?_
   rfl
  ·
   try simp only [bsimp] at hb1
   have hh : boxHead b = true := hb1
   refine Ok.skip ?_
   refine Ok.seq ?_
   refine OQ ?_
   iterate 4 (refine EV ?_)
   refine ON ?_
   refine Ok.block ?_
   refine Ok.loopWZ (τ := Nat) (fun x => [(42, .int .i64 (x : Int))]) [2, 3, 4, 43, 44, 45, 46, 47, 48, 49, 50, 51, 52, 53, 54, 55, 56, 57, 58, 59, 60, 61, 62, 63, 64, 65, 66, 67, 68, 69, 70, 71, 72, 73, 74, 75, 76, 77, 78, 79, 80, 81, 82, 83, 84, 85, 86, 87, 88] (fun x => by simp only [kover] <;> rfl) (fun x => x ≤ b.mails.length ∧ ∀ k, k < x → mailFine b k = true) (fun x => b.mails.length - x) 0 (by omega) (by refine ⟨?_, ?_, ?_, ?_, ?_, ?_, ?_, ?_, ?_, ?_, ?_, ?_, ?_, ?_, ?_, ?_, ?_, ?_, ?_, ?_, ?_, ?_, ?_, ?_, ?_, ?_, ?_, ?_, ?_, ?_, ?_, ?_, ?_, ?_, ?_, ?_, ?_, ?_, ?_, ?_, ?_, ?_, ?_, ?_, ?_, ?_, ?_, ?_, ?_, ?_, ?_, ?_, ?_, ?_, ?_, ?_, ?_, ?_, ?_, ?_, ?_, ?_, ?_, ?_, ?_, ?_, ?_, ?_, ?_, ?_, ?_, ?_, ?_, ?_, ?_, ?_, ?_, ?_, ?_, ?_, ?_, ?_, ?_, ?_, ?_, ?_, ?_, ?_, ?_, trivial⟩ <;> first | exact le_any _ | with_reducible exact le_rfl' _ | (exact le_rfl' _) | exact le_rfl' _) (⟨Nat.zero_le _, fun k h => by omega⟩) ?_
   rintro i ⟨h1, h2⟩
   refine OQ ?_
   refine EV ?_
   refine ON ?_
   refine Ok.seq ?_
   refine Ok.cond (b := _) (by simp only [kE, kT, kL, kC] <;> rfl) (fun hb4 => ?_) (fun hb4 => ?_)
   ·
    try simp only [bsimp] at hb4
    have hi : i < b.mails.length := by omega
    have hmf := mailFine_at hi
    have hcap := h.2.1.1
    refine Ok.skip ?_
    refine Ok.seq ?_
    refine Ok.block ?_
    refine OQ ?_
    refine EV ?_
    refine OkOps.ev tab_ok rfl (ev_idx_map (by simp only [kE, kT, kL, kC] <;> rfl) (by simp only [kE, kT, kL, kC] <;> rfl) (by omega) (by simp only [kE, kT, kL, kC] <;> rfl)) (by simp only [kP] <;> rfl) ?_
    iterate 3 (refine EV ?_)
    refine OkOps.storeE tab_ok rfl rfl (by simp only [kE, kT, kL, kC] <;> rfl) ⟨_, _, by simp only [kE]; rfl⟩ (by first | (simp [V.labelsL, V.labelsLL, V.labels, zz, zf, zy]; done) | (simp [-List.map_map, -List.map_set, -List.map_drop, -List.map_take, -List.map_tail, -List.drop_one, V.labelsL, V.labelsLL, V.labels, zz, zf, zy]; done)) (by simp only [eq_self, V.updL, V.travL, V.travLL, V.trav, updS, updP, and_self, true_and, and_true, false_and, and_false, Nat.reduceEqDiff, Nat.reduceSub, Nat.le_refl, Nat.zero_le, ↓reduceIte, if_true, if_false, kP, zz, zf, zy] <;> rfl) (rfl) ?_
    refine ON ?_
    refine Ok.seqC [(87, .bool (!mailFine b i))] [47, 48, 49, 50, 51, 52, 53, 54, 55, 56, 57, 58, 59, 60, 61, 62, 63, 64, 65, 66, 67, 68, 69, 70, 71, 72, 73, 74, 75, 76, 77, 78, 79, 80, 81, 82, 83, 84, 85, 86] (by simp only [kover] <;> rfl) ?_ ?_
    ·
     refine Ok.drawn 41 89 [] (by kernel_rfl) (by kernel_rfl) rfl ?_
     refine SV ?_
     refine SOps.S0 rfl (OpS.weakM rfl (by simp only [kE, kT, kL, kC] <;> rfl) (by simp only [kE, kT, kL, kC] <;> rfl) cl217 (w_impl_MailOk b.mails[i] (by have := (h.2.1.2 _ (List.getElem_mem hi)).1; omega))) (by simp only [kP] <;> rfl) ?_
     iterate 2 (refine SV ?_)
     refine SOps.split (d := 50) (by simp only [kE, kT, kL, kC] <;> rfl) (by simp only [kP] <;> rfl) (by simp only [kP] <;> rfl) (fun hg6_3 => ?_) (fun hg6_3 => ?_)
     ·
      try simp only [bsimp] at hg6_3
      refine SOps.offU rfl rfl (.inl (by simp only [kE, kT, kL, kC, Bool.not_true, Bool.not_false])) (by simp only [kP] <;> rfl) ?_
      refine SOps.offU rfl rfl (.inl (by simp only [kE, kT, kL, kC, Bool.not_true, Bool.not_false])) (by simp only [kP] <;> rfl) ?_
      refine SOps.offU rfl rfl (.inl (by simp only [kE, kT, kL, kC, Bool.not_true, Bool.not_false])) (by simp only [kP] <;> rfl) ?_
      refine SOps.offU rfl rfl (.inl (by simp only [kE, kT, kL, kC, Bool.not_true, Bool.not_false])) (by simp only [kP] <;> rfl) ?_
      refine SOps.offU rfl rfl (.inl (by simp only [kE, kT, kL, kC, Bool.not_true, Bool.not_false])) (by simp only [kP] <;> rfl) ?_
      iterate 2 (refine SV ?_)
      refine SOps.offU rfl rfl (.inl (by simp only [kE, kT, kL, kC, Bool.not_true, Bool.not_false])) (by simp only [kP] <;> rfl) ?_
      refine SOps.offU rfl rfl (.inl (by simp only [kE, kT, kL, kC, Bool.not_true, Bool.not_false])) (by simp only [kP] <;> rfl) ?_
      refine SOps.offU rfl rfl (.inl (by simp only [kE, kT, kL, kC, Bool.not_true, Bool.not_false])) (by simp only [kP] <;> rfl) ?_
      refine SOps.offU rfl rfl (.inr (by simp only [kE, kT, kL, kC])) (by simp only [kP] <;> rfl) ?_
      refine SOps.offU rfl rfl (.inr (by simp only [kE, kT, kL, kC])) (by simp only [kP] <;> rfl) ?_
      refine SOps.offU rfl rfl (.inr (by simp only [kE, kT, kL, kC])) (by simp only [kP] <;> rfl) ?_
      refine SOps.offU rfl rfl (.inr (by simp only [kE, kT, kL, kC])) (by simp only [kP] <;> rfl) ?_
      refine SOps.offU rfl rfl (.inr (by simp only [kE, kT, kL, kC])) (by simp only [kP] <;> rfl) ?_
      refine SOps.offU rfl rfl (.inr (by simp only [kE, kT, kL, kC])) (by simp only [kP] <;> rfl) ?_
      refine SOps.offU rfl rfl (.inr (by simp only [kE, kT, kL, kC])) (by simp only [kP] <;> rfl) ?_
      refine SOps.offU rfl rfl (.inr (by simp only [kE, kT, kL, kC])) (by simp only [kP] <;> rfl) ?_
      refine SOps.offU rfl rfl (.inr (by simp only [kE, kT, kL, kC])) (by simp only [kP] <;> rfl) ?_
      refine SOps.offU rfl rfl (.inr (by simp only [kE, kT, kL, kC])) (by simp only [kP] <;> rfl) ?_
      refine SOps.offU rfl rfl (.inl (by simp only [kE, kT, kL, kC, Bool.not_true, Bool.not_false])) (by simp only [kP] <;> rfl) ?_
      iterate 2 (refine SV ?_)
      refine SOps.offU rfl rfl (.inl (by simp only [kE, kT, kL, kC, Bool.not_true, Bool.not_false])) (by simp only [kP] <;> rfl) ?_
      refine SOps.offU rfl rfl (.inl (by simp only [kE, kT, kL, kC, Bool.not_true, Bool.not_false])) (by simp only [kP] <;> rfl) ?_
      refine SOps.offU rfl rfl (.inl (by simp only [kE, kT, kL, kC, Bool.not_true, Bool.not_false])) (by simp only [kP] <;> rfl) ?_
      refine SOps.offU rfl rfl (.inl (by simp only [kE, kT, kL, kC, Bool.not_true, Bool.not_false])) (by simp only [kP] <;> rfl) ?_
      refine SOps.offU rfl rfl (.inl (by simp only [kE, kT, kL, kC, Bool.not_true, Bool.not_false])) (by simp only [kP] <;> rfl) ?_
      refine SOps.offU rfl rfl (.inl (by simp only [kE, kT, kL, kC, Bool.not_true, Bool.not_false])) (by simp only [kP] <;> rfl) ?_
      iterate 2 (refine SV ?_)
      refine SOps.offU rfl rfl (.inl (by simp only [kE, kT, kL, kC, Bool.not_true, Bool.not_false])) (by simp only [kP] <;> rfl) ?_
      refine SOps.offU rfl rfl (.inl (by simp only [kE, kT, kL, kC, Bool.not_true, Bool.not_false])) (by simp only [kP] <;> rfl) ?_
      refine SOps.offU rfl rfl (.inl (by simp only [kE, kT, kL, kC, Bool.not_true, Bool.not_false])) (by simp only [kP] <;> rfl) ?_
      refine SOps.offU rfl rfl (.inl (by simp only [kE, kT, kL, kC, Bool.not_true, Bool.not_false])) (by simp only [kP] <;> rfl) ?_
      refine SOps.offU rfl rfl (.inl (by simp only [kE, kT, kL, kC, Bool.not_true, Bool.not_false])) (by simp only [kP] <;> rfl) ?_
      refine SV ?_
      refine SOps.nil ?_
      refine TOps.nil ?_
      refine ⟨rfl, ?_, rfl, rfl⟩
      refine ⟨?_, ?_, ?_, ?_, ?_, ?_, ?_, ?_, ?_, ?_, ?_, ?_, ?_, ?_, ?_, ?_, ?_, ?_, ?_, ?_, ?_, ?_, ?_, ?_, ?_, ?_, ?_, ?_, ?_, ?_, ?_, ?_, ?_, ?_, ?_, ?_, ?_, ?_, ?_, ?_, ?_, ?_, ?_, ?_, ?_, ?_, ?_, ?_, ?_, ?_, ?_, ?_, ?_, ?_, ?_, ?_, ?_, ?_, ?_, ?_, ?_, ?_, ?_, ?_, ?_, ?_, ?_, ?_, ?_, ?_, ?_, ?_, ?_, ?_, ?_, ?_, ?_, ?_, ?_, ?_, ?_, ?_, ?_, ?_, ?_, ?_, ?_, ?_, ?_, trivial⟩ <;> first | exact le_any _ | with_reducible exact le_rfl' _ | (refine .inl (congrArg V.bool ?_); (first | (simp [hmf, *]; done) | (simp [hmf, *] <;> omega) | (rw [Bool.eq_iff_iff]; simp [hmf, *] <;> omega) | (simp_all [hmf]; done) | (simp_all [hmf]; omega))) | exact le_rfl' _
     ·
      try simp only [bsimp] at hg6_3
      refine SOps.onEv tab_ok rfl rfl (by simp only [kE, kT, kL, kC]) (by simp only [kE, kT, kL, kC] <;> rfl) (by simp only [kP] <;> rfl) ?_
      refine SOps.onEv tab_ok rfl rfl (by simp only [kE, kT, kL, kC]) (by simp only [kE, kT, kL, kC] <;> rfl) (by simp only [kP] <;> rfl) ?_
      refine SOps.onEv tab_ok rfl rfl (by simp only [kE, kT, kL, kC]) (by simp only [kE, kT, kL, kC] <;> rfl) (by simp only [kP] <;> rfl) ?_
      refine SOps.onEv tab_ok rfl rfl (by simp only [kE, kT, kL, kC]) (by simp only [kE, kT, kL, kC] <;> rfl) (by simp only [kP] <;> rfl) ?_
      refine SOps.onEv tab_ok rfl rfl (by simp only [kE, kT, kL, kC]) (by simp only [kE, kT, kL, kC] <;> rfl) (by simp only [kP] <;> rfl) ?_
      iterate 2 (refine SV ?_)
      refine SOps.split (d := 57) (by simp only [kE, kT, kL, kC] <;> rfl) (by simp only [kP] <;> rfl) (by simp only [kP] <;> rfl) (fun hg6_10 => ?_) (fun hg6_10 => ?_)
      ·
       try simp only [bsimp] at hg6_10
       refine SOps.offU rfl rfl (.inl (by simp only [kE, kT, kL, kC, Bool.not_true, Bool.not_false])) (by simp only [kP] <;> rfl) ?_
       refine SOps.offU rfl rfl (.inl (by simp only [kE, kT, kL, kC, Bool.not_true, Bool.not_false])) (by simp only [kP] <;> rfl) ?_
       refine SOps.offU rfl rfl (.inl (by simp only [kE, kT, kL, kC, Bool.not_true, Bool.not_false])) (by simp only [kP] <;> rfl) ?_
       refine SOps.offU rfl rfl (.inr (by simp only [kE, kT, kL, kC])) (by simp only [kP] <;> rfl) ?_
       refine SOps.offU rfl rfl (.inr (by simp only [kE, kT, kL, kC])) (by simp only [kP] <;> rfl) ?_
       refine SOps.offU rfl rfl (.inr (by simp only [kE, kT, kL, kC])) (by simp only [kP] <;> rfl) ?_
       refine SOps.offU rfl rfl (.inr (by simp only [kE, kT, kL, kC])) (by simp only [kP] <;> rfl) ?_
       refine SOps.offU rfl rfl (.inr (by simp only [kE, kT, kL, kC])) (by simp only [kP] <;> rfl) ?_
       refine SOps.offU rfl rfl (.inr (by simp only [kE, kT, kL, kC])) (by simp only [kP] <;> rfl) ?_
       refine SOps.offU rfl rfl (.inr (by simp only [kE, kT, kL, kC])) (by simp only [kP] <;> rfl) ?_
       refine SOps.offU rfl rfl (.inr (by simp only [kE, kT, kL, kC])) (by simp only [kP] <;> rfl) ?_
       refine SOps.offU rfl rfl (.inr (by simp only [kE, kT, kL, kC])) (by simp only [kP] <;> rfl) ?_
       refine SOps.offU rfl rfl (.inr (by simp only [kE, kT, kL, kC])) (by simp only [kP] <;> rfl) ?_
       refine SOps.offU rfl rfl (.inl (by simp only [kE, kT, kL, kC, Bool.not_true, Bool.not_false])) (by simp only [kP] <;> rfl) ?_
       iterate 2 (refine SV ?_)
       refine SOps.offU rfl rfl (.inl (by simp only [kE, kT, kL, kC, Bool.not_true, Bool.not_false])) (by simp only [kP] <;> rfl) ?_
       refine SOps.offU rfl rfl (.inl (by simp only [kE, kT, kL, kC, Bool.not_true, Bool.not_false])) (by simp only [kP] <;> rfl) ?_
       refine SOps.offU rfl rfl (.inl (by simp only [kE, kT, kL, kC, Bool.not_true, Bool.not_false])) (by simp only [kP] <;> rfl) ?_
       refine SOps.offU rfl rfl (.inl (by simp only [kE, kT, kL, kC, Bool.not_true, Bool.not_false])) (by simp only [kP] <;> rfl) ?_
       refine SOps.offU rfl rfl (.inl (by simp only [kE, kT, kL, kC, Bool.not_true, Bool.not_false])) (by simp only [kP] <;> rfl) ?_
       refine SOps.offU rfl rfl (.inl (by simp only [kE, kT, kL, kC, Bool.not_true, Bool.not_false])) (by simp only [kP] <;> rfl) ?_
       iterate 2 (refine SV ?_)
       refine SOps.offU rfl rfl (.inl (by simp only [kE, kT, kL, kC, Bool.not_true, Bool.not_false])) (by simp only [kP] <;> rfl) ?_
       refine SOps.offU rfl rfl (.inl (by simp only [kE, kT, kL, kC, Bool.not_true, Bool.not_false])) (by simp only [kP] <;> rfl) ?_
       refine SOps.offU rfl rfl (.inl (by simp only [kE, kT, kL, kC, Bool.not_true, Bool.not_false])) (by simp only [kP] <;> rfl) ?_
       refine SOps.offU rfl rfl (.inl (by simp only [kE, kT, kL, kC, Bool.not_true, Bool.not_false])) (by simp only [kP] <;> rfl) ?_
       refine SOps.offU rfl rfl (.inl (by simp only [kE, kT, kL, kC, Bool.not_true, Bool.not_false])) (by simp only [kP] <;> rfl) ?_
       refine SV ?_
       refine SOps.nil ?_
       refine TOps.nil ?_
       refine ⟨rfl, ?_, rfl, rfl⟩
       refine ⟨?_, ?_, ?_, ?_, ?_, ?_, ?_, ?_, ?_, ?_, ?_, ?_, ?_, ?_, ?_, ?_, ?_, ?_, ?_, ?_, ?_, ?_, ?_, ?_, ?_, ?_, ?_, ?_, ?_, ?_, ?_, ?_, ?_, ?_, ?_, ?_, ?_, ?_, ?_, ?_, ?_, ?_, ?_, ?_, ?_, ?_, ?_, ?_, ?_, ?_, ?_, ?_, ?_, ?_, ?_, ?_, ?_, ?_, ?_, ?_, ?_, ?_, ?_, ?_, ?_, ?_, ?_, ?_, ?_, ?_, ?_, ?_, ?_, ?_, ?_, ?_, ?_, ?_, ?_, ?_, ?_, ?_, ?_, ?_, ?_, ?_, ?_, ?_, ?_, trivial⟩ <;> first | exact le_any _ | with_reducible exact le_rfl' _ | (refine .inl (congrArg V.bool ?_); (first | (simp [hmf, *]; done) | (simp [hmf, *] <;> omega) | (rw [Bool.eq_iff_iff]; simp [hmf, *] <;> omega) | (simp_all [hmf]; done) | (simp_all [hmf]; omega))) | exact le_rfl' _
      ·
       try simp only [bsimp] at hg6_10
       refine SOps.onEv tab_ok rfl rfl (by simp only [kE, kT, kL, kC]) (by simp only [kE, kT, kL, kC] <;> rfl) (by simp only [kP] <;> rfl) ?_
       refine SOps.onEv tab_ok rfl rfl (by simp only [kE, kT, kL, kC]) (by simp only [kE, kT, kL, kC] <;> rfl) (by simp only [kP] <;> rfl) ?_
       refine SOps.onEv tab_ok rfl rfl (by simp only [kE, kT, kL, kC]) (by simp only [kE, kT, kL, kC] <;> rfl) (by simp only [kP] <;> rfl) ?_
       refine SOps.split (d := 60) (by simp only [kE, kT, kL, kC] <;> rfl) (by simp only [kP] <;> rfl) (by simp only [kP] <;> rfl) (fun hg6_13 => ?_) (fun hg6_13 => ?_)
       ·
        try simp only [bsimp] at hg6_13
        have hpos : 0 < i := by omega
        have hbf := beforeB_get (p := fun (x y : Mail) => decide (x.uid < y.uid)) hi hpos
        refine SOps.onEv tab_ok rfl rfl (by simp only [kE, kT, kL, kC]) (by simp only [kE, kT, kL, kC] <;> rfl) (by simp only [kP] <;> rfl) ?_
        refine SOps.onEv tab_ok rfl rfl (by simp only [kE, kT, kL, kC]) (by simp only [kE, kT, kL, kC] <;> rfl) (by simp only [kP] <;> rfl) ?_
        refine SOps.onEv tab_ok rfl rfl (by simp only [kE, kT, kL, kC]) (by simp only [kE, kT, kL, kC] <;> rfl) (by simp only [kP] <;> rfl) ?_
        refine SOps.onEv tab_ok rfl rfl (by simp only [kE, kT, kL, kC]) (by simp only [kE, kT, kL, kC, wrap_pred hpos (by omega)] <;> rfl) (by simp only [kP] <;> rfl) ?_
        refine SOps.onEv tab_ok rfl rfl (by simp only [kE, kT, kL, kC]) (ev_idx_map (by simp only [kE, kT, kL, kC] <;> rfl) (by simp only [kE, kT, kL, kC] <;> rfl) (by omega) (by simp only [kE, kT, kL, kC] <;> rfl)) (by simp only [kP] <;> rfl) ?_
        refine SOps.onEv tab_ok rfl rfl (by simp only [kE, kT, kL, kC]) (by simp only [kE, kT, kL, kC] <;> rfl) (by simp only [kP] <;> rfl) ?_
        refine SOps.onEv tab_ok rfl rfl (by simp only [kE, kT, kL, kC]) (by simp only [kE, kT, kL, kC] <;> rfl) (by simp only [kP] <;> rfl) ?_
        refine SOps.onEv tab_ok rfl rfl (by simp only [kE, kT, kL, kC]) (by simp only [kE, kT, kL, kC] <;> rfl) (by simp only [kP] <;> rfl) ?_
        refine SOps.onEv tab_ok rfl rfl (by simp only [kE, kT, kL, kC]) (by simp only [kE, kT, kL, kC] <;> rfl) (by simp only [kP] <;> rfl) ?_
        refine SOps.onEv tab_ok rfl rfl (by simp only [kE, kT, kL, kC]) (by simp only [kE, kT, kL, kC] <;> rfl) (by simp only [kP] <;> rfl) ?_
        refine SOps.onEv tab_ok rfl rfl (by simp only [kE, kT, kL, kC]) (by simp only [kE, kT, kL, kC] <;> rfl) (by simp only [kP] <;> rfl) ?_
        iterate 2 (refine SV ?_)
        refine SOps.split (d := 73) (by simp only [kE, kT, kL, kC] <;> rfl) (by simp only [kP] <;> rfl) (by simp only [kP] <;> rfl) (fun hg6_26 => ?_) (fun hg6_26 => ?_)
        ·
         try simp only [bsimp] at hg6_26
         refine SOps.offU rfl rfl (.inl (by simp only [kE, kT, kL, kC, Bool.not_true, Bool.not_false])) (by simp only [kP] <;> rfl) ?_
         refine SOps.offU rfl rfl (.inl (by simp only [kE, kT, kL, kC, Bool.not_true, Bool.not_false])) (by simp only [kP] <;> rfl) ?_
         refine SOps.offU rfl rfl (.inl (by simp only [kE, kT, kL, kC, Bool.not_true, Bool.not_false])) (by simp only [kP] <;> rfl) ?_
         refine SOps.offU rfl rfl (.inl (by simp only [kE, kT, kL, kC, Bool.not_true, Bool.not_false])) (by simp only [kP] <;> rfl) ?_
         refine SOps.offU rfl rfl (.inl (by simp only [kE, kT, kL, kC, Bool.not_true, Bool.not_false])) (by simp only [kP] <;> rfl) ?_
         refine SOps.offU rfl rfl (.inl (by simp only [kE, kT, kL, kC, Bool.not_true, Bool.not_false])) (by simp only [kP] <;> rfl) ?_
         iterate 2 (refine SV ?_)
         refine SOps.offU rfl rfl (.inl (by simp only [kE, kT, kL, kC, Bool.not_true, Bool.not_false])) (by simp only [kP] <;> rfl) ?_
         refine SOps.offU rfl rfl (.inl (by simp only [kE, kT, kL, kC, Bool.not_true, Bool.not_false])) (by simp only [kP] <;> rfl) ?_
         refine SOps.offU rfl rfl (.inl (by simp only [kE, kT, kL, kC, Bool.not_true, Bool.not_false])) (by simp only [kP] <;> rfl) ?_
         refine SOps.offU rfl rfl (.inl (by simp only [kE, kT, kL, kC, Bool.not_true, Bool.not_false])) (by simp only [kP] <;> rfl) ?_
         refine SOps.offU rfl rfl (.inl (by simp only [kE, kT, kL, kC, Bool.not_true, Bool.not_false])) (by simp only [kP] <;> rfl) ?_
         refine SV ?_
         refine SOps.nil ?_
         refine TOps.nil ?_
         refine ⟨rfl, ?_, rfl, rfl⟩
         refine ⟨?_, ?_, ?_, ?_, ?_, ?_, ?_, ?_, ?_, ?_, ?_, ?_, ?_, ?_, ?_, ?_, ?_, ?_, ?_, ?_, ?_, ?_, ?_, ?_, ?_, ?_, ?_, ?_, ?_, ?_, ?_, ?_, ?_, ?_, ?_, ?_, ?_, ?_, ?_, ?_, ?_, ?_, ?_, ?_, ?_, ?_, ?_, ?_, ?_, ?_, ?_, ?_, ?_, ?_, ?_, ?_, ?_, ?_, ?_, ?_, ?_, ?_, ?_, ?_, ?_, ?_, ?_, ?_, ?_, ?_, ?_, ?_, ?_, ?_, ?_, ?_, ?_, ?_, ?_, ?_, ?_, ?_, ?_, ?_, ?_, ?_, ?_, ?_, ?_, trivial⟩ <;> first | exact le_any _ | with_reducible exact le_rfl' _ | (refine .inl (congrArg V.bool ?_); (first | (simp [hmf, *]; done) | (simp [hmf, *] <;> omega) | (rw [Bool.eq_iff_iff]; simp [hmf, *] <;> omega) | (simp_all [hmf]; done) | (simp_all [hmf]; omega))) | exact le_rfl' _
        ·
         try simp only [bsimp] at hg6_26
         refine SOps.onEv tab_ok rfl rfl (by simp only [kE, kT, kL, kC]) (by simp only [kE, kT, kL, kC] <;> rfl) (by simp only [kP] <;> rfl) ?_
         refine SOps.onEv tab_ok rfl rfl (by simp only [kE, kT, kL, kC]) (by simp only [kE, kT, kL, kC] <;> rfl) (by simp only [kP] <;> rfl) ?_
         refine SOps.onEv tab_ok rfl rfl (by simp only [kE, kT, kL, kC]) (by simp only [kE, kT, kL, kC] <;> rfl) (by simp only [kP] <;> rfl) ?_
         refine SOps.onS0 rfl rfl (by simp only [kE, kT, kL, kC]) (OpS.weakM rfl (by simp only [kE, kT, kL, kC] <;> rfl) (by simp only [kE, kT, kL, kC] <;> rfl) cl218 (w_impl_MailAt b b.mails[i].gid (by have := h.2.1.1; omega))) (by simp only [kP] <;> rfl) ?_
         refine SOps.onEv tab_ok rfl rfl (by simp only [kE, kT, kL, kC]) (by simp only [kE, kT, kL, kC] <;> rfl) (by simp only [kP] <;> rfl) ?_
         refine SOps.onEv tab_ok rfl rfl (by simp only [kE, kT, kL, kC]) (by simp only [kE, kT, kL, kC] <;> rfl) (by simp only [kP] <;> rfl) ?_
         iterate 2 (refine SV ?_)
         refine SOps.split (d := 81) (by simp only [kE, kT, kL, kC] <;> rfl) (by simp only [kP] <;> rfl) (by simp only [kP] <;> rfl) (fun hg6_34 => ?_) (fun hg6_34 => ?_)
         ·
          try simp only [bsimp] at hg6_34
          refine SOps.offU rfl rfl (.inl (by simp only [kE, kT, kL, kC, Bool.not_true, Bool.not_false])) (by simp only [kP] <;> rfl) ?_
          refine SOps.offU rfl rfl (.inl (by simp only [kE, kT, kL, kC, Bool.not_true, Bool.not_false])) (by simp only [kP] <;> rfl) ?_
          refine SOps.offU rfl rfl (.inl (by simp only [kE, kT, kL, kC, Bool.not_true, Bool.not_false])) (by simp only [kP] <;> rfl) ?_
          refine SOps.offU rfl rfl (.inl (by simp only [kE, kT, kL, kC, Bool.not_true, Bool.not_false])) (by simp only [kP] <;> rfl) ?_
          refine SOps.offU rfl rfl (.inl (by simp only [kE, kT, kL, kC, Bool.not_true, Bool.not_false])) (by simp only [kP] <;> rfl) ?_
          refine SV ?_
          refine SOps.nil ?_
          refine TOps.nil ?_
          refine ⟨rfl, ?_, rfl, rfl⟩
          refine ⟨?_, ?_, ?_, ?_, ?_, ?_, ?_, ?_, ?_, ?_, ?_, ?_, ?_, ?_, ?_, ?_, ?_, ?_, ?_, ?_, ?_, ?_, ?_, ?_, ?_, ?_, ?_, ?_, ?_, ?_, ?_, ?_, ?_, ?_, ?_, ?_, ?_, ?_, ?_, ?_, ?_, ?_, ?_, ?_, ?_, ?_, ?_, ?_, ?_, ?_, ?_, ?_, ?_, ?_, ?_, ?_, ?_, ?_, ?_, ?_, ?_, ?_, ?_, ?_, ?_, ?_, ?_, ?_, ?_, ?_, ?_, ?_, ?_, ?_, ?_, ?_, ?_, ?_, ?_, ?_, ?_, ?_, ?_, ?_, ?_, ?_, ?_, ?_, ?_, trivial⟩ <;> first | exact le_any _ | with_reducible exact le_rfl' _ | (refine .inl (congrArg V.bool ?_); (first | (simp [hmf, *]; done) | (simp [hmf, *] <;> omega) | (rw [Bool.eq_iff_iff]; simp [hmf, *] <;> omega) | (simp_all [hmf]; done) | (simp_all [hmf]; omega))) | exact le_rfl' _
         ·
          try simp only [bsimp] at hg6_34
          refine SOps.onEv tab_ok rfl rfl (by simp only [kE, kT, kL, kC]) (by simp only [kE, kT, kL, kC] <;> rfl) (by simp only [kP] <;> rfl) ?_
          refine SOps.onEv tab_ok rfl rfl (by simp only [kE, kT, kL, kC]) (by simp only [kE, kT, kL, kC] <;> rfl) (by simp only [kP] <;> rfl) ?_
          refine SOps.onEv tab_ok rfl rfl (by simp only [kE, kT, kL, kC]) (by simp only [kE, kT, kL, kC] <;> rfl) (by simp only [kP] <;> rfl) ?_
          refine SOps.onEv tab_ok rfl rfl (by simp only [kE, kT, kL, kC]) (by simp only [kE, kT, kL, kC] <;> rfl) (by simp only [kP] <;> rfl) ?_
          refine SOps.onS0 rfl rfl (by simp only [kE, kT, kL, kC]) (OpS.weakM rfl (by simp only [kE, kT, kL, kC] <;> rfl) (by simp only [kE, kT, kL, kC] <;> rfl) cl170 (w_slices_Contains___int_int_ b.gone b.mails[i].gid (by have := h.2.2; omega))) (by simp only [kP] <;> rfl) ?_
          refine SV ?_
          refine SOps.nil ?_
          refine TOps.nil ?_
          refine ⟨rfl, ?_, rfl, rfl⟩
          refine ⟨?_, ?_, ?_, ?_, ?_, ?_, ?_, ?_, ?_, ?_, ?_, ?_, ?_, ?_, ?_, ?_, ?_, ?_, ?_, ?_, ?_, ?_, ?_, ?_, ?_, ?_, ?_, ?_, ?_, ?_, ?_, ?_, ?_, ?_, ?_, ?_, ?_, ?_, ?_, ?_, ?_, ?_, ?_, ?_, ?_, ?_, ?_, ?_, ?_, ?_, ?_, ?_, ?_, ?_, ?_, ?_, ?_, ?_, ?_, ?_, ?_, ?_, ?_, ?_, ?_, ?_, ?_, ?_, ?_, ?_, ?_, ?_, ?_, ?_, ?_, ?_, ?_, ?_, ?_, ?_, ?_, ?_, ?_, ?_, ?_, ?_, ?_, ?_, ?_, trivial⟩ <;> first | exact le_any _ | with_reducible exact le_rfl' _ | (refine .inl (congrArg V.bool ?_); (first | (simp [hmf, *]; done) | (simp [hmf, *] <;> omega) | (rw [Bool.eq_iff_iff]; simp [hmf, *] <;> omega) | (simp_all [hmf]; done) | (simp_all [hmf]; omega))) | exact le_rfl' _
       ·
        try simp only [bsimp] at hg6_13
        have hbf : beforeB b.mails (fun x y => decide (x.uid < y.uid)) i = true := by rw [show i = 0 by omega]; rfl
        refine SOps.offU rfl rfl (.inl (by simp only [kE, kT, kL, kC, Bool.not_true, Bool.not_false])) (by simp only [kP] <;> rfl) ?_
        refine SOps.offU rfl rfl (.inl (by simp only [kE, kT, kL, kC, Bool.not_true, Bool.not_false])) (by simp only [kP] <;> rfl) ?_
        refine SOps.offU rfl rfl (.inl (by simp only [kE, kT, kL, kC, Bool.not_true, Bool.not_false])) (by simp only [kP] <;> rfl) ?_
        refine SOps.offU rfl rfl (.inl (by simp only [kE, kT, kL, kC, Bool.not_true, Bool.not_false])) (by simp only [kP] <;> rfl) ?_
        refine SOps.offU rfl rfl (.inl (by simp only [kE, kT, kL, kC, Bool.not_true, Bool.not_false])) (by simp only [kP] <;> rfl) ?_
        refine SOps.offU rfl rfl (.inl (by simp only [kE, kT, kL, kC, Bool.not_true, Bool.not_false])) (by simp only [kP] <;> rfl) ?_
        refine SOps.offU rfl rfl (.inl (by simp only [kE, kT, kL, kC, Bool.not_true, Bool.not_false])) (by simp only [kP] <;> rfl) ?_
        refine SOps.offU rfl rfl (.inl (by simp only [kE, kT, kL, kC, Bool.not_true, Bool.not_false])) (by simp only [kP] <;> rfl) ?_
        refine SOps.offU rfl rfl (.inl (by simp only [kE, kT, kL, kC, Bool.not_true, Bool.not_false])) (by simp only [kP] <;> rfl) ?_
        refine SOps.offU rfl rfl (.inl (by simp only [kE, kT, kL, kC, Bool.not_true, Bool.not_false])) (by simp only [kP] <;> rfl) ?_
        refine SOps.onEv tab_ok rfl rfl (by simp only [kE, kT, kL, kC]) (by simp only [kE, kT, kL, kC] <;> rfl) (by simp only [kP] <;> rfl) ?_
        iterate 2 (refine SV ?_)
        refine SOps.onEv tab_ok rfl rfl (by simp only [kE, kT, kL, kC]) (by simp only [kE, kT, kL, kC] <;> rfl) (by simp only [kP] <;> rfl) ?_
        refine SOps.onEv tab_ok rfl rfl (by simp only [kE, kT, kL, kC]) (by simp only [kE, kT, kL, kC] <;> rfl) (by simp only [kP] <;> rfl) ?_
        refine SOps.onEv tab_ok rfl rfl (by simp only [kE, kT, kL, kC]) (by simp only [kE, kT, kL, kC] <;> rfl) (by simp only [kP] <;> rfl) ?_
        refine SOps.onS0 rfl rfl (by simp only [kE, kT, kL, kC]) (OpS.weakM rfl (by simp only [kE, kT, kL, kC] <;> rfl) (by simp only [kE, kT, kL, kC] <;> rfl) cl218 (w_impl_MailAt b b.mails[i].gid (by have := h.2.1.1; omega))) (by simp only [kP] <;> rfl) ?_
        refine SOps.onEv tab_ok rfl rfl (by simp only [kE, kT, kL, kC]) (by simp only [kE, kT, kL, kC] <;> rfl) (by simp only [kP] <;> rfl) ?_
        refine SOps.onEv tab_ok rfl rfl (by simp only [kE, kT, kL, kC]) (by simp only [kE, kT, kL, kC] <;> rfl) (by simp only [kP] <;> rfl) ?_
        iterate 2 (refine SV ?_)
        refine SOps.split (d := 81) (by simp only [kE, kT, kL, kC] <;> rfl) (by simp only [kP] <;> rfl) (by simp only [kP] <;> rfl) (fun hg6_34 => ?_) (fun hg6_34 => ?_)
        ·
         try simp only [bsimp] at hg6_34
         refine SOps.offU rfl rfl (.inl (by simp only [kE, kT, kL, kC, Bool.not_true, Bool.not_false])) (by simp only [kP] <;> rfl) ?_
         refine SOps.offU rfl rfl (.inl (by simp only [kE, kT, kL, kC, Bool.not_true, Bool.not_false])) (by simp only [kP] <;> rfl) ?_
         refine SOps.offU rfl rfl (.inl (by simp only [kE, kT, kL, kC, Bool.not_true, Bool.not_false])) (by simp only [kP] <;> rfl) ?_
         refine SOps.offU rfl rfl (.inl (by simp only [kE, kT, kL, kC, Bool.not_true, Bool.not_false])) (by simp only [kP] <;> rfl) ?_
         refine SOps.offU rfl rfl (.inl (by simp only [kE, kT, kL, kC, Bool.not_true, Bool.not_false])) (by simp only [kP] <;> rfl) ?_
         refine SV ?_
         refine SOps.nil ?_
         refine TOps.nil ?_
         refine ⟨rfl, ?_, rfl, rfl⟩
         refine ⟨?_, ?_, ?_, ?_, ?_, ?_, ?_, ?_, ?_, ?_, ?_, ?_, ?_, ?_, ?_, ?_, ?_, ?_, ?_, ?_, ?_, ?_, ?_, ?_, ?_, ?_, ?_, ?_, ?_, ?_, ?_, ?_, ?_, ?_, ?_, ?_, ?_, ?_, ?_, ?_, ?_, ?_, ?_, ?_, ?_, ?_, ?_, ?_, ?_, ?_, ?_, ?_, ?_, ?_, ?_, ?_, ?_, ?_, ?_, ?_, ?_, ?_, ?_, ?_, ?_, ?_, ?_, ?_, ?_, ?_, ?_, ?_, ?_, ?_, ?_, ?_, ?_, ?_, ?_, ?_, ?_, ?_, ?_, ?_, ?_, ?_, ?_, ?_, ?_, trivial⟩ <;> first | exact le_any _ | with_reducible exact le_rfl' _ | (refine .inl (congrArg V.bool ?_); (first | (simp [hmf, *]; done) | (simp [hmf, *] <;> omega) | (rw [Bool.eq_iff_iff]; simp [hmf, *] <;> omega) | (simp_all [hmf]; done) | (simp_all [hmf]; omega))) | exact le_rfl' _
        ·
         try simp only [bsimp] at hg6_34
         refine SOps.onEv tab_ok rfl rfl (by simp only [kE, kT, kL, kC]) (by simp only [kE, kT, kL, kC] <;> rfl) (by simp only [kP] <;> rfl) ?_
         refine SOps.onEv tab_ok rfl rfl (by simp only [kE, kT, kL, kC]) (by simp only [kE, kT, kL, kC] <;> rfl) (by simp only [kP] <;> rfl) ?_
         refine SOps.onEv tab_ok rfl rfl (by simp only [kE, kT, kL, kC]) (by simp only [kE, kT, kL, kC] <;> rfl) (by simp only [kP] <;> rfl) ?_
         refine SOps.onEv tab_ok rfl rfl (by simp only [kE, kT, kL, kC]) (by simp only [kE, kT, kL, kC] <;> rfl) (by simp only [kP] <;> rfl) ?_
         refine SOps.onS0 rfl rfl (by simp only [kE, kT, kL, kC]) (OpS.weakM rfl (by simp only [kE, kT, kL, kC] <;> rfl) (by simp only [kE, kT, kL, kC] <;> rfl) cl170 (w_slices_Contains___int_int_ b.gone b.mails[i].gid (by have := h.2.2; omega))) (by simp only [kP] <;> rfl) ?_
         refine SV ?_
         refine SOps.nil ?_
         refine TOps.nil ?_
         refine ⟨rfl, ?_, rfl, rfl⟩
         refine ⟨?_, ?_, ?_, ?_, ?_, ?_, ?_, ?_, ?_, ?_, ?_, ?_, ?_, ?_, ?_, ?_, ?_, ?_, ?_, ?_, ?_, ?_, ?_, ?_, ?_, ?_, ?_, ?_, ?_, ?_, ?_, ?_, ?_, ?_, ?_, ?_, ?_, ?_, ?_, ?_, ?_, ?_, ?_, ?_, ?_, ?_, ?_, ?_, ?_, ?_, ?_, ?_, ?_, ?_, ?_, ?_, ?_, ?_, ?_, ?_, ?_, ?_, ?_, ?_, ?_, ?_, ?_, ?_, ?_, ?_, ?_, ?_, ?_, ?_, ?_, ?_, ?_, ?_, ?_, ?_, ?_, ?_, ?_, ?_, ?_, ?_, ?_, ?_, ?_, trivial⟩ <;> first | exact le_any _ | with_reducible exact le_rfl' _ | (refine .inl (congrArg V.bool ?_); (first | (simp [hmf, *]; done) | (simp [hmf, *] <;> omega) | (rw [Bool.eq_iff_iff]; simp [hmf, *] <;> omega) | (simp_all [hmf]; done) | (simp_all [hmf]; omega))) | exact le_rfl' _
    ·
     refine Ok.cond (b := _) (by simp only [kE, kT, kL, kC] <;> rfl) (fun hb6 => ?_) (fun hb6 => ?_)
     ·
      try simp only [bsimp] at hb6
      rw [show boxOk b = false by unfold boxOk; rw [allUp_no hi hb6, Bool.and_false]]
      refine OQ ?_
      refine EV ?_
      refine ON ?_
      refine Ok.ret ?_
      with_reducible repeat (first | refine thenQ_ret ?_ | refine blockQ_ret ?_)
      refine RT ?_
      rfl
     ·
      try simp only [bsimp] at hb6
      refine Ok.skip ?_
      refine Ok.region ?_
      iterate 2 (refine EV ?_)
      refine ON ?_
      refine ⟨i + 1, ?_, rfl, ⟨by omega, up_next h2 hb6⟩, by omega⟩
      simp only [V.renL, V.travL, V.travLL, V.trav, frz, zz, zf, zy, Nat.reduceLeDiff, ↓reduceIte]
      refine ⟨?_, ?_, ?_, ?_, ?_, ?_, ?_, ?_, ?_, ?_, ?_, ?_, ?_, ?_, ?_, ?_, ?_, ?_, ?_, ?_, ?_, ?_, ?_, ?_, ?_, ?_, ?_, ?_, ?_, ?_, ?_, ?_, ?_, ?_, ?_, ?_, ?_, ?_, ?_, ?_, ?_, ?_, ?_, ?_, ?_, ?_, ?_, ?_, ?_, ?_, ?_, ?_, ?_, ?_, ?_, ?_, ?_, ?_, ?_, ?_, ?_, ?_, ?_, ?_, ?_, ?_, ?_, ?_, ?_, ?_, ?_, ?_, ?_, ?_, ?_, ?_, ?_, ?_, ?_, ?_, ?_, ?_, ?_, ?_, ?_, ?_, ?_, ?_, ?_, trivial⟩ <;> first | exact le_any _ | with_reducible exact le_rfl' _ | ((rw [wrap_add_one (by have := h.2.1.1; omega)]; exact le_rfl' _)) | exact le_rfl' _
   ·
    try simp only [bsimp] at hb4
    obtain rfl : i = b.mails.length := by omega
    rw [show boxOk b = true by unfold boxOk; rw [hh, allUp_yes h2]; rfl]
    refine Ok.exit ?_
    refine OQ ?_
    refine EV ?_
    refine ON ?_
    refine Ok.ret ?_
    with_reducible repeat (first | refine thenQ_ret ?_ | refine blockQ_ret ?_)
    refine RT ?_
    rfl
theorem w_impl_StoreOk (s : Store) (h : smStore s) : Weak Tryz.prog 120 [.agg (cStore s)] (.bool (storeOk s)) := by
 refine Weak.enter tab_ok Tryz.func120 rfl (.inr (by simp [V.labelsL, V.labels, V.labelsLL, zz, zf, zy, or_imp, forall_and])) (t := [.agg (cStore s), .any, .any, .any, .any, .any, .any, .any, .any, .any, .any, .any, .any, .any, .any, .any, .any, .any, .any, .any, .any, .any, .any, .any, .any, .any, .any, .any, .any, .any, .any, .any, .any, .any, .any, .any, .any, .any, .any, .any, .any, .any, .any, .any, .any, .any, .any, .any, .any, .any, .any, .any, .any, .any, .any, .any, .any, .any, .any, .any, .any, .any, .any, .any, .any, .any, .any, .any, .any, .any, .any, .any, .any, .any, .any, .any, .any, .any, .any, .any, .any, .any, .any, .any, .any, .any, .any, .any, .any, .any, .any, .any, .any, .any, .any, .any, .any]) rfl ?_
 refine OQ ?_
 iterate 2 (refine EV ?_)
 refine ON ?_
 refine Ok.seq ?_
 refine Ok.seqC [(29, .bool (!storeHead s))] [8, 9, 10, 11, 12, 13, 14, 15, 16, 17, 18, 19, 20, 21, 22, 23, 24, 25, 26, 27, 28] (by simp only [kover] <;> rfl) ?_ ?_
 ·
  refine Ok.region ?_
  iterate 2 (refine EV ?_)
  refine OkOps.S0 rfl (OpS.weak' rfl (by simp only [kE, kT, kL, kC] <;> rfl) (by simp only [kE, kT, kL, kC] <;> rfl) cl124 (w_impl_within s.by_ 1 2)) (by simp only [kP] <;> rfl) ?_
  iterate 2 (refine EV ?_)
  refine OkOps.split (d := 12) (by simp only [kE, kT, kL, kC] <;> rfl) (by simp only [kP] <;> rfl) (by simp only [kP] <;> rfl) (fun hg1_4 => ?_) (fun hg1_4 => ?_)
  ·
   try simp only [bsimp] at hg1_4
   refine OkOps.offU rfl rfl (.inl (by simp only [kE, kT, kL, kC, Bool.not_true, Bool.not_false])) (by simp only [kP] <;> rfl) ?_
   refine OkOps.offU rfl rfl (.inl (by simp only [kE, kT, kL, kC, Bool.not_true, Bool.not_false])) (by simp only [kP] <;> rfl) ?_
   refine OkOps.offU rfl rfl (.inl (by simp only [kE, kT, kL, kC, Bool.not_true, Bool.not_false])) (by simp only [kP] <;> rfl) ?_
   refine OkOps.offU rfl rfl (.inl (by simp only [kE, kT, kL, kC, Bool.not_true, Bool.not_false])) (by simp only [kP] <;> rfl) ?_
   iterate 2 (refine EV ?_)
   refine OkOps.offU rfl rfl (.inl (by simp only [kE, kT, kL, kC, Bool.not_true, Bool.not_false])) (by simp only [kP] <;> rfl) ?_
   refine OkOps.offU rfl rfl (.inl (by simp only [kE, kT, kL, kC, Bool.not_true, Bool.not_false])) (by simp only [kP] <;> rfl) ?_
   refine OkOps.offU rfl rfl (.inl (by simp only [kE, kT, kL, kC, Bool.not_true, Bool.not_false])) (by simp only [kP] <;> rfl) ?_
   refine OkOps.offU rfl rfl (.inl (by simp only [kE, kT, kL, kC, Bool.not_true, Bool.not_false])) (by simp only [kP] <;> rfl) ?_
   iterate 2 (refine EV ?_)
   refine OkOps.offU rfl rfl (.inl (by simp only [kE, kT, kL, kC, Bool.not_true, Bool.not_false])) (by simp only [kP] <;> rfl) ?_
   refine OkOps.offU rfl rfl (.inl (by simp only [kE, kT, kL, kC, Bool.not_true, Bool.not_false])) (by simp only [kP] <;> rfl) ?_
   refine OkOps.offU rfl rfl (.inl (by simp only [kE, kT, kL, kC, Bool.not_true, Bool.not_false])) (by simp only [kP] <;> rfl) ?_
   refine OkOps.offU rfl rfl (.inl (by simp only [kE, kT, kL, kC, Bool.not_true, Bool.not_false])) (by simp only [kP] <;> rfl) ?_
   refine EV ?_
   refine ON ?_
   refine ⟨rfl, ?_, rfl, rfl⟩
   refine ⟨?_, ?_, ?_, ?_, ?_, ?_, ?_, ?_, ?_, ?_, ?_, ?_, ?_, ?_, ?_, ?_, ?_, ?_, ?_, ?_, ?_, ?_, ?_, ?_, ?_, ?_, ?_, ?_, ?_, ?_, ?_, ?_, ?_, ?_, ?_, ?_, ?_, ?_, ?_, ?_, ?_, ?_, ?_, ?_, ?_, ?_, ?_, ?_, ?_, ?_, ?_, ?_, ?_, ?_, ?_, ?_, ?_, ?_, ?_, ?_, ?_, ?_, ?_, ?_, ?_, ?_, ?_, ?_, ?_, ?_, ?_, ?_, ?_, ?_, ?_, ?_, ?_, ?_, ?_, ?_, ?_, ?_, ?_, ?_, ?_, ?_, ?_, ?_, ?_, ?_, ?_, ?_, ?_, ?_, ?_, ?_, ?_, trivial⟩ <;> first | exact le_any _ | with_reducible exact le_rfl' _ | (refine .inl (congrArg V.bool ?_); (first | (simp [storeHead, *]; done) | (simp [storeHead, *] <;> omega) | (rw [Bool.eq_iff_iff]; simp [storeHead, *] <;> omega) | (simp_all [storeHead]; done) | (simp_all [storeHead]; omega))) | exact le_rfl' _
  ·
   try simp only [bsimp] at hg1_4
   refine OO ?_
   refine EV ?_
   refine OO ?_
   refine EV ?_
   refine OO ?_
   refine OkOps.S0 rfl (OpS.weak' rfl (by simp only [kE, kT, kL, kC] <;> rfl) (by simp only [kE, kT, kL, kC] <;> rfl) cl124 (w_impl_within s.time 0 100000)) (by simp only [kP] <;> rfl) ?_
   refine OO ?_
   iterate 3 (refine EV ?_)
   refine OkOps.split (d := 18) (by simp only [kE, kT, kL, kC] <;> rfl) (by simp only [kP] <;> rfl) (by simp only [kP] <;> rfl) (fun hg1_10 => ?_) (fun hg1_10 => ?_)
   ·
    try simp only [bsimp] at hg1_10
    refine OkOps.offU rfl rfl (.inl (by simp only [kE, kT, kL, kC, Bool.not_true, Bool.not_false])) (by simp only [kP] <;> rfl) ?_
    refine OkOps.offU rfl rfl (.inl (by simp only [kE, kT, kL, kC, Bool.not_true, Bool.not_false])) (by simp only [kP] <;> rfl) ?_
    refine OkOps.offU rfl rfl (.inl (by simp only [kE, kT, kL, kC, Bool.not_true, Bool.not_false])) (by simp only [kP] <;> rfl) ?_
    refine OkOps.offU rfl rfl (.inl (by simp only [kE, kT, kL, kC, Bool.not_true, Bool.not_false])) (by simp only [kP] <;> rfl) ?_
    iterate 2 (refine EV ?_)
    refine OkOps.offU rfl rfl (.inl (by simp only [kE, kT, kL, kC, Bool.not_true, Bool.not_false])) (by simp only [kP] <;> rfl) ?_
    refine OkOps.offU rfl rfl (.inl (by simp only [kE, kT, kL, kC, Bool.not_true, Bool.not_false])) (by simp only [kP] <;> rfl) ?_
    refine OkOps.offU rfl rfl (.inl (by simp only [kE, kT, kL, kC, Bool.not_true, Bool.not_false])) (by simp only [kP] <;> rfl) ?_
    refine OkOps.offU rfl rfl (.inl (by simp only [kE, kT, kL, kC, Bool.not_true, Bool.not_false])) (by simp only [kP] <;> rfl) ?_
    refine EV ?_
    refine ON ?_
    refine ⟨rfl, ?_, rfl, rfl⟩
    refine ⟨?_, ?_, ?_, ?_, ?_, ?_, ?_, ?_, ?_, ?_, ?_, ?_, ?_, ?_, ?_, ?_, ?_, ?_, ?_, ?_, ?_, ?_, ?_, ?_, ?_, ?_, ?_, ?_, ?_, ?_, ?_, ?_, ?_, ?_, ?_, ?_, ?_, ?_, ?_, ?_, ?_, ?_, ?_, ?_, ?_, ?_, ?_, ?_, ?_, ?_, ?_, ?_, ?_, ?_, ?_, ?_, ?_, ?_, ?_, ?_, ?_, ?_, ?_, ?_, ?_, ?_, ?_, ?_, ?_, ?_, ?_, ?_, ?_, ?_, ?_, ?_, ?_, ?_, ?_, ?_, ?_, ?_, ?_, ?_, ?_, ?_, ?_, ?_, ?_, ?_, ?_, ?_, ?_, ?_, ?_, ?_, ?_, trivial⟩ <;> first | exact le_any _ | with_reducible exact le_rfl' _ | (refine .inl (congrArg V.bool ?_); (first | (simp [storeHead, *]; done) | (simp [storeHead, *] <;> omega) | (rw [Bool.eq_iff_iff]; simp [storeHead, *] <;> omega) | (simp_all [storeHead]; done) | (simp_all [storeHead]; omega))) | exact le_rfl' _
   ·
    try simp only [bsimp] at hg1_10
    refine OO ?_
    refine EV ?_
    refine OO ?_
    refine EV ?_
    refine OO ?_
    refine EV ?_
    refine OO ?_
    iterate 3 (refine EV ?_)
    refine OkOps.split (d := 24) (by simp only [kE, kT, kL, kC] <;> rfl) (by simp only [kP] <;> rfl) (by simp only [kP] <;> rfl) (fun hg1_16 => ?_) (fun hg1_16 => ?_)
    ·
     try simp only [bsimp] at hg1_16
     refine OkOps.offU rfl rfl (.inl (by simp only [kE, kT, kL, kC, Bool.not_true, Bool.not_false])) (by simp only [kP] <;> rfl) ?_
     refine OkOps.offU rfl rfl (.inl (by simp only [kE, kT, kL, kC, Bool.not_true, Bool.not_false])) (by simp only [kP] <;> rfl) ?_
     refine OkOps.offU rfl rfl (.inl (by simp only [kE, kT, kL, kC, Bool.not_true, Bool.not_false])) (by simp only [kP] <;> rfl) ?_
     refine OkOps.offU rfl rfl (.inl (by simp only [kE, kT, kL, kC, Bool.not_true, Bool.not_false])) (by simp only [kP] <;> rfl) ?_
     refine EV ?_
     refine ON ?_
     refine ⟨rfl, ?_, rfl, rfl⟩
     refine ⟨?_, ?_, ?_, ?_, ?_, ?_, ?_, ?_, ?_, ?_, ?_, ?_, ?_, ?_, ?_, ?_, ?_, ?_, ?_, ?_, ?_, ?_, ?_, ?_, ?_, ?_, ?_, ?_, ?_, ?_, ?_, ?_, ?_, ?_, ?_, ?_, ?_, ?_, ?_, ?_, ?_, ?_, ?_, ?_, ?_, ?_, ?_, ?_, ?_, ?_, ?_, ?_, ?_, ?_, ?_, ?_, ?_, ?_, ?_, ?_, ?_, ?_, ?_, ?_, ?_, ?_, ?_, ?_, ?_, ?_, ?_, ?_, ?_, ?_, ?_, ?_, ?_, ?_, ?_, ?_, ?_, ?_, ?_, ?_, ?_, ?_, ?_, ?_, ?_, ?_, ?_, ?_, ?_, ?_, ?_, ?_, ?_, trivial⟩ <;> first | exact le_any _ | with_reducible exact le_rfl' _ | (refine .inl (congrArg V.bool ?_); (first | (simp [storeHead, *]; done) | (simp [storeHead, *] <;> omega) | (rw [Bool.eq_iff_iff]; simp [storeHead, *] <;> omega) | (simp_all [storeHead]; done) | (simp_all [storeHead]; omega))) | exact le_rfl' _
    ·
     try simp only [bsimp] at hg1_16
     refine OO ?_
     refine EV ?_
     refine OO ?_
     refine EV ?_
     refine OO ?_
     refine OkOps.S0 rfl (OpS.weak' rfl (by simp only [kE, kT, kL, kC] <;> rfl) (by simp only [kE, kT, kL, kC] <;> rfl) cl167 (w_impl_areGids s.gone 20 (by have := h.2; omega))) (by simp only [kP] <;> rfl) ?_
     refine OO ?_
     iterate 2 (refine EV ?_)
     refine ON ?_
     refine ⟨rfl, ?_, rfl, rfl⟩
     refine ⟨?_, ?_, ?_, ?_, ?_, ?_, ?_, ?_, ?_, ?_, ?_, ?_, ?_, ?_, ?_, ?_, ?_, ?_, ?_, ?_, ?_, ?_, ?_, ?_, ?_, ?_, ?_, ?_, ?_, ?_, ?_, ?_, ?_, ?_, ?_, ?_, ?_, ?_, ?_, ?_, ?_, ?_, ?_, ?_, ?_, ?_, ?_, ?_, ?_, ?_, ?_, ?_, ?_, ?_, ?_, ?_, ?_, ?_, ?_, ?_, ?_, ?_, ?_, ?_, ?_, ?_, ?_, ?_, ?_, ?_, ?_, ?_, ?_, ?_, ?_, ?_, ?_, ?_, ?_, ?_, ?_, ?_, ?_, ?_, ?_, ?_, ?_, ?_, ?_, ?_, ?_, ?_, ?_, ?_, ?_, ?_, ?_, trivial⟩ <;> first | exact le_any _ | with_reducible exact le_rfl' _ | (refine .inl (congrArg V.bool ?_); (first | (simp [storeHead, *]; done) | (simp [storeHead, *] <;> omega) | (rw [Bool.eq_iff_iff]; simp [storeHead, *] <;> omega) | (simp_all [storeHead]; done) | (simp_all [storeHead]; omega))) | exact le_rfl' _
 ·
  refine Ok.cond (b := _) (by simp only [kE, kT, kL, kC] <;> rfl) (fun hb1 => ?_) (fun hb1 => ?_)
  ·
   try simp only [bsimp] at hb1
   rw [show storeOk s = false by unfold storeOk; rw [show storeHead s = false from hb1, Bool.false_and]]
   refine OQ ?_
   refine EV ?_
   refine ON ?_
   refine Ok.ret ?_
   with_reducible repeat (first | refine thenQ_ret ?_ | refine blockQ_ret ?_)
   refine RT ?_
   rfl
  ·
   try simp only [bsimp] at hb1
   have hh : storeHead s = true := hb1
   have hcap := h.1.1
   refine Ok.skip ?_
   refine OQ ?_
   iterate 2 (refine EV ?_)
   refine ON ?_
   refine Ok.seq ?_
   refine OQ ?_
   iterate 4 (refine EV ?_)
   refine ON ?_
   refine Ok.block ?_
   refine Ok.bump (n' := 3) (by omega) ?_
   refine Ok.loopWZ (τ := Nat) (fun x => [(3, .sl 2 1 0 ((seenG s x 0).map cZ)), (34, .int .i64 (x : Int))]) [2, 4, 5, 7, 35, 36, 37, 38, 39, 40, 41, 42, 43, 44, 45, 46, 47, 48, 49, 50, 51, 52, 53, 54, 55, 56, 57, 58, 59, 60, 61, 62, 63, 64, 65, 66, 67, 68, 69, 70, 71, 72, 73, 74, 75, 76, 77, 78, 79, 80, 81, 82, 83, 84, 85, 86, 87, 88, 89, 90, 91, 92, 93, 94, 95, 96] (fun x => by simp only [kover] <;> rfl) (fun x => x ≤ s.boxes.length ∧ ∀ k, k < x → boxGood s k = true) (fun x => s.boxes.length - x) 0 (by omega) (by refine ⟨?_, ?_, ?_, ?_, ?_, ?_, ?_, ?_, ?_, ?_, ?_, ?_, ?_, ?_, ?_, ?_, ?_, ?_, ?_, ?_, ?_, ?_, ?_, ?_, ?_, ?_, ?_, ?_, ?_, ?_, ?_, ?_, ?_, ?_, ?_, ?_, ?_, ?_, ?_, ?_, ?_, ?_, ?_, ?_, ?_, ?_, ?_, ?_, ?_, ?_, ?_, ?_, ?_, ?_, ?_, ?_, ?_, ?_, ?_, ?_, ?_, ?_, ?_, ?_, ?_, ?_, ?_, ?_, ?_, ?_, ?_, ?_, ?_, ?_, ?_, ?_, ?_, ?_, ?_, ?_, ?_, ?_, ?_, ?_, ?_, ?_, ?_, ?_, ?_, ?_, ?_, ?_, ?_, ?_, ?_, ?_, ?_, trivial⟩ <;> first | exact le_any _ | with_reducible exact le_rfl' _ | (first | exact le_rfl' _ | (rw [seen_zero]; exact le_nil 2 1)) | exact le_rfl' _) (⟨Nat.zero_le _, fun k h => by omega⟩) ?_
   rintro i ⟨h1, h2⟩
   refine OQ ?_
   refine EV ?_
   refine ON ?_
   refine Ok.seq ?_
   refine Ok.cond (b := _) (by simp only [kE, kT, kL, kC] <;> rfl) (fun hb5 => ?_) (fun hb5 => ?_)
   ·
    try simp only [bsimp] at hb5
    have hi : i < s.boxes.length := by omega
    have hmf := boxFine_at hi
    have hmc := (h.1.2 _ (List.getElem_mem hi)).2.1.1
    refine Ok.skip ?_
    refine Ok.seq ?_
    refine Ok.block ?_
    refine OQ ?_
    refine EV ?_
    refine OkOps.ev tab_ok rfl (ev_idx_map (by simp only [kE, kT, kL, kC] <;> rfl) (by simp only [kE, kT, kL, kC] <;> rfl) (by omega) (by simp only [kE, kT, kL, kC] <;> rfl)) (by simp only [kP] <;> rfl) ?_
    iterate 3 (refine EV ?_)
    refine OkOps.storeE tab_ok rfl rfl (by simp only [kE, kT, kL, kC] <;> rfl) ⟨_, _, by simp only [kE]; rfl⟩ (by first | (simp [V.labelsL, V.labelsLL, V.labels, zz, zf, zy]; done) | (simp [-List.map_map, -List.map_set, -List.map_drop, -List.map_take, -List.map_tail, -List.drop_one, V.labelsL, V.labelsLL, V.labels, zz, zf, zy]; done)) (by simp only [eq_self, V.updL, V.travL, V.travLL, V.trav, updS, updP, and_self, true_and, and_true, false_and, and_false, Nat.reduceEqDiff, Nat.reduceSub, Nat.le_refl, Nat.zero_le, ↓reduceIte, if_true, if_false, kP, zz, zf, zy] <;> rfl) (rfl) ?_
    refine ON ?_
    refine Ok.seq ?_
    refine Ok.seqC [(78, .bool (!boxFine s i))] [39, 40, 41, 42, 43, 44, 45, 46, 47, 48, 49, 50, 51, 52, 53, 54, 55, 56, 57, 58, 59, 60, 61, 62, 63, 64, 65, 66, 67, 68, 69, 70, 71, 72, 73, 74, 75, 76, 77] (by simp only [kover] <;> rfl) ?_ ?_
    ·
     refine Ok.drawn 40 97 [] (by kernel_rfl) (by kernel_rfl) rfl ?_
     refine SV ?_
     refine SOps.S0 rfl (OpS.weakM rfl (by simp only [kE, kT, kL, kC] <;> rfl) (by simp only [kE, kT, kL, kC] <;> rfl) cl168 (w_impl_BoxOk s.boxes[i] (h.1.2 _ (List.getElem_mem hi)))) (by simp only [kP] <;> rfl) ?_
     iterate 2 (refine SV ?_)
     refine SOps.split (d := 42) (by simp only [kE, kT, kL, kC] <;> rfl) (by simp only [kP] <;> rfl) (by simp only [kP] <;> rfl) (fun hg7_3 => ?_) (fun hg7_3 => ?_)
     ·
      try simp only [bsimp] at hg7_3
      refine SOps.offU rfl rfl (.inl (by simp only [kE, kT, kL, kC, Bool.not_true, Bool.not_false])) (by simp only [kP] <;> rfl) ?_
      refine SOps.offU rfl rfl (.inl (by simp only [kE, kT, kL, kC, Bool.not_true, Bool.not_false])) (by simp only [kP] <;> rfl) ?_
      refine SOps.offU rfl rfl (.inl (by simp only [kE, kT, kL, kC, Bool.not_true, Bool.not_false])) (by simp only [kP] <;> rfl) ?_
      refine SOps.offU rfl rfl (.inr (by simp only [kE, kT, kL, kC])) (by simp only [kP] <;> rfl) ?_
      refine SOps.offU rfl rfl (.inr (by simp only [kE, kT, kL, kC])) (by simp only [kP] <;> rfl) ?_
      refine SOps.offU rfl rfl (.inr (by simp only [kE, kT, kL, kC])) (by simp only [kP] <;> rfl) ?_
      refine SOps.offU rfl rfl (.inr (by simp only [kE, kT, kL, kC])) (by simp only [kP] <;> rfl) ?_
      refine SOps.offU rfl rfl (.inr (by simp only [kE, kT, kL, kC])) (by simp only [kP] <;> rfl) ?_
      refine SOps.offU rfl rfl (.inr (by simp only [kE, kT, kL, kC])) (by simp only [kP] <;> rfl) ?_
      refine SOps.offU rfl rfl (.inr (by simp only [kE, kT, kL, kC])) (by simp only [kP] <;> rfl) ?_
      refine SOps.offU rfl rfl (.inr (by simp only [kE, kT, kL, kC])) (by simp only [kP] <;> rfl) ?_
      refine SOps.offU rfl rfl (.inr (by simp only [kE, kT, kL, kC])) (by simp only [kP] <;> rfl) ?_
      refine SOps.offU rfl rfl (.inr (by simp only [kE, kT, kL, kC])) (by simp only [kP] <;> rfl) ?_
      refine SOps.offU rfl rfl (.inl (by simp only [kE, kT, kL, kC, Bool.not_true, Bool.not_false])) (by simp only [kP] <;> rfl) ?_
      iterate 2 (refine SV ?_)
      refine SOps.offU rfl rfl (.inl (by simp only [kE, kT, kL, kC, Bool.not_true, Bool.not_false])) (by simp only [kP] <;> rfl) ?_
      refine SOps.offU rfl rfl (.inl (by simp only [kE, kT, kL, kC, Bool.not_true, Bool.not_false])) (by simp only [kP] <;> rfl) ?_
      refine SOps.offU rfl rfl (.inl (by simp only [kE, kT, kL, kC, Bool.not_true, Bool.not_false])) (by simp only [kP] <;> rfl) ?_
      refine SOps.offU rfl rfl (.inl (by simp only [kE, kT, kL, kC, Bool.not_true, Bool.not_false])) (by simp only [kP] <;> rfl) ?_
      refine SOps.offU rfl rfl (.inl (by simp only [kE, kT, kL, kC, Bool.not_true, Bool.not_false])) (by simp only [kP] <;> rfl) ?_
      refine SOps.offU rfl rfl (.inl (by simp only [kE, kT, kL, kC, Bool.not_true, Bool.not_false])) (by simp only [kP] <;> rfl) ?_
      iterate 2 (refine SV ?_)
      refine SOps.offU rfl rfl (.inl (by simp only [kE, kT, kL, kC, Bool.not_true, Bool.not_false])) (by simp only [kP] <;> rfl) ?_
      refine SOps.offU rfl rfl (.inl (by simp only [kE, kT, kL, kC, Bool.not_true, Bool.not_false])) (by simp only [kP] <;> rfl) ?_
      refine SOps.offU rfl rfl (.inl (by simp only [kE, kT, kL, kC, Bool.not_true, Bool.not_false])) (by simp only [kP] <;> rfl) ?_
      refine SOps.offU rfl rfl (.inl (by simp only [kE, kT, kL, kC, Bool.not_true, Bool.not_false])) (by simp only [kP] <;> rfl) ?_
      refine SOps.offU rfl rfl (.inl (by simp only [kE, kT, kL, kC, Bool.not_true, Bool.not_false])) (by simp only [kP] <;> rfl) ?_
      iterate 2 (refine SV ?_)
      refine SOps.offU rfl rfl (.inl (by simp only [kE, kT, kL, kC, Bool.not_true, Bool.not_false])) (by simp only [kP] <;> rfl) ?_
      refine SOps.offU rfl rfl (.inl (by simp only [kE, kT, kL, kC, Bool.not_true, Bool.not_false])) (by simp only [kP] <;> rfl) ?_
      refine SOps.offU rfl rfl (.inl (by simp only [kE, kT, kL, kC, Bool.not_true, Bool.not_false])) (by simp only [kP] <;> rfl) ?_
      refine SOps.offU rfl rfl (.inl (by simp only [kE, kT, kL, kC, Bool.not_true, Bool.not_false])) (by simp only [kP] <;> rfl) ?_
      refine SV ?_
      refine SOps.nil ?_
      refine TOps.nil ?_
      refine ⟨rfl, ?_, rfl, rfl⟩
      refine ⟨?_, ?_, ?_, ?_, ?_, ?_, ?_, ?_, ?_, ?_, ?_, ?_, ?_, ?_, ?_, ?_, ?_, ?_, ?_, ?_, ?_, ?_, ?_, ?_, ?_, ?_, ?_, ?_, ?_, ?_, ?_, ?_, ?_, ?_, ?_, ?_, ?_, ?_, ?_, ?_, ?_, ?_, ?_, ?_, ?_, ?_, ?_, ?_, ?_, ?_, ?_, ?_, ?_, ?_, ?_, ?_, ?_, ?_, ?_, ?_, ?_, ?_, ?_, ?_, ?_, ?_, ?_, ?_, ?_, ?_, ?_, ?_, ?_, ?_, ?_, ?_, ?_, ?_, ?_, ?_, ?_, ?_, ?_, ?_, ?_, ?_, ?_, ?_, ?_, ?_, ?_, ?_, ?_, ?_, ?_, ?_, ?_, trivial⟩ <;> first | exact le_any _ | with_reducible exact le_rfl' _ | (refine .inl (congrArg V.bool ?_); (first | (simp [hmf, *]; done) | (simp [hmf, *] <;> omega) | (rw [Bool.eq_iff_iff]; simp [hmf, *] <;> omega) | (simp_all [hmf]; done) | (simp_all [hmf]; omega))) | exact le_rfl' _
     ·
      try simp only [bsimp] at hg7_3
      refine SOps.onEv tab_ok rfl rfl (by simp only [kE, kT, kL, kC]) (by simp only [kE, kT, kL, kC] <;> rfl) (by simp only [kP] <;> rfl) ?_
      refine SOps.onEv tab_ok rfl rfl (by simp only [kE, kT, kL, kC]) (by simp only [kE, kT, kL, kC] <;> rfl) (by simp only [kP] <;> rfl) ?_
      refine SOps.onEv tab_ok rfl rfl (by simp only [kE, kT, kL, kC]) (by simp only [kE, kT, kL, kC] <;> rfl) (by simp only [kP] <;> rfl) ?_
      refine SOps.split (d := 45) (by simp only [kE, kT, kL, kC] <;> rfl) (by simp only [kP] <;> rfl) (by simp only [kP] <;> rfl) (fun hg7_6 => ?_) (fun hg7_6 => ?_)
      ·
       try simp only [bsimp] at hg7_6
       have hpos : 0 < i := by omega
       have hbf := beforeB_get (p := fun (x y : Box) => decide (x.gid < y.gid)) hi hpos
       refine SOps.onEv tab_ok rfl rfl (by simp only [kE, kT, kL, kC]) (by simp only [kE, kT, kL, kC] <;> rfl) (by simp only [kP] <;> rfl) ?_
       refine SOps.onEv tab_ok rfl rfl (by simp only [kE, kT, kL, kC]) (by simp only [kE, kT, kL, kC] <;> rfl) (by simp only [kP] <;> rfl) ?_
       refine SOps.onEv tab_ok rfl rfl (by simp only [kE, kT, kL, kC]) (by simp only [kE, kT, kL, kC] <;> rfl) (by simp only [kP] <;> rfl) ?_
       refine SOps.onEv tab_ok rfl rfl (by simp only [kE, kT, kL, kC]) (by simp only [kE, kT, kL, kC, wrap_pred hpos (by omega)] <;> rfl) (by simp only [kP] <;> rfl) ?_
       refine SOps.onEv tab_ok rfl rfl (by simp only [kE, kT, kL, kC]) (ev_idx_map (by simp only [kE, kT, kL, kC] <;> rfl) (by simp only [kE, kT, kL, kC] <;> rfl) (by omega) (by simp only [kE, kT, kL, kC] <;> rfl)) (by simp only [kP] <;> rfl) ?_
       refine SOps.onEv tab_ok rfl rfl (by simp only [kE, kT, kL, kC]) (by simp only [kE, kT, kL, kC] <;> rfl) (by simp only [kP] <;> rfl) ?_
       refine SOps.onEv tab_ok rfl rfl (by simp only [kE, kT, kL, kC]) (by simp only [kE, kT, kL, kC] <;> rfl) (by simp only [kP] <;> rfl) ?_
       refine SOps.onEv tab_ok rfl rfl (by simp only [kE, kT, kL, kC]) (by simp only [kE, kT, kL, kC] <;> rfl) (by simp only [kP] <;> rfl) ?_
       refine SOps.onEv tab_ok rfl rfl (by simp only [kE, kT, kL, kC]) (by simp only [kE, kT, kL, kC] <;> rfl) (by simp only [kP] <;> rfl) ?_
       refine SOps.onEv tab_ok rfl rfl (by simp only [kE, kT, kL, kC]) (by simp only [kE, kT, kL, kC] <;> rfl) (by simp only [kP] <;> rfl) ?_
       refine SOps.onEv tab_ok rfl rfl (by simp only [kE, kT, kL, kC]) (by simp only [kE, kT, kL, kC] <;> rfl) (by simp only [kP] <;> rfl) ?_
       iterate 2 (refine SV ?_)
       refine SOps.split (d := 58) (by simp only [kE, kT, kL, kC] <;> rfl) (by simp only [kP] <;> rfl) (by simp only [kP] <;> rfl) (fun hg7_19 => ?_) (fun hg7_19 => ?_)
       ·
        try simp only [bsimp] at hg7_19
        refine SOps.offU rfl rfl (.inl (by simp only [kE, kT, kL, kC, Bool.not_true, Bool.not_false])) (by simp only [kP] <;> rfl) ?_
        refine SOps.offU rfl rfl (.inl (by simp only [kE, kT, kL, kC, Bool.not_true, Bool.not_false])) (by simp only [kP] <;> rfl) ?_
        refine SOps.offU rfl rfl (.inl (by simp only [kE, kT, kL, kC, Bool.not_true, Bool.not_false])) (by simp only [kP] <;> rfl) ?_
        refine SOps.offU rfl rfl (.inl (by simp only [kE, kT, kL, kC, Bool.not_true, Bool.not_false])) (by simp only [kP] <;> rfl) ?_
        refine SOps.offU rfl rfl (.inl (by simp only [kE, kT, kL, kC, Bool.not_true, Bool.not_false])) (by simp only [kP] <;> rfl) ?_
        refine SOps.offU rfl rfl (.inl (by simp only [kE, kT, kL, kC, Bool.not_true, Bool.not_false])) (by simp only [kP] <;> rfl) ?_
        iterate 2 (refine SV ?_)
        refine SOps.offU rfl rfl (.inl (by simp only [kE, kT, kL, kC, Bool.not_true, Bool.not_false])) (by simp only [kP] <;> rfl) ?_
        refine SOps.offU rfl rfl (.inl (by simp only [kE, kT, kL, kC, Bool.not_true, Bool.not_false])) (by simp only [kP] <;> rfl) ?_
        refine SOps.offU rfl rfl (.inl (by simp only [kE, kT, kL, kC, Bool.not_true, Bool.not_false])) (by simp only [kP] <;> rfl) ?_
        refine SOps.offU rfl rfl (.inl (by simp only [kE, kT, kL, kC, Bool.not_true, Bool.not_false])) (by simp only [kP] <;> rfl) ?_
        refine SOps.offU rfl rfl (.inl (by simp only [kE, kT, kL, kC, Bool.not_true, Bool.not_false])) (by simp only [kP] <;> rfl) ?_
        iterate 2 (refine SV ?_)
        refine SOps.offU rfl rfl (.inl (by simp only [kE, kT, kL, kC, Bool.not_true, Bool.not_false])) (by simp only [kP] <;> rfl) ?_
        refine SOps.offU rfl rfl (.inl (by simp only [kE, kT, kL, kC, Bool.not_true, Bool.not_false])) (by simp only [kP] <;> rfl) ?_
        refine SOps.offU rfl rfl (.inl (by simp only [kE, kT, kL, kC, Bool.not_true, Bool.not_false])) (by simp only [kP] <;> rfl) ?_
        refine SOps.offU rfl rfl (.inl (by simp only [kE, kT, kL, kC, Bool.not_true, Bool.not_false])) (by simp only [kP] <;> rfl) ?_
        refine SV ?_
        refine SOps.nil ?_
        refine TOps.nil ?_
        refine ⟨rfl, ?_, rfl, rfl⟩
        refine ⟨?_, ?_, ?_, ?_, ?_, ?_, ?_, ?_, ?_, ?_, ?_, ?_, ?_, ?_, ?_, ?_, ?_, ?_, ?_, ?_, ?_, ?_, ?_, ?_, ?_, ?_, ?_, ?_, ?_, ?_, ?_, ?_, ?_, ?_, ?_, ?_, ?_, ?_, ?_, ?_, ?_, ?_, ?_, ?_, ?_, ?_, ?_, ?_, ?_, ?_, ?_, ?_, ?_, ?_, ?_, ?_, ?_, ?_, ?_, ?_, ?_, ?_, ?_, ?_, ?_, ?_, ?_, ?_, ?_, ?_, ?_, ?_, ?_, ?_, ?_, ?_, ?_, ?_, ?_, ?_, ?_, ?_, ?_, ?_, ?_, ?_, ?_, ?_, ?_, ?_, ?_, ?_, ?_, ?_, ?_, ?_, ?_, trivial⟩ <;> first | exact le_any _ | with_reducible exact le_rfl' _ | (refine .inl (congrArg V.bool ?_); (first | (simp [hmf, *]; done) | (simp [hmf, *] <;> omega) | (rw [Bool.eq_iff_iff]; simp [hmf, *] <;> omega) | (simp_all [hmf]; done) | (simp_all [hmf]; omega))) | exact le_rfl' _
       ·
        try simp only [bsimp] at hg7_19
        refine SOps.onEv tab_ok rfl rfl (by simp only [kE, kT, kL, kC]) (by simp only [kE, kT, kL, kC] <;> rfl) (by simp only [kP] <;> rfl) ?_
        refine SOps.onEv tab_ok rfl rfl (by simp only [kE, kT, kL, kC]) (by simp only [kE, kT, kL, kC] <;> rfl) (by simp only [kP] <;> rfl) ?_
        refine SOps.onEv tab_ok rfl rfl (by simp only [kE, kT, kL, kC]) (by simp only [kE, kT, kL, kC] <;> rfl) (by simp only [kP] <;> rfl) ?_
        refine SOps.onS0 rfl rfl (by simp only [kE, kT, kL, kC]) (OpS.weakM rfl (by simp only [kE, kT, kL, kC] <;> rfl) (by simp only [kE, kT, kL, kC] <;> rfl) cl169 (w_impl_BoxNamed s s.boxes[i].name (by have := h.1.1; omega))) (by simp only [kP] <;> rfl) ?_
        refine SOps.onEv tab_ok rfl rfl (by simp only [kE, kT, kL, kC]) (by simp only [kE, kT, kL, kC] <;> rfl) (by simp only [kP] <;> rfl) ?_
        refine SOps.onEv tab_ok rfl rfl (by simp only [kE, kT, kL, kC]) (by simp only [kE, kT, kL, kC] <;> rfl) (by simp only [kP] <;> rfl) ?_
        iterate 2 (refine SV ?_)
        refine SOps.split (d := 66) (by simp only [kE, kT, kL, kC] <;> rfl) (by simp only [kP] <;> rfl) (by simp only [kP] <;> rfl) (fun hg7_27 => ?_) (fun hg7_27 => ?_)
        ·
         try simp only [bsimp] at hg7_27
         refine SOps.offU rfl rfl (.inl (by simp only [kE, kT, kL, kC, Bool.not_true, Bool.not_false])) (by simp only [kP] <;> rfl) ?_
         refine SOps.offU rfl rfl (.inl (by simp only [kE, kT, kL, kC, Bool.not_true, Bool.not_false])) (by simp only [kP] <;> rfl) ?_
         refine SOps.offU rfl rfl (.inl (by simp only [kE, kT, kL, kC, Bool.not_true, Bool.not_false])) (by simp only [kP] <;> rfl) ?_
         refine SOps.offU rfl rfl (.inl (by simp only [kE, kT, kL, kC, Bool.not_true, Bool.not_false])) (by simp only [kP] <;> rfl) ?_
         refine SOps.offU rfl rfl (.inl (by simp only [kE, kT, kL, kC, Bool.not_true, Bool.not_false])) (by simp only [kP] <;> rfl) ?_
         iterate 2 (refine SV ?_)
         refine SOps.offU rfl rfl (.inl (by simp only [kE, kT, kL, kC, Bool.not_true, Bool.not_false])) (by simp only [kP] <;> rfl) ?_
         refine SOps.offU rfl rfl (.inl (by simp only [kE, kT, kL, kC, Bool.not_true, Bool.not_false])) (by simp only [kP] <;> rfl) ?_
         refine SOps.offU rfl rfl (.inl (by simp only [kE, kT, kL, kC, Bool.not_true, Bool.not_false])) (by simp only [kP] <;> rfl) ?_
         refine SOps.offU rfl rfl (.inl (by simp only [kE, kT, kL, kC, Bool.not_true, Bool.not_false])) (by simp only [kP] <;> rfl) ?_
         refine SV ?_
         refine SOps.nil ?_
         refine TOps.nil ?_
         refine ⟨rfl, ?_, rfl, rfl⟩
         refine ⟨?_, ?_, ?_, ?_, ?_, ?_, ?_, ?_, ?_, ?_, ?_, ?_, ?_, ?_, ?_, ?_, ?_, ?_, ?_, ?_, ?_, ?_, ?_, ?_, ?_, ?_, ?_, ?_, ?_, ?_, ?_, ?_, ?_, ?_, ?_, ?_, ?_, ?_, ?_, ?_, ?_, ?_, ?_, ?_, ?_, ?_, ?_, ?_, ?_, ?_, ?_, ?_, ?_, ?_, ?_, ?_, ?_, ?_, ?_, ?_, ?_, ?_, ?_, ?_, ?_, ?_, ?_, ?_, ?_, ?_, ?_, ?_, ?_, ?_, ?_, ?_, ?_, ?_, ?_, ?_, ?_, ?_, ?_, ?_, ?_, ?_, ?_, ?_, ?_, ?_, ?_, ?_, ?_, ?_, ?_, ?_, ?_, trivial⟩ <;> first | exact le_any _ | with_reducible exact le_rfl' _ | (refine .inl (congrArg V.bool ?_); (first | (simp [hmf, *]; done) | (simp [hmf, *] <;> omega) | (rw [Bool.eq_iff_iff]; simp [hmf, *] <;> omega) | (simp_all [hmf]; done) | (simp_all [hmf]; omega))) | exact le_rfl' _
        ·
         try simp only [bsimp] at hg7_27
         refine SOps.onEv tab_ok rfl rfl (by simp only [kE, kT, kL, kC]) (by simp only [kE, kT, kL, kC] <;> rfl) (by simp only [kP] <;> rfl) ?_
         refine SOps.onEv tab_ok rfl rfl (by simp only [kE, kT, kL, kC]) (by simp only [kE, kT, kL, kC] <;> rfl) (by simp only [kP] <;> rfl) ?_
         refine SOps.onEv tab_ok rfl rfl (by simp only [kE, kT, kL, kC]) (by simp only [kE, kT, kL, kC] <;> rfl) (by simp only [kP] <;> rfl) ?_
         refine SOps.onEv tab_ok rfl rfl (by simp only [kE, kT, kL, kC]) (by simp only [kE, kT, kL, kC] <;> rfl) (by simp only [kP] <;> rfl) ?_
         refine SOps.onS0 rfl rfl (by simp only [kE, kT, kL, kC]) (OpS.weakM rfl (by simp only [kE, kT, kL, kC] <;> rfl) (by simp only [kE, kT, kL, kC] <;> rfl) cl170 (w_slices_Contains___int_int_ s.gone s.boxes[i].gid (by have := h.2; omega))) (by simp only [kP] <;> rfl) ?_
         iterate 2 (refine SV ?_)
         refine SOps.split (d := 73) (by simp only [kE, kT, kL, kC] <;> rfl) (by simp only [kP] <;> rfl) (by simp only [kP] <;> rfl) (fun hg7_34 => ?_) (fun hg7_34 => ?_)
         ·
          try simp only [bsimp] at hg7_34
          refine SOps.offU rfl rfl (.inl (by simp only [kE, kT, kL, kC, Bool.not_true, Bool.not_false])) (by simp only [kP] <;> rfl) ?_
          refine SOps.offU rfl rfl (.inl (by simp only [kE, kT, kL, kC, Bool.not_true, Bool.not_false])) (by simp only [kP] <;> rfl) ?_
          refine SOps.offU rfl rfl (.inl (by simp only [kE, kT, kL, kC, Bool.not_true, Bool.not_false])) (by simp only [kP] <;> rfl) ?_
          refine SOps.offU rfl rfl (.inl (by simp only [kE, kT, kL, kC, Bool.not_true, Bool.not_false])) (by simp only [kP] <;> rfl) ?_
          refine SV ?_
          refine SOps.nil ?_
          refine TOps.nil ?_
          refine ⟨rfl, ?_, rfl, rfl⟩
          refine ⟨?_, ?_, ?_, ?_, ?_, ?_, ?_, ?_, ?_, ?_, ?_, ?_, ?_, ?_, ?_, ?_, ?_, ?_, ?_, ?_, ?_, ?_, ?_, ?_, ?_, ?_, ?_, ?_, ?_, ?_, ?_, ?_, ?_, ?_, ?_, ?_, ?_, ?_, ?_, ?_, ?_, ?_, ?_, ?_, ?_, ?_, ?_, ?_, ?_, ?_, ?_, ?_, ?_, ?_, ?_, ?_, ?_, ?_, ?_, ?_, ?_, ?_, ?_, ?_, ?_, ?_, ?_, ?_, ?_, ?_, ?_, ?_, ?_, ?_, ?_, ?_, ?_, ?_, ?_, ?_, ?_, ?_, ?_, ?_, ?_, ?_, ?_, ?_, ?_, ?_, ?_, ?_, ?_, ?_, ?_, ?_, ?_, trivial⟩ <;> first | exact le_any _ | with_reducible exact le_rfl' _ | (refine .inl (congrArg V.bool ?_); (first | (simp [hmf, *]; done) | (simp [hmf, *] <;> omega) | (rw [Bool.eq_iff_iff]; simp [hmf, *] <;> omega) | (simp_all [hmf]; done) | (simp_all [hmf]; omega))) | exact le_rfl' _
         ·
          try simp only [bsimp] at hg7_34
          refine SOps.onEv tab_ok rfl rfl (by simp only [kE, kT, kL, kC]) (by simp only [kE, kT, kL, kC] <;> rfl) (by simp only [kP] <;> rfl) ?_
          refine SOps.onEv tab_ok rfl rfl (by simp only [kE, kT, kL, kC]) (by simp only [kE, kT, kL, kC] <;> rfl) (by simp only [kP] <;> rfl) ?_
          refine SOps.onEv tab_ok rfl rfl (by simp only [kE, kT, kL, kC]) (by simp only [kE, kT, kL, kC] <;> rfl) (by simp only [kP] <;> rfl) ?_
          refine SOps.onS0 rfl rfl (by simp only [kE, kT, kL, kC]) (OpS.weakM rfl (by simp only [kE, kT, kL, kC] <;> rfl) (by simp only [kE, kT, kL, kC] <;> rfl) cl171 (w_impl_isLate s.boxes[i] s.time (by have := (h.1.2 _ (List.getElem_mem hi)).2.1.1; omega) (fun m hm => by have := ((h.1.2 _ (List.getElem_mem hi)).2.1.2 m hm).1; omega))) (by simp only [kP] <;> rfl) ?_
          refine SV ?_
          refine SOps.nil ?_
          refine TOps.nil ?_
          refine ⟨rfl, ?_, rfl, rfl⟩
          refine ⟨?_, ?_, ?_, ?_, ?_, ?_, ?_, ?_, ?_, ?_, ?_, ?_, ?_, ?_, ?_, ?_, ?_, ?_, ?_, ?_, ?_, ?_, ?_, ?_, ?_, ?_, ?_, ?_, ?_, ?_, ?_, ?_, ?_, ?_, ?_, ?_, ?_, ?_, ?_, ?_, ?_, ?_, ?_, ?_, ?_, ?_, ?_, ?_, ?_, ?_, ?_, ?_, ?_, ?_, ?_, ?_, ?_, ?_, ?_, ?_, ?_, ?_, ?_, ?_, ?_, ?_, ?_, ?_, ?_, ?_, ?_, ?_, ?_, ?_, ?_, ?_, ?_, ?_, ?_, ?_, ?_, ?_, ?_, ?_, ?_, ?_, ?_, ?_, ?_, ?_, ?_, ?_, ?_, ?_, ?_, ?_, ?_, trivial⟩ <;> first | exact le_any _ | with_reducible exact le_rfl' _ | (refine .inl (congrArg V.bool ?_); (first | (simp [hmf, *]; done) | (simp [hmf, *] <;> omega) | (rw [Bool.eq_iff_iff]; simp [hmf, *] <;> omega) | (simp_all [hmf]; done) | (simp_all [hmf]; omega))) | exact le_rfl' _
      ·
       try simp only [bsimp] at hg7_6
       have hbf : beforeB s.boxes (fun x y => decide (x.gid < y.gid)) i = true := by rw [show i = 0 by omega]; rfl
       refine SOps.offU rfl rfl (.inl (by simp only [kE, kT, kL, kC, Bool.not_true, Bool.not_false])) (by simp only [kP] <;> rfl) ?_
       refine SOps.offU rfl rfl (.inl (by simp only [kE, kT, kL, kC, Bool.not_true, Bool.not_false])) (by simp only [kP] <;> rfl) ?_
       refine SOps.offU rfl rfl (.inl (by simp only [kE, kT, kL, kC, Bool.not_true, Bool.not_false])) (by simp only [kP] <;> rfl) ?_
       refine SOps.offU rfl rfl (.inl (by simp only [kE, kT, kL, kC, Bool.not_true, Bool.not_false])) (by simp only [kP] <;> rfl) ?_
       refine SOps.offU rfl rfl (.inl (by simp only [kE, kT, kL, kC, Bool.not_true, Bool.not_false])) (by simp only [kP] <;> rfl) ?_
       refine SOps.offU rfl rfl (.inl (by simp only [kE, kT, kL, kC, Bool.not_true, Bool.not_false])) (by simp only [kP] <;> rfl) ?_
       refine SOps.offU rfl rfl (.inl (by simp only [kE, kT, kL, kC, Bool.not_true, Bool.not_false])) (by simp only [kP] <;> rfl) ?_
       refine SOps.offU rfl rfl (.inl (by simp only [kE, kT, kL, kC, Bool.not_true, Bool.not_false])) (by simp only [kP] <;> rfl) ?_
       refine SOps.offU rfl rfl (.inl (by simp only [kE, kT, kL, kC, Bool.not_true, Bool.not_false])) (by simp only [kP] <;> rfl) ?_
       refine SOps.offU rfl rfl (.inl (by simp only [kE, kT, kL, kC, Bool.not_true, Bool.not_false])) (by simp only [kP] <;> rfl) ?_
       refine SOps.onEv tab_ok rfl rfl (by simp only [kE, kT, kL, kC]) (by simp only [kE, kT, kL, kC] <;> rfl) (by simp only [kP] <;> rfl) ?_
       iterate 2 (refine SV ?_)
       refine SOps.onEv tab_ok rfl rfl (by simp only [kE, kT, kL, kC]) (by simp only [kE, kT, kL, kC] <;> rfl) (by simp only [kP] <;> rfl) ?_
       refine SOps.onEv tab_ok rfl rfl (by simp only [kE, kT, kL, kC]) (by simp only [kE, kT, kL, kC] <;> rfl) (by simp only [kP] <;> rfl) ?_
       refine SOps.onEv tab_ok rfl rfl (by simp only [kE, kT, kL, kC]) (by simp only [kE, kT, kL, kC] <;> rfl) (by simp only [kP] <;> rfl) ?_
       refine SOps.onS0 rfl rfl (by simp only [kE, kT, kL, kC]) (OpS.weakM rfl (by simp only [kE, kT, kL, kC] <;> rfl) (by simp only [kE, kT, kL, kC] <;> rfl) cl169 (w_impl_BoxNamed s s.boxes[i].name (by have := h.1.1; omega))) (by simp only [kP] <;> rfl) ?_
       refine SOps.onEv tab_ok rfl rfl (by simp only [kE, kT, kL, kC]) (by simp only [kE, kT, kL, kC] <;> rfl) (by simp only [kP] <;> rfl) ?_
       refine SOps.onEv tab_ok rfl rfl (by simp only [kE, kT, kL, kC]) (by simp only [kE, kT, kL, kC] <;> rfl) (by simp only [kP] <;> rfl) ?_
       iterate 2 (refine SV ?_)
       refine SOps.split (d := 66) (by simp only [kE, kT, kL, kC] <;> rfl) (by simp only [kP] <;> rfl) (by simp only [kP] <;> rfl) (fun hg7_27 => ?_) (fun hg7_27 => ?_)
       ·
        try simp only [bsimp] at hg7_27
        refine SOps.offU rfl rfl (.inl (by simp only [kE, kT, kL, kC, Bool.not_true, Bool.not_false])) (by simp only [kP] <;> rfl) ?_
        refine SOps.offU rfl rfl (.inl (by simp only [kE, kT, kL, kC, Bool.not_true, Bool.not_false])) (by simp only [kP] <;> rfl) ?_
        refine SOps.offU rfl rfl (.inl (by simp only [kE, kT, kL, kC, Bool.not_true, Bool.not_false])) (by simp only [kP] <;> rfl) ?_
        refine SOps.offU rfl rfl (.inl (by simp only [kE, kT, kL, kC, Bool.not_true, Bool.not_false])) (by simp only [kP] <;> rfl) ?_
        refine SOps.offU rfl rfl (.inl (by simp only [kE, kT, kL, kC, Bool.not_true, Bool.not_false])) (by simp only [kP] <;> rfl) ?_
        iterate 2 (refine SV ?_)
        refine SOps.offU rfl rfl (.inl (by simp only [kE, kT, kL, kC, Bool.not_true, Bool.not_false])) (by simp only [kP] <;> rfl) ?_
        refine SOps.offU rfl rfl (.inl (by simp only [kE, kT, kL, kC, Bool.not_true, Bool.not_false])) (by simp only [kP] <;> rfl) ?_
        refine SOps.offU rfl rfl (.inl (by simp only [kE, kT, kL, kC, Bool.not_true, Bool.not_false])) (by simp only [kP] <;> rfl) ?_
        refine SOps.offU rfl rfl (.inl (by simp only [kE, kT, kL, kC, Bool.not_true, Bool.not_false])) (by simp only [kP] <;> rfl) ?_
        refine SV ?_
        refine SOps.nil ?_
        refine TOps.nil ?_
        refine ⟨rfl, ?_, rfl, rfl⟩
        refine ⟨?_, ?_, ?_, ?_, ?_, ?_, ?_, ?_, ?_, ?_, ?_, ?_, ?_, ?_, ?_, ?_, ?_, ?_, ?_, ?_, ?_, ?_, ?_, ?_, ?_, ?_, ?_, ?_, ?_, ?_, ?_, ?_, ?_, ?_, ?_, ?_, ?_, ?_, ?_, ?_, ?_, ?_, ?_, ?_, ?_, ?_, ?_, ?_, ?_, ?_, ?_, ?_, ?_, ?_, ?_, ?_, ?_, ?_, ?_, ?_, ?_, ?_, ?_, ?_, ?_, ?_, ?_, ?_, ?_, ?_, ?_, ?_, ?_, ?_, ?_, ?_, ?_, ?_, ?_, ?_, ?_, ?_, ?_, ?_, ?_, ?_, ?_, ?_, ?_, ?_, ?_, ?_, ?_, ?_, ?_, ?_, ?_, trivial⟩ <;> first | exact le_any _ | with_reducible exact le_rfl' _ | (refine .inl (congrArg V.bool ?_); (first | (simp [hmf, *]; done) | (simp [hmf, *] <;> omega) | (rw [Bool.eq_iff_iff]; simp [hmf, *] <;> omega) | (simp_all [hmf]; done) | (simp_all [hmf]; omega))) | exact le_rfl' _
       ·
        try simp only [bsimp] at hg7_27
        refine SOps.onEv tab_ok rfl rfl (by simp only [kE, kT, kL, kC]) (by simp only [kE, kT, kL, kC] <;> rfl) (by simp only [kP] <;> rfl) ?_
        refine SOps.onEv tab_ok rfl rfl (by simp only [kE, kT, kL, kC]) (by simp only [kE, kT, kL, kC] <;> rfl) (by simp only [kP] <;> rfl) ?_
        refine SOps.onEv tab_ok rfl rfl (by simp only [kE, kT, kL, kC]) (by simp only [kE, kT, kL, kC] <;> rfl) (by simp only [kP] <;> rfl) ?_
        refine SOps.onEv tab_ok rfl rfl (by simp only [kE, kT, kL, kC]) (by simp only [kE, kT, kL, kC] <;> rfl) (by simp only [kP] <;> rfl) ?_
        refine SOps.onS0 rfl rfl (by simp only [kE, kT, kL, kC]) (OpS.weakM rfl (by simp only [kE, kT, kL, kC] <;> rfl) (by simp only [kE, kT, kL, kC] <;> rfl) cl170 (w_slices_Contains___int_int_ s.gone s.boxes[i].gid (by have := h.2; omega))) (by simp only [kP] <;> rfl) ?_
        iterate 2 (refine SV ?_)
        refine SOps.split (d := 73) (by simp only [kE, kT, kL, kC] <;> rfl) (by simp only [kP] <;> rfl) (by simp only [kP] <;> rfl) (fun hg7_34 => ?_) (fun hg7_34 => ?_)
        ·
         try simp only [bsimp] at hg7_34
         refine SOps.offU rfl rfl (.inl (by simp only [kE, kT, kL, kC, Bool.not_true, Bool.not_false])) (by simp only [kP] <;> rfl) ?_
         refine SOps.offU rfl rfl (.inl (by simp only [kE, kT, kL, kC, Bool.not_true, Bool.not_false])) (by simp only [kP] <;> rfl) ?_
         refine SOps.offU rfl rfl (.inl (by simp only [kE, kT, kL, kC, Bool.not_true, Bool.not_false])) (by simp only [kP] <;> rfl) ?_
         refine SOps.offU rfl rfl (.inl (by simp only [kE, kT, kL, kC, Bool.not_true, Bool.not_false])) (by simp only [kP] <;> rfl) ?_
         refine SV ?_
         refine SOps.nil ?_
         refine TOps.nil ?_
         refine ⟨rfl, ?_, rfl, rfl⟩
         refine ⟨?_, ?_, ?_, ?_, ?_, ?_, ?_, ?_, ?_, ?_, ?_, ?_, ?_, ?_, ?_, ?_, ?_, ?_, ?_, ?_, ?_, ?_, ?_, ?_, ?_, ?_, ?_, ?_, ?_, ?_, ?_, ?_, ?_, ?_, ?_, ?_, ?_, ?_, ?_, ?_, ?_, ?_, ?_, ?_, ?_, ?_, ?_, ?_, ?_, ?_, ?_, ?_, ?_, ?_, ?_, ?_, ?_, ?_, ?_, ?_, ?_, ?_, ?_, ?_, ?_, ?_, ?_, ?_, ?_, ?_, ?_, ?_, ?_, ?_, ?_, ?_, ?_, ?_, ?_, ?_, ?_, ?_, ?_, ?_, ?_, ?_, ?_, ?_, ?_, ?_, ?_, ?_, ?_, ?_, ?_, ?_, ?_, trivial⟩ <;> first | exact le_any _ | with_reducible exact le_rfl' _ | (refine .inl (congrArg V.bool ?_); (first | (simp [hmf, *]; done) | (simp [hmf, *] <;> omega) | (rw [Bool.eq_iff_iff]; simp [hmf, *] <;> omega) | (simp_all [hmf]; done) | (simp_all [hmf]; omega))) | exact le_rfl' _
        ·
         try simp only [bsimp] at hg7_34
         refine SOps.onEv tab_ok rfl rfl (by simp only [kE, kT, kL, kC]) (by simp only [kE, kT, kL, kC] <;> rfl) (by simp only [kP] <;> rfl) ?_
         refine SOps.onEv tab_ok rfl rfl (by simp only [kE, kT, kL, kC]) (by simp only [kE, kT, kL, kC] <;> rfl) (by simp only [kP] <;> rfl) ?_
         refine SOps.onEv tab_ok rfl rfl (by simp only [kE, kT, kL, kC]) (by simp only [kE, kT, kL, kC] <;> rfl) (by simp only [kP] <;> rfl) ?_
         refine SOps.onS0 rfl rfl (by simp only [kE, kT, kL, kC]) (OpS.weakM rfl (by simp only [kE, kT, kL, kC] <;> rfl) (by simp only [kE, kT, kL, kC] <;> rfl) cl171 (w_impl_isLate s.boxes[i] s.time (by have := (h.1.2 _ (List.getElem_mem hi)).2.1.1; omega) (fun m hm => by have := ((h.1.2 _ (List.getElem_mem hi)).2.1.2 m hm).1; omega))) (by simp only [kP] <;> rfl) ?_
         refine SV ?_
         refine SOps.nil ?_
         refine TOps.nil ?_
         refine ⟨rfl, ?_, rfl, rfl⟩
         refine ⟨?_, ?_, ?_, ?_, ?_, ?_, ?_, ?_, ?_, ?_, ?_, ?_, ?_, ?_, ?_, ?_, ?_, ?_, ?_, ?_, ?_, ?_, ?_, ?_, ?_, ?_, ?_, ?_, ?_, ?_, ?_, ?_, ?_, ?_, ?_, ?_, ?_, ?_, ?_, ?_, ?_, ?_, ?_, ?_, ?_, ?_, ?_, ?_, ?_, ?_, ?_, ?_, ?_, ?_, ?_, ?_, ?_, ?_, ?_, ?_, ?_, ?_, ?_, ?_, ?_, ?_, ?_, ?_, ?_, ?_, ?_, ?_, ?_, ?_, ?_, ?_, ?_, ?_, ?_, ?_, ?_, ?_, ?_, ?_, ?_, ?_, ?_, ?_, ?_, ?_, ?_, ?_, ?_, ?_, ?_, ?_, ?_, trivial⟩ <;> first | exact le_any _ | with_reducible exact le_rfl' _ | (refine .inl (congrArg V.bool ?_); (first | (simp [hmf, *]; done) | (simp [hmf, *] <;> omega) | (rw [Bool.eq_iff_iff]; simp [hmf, *] <;> omega) | (simp_all [hmf]; done) | (simp_all [hmf]; omega))) | exact le_rfl' _
    ·
     refine Ok.cond (b := _) (by simp only [kE, kT, kL, kC] <;> rfl) (fun hb7 => ?_) (fun hb7 => ?_)
     ·
      try simp only [bsimp] at hb7
      rw [show storeOk s = false by unfold storeOk; rw [allUp_no hi (show boxGood s i = false by unfold boxGood; rw [hb7, Bool.false_and]), Bool.and_false]]
      refine OQ ?_
      refine EV ?_
      refine ON ?_
      refine Ok.ret ?_
      with_reducible repeat (first | refine thenQ_ret ?_ | refine blockQ_ret ?_)
      refine RT ?_
      rfl
     ·
      try simp only [bsimp] at hb7
      refine Ok.skip ?_
      refine OQ ?_
      iterate 4 (refine EV ?_)
      refine ON ?_
      refine Ok.block ?_
      refine Ok.loopWZ (τ := Nat) (fun x => [(3, .sl 2 1 0 ((seenG s i x).map cZ)), (82, .int .i64 (x : Int))]) [2, 7, 83, 84, 85, 86, 87, 88, 89, 90, 91, 92, 93, 94, 95] (fun x => by simp only [kover] <;> rfl) (fun x => x ≤ s.boxes[i].mails.length ∧ ∀ k, k < x → newAt s i k = true) (fun x => s.boxes[i].mails.length - x) 0 (by omega) (by refine ⟨?_, ?_, ?_, ?_, ?_, ?_, ?_, ?_, ?_, ?_, ?_, ?_, ?_, ?_, ?_, ?_, ?_, ?_, ?_, ?_, ?_, ?_, ?_, ?_, ?_, ?_, ?_, ?_, ?_, ?_, ?_, ?_, ?_, ?_, ?_, ?_, ?_, ?_, ?_, ?_, ?_, ?_, ?_, ?_, ?_, ?_, ?_, ?_, ?_, ?_, ?_, ?_, ?_, ?_, ?_, ?_, ?_, ?_, ?_, ?_, ?_, ?_, ?_, ?_, ?_, ?_, ?_, ?_, ?_, ?_, ?_, ?_, ?_, ?_, ?_, ?_, ?_, ?_, ?_, ?_, ?_, ?_, ?_, ?_, ?_, ?_, ?_, ?_, ?_, ?_, ?_, ?_, ?_, ?_, ?_, ?_, ?_, trivial⟩ <;> first | exact le_any _ | with_reducible exact le_rfl' _ | (exact le_rfl' _) | exact le_rfl' _) (⟨Nat.zero_le _, fun k h => by omega⟩) ?_
      rintro j ⟨g1, g2⟩
      refine OQ ?_
      refine EV ?_
      refine ON ?_
      refine Ok.seq ?_
      refine Ok.cond (b := _) (by simp only [kE, kT, kL, kC] <;> rfl) (fun hb10 => ?_) (fun hb10 => ?_)
      ·
       try simp only [bsimp] at hb10
       have hj : j < s.boxes[i].mails.length := by omega
       have hna := newAt_get hi hj
       have hsl := seen_len h hi hj
       refine Ok.skip ?_
       refine Ok.seq ?_
       refine Ok.block ?_
       refine OQ ?_
       refine OkOps.ev tab_ok rfl (ev_idx_map (by simp only [kE, kT, kL, kC] <;> rfl) (by simp only [kE, kT, kL, kC] <;> rfl) (by omega) (by simp only [kE, kT, kL, kC] <;> rfl)) (by simp only [kP] <;> rfl) ?_
       iterate 2 (refine EV ?_)
       refine OkOps.storeE tab_ok rfl rfl (by simp only [kE, kT, kL, kC] <;> rfl) ⟨_, _, by simp only [kE]; rfl⟩ (by first | (simp [V.labelsL, V.labelsLL, V.labels, zz, zf, zy]; done) | (simp [-List.map_map, -List.map_set, -List.map_drop, -List.map_take, -List.map_tail, -List.drop_one, V.labelsL, V.labelsLL, V.labels, zz, zf, zy]; done)) (by simp only [eq_self, V.updL, V.travL, V.travLL, V.trav, updS, updP, and_self, true_and, and_true, false_and, and_false, Nat.reduceEqDiff, Nat.reduceSub, Nat.le_refl, Nat.zero_le, ↓reduceIte, if_true, if_false, kP, zz, zf, zy] <;> rfl) (rfl) ?_
       refine ON ?_
       refine Ok.seq ?_
       refine OQ ?_
       iterate 3 (refine EV ?_)
       refine OkOps.S0 rfl (OpS.weakE rfl (by simp only [kE, kT, kL, kC] <;> rfl) (by simp only [kE, kT, kL, kC, V.eraseL, V.erase, V.travL, V.trav, zz, zf, zy] <;> rfl) cl170 (by simp [V.labels, V.labelsL, V.labelsLL, zz, zf, zy]) (w_slices_Contains___int_int_ (seenG s i j) s.boxes[i].mails[j].gid (by omega))) (by simp only [kP] <;> rfl) ?_
       refine ON ?_
       refine Ok.cond (b := _) (by simp only [kE, kT, kL, kC] <;> rfl) (fun hb12 => ?_) (fun hb12 => ?_)
       ·
        try simp only [bsimp] at hb12
        have hnw : newAt s i j = false := by rw [hna]; simpa using hb12
        rw [show storeOk s = false by unfold storeOk; rw [allUp_no hi (show boxGood s i = false by unfold boxGood; rw [boxNew_get hi, allUp_no hj hnw, Bool.and_false]), Bool.and_false]]
        refine OQ ?_
        refine EV ?_
        refine ON ?_
        refine Ok.ret ?_
        with_reducible repeat (first | refine thenQ_ret ?_ | refine blockQ_ret ?_)
        refine RT ?_
        rfl
       ·
        try simp only [bsimp] at hb12
        have hnw : newAt s i j = true := by rw [hna]; simpa using hb12
        refine Ok.skip ?_
        refine Ok.region ?_
        iterate 3 (refine EV ?_)
        refine OkOps.ev tab_ok rfl (ev_bs (by simp only [kT] <;> rfl) (by simp only [kT] <;> rfl) (by decide) (by decide) (by simp only [kE, kT, kL, kC, List.map_cons, List.map_nil] <;> rfl) (by simp only [kfe, beq_self_eq_true, Bool.and_true, Bool.true_and, decide_true, Nat.zero_add, Nat.lt_add_one, Nat.reduceLT, Nat.reduceAdd, Nat.zero_lt_succ, if_true, ↓reduceIte] <;> rfl)) (by simp only [kP] <;> rfl) ?_
        refine OkOps.append tab_ok rfl rfl (by simp only [kT] <;> rfl) (by simp only [kT] <;> rfl) (by decide) rfl (by simp only [kE, kT, kL, kC] <;> rfl) (.inl ⟨_, _, by simp only [kE, kT, kL, kC] <;> rfl⟩) (by omega) (by omega) (by simp only [List.length_map, List.length_cons, List.length_nil]; omega) (by simp only [List.length_map, List.length_cons, List.length_nil]; omega) (by simp [V.one]) (by simp only [V.killL, V.killLL, V.travL, V.travLL, V.trav, killS, killP, Nat.reduceEqDiff, ↓reduceIte, reduceCtorEq, if_true, if_false, List.append_nil, List.nil_append, List.cons_append, zz, zf, zy] <;> rfl) (by simp only [V.killL, V.killLL, V.travL, V.travLL, V.trav, killS, killP, Nat.reduceEqDiff, ↓reduceIte, reduceCtorEq, if_true, if_false, List.append_nil, List.nil_append, List.cons_append, zz, zf, zy, kP] <;> rfl) (rfl) ?_
        refine EV ?_
        refine ON ?_
        refine Ok.region ?_
        iterate 2 (refine EV ?_)
        refine ON ?_
        refine ⟨j + 1, ?_, rfl, ⟨by omega, up_next g2 hnw⟩, by omega⟩
        simp only [V.renL, V.travL, V.travLL, V.trav, frz, zz, zf, zy, Nat.reduceLeDiff, ↓reduceIte]
        refine ⟨?_, ?_, ?_, ?_, ?_, ?_, ?_, ?_, ?_, ?_, ?_, ?_, ?_, ?_, ?_, ?_, ?_, ?_, ?_, ?_, ?_, ?_, ?_, ?_, ?_, ?_, ?_, ?_, ?_, ?_, ?_, ?_, ?_, ?_, ?_, ?_, ?_, ?_, ?_, ?_, ?_, ?_, ?_, ?_, ?_, ?_, ?_, ?_, ?_, ?_, ?_, ?_, ?_, ?_, ?_, ?_, ?_, ?_, ?_, ?_, ?_, ?_, ?_, ?_, ?_, ?_, ?_, ?_, ?_, ?_, ?_, ?_, ?_, ?_, ?_, ?_, ?_, ?_, ?_, ?_, ?_, ?_, ?_, ?_, ?_, ?_, ?_, ?_, ?_, ?_, ?_, ?_, ?_, ?_, ?_, ?_, ?_, trivial⟩ <;> first | exact le_any _ | with_reducible exact le_rfl' _ | ((first | (rw [wrap_add_one (by omega)]; exact le_rfl' _) | (rw [seen_mail hi hj, List.map_append]; exact le_rfl' _) | (refine le_eqm ?_; rw [seen_mail hi hj, List.map_append]; rfl))) | exact le_rfl' _
      ·
       try simp only [bsimp] at hb10
       obtain rfl : j = s.boxes[i].mails.length := by omega
       have hgd : boxGood s i = true := by unfold boxGood; rw [hb7, boxNew_get hi, allUp_yes g2]; rfl
       refine Ok.exit ?_
       refine Ok.region ?_
       iterate 2 (refine EV ?_)
       refine ON ?_
       refine ⟨i + 1, ?_, rfl, ⟨by omega, up_next h2 hgd⟩, by omega⟩
       simp only [V.renL, V.travL, V.travLL, V.trav, frz, zz, zf, zy, Nat.reduceLeDiff, ↓reduceIte]
       refine ⟨?_, ?_, ?_, ?_, ?_, ?_, ?_, ?_, ?_, ?_, ?_, ?_, ?_, ?_, ?_, ?_, ?_, ?_, ?_, ?_, ?_, ?_, ?_, ?_, ?_, ?_, ?_, ?_, ?_, ?_, ?_, ?_, ?_, ?_, ?_, ?_, ?_, ?_, ?_, ?_, ?_, ?_, ?_, ?_, ?_, ?_, ?_, ?_, ?_, ?_, ?_, ?_, ?_, ?_, ?_, ?_, ?_, ?_, ?_, ?_, ?_, ?_, ?_, ?_, ?_, ?_, ?_, ?_, ?_, ?_, ?_, ?_, ?_, ?_, ?_, ?_, ?_, ?_, ?_, ?_, ?_, ?_, ?_, ?_, ?_, ?_, ?_, ?_, ?_, ?_, ?_, ?_, ?_, ?_, ?_, ?_, ?_, trivial⟩ <;> first | exact le_any _ | with_reducible exact le_rfl' _ | ((first | (rw [wrap_add_one (by omega)]; exact le_rfl' _) | (rw [seen_box hi]; exact le_rfl' _))) | exact le_rfl' _
   ·
    try simp only [bsimp] at hb5
    obtain rfl : i = s.boxes.length := by omega
    rw [show storeOk s = true by unfold storeOk; rw [hh, allUp_yes h2]; rfl]
    refine Ok.exit ?_
    refine OQ ?_
    refine EV ?_
    refine ON ?_
    refine Ok.ret ?_
    with_reducible repeat (first | refine thenQ_ret ?_ | refine blockQ_ret ?_)
    refine RT ?_
    rfl
theorem w_spec_BoxOk (b : Box) (h : smBox b) : Weak Tryz.prog 148 [.agg (cBox b)] (.bool (boxOk b)) := by
 refine Weak.enter tab_ok Tryz.func148 rfl (.inr (by simp [V.labelsL, V.labels, V.labelsLL, zz, zf, zy, or_imp, forall_and])) (t := [.agg (cBox b), .any, .any, .any, .any, .any, .any, .any, .any, .any, .any, .any, .any, .any, .any, .any, .any, .any, .any, .any, .any, .any, .any, .any, .any, .any, .any, .any, .any, .any, .any, .any, .any, .any, .any, .any, .any, .any, .any, .any, .any, .any, .any, .any, .any, .any, .any, .any, .any, .any, .any, .any, .any, .any, .any, .any, .any, .any, .any, .any, .any, .any, .any, .any, .any, .any, .any, .any, .any, .any, .any, .any, .any, .any, .any, .any, .any, .any, .any, .any, .any, .any, .any, .any, .any, .any, .any, .any, .any, .any, .any, .any]) rfl ?_
 refine OQ ?_
 iterate 2 (refine EV ?_)
 refine ON ?_
 refine Ok.seq ?_
 refine Ok.seqC [(38, .bool (!boxHead b))] [5, 6, 7, 8, 9, 10, 11, 12, 13, 14, 15, 16, 17, 18, 19, 20, 21, 22, 23, 24, 25, 26, 27, 28, 29, 30, 31, 32, 33, 34, 35, 36, 37] (by simp only [kover] <;> rfl) ?_ ?_
 ·
  refine Ok.region ?_
  iterate 2 (refine EV ?_)
  refine OkOps.S0 rfl (OpS.weak' rfl (by simp only [kE, kT, kL, kC] <;> rfl) (by simp only [kE, kT, kL, kC] <;> rfl) cl118 (w_spec_l01In b.gid 1 9999)) (by simp only [kP] <;> rfl) ?_
  iterate 2 (refine EV ?_)
  refine OkOps.split (d := 9) (by simp only [kE, kT, kL, kC] <;> rfl) (by simp only [kP] <;> rfl) (by simp only [kP] <;> rfl) (fun hg1_4 => ?_) (fun hg1_4 => ?_)
  ·
   try simp only [bsimp] at hg1_4
   refine OkOps.offU rfl rfl (.inl (by simp only [kE, kT, kL, kC, Bool.not_true, Bool.not_false])) (by simp only [kP] <;> rfl) ?_
   refine OkOps.offU rfl rfl (.inl (by simp only [kE, kT, kL, kC, Bool.not_true, Bool.not_false])) (by simp only [kP] <;> rfl) ?_
   refine OkOps.offU rfl rfl (.inl (by simp only [kE, kT, kL, kC, Bool.not_true, Bool.not_false])) (by simp only [kP] <;> rfl) ?_
   refine OkOps.offU rfl rfl (.inl (by simp only [kE, kT, kL, kC, Bool.not_true, Bool.not_false])) (by simp only [kP] <;> rfl) ?_
   iterate 2 (refine EV ?_)
   refine OkOps.offU rfl rfl (.inl (by simp only [kE, kT, kL, kC, Bool.not_true, Bool.not_false])) (by simp only [kP] <;> rfl) ?_
   refine OkOps.offU rfl rfl (.inl (by simp only [kE, kT, kL, kC, Bool.not_true, Bool.not_false])) (by simp only [kP] <;> rfl) ?_
   refine OkOps.offU rfl rfl (.inl (by simp only [kE, kT, kL, kC, Bool.not_true, Bool.not_false])) (by simp only [kP] <;> rfl) ?_
   refine OkOps.offU rfl rfl (.inl (by simp only [kE, kT, kL, kC, Bool.not_true, Bool.not_false])) (by simp only [kP] <;> rfl) ?_
   iterate 2 (refine EV ?_)
   refine OkOps.offU rfl rfl (.inl (by simp only [kE, kT, kL, kC, Bool.not_true, Bool.not_false])) (by simp only [kP] <;> rfl) ?_
   refine OkOps.offU rfl rfl (.inl (by simp only [kE, kT, kL, kC, Bool.not_true, Bool.not_false])) (by simp only [kP] <;> rfl) ?_
   refine OkOps.offU rfl rfl (.inl (by simp only [kE, kT, kL, kC, Bool.not_true, Bool.not_false])) (by simp only [kP] <;> rfl) ?_
   refine OkOps.offU rfl rfl (.inl (by simp only [kE, kT, kL, kC, Bool.not_true, Bool.not_false])) (by simp only [kP] <;> rfl) ?_
   iterate 2 (refine EV ?_)
   refine OkOps.offU rfl rfl (.inl (by simp only [kE, kT, kL, kC, Bool.not_true, Bool.not_false])) (by simp only [kP] <;> rfl) ?_
   refine OkOps.offU rfl rfl (.inl (by simp only [kE, kT, kL, kC, Bool.not_true, Bool.not_false])) (by simp only [kP] <;> rfl) ?_
   refine OkOps.offU rfl rfl (.inl (by simp only [kE, kT, kL, kC, Bool.not_true, Bool.not_false])) (by simp only [kP] <;> rfl) ?_
   refine OkOps.offU rfl rfl (.inl (by simp only [kE, kT, kL, kC, Bool.not_true, Bool.not_false])) (by simp only [kP] <;> rfl) ?_
   iterate 2 (refine EV ?_)
   refine OkOps.offU rfl rfl (.inl (by simp only [kE, kT, kL, kC, Bool.not_true, Bool.not_false])) (by simp only [kP] <;> rfl) ?_
   refine OkOps.offU rfl rfl (.inl (by simp only [kE, kT, kL, kC, Bool.not_true, Bool.not_false])) (by simp only [kP] <;> rfl) ?_
   refine OkOps.offU rfl rfl (.inl (by simp only [kE, kT, kL, kC, Bool.not_true, Bool.not_false])) (by simp only [kP] <;> rfl) ?_
   refine OkOps.offU rfl rfl (.inl (by simp only [kE, kT, kL, kC, Bool.not_true, Bool.not_false])) (by simp only [kP] <;> rfl) ?_
   refine EV ?_
   refine ON ?_
   refine ⟨rfl, ?_, rfl, rfl⟩
   refine ⟨?_, ?_, ?_, ?_, ?_, ?_, ?_, ?_, ?_, ?_, ?_, ?_, ?_, ?_, ?_, ?_, ?_, ?_, ?_, ?_, ?_, ?_, ?_, ?_, ?_, ?_, ?_, ?_, ?_, ?_, ?_, ?_, ?_, ?_, ?_, ?_, ?_, ?_, ?_, ?_, ?_, ?_, ?_, ?_, ?_, ?_, ?_, ?_, ?_, ?_, ?_, ?_, ?_, ?_, ?_, ?_, ?_, ?_, ?_, ?_, ?_, ?_, ?_, ?_, ?_, ?_, ?_, ?_, ?_, ?_, ?_, ?_, ?_, ?_, ?_, ?_, ?_, ?_, ?_, ?_, ?_, ?_, ?_, ?_, ?_, ?_, ?_, ?_, ?_, ?_, ?_, ?_, trivial⟩ <;> first | exact le_any _ | with_reducible exact le_rfl' _ | (refine .inl (congrArg V.bool ?_); (first | (simp [boxHead, gidOk, *]; done) | (simp [boxHead, gidOk, *] <;> omega) | (rw [Bool.eq_iff_iff]; simp [boxHead, gidOk, *] <;> omega) | (simp_all [boxHead, gidOk]; done) | (simp_all [boxHead, gidOk]; omega))) | exact le_rfl' _
  ·
   try simp only [bsimp] at hg1_4
   refine OO ?_
   refine EV ?_
   refine OO ?_
   refine EV ?_
   refine OO ?_
   refine OkOps.S0 rfl (OpS.weak' rfl (by simp only [kE, kT, kL, kC] <;> rfl) (by simp only [kE, kT, kL, kC] <;> rfl) cl201 (w_spec_NameOk b.name (by have := h.1; omega))) (by simp only [kP] <;> rfl) ?_
   refine OO ?_
   iterate 3 (refine EV ?_)
   refine OkOps.split (d := 15) (by simp only [kE, kT, kL, kC] <;> rfl) (by simp only [kP] <;> rfl) (by simp only [kP] <;> rfl) (fun hg1_10 => ?_) (fun hg1_10 => ?_)
   ·
    try simp only [bsimp] at hg1_10
    refine OkOps.offU rfl rfl (.inl (by simp only [kE, kT, kL, kC, Bool.not_true, Bool.not_false])) (by simp only [kP] <;> rfl) ?_
    refine OkOps.offU rfl rfl (.inl (by simp only [kE, kT, kL, kC, Bool.not_true, Bool.not_false])) (by simp only [kP] <;> rfl) ?_
    refine OkOps.offU rfl rfl (.inl (by simp only [kE, kT, kL, kC, Bool.not_true, Bool.not_false])) (by simp only [kP] <;> rfl) ?_
    refine OkOps.offU rfl rfl (.inl (by simp only [kE, kT, kL, kC, Bool.not_true, Bool.not_false])) (by simp only [kP] <;> rfl) ?_
    iterate 2 (refine EV ?_)
    refine OkOps.offU rfl rfl (.inl (by simp only [kE, kT, kL, kC, Bool.not_true, Bool.not_false])) (by simp only [kP] <;> rfl) ?_
    refine OkOps.offU rfl rfl (.inl (by simp only [kE, kT, kL, kC, Bool.not_true, Bool.not_false])) (by simp only [kP] <;> rfl) ?_
    refine OkOps.offU rfl rfl (.inl (by simp only [kE, kT, kL, kC, Bool.not_true, Bool.not_false])) (by simp only [kP] <;> rfl) ?_
    refine OkOps.offU rfl rfl (.inl (by simp only [kE, kT, kL, kC, Bool.not_true, Bool.not_false])) (by simp only [kP] <;> rfl) ?_
    iterate 2 (refine EV ?_)
    refine OkOps.offU rfl rfl (.inl (by simp only [kE, kT, kL, kC, Bool.not_true, Bool.not_false])) (by simp only [kP] <;> rfl) ?_
    refine OkOps.offU rfl rfl (.inl (by simp only [kE, kT, kL, kC, Bool.not_true, Bool.not_false])) (by simp only [kP] <;> rfl) ?_
    refine OkOps.offU rfl rfl (.inl (by simp only [kE, kT, kL, kC, Bool.not_true, Bool.not_false])) (by simp only [kP] <;> rfl) ?_
    refine OkOps.offU rfl rfl (.inl (by simp only [kE, kT, kL, kC, Bool.not_true, Bool.not_false])) (by simp only [kP] <;> rfl) ?_
    iterate 2 (refine EV ?_)
    refine OkOps.offU rfl rfl (.inl (by simp only [kE, kT, kL, kC, Bool.not_true, Bool.not_false])) (by simp only [kP] <;> rfl) ?_
    refine OkOps.offU rfl rfl (.inl (by simp only [kE, kT, kL, kC, Bool.not_true, Bool.not_false])) (by simp only [kP] <;> rfl) ?_
    refine OkOps.offU rfl rfl (.inl (by simp only [kE, kT, kL, kC, Bool.not_true, Bool.not_false])) (by simp only [kP] <;> rfl) ?_
    refine OkOps.offU rfl rfl (.inl (by simp only [kE, kT, kL, kC, Bool.not_true, Bool.not_false])) (by simp only [kP] <;> rfl) ?_
    refine EV ?_
    refine ON ?_
    refine ⟨rfl, ?_, rfl, rfl⟩
    refine ⟨?_, ?_, ?_, ?_, ?_, ?_, ?_, ?_, ?_, ?_, ?_, ?_, ?_, ?_, ?_, ?_, ?_, ?_, ?_, ?_, ?_, ?_, ?_, ?_, ?_, ?_, ?_, ?_, ?_, ?_, ?_, ?_, ?_, ?_, ?_, ?_, ?_, ?_, ?_, ?_, ?_, ?_, ?_, ?_, ?_, ?_, ?_, ?_, ?_, ?_, ?_, ?_, ?_, ?_, ?_, ?_, ?_, ?_, ?_, ?_, ?_, ?_, ?_, ?_, ?_, ?_, ?_, ?_, ?_, ?_, ?_, ?_, ?_, ?_, ?_, ?_, ?_, ?_, ?_, ?_, ?_, ?_, ?_, ?_, ?_, ?_, ?_, ?_, ?_, ?_, ?_, ?_, trivial⟩ <;> first | exact le_any _ | with_reducible exact le_rfl' _ | (refine .inl (congrArg V.bool ?_); (first | (simp [boxHead, gidOk, *]; done) | (simp [boxHead, gidOk, *] <;> omega) | (rw [Bool.eq_iff_iff]; simp [boxHead, gidOk, *] <;> omega) | (simp_all [boxHead, gidOk]; done) | (simp_all [boxHead, gidOk]; omega))) | exact le_rfl' _
   ·
    try simp only [bsimp] at hg1_10
    refine OO ?_
    refine EV ?_
    refine OO ?_
    refine EV ?_
    refine OO ?_
    refine OkOps.S0 rfl (OpS.weak' rfl (by simp only [kE, kT, kL, kC] <;> rfl) (by simp only [kE, kT, kL, kC] <;> rfl) cl202 (w_spec_StampOk b.named)) (by simp only [kP] <;> rfl) ?_
    refine OO ?_
    iterate 3 (refine EV ?_)
    refine OkOps.split (d := 21) (by simp only [kE, kT, kL, kC] <;> rfl) (by simp only [kP] <;> rfl) (by simp only [kP] <;> rfl) (fun hg1_16 => ?_) (fun hg1_16 => ?_)
    ·
     try simp only [bsimp] at hg1_16
     refine OkOps.offU rfl rfl (.inl (by simp only [kE, kT, kL, kC, Bool.not_true, Bool.not_false])) (by simp only [kP] <;> rfl) ?_
     refine OkOps.offU rfl rfl (.inl (by simp only [kE, kT, kL, kC, Bool.not_true, Bool.not_false])) (by simp only [kP] <;> rfl) ?_
     refine OkOps.offU rfl rfl (.inl (by simp only [kE, kT, kL, kC, Bool.not_true, Bool.not_false])) (by simp only [kP] <;> rfl) ?_
     refine OkOps.offU rfl rfl (.inl (by simp only [kE, kT, kL, kC, Bool.not_true, Bool.not_false])) (by simp only [kP] <;> rfl) ?_
     iterate 2 (refine EV ?_)
     refine OkOps.offU rfl rfl (.inl (by simp only [kE, kT, kL, kC, Bool.not_true, Bool.not_false])) (by simp only [kP] <;> rfl) ?_
     refine OkOps.offU rfl rfl (.inl (by simp only [kE, kT, kL, kC, Bool.not_true, Bool.not_false])) (by simp only [kP] <;> rfl) ?_
     refine OkOps.offU rfl rfl (.inl (by simp only [kE, kT, kL, kC, Bool.not_true, Bool.not_false])) (by simp only [kP] <;> rfl) ?_
     refine OkOps.offU rfl rfl (.inl (by simp only [kE, kT, kL, kC, Bool.not_true, Bool.not_false])) (by simp only [kP] <;> rfl) ?_
     iterate 2 (refine EV ?_)
     refine OkOps.offU rfl rfl (.inl (by simp only [kE, kT, kL, kC, Bool.not_true, Bool.not_false])) (by simp only [kP] <;> rfl) ?_
     refine OkOps.offU rfl rfl (.inl (by simp only [kE, kT, kL, kC, Bool.not_true, Bool.not_false])) (by simp only [kP] <;> rfl) ?_
     refine OkOps.offU rfl rfl (.inl (by simp only [kE, kT, kL, kC, Bool.not_true, Bool.not_false])) (by simp only [kP] <;> rfl) ?_
     refine OkOps.offU rfl rfl (.inl (by simp only [kE, kT, kL, kC, Bool.not_true, Bool.not_false])) (by simp only [kP] <;> rfl) ?_
     refine EV ?_
     refine ON ?_
     refine ⟨rfl, ?_, rfl, rfl⟩
     refine ⟨?_, ?_, ?_, ?_, ?_, ?_, ?_, ?_, ?_, ?_, ?_, ?_, ?_, ?_, ?_, ?_, ?_, ?_, ?_, ?_, ?_, ?_, ?_, ?_, ?_, ?_, ?_, ?_, ?_, ?_, ?_, ?_, ?_, ?_, ?_, ?_, ?_, ?_, ?_, ?_, ?_, ?_, ?_, ?_, ?_, ?_, ?_, ?_, ?_, ?_, ?_, ?_, ?_, ?_, ?_, ?_, ?_, ?_, ?_, ?_, ?_, ?_, ?_, ?_, ?_, ?_, ?_, ?_, ?_, ?_, ?_, ?_, ?_, ?_, ?_, ?_, ?_, ?_, ?_, ?_, ?_, ?_, ?_, ?_, ?_, ?_, ?_, ?_, ?_, ?_, ?_, ?_, trivial⟩ <;> first | exact le_any _ | with_reducible exact le_rfl' _ | (refine .inl (congrArg V.bool ?_); (first | (simp [boxHead, gidOk, *]; done) | (simp [boxHead, gidOk, *] <;> omega) | (rw [Bool.eq_iff_iff]; simp [boxHead, gidOk, *] <;> omega) | (simp_all [boxHead, gidOk]; done) | (simp_all [boxHead, gidOk]; omega))) | exact le_rfl' _
    ·
     try simp only [bsimp] at hg1_16
     refine OO ?_
     refine EV ?_
     refine OO ?_
     refine EV ?_
     refine OO ?_
     refine OkOps.S0 rfl (OpS.weak' rfl (by simp only [kE, kT, kL, kC] <;> rfl) (by simp only [kE, kT, kL, kC] <;> rfl) cl118 (w_spec_l01In b.next 1 10000)) (by simp only [kP] <;> rfl) ?_
     refine OO ?_
     iterate 3 (refine EV ?_)
     refine OkOps.split (d := 27) (by simp only [kE, kT, kL, kC] <;> rfl) (by simp only [kP] <;> rfl) (by simp only [kP] <;> rfl) (fun hg1_22 => ?_) (fun hg1_22 => ?_)
     ·
      try simp only [bsimp] at hg1_22
      refine OkOps.offU rfl rfl (.inl (by simp only [kE, kT, kL, kC, Bool.not_true, Bool.not_false])) (by simp only [kP] <;> rfl) ?_
      refine OkOps.offU rfl rfl (.inl (by simp only [kE, kT, kL, kC, Bool.not_true, Bool.not_false])) (by simp only [kP] <;> rfl) ?_
      refine OkOps.offU rfl rfl (.inl (by simp only [kE, kT, kL, kC, Bool.not_true, Bool.not_false])) (by simp only [kP] <;> rfl) ?_
      refine OkOps.offU rfl rfl (.inl (by simp only [kE, kT, kL, kC, Bool.not_true, Bool.not_false])) (by simp only [kP] <;> rfl) ?_
      iterate 2 (refine EV ?_)
      refine OkOps.offU rfl rfl (.inl (by simp only [kE, kT, kL, kC, Bool.not_true, Bool.not_false])) (by simp only [kP] <;> rfl) ?_
      refine OkOps.offU rfl rfl (.inl (by simp only [kE, kT, kL, kC, Bool.not_true, Bool.not_false])) (by simp only [kP] <;> rfl) ?_
      refine OkOps.offU rfl rfl (.inl (by simp only [kE, kT, kL, kC, Bool.not_true, Bool.not_false])) (by simp only [kP] <;> rfl) ?_
      refine OkOps.offU rfl rfl (.inl (by simp only [kE, kT, kL, kC, Bool.not_true, Bool.not_false])) (by simp only [kP] <;> rfl) ?_
      refine EV ?_
      refine ON ?_
      refine ⟨rfl, ?_, rfl, rfl⟩
      refine ⟨?_, ?_, ?_, ?_, ?_, ?_, ?_, ?_, ?_, ?_, ?_, ?_, ?_, ?_, ?_, ?_, ?_, ?_, ?_, ?_, ?_, ?_, ?_, ?_, ?_, ?_, ?_, ?_, ?_, ?_, ?_, ?_, ?_, ?_, ?_, ?_, ?_, ?_, ?_, ?_, ?_, ?_, ?_, ?_, ?_, ?_, ?_, ?_, ?_, ?_, ?_, ?_, ?_, ?_, ?_, ?_, ?_, ?_, ?_, ?_, ?_, ?_, ?_, ?_, ?_, ?_, ?_, ?_, ?_, ?_, ?_, ?_, ?_, ?_, ?_, ?_, ?_, ?_, ?_, ?_, ?_, ?_, ?_, ?_, ?_, ?_, ?_, ?_, ?_, ?_, ?_, ?_, trivial⟩ <;> first | exact le_any _ | with_reducible exact le_rfl' _ | (refine .inl (congrArg V.bool ?_); (first | (simp [boxHead, gidOk, *]; done) | (simp [boxHead, gidOk, *] <;> omega) | (rw [Bool.eq_iff_iff]; simp [boxHead, gidOk, *] <;> omega) | (simp_all [boxHead, gidOk]; done) | (simp_all [boxHead, gidOk]; omega))) | exact le_rfl' _
     ·
      try simp only [bsimp] at hg1_22
      refine OO ?_
      refine EV ?_
      refine OO ?_
      refine EV ?_
      refine OO ?_
      refine EV ?_
      refine OO ?_
      iterate 3 (refine EV ?_)
      refine OkOps.split (d := 33) (by simp only [kE, kT, kL, kC] <;> rfl) (by simp only [kP] <;> rfl) (by simp only [kP] <;> rfl) (fun hg1_28 => ?_) (fun hg1_28 => ?_)
      ·
       try simp only [bsimp] at hg1_28
       refine OkOps.offU rfl rfl (.inl (by simp only [kE, kT, kL, kC, Bool.not_true, Bool.not_false])) (by simp only [kP] <;> rfl) ?_
       refine OkOps.offU rfl rfl (.inl (by simp only [kE, kT, kL, kC, Bool.not_true, Bool.not_false])) (by simp only [kP] <;> rfl) ?_
       refine OkOps.offU rfl rfl (.inl (by simp only [kE, kT, kL, kC, Bool.not_true, Bool.not_false])) (by simp only [kP] <;> rfl) ?_
       refine OkOps.offU rfl rfl (.inl (by simp only [kE, kT, kL, kC, Bool.not_true, Bool.not_false])) (by simp only [kP] <;> rfl) ?_
       refine EV ?_
       refine ON ?_
       refine ⟨rfl, ?_, rfl, rfl⟩
       refine ⟨?_, ?_, ?_, ?_, ?_, ?_, ?_, ?_, ?_, ?_, ?_, ?_, ?_, ?_, ?_, ?_, ?_, ?_, ?_, ?_, ?_, ?_, ?_, ?_, ?_, ?_, ?_, ?_, ?_, ?_, ?_, ?_, ?_, ?_, ?_, ?_, ?_, ?_, ?_, ?_, ?_, ?_, ?_, ?_, ?_, ?_, ?_, ?_, ?_, ?_, ?_, ?_, ?_, ?_, ?_, ?_, ?_, ?_, ?_, ?_, ?_, ?_, ?_, ?_, ?_, ?_, ?_, ?_, ?_, ?_, ?_, ?_, ?_, ?_, ?_, ?_, ?_, ?_, ?_, ?_, ?_, ?_, ?_, ?_, ?_, ?_, ?_, ?_, ?_, ?_, ?_, ?_, trivial⟩ <;> first | exact le_any _ | with_reducible exact le_rfl' _ | (refine .inl (congrArg V.bool ?_); (first | (simp [boxHead, gidOk, *]; done) | (simp [boxHead, gidOk, *] <;> omega) | (rw [Bool.eq_iff_iff]; simp [boxHead, gidOk, *] <;> omega) | (simp_all [boxHead, gidOk]; done) | (simp_all [boxHead, gidOk]; omega))) | exact le_rfl' _
      ·
       try simp only [bsimp] at hg1_28
       refine OO ?_
       refine EV ?_
       refine OO ?_
       refine EV ?_
       refine OO ?_
       refine OkOps.S0 rfl (OpS.weak' rfl (by simp only [kE, kT, kL, kC] <;> rfl) (by simp only [kE, kT, kL, kC] <;> rfl) cl147 (w_spec_l06Sorted b.gone 40 (by have := h.2.2; omega))) (by simp only [kP] <;> rfl) ?_
       refine OO ?_
       iterate 2 (refine EV ?_)
       refine ON ?_
       refine ⟨rfl, ?_, rfl, rfl⟩
       refine ⟨?_, ?_, ?_, ?_, ?_, ?_, ?_, ?_, ?_, ?_, ?_, ?_, ?_, ?_, ?_, ?_, ?_, ?_, ?_, ?_, ?_, ?_, ?_, ?_, ?_, ?_, ?_, ?_, ?_, ?_, ?_, ?_, ?_, ?_, ?_, ?_, ?_, ?_, ?_, ?_, ?_, ?_, ?_, ?_, ?_, ?_, ?_, ?_, ?_, ?_, ?_, ?_, ?_, ?_, ?_, ?_, ?_, ?_, ?_, ?_, ?_, ?_, ?_, ?_, ?_, ?_, ?_, ?_, ?_, ?_, ?_, ?_, ?_, ?_, ?_, ?_, ?_, ?_, ?_, ?_, ?_, ?_, ?_, ?_, ?_, ?_, ?_, ?_, ?_, ?_, ?_, ?_, trivial⟩ <;> first | exact le_any _ | with_reducible exact le_rfl' _ | (refine .inl (congrArg V.bool ?_); (first | (simp [boxHead, gidOk, *]; done) | (simp [boxHead, gidOk, *] <;> omega) | (rw [Bool.eq_iff_iff]; simp [boxHead, gidOk, *] <;> omega) | (simp_all [boxHead, gidOk]; done) | (simp_all [boxHead, gidOk]; omega))) | exact le_rfl' _
 ·
  refine Ok.cond (b := _) (by simp only [kE, kT, kL, kC] <;> rfl) (fun hb1 => ?_) (fun hb1 => ?_)
  ·
   try simp only [bsimp] at hb1
   rw [show boxOk b = false by unfold boxOk; rw [show boxHead b = false from hb1, Bool.false_and]]
   refine OQ ?_
   refine EV ?_
   refine ON ?_
   refine Ok.ret ?_
   with_reducible repeat (first | refine thenQ_ret ?_ | refine blockQ_ret ?_)
   refine RT ?_
   rfl
  ·
   try simp only [bsimp] at hb1
   have hh : boxHead b = true := hb1
   refine Ok.skip ?_
   refine Ok.seq ?_
   refine OQ ?_
   refine EV ?_
   refine ON ?_
   refine Ok.block ?_
   refine Ok.loopWZ (τ := Nat) (fun x => [(3, .int .i64 (x : Int))]) [2, 4, 39, 40, 41, 42, 43, 44, 45, 46, 47, 48, 49, 50, 51, 52, 53, 54, 55, 56, 57, 58, 59, 60, 61, 62, 63, 64, 65, 66, 67, 68, 69, 70, 71, 72, 73, 74, 75, 76, 77, 78, 79, 80, 81, 82, 83, 84, 85, 86, 87, 88, 89, 90, 91] (fun x => by simp only [kover] <;> rfl) (fun x => x ≤ b.mails.length ∧ ∀ k, k < x → mailFine b k = true) (fun x => b.mails.length - x) 0 (by omega) (by refine ⟨?_, ?_, ?_, ?_, ?_, ?_, ?_, ?_, ?_, ?_, ?_, ?_, ?_, ?_, ?_, ?_, ?_, ?_, ?_, ?_, ?_, ?_, ?_, ?_, ?_, ?_, ?_, ?_, ?_, ?_, ?_, ?_, ?_, ?_, ?_, ?_, ?_, ?_, ?_, ?_, ?_, ?_, ?_, ?_, ?_, ?_, ?_, ?_, ?_, ?_, ?_, ?_, ?_, ?_, ?_, ?_, ?_, ?_, ?_, ?_, ?_, ?_, ?_, ?_, ?_, ?_, ?_, ?_, ?_, ?_, ?_, ?_, ?_, ?_, ?_, ?_, ?_, ?_, ?_, ?_, ?_, ?_, ?_, ?_, ?_, ?_, ?_, ?_, ?_, ?_, ?_, ?_, trivial⟩ <;> first | exact le_any _ | with_reducible exact le_rfl' _ | (exact le_rfl' _) | exact le_rfl' _) (⟨Nat.zero_le _, fun k h => by omega⟩) ?_
   rintro i ⟨h1, h2⟩
   refine Ok.seq ?_
   refine OQ ?_
   iterate 5 (refine EV ?_)
   refine ON ?_
   refine Ok.cond (b := _) (by simp only [kE, kT, kL, kC] <;> rfl) (fun hb4 => ?_) (fun hb4 => ?_)
   ·
    try simp only [bsimp] at hb4
    have hi : i < b.mails.length := by omega
    have hmf := mailFine_at hi
    have hcap := h.2.1.1
    refine Ok.skip ?_
    refine Ok.seq ?_
    refine Ok.block ?_
    refine OQ ?_
    iterate 3 (refine EV ?_)
    refine OkOps.ev tab_ok rfl (ev_idx_map (by simp only [kE, kT, kL, kC] <;> rfl) (by simp only [kE, kT, kL, kC] <;> rfl) (by omega) (by simp only [kE, kT, kL, kC] <;> rfl)) (by simp only [kP] <;> rfl) ?_
    iterate 2 (refine EV ?_)
    refine OkOps.storeE tab_ok rfl rfl (by simp only [kE, kT, kL, kC] <;> rfl) ⟨_, _, by simp only [kE]; rfl⟩ (by first | (simp [V.labelsL, V.labelsLL, V.labels, zz, zf, zy]; done) | (simp [-List.map_map, -List.map_set, -List.map_drop, -List.map_take, -List.map_tail, -List.drop_one, V.labelsL, V.labelsLL, V.labels, zz, zf, zy]; done)) (by simp only [eq_self, V.updL, V.travL, V.travLL, V.trav, updS, updP, and_self, true_and, and_true, false_and, and_false, Nat.reduceEqDiff, Nat.reduceSub, Nat.le_refl, Nat.zero_le, ↓reduceIte, if_true, if_false, kP, zz, zf, zy] <;> rfl) (rfl) ?_
    refine ON ?_
    refine Ok.seqC [(91, .bool (!mailFine b i))] [51, 52, 53, 54, 55, 56, 57, 58, 59, 60, 61, 62, 63, 64, 65, 66, 67, 68, 69, 70, 71, 72, 73, 74, 75, 76, 77, 78, 79, 80, 81, 82, 83, 84, 85, 86, 87, 88, 89, 90] (by simp only [kover] <;> rfl) ?_ ?_
    ·
     refine Ok.drawn 41 92 [] (by kernel_rfl) (by kernel_rfl) rfl ?_
     refine SV ?_
     refine SOps.S0 rfl (OpS.weakM rfl (by simp only [kE, kT, kL, kC] <;> rfl) (by simp only [kE, kT, kL, kC] <;> rfl) cl203 (w_spec_MailOk b.mails[i] (by have := (h.2.1.2 _ (List.getElem_mem hi)).1; omega))) (by simp only [kP] <;> rfl) ?_
     iterate 2 (refine SV ?_)
     refine SOps.split (d := 54) (by simp only [kE, kT, kL, kC] <;> rfl) (by simp only [kP] <;> rfl) (by simp only [kP] <;> rfl) (fun hg7_3 => ?_) (fun hg7_3 => ?_)
     ·
      try simp only [bsimp] at hg7_3
      refine SOps.offU rfl rfl (.inl (by simp only [kE, kT, kL, kC, Bool.not_true, Bool.not_false])) (by simp only [kP] <;> rfl) ?_
      refine SOps.offU rfl rfl (.inl (by simp only [kE, kT, kL, kC, Bool.not_true, Bool.not_false])) (by simp only [kP] <;> rfl) ?_
      refine SOps.offU rfl rfl (.inl (by simp only [kE, kT, kL, kC, Bool.not_true, Bool.not_false])) (by simp only [kP] <;> rfl) ?_
      refine SOps.offU rfl rfl (.inl (by simp only [kE, kT, kL, kC, Bool.not_true, Bool.not_false])) (by simp only [kP] <;> rfl) ?_
      refine SOps.offU rfl rfl (.inl (by simp only [kE, kT, kL, kC, Bool.not_true, Bool.not_false])) (by simp only [kP] <;> rfl) ?_
      iterate 2 (refine SV ?_)
      refine SOps.offU rfl rfl (.inl (by simp only [kE, kT, kL, kC, Bool.not_true, Bool.not_false])) (by simp only [kP] <;> rfl) ?_
      refine SOps.offU rfl rfl (.inl (by simp only [kE, kT, kL, kC, Bool.not_true, Bool.not_false])) (by simp only [kP] <;> rfl) ?_
      refine SOps.offU rfl rfl (.inl (by simp only [kE, kT, kL, kC, Bool.not_true, Bool.not_false])) (by simp only [kP] <;> rfl) ?_
      refine SOps.offU rfl rfl (.inr (by simp only [kE, kT, kL, kC])) (by simp only [kP] <;> rfl) ?_
      refine SOps.offU rfl rfl (.inr (by simp only [kE, kT, kL, kC])) (by simp only [kP] <;> rfl) ?_
      refine SOps.offU rfl rfl (.inr (by simp only [kE, kT, kL, kC])) (by simp only [kP] <;> rfl) ?_
      refine SOps.offU rfl rfl (.inr (by simp only [kE, kT, kL, kC])) (by simp only [kP] <;> rfl) ?_
      refine SOps.offU rfl rfl (.inr (by simp only [kE, kT, kL, kC])) (by simp only [kP] <;> rfl) ?_
      refine SOps.offU rfl rfl (.inr (by simp only [kE, kT, kL, kC])) (by simp only [kP] <;> rfl) ?_
      refine SOps.offU rfl rfl (.inr (by simp only [kE, kT, kL, kC])) (by simp only [kP] <;> rfl) ?_
      refine SOps.offU rfl rfl (.inr (by simp only [kE, kT, kL, kC])) (by simp only [kP] <;> rfl) ?_
      refine SOps.offU rfl rfl (.inr (by simp only [kE, kT, kL, kC])) (by simp only [kP] <;> rfl) ?_
      refine SOps.offU rfl rfl (.inr (by simp only [kE, kT, kL, kC])) (by simp only [kP] <;> rfl) ?_
      refine SOps.offU rfl rfl (.inl (by simp only [kE, kT, kL, kC, Bool.not_true, Bool.not_false])) (by simp only [kP] <;> rfl) ?_
      iterate 2 (refine SV ?_)
      refine SOps.offU rfl rfl (.inl (by simp only [kE, kT, kL, kC, Bool.not_true, Bool.not_false])) (by simp only [kP] <;> rfl) ?_
      refine SOps.offU rfl rfl (.inl (by simp only [kE, kT, kL, kC, Bool.not_true, Bool.not_false])) (by simp only [kP] <;> rfl) ?_
      refine SOps.offU rfl rfl (.inl (by simp only [kE, kT, kL, kC, Bool.not_true, Bool.not_false])) (by simp only [kP] <;> rfl) ?_
      refine SOps.offU rfl rfl (.inl (by simp only [kE, kT, kL, kC, Bool.not_true, Bool.not_false])) (by simp only [kP] <;> rfl) ?_
      refine SOps.offU rfl rfl (.inl (by simp only [kE, kT, kL, kC, Bool.not_true, Bool.not_false])) (by simp only [kP] <;> rfl) ?_
      iterate 2 (refine SV ?_)
      refine SOps.offU rfl rfl (.inl (by simp only [kE, kT, kL, kC, Bool.not_true, Bool.not_false])) (by simp only [kP] <;> rfl) ?_
      refine SOps.offU rfl rfl (.inl (by simp only [kE, kT, kL, kC, Bool.not_true, Bool.not_false])) (by simp only [kP] <;> rfl) ?_
      refine SOps.offU rfl rfl (.inl (by simp only [kE, kT, kL, kC, Bool.not_true, Bool.not_false])) (by simp only [kP] <;> rfl) ?_
      refine SOps.offU rfl rfl (.inl (by simp only [kE, kT, kL, kC, Bool.not_true, Bool.not_false])) (by simp only [kP] <;> rfl) ?_
      refine SOps.offU rfl rfl (.inl (by simp only [kE, kT, kL, kC, Bool.not_true, Bool.not_false])) (by simp only [kP] <;> rfl) ?_
      refine SOps.offU rfl rfl (.inl (by simp only [kE, kT, kL, kC, Bool.not_true, Bool.not_false])) (by simp only [kP] <;> rfl) ?_
      refine SV ?_
      refine SOps.nil ?_
      refine TOps.nil ?_
      refine ⟨rfl, ?_, rfl, rfl⟩
      refine ⟨?_, ?_, ?_, ?_, ?_, ?_, ?_, ?_, ?_, ?_, ?_, ?_, ?_, ?_, ?_, ?_, ?_, ?_, ?_, ?_, ?_, ?_, ?_, ?_, ?_, ?_, ?_, ?_, ?_, ?_, ?_, ?_, ?_, ?_, ?_, ?_, ?_, ?_, ?_, ?_, ?_, ?_, ?_, ?_, ?_, ?_, ?_, ?_, ?_, ?_, ?_, ?_, ?_, ?_, ?_, ?_, ?_, ?_, ?_, ?_, ?_, ?_, ?_, ?_, ?_, ?_, ?_, ?_, ?_, ?_, ?_, ?_, ?_, ?_, ?_, ?_, ?_, ?_, ?_, ?_, ?_, ?_, ?_, ?_, ?_, ?_, ?_, ?_, ?_, ?_, ?_, ?_, trivial⟩ <;> first | exact le_any _ | with_reducible exact le_rfl' _ | (refine .inl (congrArg V.bool ?_); (first | (simp [hmf, *]; done) | (simp [hmf, *] <;> omega) | (rw [Bool.eq_iff_iff]; simp [hmf, *] <;> omega) | (simp_all [hmf]; done) | (simp_all [hmf]; omega))) | exact le_rfl' _
     ·
      try simp only [bsimp] at hg7_3
      refine SOps.onEv tab_ok rfl rfl (by simp only [kE, kT, kL, kC]) (by simp only [kE, kT, kL, kC] <;> rfl) (by simp only [kP] <;> rfl) ?_
      refine SOps.onEv tab_ok rfl rfl (by simp only [kE, kT, kL, kC]) (by simp only [kE, kT, kL, kC] <;> rfl) (by simp only [kP] <;> rfl) ?_
      refine SOps.onEv tab_ok rfl rfl (by simp only [kE, kT, kL, kC]) (by simp only [kE, kT, kL, kC] <;> rfl) (by simp only [kP] <;> rfl) ?_
      refine SOps.onEv tab_ok rfl rfl (by simp only [kE, kT, kL, kC]) (by simp only [kE, kT, kL, kC] <;> rfl) (by simp only [kP] <;> rfl) ?_
      refine SOps.onEv tab_ok rfl rfl (by simp only [kE, kT, kL, kC]) (by simp only [kE, kT, kL, kC] <;> rfl) (by simp only [kP] <;> rfl) ?_
      iterate 2 (refine SV ?_)
      refine SOps.split (d := 61) (by simp only [kE, kT, kL, kC] <;> rfl) (by simp only [kP] <;> rfl) (by simp only [kP] <;> rfl) (fun hg7_10 => ?_) (fun hg7_10 => ?_)
      ·
       try simp only [bsimp] at hg7_10
       refine SOps.offU rfl rfl (.inl (by simp only [kE, kT, kL, kC, Bool.not_true, Bool.not_false])) (by simp only [kP] <;> rfl) ?_
       refine SOps.offU rfl rfl (.inl (by simp only [kE, kT, kL, kC, Bool.not_true, Bool.not_false])) (by simp only [kP] <;> rfl) ?_
       refine SOps.offU rfl rfl (.inl (by simp only [kE, kT, kL, kC, Bool.not_true, Bool.not_false])) (by simp only [kP] <;> rfl) ?_
       refine SOps.offU rfl rfl (.inr (by simp only [kE, kT, kL, kC])) (by simp only [kP] <;> rfl) ?_
       refine SOps.offU rfl rfl (.inr (by simp only [kE, kT, kL, kC])) (by simp only [kP] <;> rfl) ?_
       refine SOps.offU rfl rfl (.inr (by simp only [kE, kT, kL, kC])) (by simp only [kP] <;> rfl) ?_
       refine SOps.offU rfl rfl (.inr (by simp only [kE, kT, kL, kC])) (by simp only [kP] <;> rfl) ?_
       refine SOps.offU rfl rfl (.inr (by simp only [kE, kT, kL, kC])) (by simp only [kP] <;> rfl) ?_
       refine SOps.offU rfl rfl (.inr (by simp only [kE, kT, kL, kC])) (by simp only [kP] <;> rfl) ?_
       refine SOps.offU rfl rfl (.inr (by simp only [kE, kT, kL, kC])) (by simp only [kP] <;> rfl) ?_
       refine SOps.offU rfl rfl (.inr (by simp only [kE, kT, kL, kC])) (by simp only [kP] <;> rfl) ?_
       refine SOps.offU rfl rfl (.inr (by simp only [kE, kT, kL, kC])) (by simp only [kP] <;> rfl) ?_
       refine SOps.offU rfl rfl (.inr (by simp only [kE, kT, kL, kC])) (by simp only [kP] <;> rfl) ?_
       refine SOps.offU rfl rfl (.inl (by simp only [kE, kT, kL, kC, Bool.not_true, Bool.not_false])) (by simp only [kP] <;> rfl) ?_
       iterate 2 (refine SV ?_)
       refine SOps.offU rfl rfl (.inl (by simp only [kE, kT, kL, kC, Bool.not_true, Bool.not_false])) (by simp only [kP] <;> rfl) ?_
       refine SOps.offU rfl rfl (.inl (by simp only [kE, kT, kL, kC, Bool.not_true, Bool.not_false])) (by simp only [kP] <;> rfl) ?_
       refine SOps.offU rfl rfl (.inl (by simp only [kE, kT, kL, kC, Bool.not_true, Bool.not_false])) (by simp only [kP] <;> rfl) ?_
       refine SOps.offU rfl rfl (.inl (by simp only [kE, kT, kL, kC, Bool.not_true, Bool.not_false])) (by simp only [kP] <;> rfl) ?_
       refine SOps.offU rfl rfl (.inl (by simp only [kE, kT, kL, kC, Bool.not_true, Bool.not_false])) (by simp only [kP] <;> rfl) ?_
       iterate 2 (refine SV ?_)
       refine SOps.offU rfl rfl (.inl (by simp only [kE, kT, kL, kC, Bool.not_true, Bool.not_false])) (by simp only [kP] <;> rfl) ?_
       refine SOps.offU rfl rfl (.inl (by simp only [kE, kT, kL, kC, Bool.not_true, Bool.not_false])) (by simp only [kP] <;> rfl) ?_
       refine SOps.offU rfl rfl (.inl (by simp only [kE, kT, kL, kC, Bool.not_true, Bool.not_false])) (by simp only [kP] <;> rfl) ?_
       refine SOps.offU rfl rfl (.inl (by simp only [kE, kT, kL, kC, Bool.not_true, Bool.not_false])) (by simp only [kP] <;> rfl) ?_
       refine SOps.offU rfl rfl (.inl (by simp only [kE, kT, kL, kC, Bool.not_true, Bool.not_false])) (by simp only [kP] <;> rfl) ?_
       refine SOps.offU rfl rfl (.inl (by simp only [kE, kT, kL, kC, Bool.not_true, Bool.not_false])) (by simp only [kP] <;> rfl) ?_
       refine SV ?_
       refine SOps.nil ?_
       refine TOps.nil ?_
       refine ⟨rfl, ?_, rfl, rfl⟩
       refine ⟨?_, ?_, ?_, ?_, ?_, ?_, ?_, ?_, ?_, ?_, ?_, ?_, ?_, ?_, ?_, ?_, ?_, ?_, ?_, ?_, ?_, ?_, ?_, ?_, ?_, ?_, ?_, ?_, ?_, ?_, ?_, ?_, ?_, ?_, ?_, ?_, ?_, ?_, ?_, ?_, ?_, ?_, ?_, ?_, ?_, ?_, ?_, ?_, ?_, ?_, ?_, ?_, ?_, ?_, ?_, ?_, ?_, ?_, ?_, ?_, ?_, ?_, ?_, ?_, ?_, ?_, ?_, ?_, ?_, ?_, ?_, ?_, ?_, ?_, ?_, ?_, ?_, ?_, ?_, ?_, ?_, ?_, ?_, ?_, ?_, ?_, ?_, ?_, ?_, ?_, ?_, ?_, trivial⟩ <;> first | exact le_any _ | with_reducible exact le_rfl' _ | (refine .inl (congrArg V.bool ?_); (first | (simp [hmf, *]; done) | (simp [hmf, *] <;> omega) | (rw [Bool.eq_iff_iff]; simp [hmf, *] <;> omega) | (simp_all [hmf]; done) | (simp_all [hmf]; omega))) | exact le_rfl' _
      ·
       try simp only [bsimp] at hg7_10
       refine SOps.onEv tab_ok rfl rfl (by simp only [kE, kT, kL, kC]) (by simp only [kE, kT, kL, kC] <;> rfl) (by simp only [kP] <;> rfl) ?_
       refine SOps.onEv tab_ok rfl rfl (by simp only [kE, kT, kL, kC]) (by simp only [kE, kT, kL, kC] <;> rfl) (by simp only [kP] <;> rfl) ?_
       refine SOps.onEv tab_ok rfl rfl (by simp only [kE, kT, kL, kC]) (by simp only [kE, kT, kL, kC] <;> rfl) (by simp only [kP] <;> rfl) ?_
       refine SOps.split (d := 64) (by simp only [kE, kT, kL, kC] <;> rfl) (by simp only [kP] <;> rfl) (by simp only [kP] <;> rfl) (fun hg7_13 => ?_) (fun hg7_13 => ?_)
       ·
        try simp only [bsimp] at hg7_13
        have hpos : 0 < i := by omega
        have hbf := beforeB_get (p := fun (x y : Mail) => decide (x.uid < y.uid)) hi hpos
        refine SOps.onEv tab_ok rfl rfl (by simp only [kE, kT, kL, kC]) (by simp only [kE, kT, kL, kC] <;> rfl) (by simp only [kP] <;> rfl) ?_
        refine SOps.onEv tab_ok rfl rfl (by simp only [kE, kT, kL, kC]) (by simp only [kE, kT, kL, kC] <;> rfl) (by simp only [kP] <;> rfl) ?_
        refine SOps.onEv tab_ok rfl rfl (by simp only [kE, kT, kL, kC]) (by simp only [kE, kT, kL, kC] <;> rfl) (by simp only [kP] <;> rfl) ?_
        refine SOps.onEv tab_ok rfl rfl (by simp only [kE, kT, kL, kC]) (by simp only [kE, kT, kL, kC, wrap_pred hpos (by omega)] <;> rfl) (by simp only [kP] <;> rfl) ?_
        refine SOps.onEv tab_ok rfl rfl (by simp only [kE, kT, kL, kC]) (ev_idx_map (by simp only [kE, kT, kL, kC] <;> rfl) (by simp only [kE, kT, kL, kC] <;> rfl) (by omega) (by simp only [kE, kT, kL, kC] <;> rfl)) (by simp only [kP] <;> rfl) ?_
        refine SOps.onEv tab_ok rfl rfl (by simp only [kE, kT, kL, kC]) (by simp only [kE, kT, kL, kC] <;> rfl) (by simp only [kP] <;> rfl) ?_
        refine SOps.onEv tab_ok rfl rfl (by simp only [kE, kT, kL, kC]) (by simp only [kE, kT, kL, kC] <;> rfl) (by simp only [kP] <;> rfl) ?_
        refine SOps.onEv tab_ok rfl rfl (by simp only [kE, kT, kL, kC]) (by simp only [kE, kT, kL, kC] <;> rfl) (by simp only [kP] <;> rfl) ?_
        refine SOps.onEv tab_ok rfl rfl (by simp only [kE, kT, kL, kC]) (by simp only [kE, kT, kL, kC] <;> rfl) (by simp only [kP] <;> rfl) ?_
        refine SOps.onEv tab_ok rfl rfl (by simp only [kE, kT, kL, kC]) (by simp only [kE, kT, kL, kC] <;> rfl) (by simp only [kP] <;> rfl) ?_
        refine SOps.onEv tab_ok rfl rfl (by simp only [kE, kT, kL, kC]) (by simp only [kE, kT, kL, kC] <;> rfl) (by simp only [kP] <;> rfl) ?_
        iterate 2 (refine SV ?_)
        refine SOps.split (d := 77) (by simp only [kE, kT, kL, kC] <;> rfl) (by simp only [kP] <;> rfl) (by simp only [kP] <;> rfl) (fun hg7_26 => ?_) (fun hg7_26 => ?_)
        ·
         try simp only [bsimp] at hg7_26
         refine SOps.offU rfl rfl (.inl (by simp only [kE, kT, kL, kC, Bool.not_true, Bool.not_false])) (by simp only [kP] <;> rfl) ?_
         refine SOps.offU rfl rfl (.inl (by simp only [kE, kT, kL, kC, Bool.not_true, Bool.not_false])) (by simp only [kP] <;> rfl) ?_
         refine SOps.offU rfl rfl (.inl (by simp only [kE, kT, kL, kC, Bool.not_true, Bool.not_false])) (by simp only [kP] <;> rfl) ?_
         refine SOps.offU rfl rfl (.inl (by simp only [kE, kT, kL, kC, Bool.not_true, Bool.not_false])) (by simp only [kP] <;> rfl) ?_
         refine SOps.offU rfl rfl (.inl (by simp only [kE, kT, kL, kC, Bool.not_true, Bool.not_false])) (by simp only [kP] <;> rfl) ?_
         iterate 2 (refine SV ?_)
         refine SOps.offU rfl rfl (.inl (by simp only [kE, kT, kL, kC, Bool.not_true, Bool.not_false])) (by simp only [kP] <;> rfl) ?_
         refine SOps.offU rfl rfl (.inl (by simp only [kE, kT, kL, kC, Bool.not_true, Bool.not_false])) (by simp only [kP] <;> rfl) ?_
         refine SOps.offU rfl rfl (.inl (by simp only [kE, kT, kL, kC, Bool.not_true, Bool.not_false])) (by simp only [kP] <;> rfl) ?_
         refine SOps.offU rfl rfl (.inl (by simp only [kE, kT, kL, kC, Bool.not_true, Bool.not_false])) (by simp only [kP] <;> rfl) ?_
         refine SOps.offU rfl rfl (.inl (by simp only [kE, kT, kL, kC, Bool.not_true, Bool.not_false])) (by simp only [kP] <;> rfl) ?_
         refine SOps.offU rfl rfl (.inl (by simp only [kE, kT, kL, kC, Bool.not_true, Bool.not_false])) (by simp only [kP] <;> rfl) ?_
         refine SV ?_
         refine SOps.nil ?_
         refine TOps.nil ?_
         refine ⟨rfl, ?_, rfl, rfl⟩
         refine ⟨?_, ?_, ?_, ?_, ?_, ?_, ?_, ?_, ?_, ?_, ?_, ?_, ?_, ?_, ?_, ?_, ?_, ?_, ?_, ?_, ?_, ?_, ?_, ?_, ?_, ?_, ?_, ?_, ?_, ?_, ?_, ?_, ?_, ?_, ?_, ?_, ?_, ?_, ?_, ?_, ?_, ?_, ?_, ?_, ?_, ?_, ?_, ?_, ?_, ?_, ?_, ?_, ?_, ?_, ?_, ?_, ?_, ?_, ?_, ?_, ?_, ?_, ?_, ?_, ?_, ?_, ?_, ?_, ?_, ?_, ?_, ?_, ?_, ?_, ?_, ?_, ?_, ?_, ?_, ?_, ?_, ?_, ?_, ?_, ?_, ?_, ?_, ?_, ?_, ?_, ?_, ?_, trivial⟩ <;> first | exact le_any _ | with_reducible exact le_rfl' _ | (refine .inl (congrArg V.bool ?_); (first | (simp [hmf, *]; done) | (simp [hmf, *] <;> omega) | (rw [Bool.eq_iff_iff]; simp [hmf, *] <;> omega) | (simp_all [hmf]; done) | (simp_all [hmf]; omega))) | exact le_rfl' _
        ·
         try simp only [bsimp] at hg7_26
         refine SOps.onEv tab_ok rfl rfl (by simp only [kE, kT, kL, kC]) (by simp only [kE, kT, kL, kC] <;> rfl) (by simp only [kP] <;> rfl) ?_
         refine SOps.onEv tab_ok rfl rfl (by simp only [kE, kT, kL, kC]) (by simp only [kE, kT, kL, kC] <;> rfl) (by simp only [kP] <;> rfl) ?_
         refine SOps.onEv tab_ok rfl rfl (by simp only [kE, kT, kL, kC]) (by simp only [kE, kT, kL, kC] <;> rfl) (by simp only [kP] <;> rfl) ?_
         refine SOps.onEv tab_ok rfl rfl (by simp only [kE, kT, kL, kC]) (by simp only [kE, kT, kL, kC] <;> rfl) (by simp only [kP] <;> rfl) ?_
         refine SOps.onS0 rfl rfl (by simp only [kE, kT, kL, kC]) (OpS.weakM rfl (by simp only [kE, kT, kL, kC] <;> rfl) (by simp only [kE, kT, kL, kC] <;> rfl) cl150 (w_spec_l06In b.gone b.mails[i].gid (by have := h.2.2; omega))) (by simp only [kP] <;> rfl) ?_
         iterate 2 (refine SV ?_)
         refine SOps.split (d := 84) (by simp only [kE, kT, kL, kC] <;> rfl) (by simp only [kP] <;> rfl) (by simp only [kP] <;> rfl) (fun hg7_33 => ?_) (fun hg7_33 => ?_)
         ·
          try simp only [bsimp] at hg7_33
          refine SOps.offU rfl rfl (.inl (by simp only [kE, kT, kL, kC, Bool.not_true, Bool.not_false])) (by simp only [kP] <;> rfl) ?_
          refine SOps.offU rfl rfl (.inl (by simp only [kE, kT, kL, kC, Bool.not_true, Bool.not_false])) (by simp only [kP] <;> rfl) ?_
          refine SOps.offU rfl rfl (.inl (by simp only [kE, kT, kL, kC, Bool.not_true, Bool.not_false])) (by simp only [kP] <;> rfl) ?_
          refine SOps.offU rfl rfl (.inl (by simp only [kE, kT, kL, kC, Bool.not_true, Bool.not_false])) (by simp only [kP] <;> rfl) ?_
          refine SOps.offU rfl rfl (.inl (by simp only [kE, kT, kL, kC, Bool.not_true, Bool.not_false])) (by simp only [kP] <;> rfl) ?_
          refine SOps.offU rfl rfl (.inl (by simp only [kE, kT, kL, kC, Bool.not_true, Bool.not_false])) (by simp only [kP] <;> rfl) ?_
          refine SV ?_
          refine SOps.nil ?_
          refine TOps.nil ?_
          refine ⟨rfl, ?_, rfl, rfl⟩
          refine ⟨?_, ?_, ?_, ?_, ?_, ?_, ?_, ?_, ?_, ?_, ?_, ?_, ?_, ?_, ?_, ?_, ?_, ?_, ?_, ?_, ?_, ?_, ?_, ?_, ?_, ?_, ?_, ?_, ?_, ?_, ?_, ?_, ?_, ?_, ?_, ?_, ?_, ?_, ?_, ?_, ?_, ?_, ?_, ?_, ?_, ?_, ?_, ?_, ?_, ?_, ?_, ?_, ?_, ?_, ?_, ?_, ?_, ?_, ?_, ?_, ?_, ?_, ?_, ?_, ?_, ?_, ?_, ?_, ?_, ?_, ?_, ?_, ?_, ?_, ?_, ?_, ?_, ?_, ?_, ?_, ?_, ?_, ?_, ?_, ?_, ?_, ?_, ?_, ?_, ?_, ?_, ?_, trivial⟩ <;> first | exact le_any _ | with_reducible exact le_rfl' _ | (refine .inl (congrArg V.bool ?_); (first | (simp [hmf, *]; done) | (simp [hmf, *] <;> omega) | (rw [Bool.eq_iff_iff]; simp [hmf, *] <;> omega) | (simp_all [hmf]; done) | (simp_all [hmf]; omega))) | exact le_rfl' _
         ·
          try simp only [bsimp] at hg7_33
          refine SOps.onEv tab_ok rfl rfl (by simp only [kE, kT, kL, kC]) (by simp only [kE, kT, kL, kC] <;> rfl) (by simp only [kP] <;> rfl) ?_
          refine SOps.onEv tab_ok rfl rfl (by simp only [kE, kT, kL, kC]) (by simp only [kE, kT, kL, kC] <;> rfl) (by simp only [kP] <;> rfl) ?_
          refine SOps.onEv tab_ok rfl rfl (by simp only [kE, kT, kL, kC]) (by simp only [kE, kT, kL, kC] <;> rfl) (by simp only [kP] <;> rfl) ?_
          refine SOps.onS0 rfl rfl (by simp only [kE, kT, kL, kC]) (OpS.weakM rfl (by simp only [kE, kT, kL, kC] <;> rfl) (by simp only [kE, kT, kL, kC] <;> rfl) cl204 (w_spec_MailAt b b.mails[i].gid (by have := h.2.1.1; omega))) (by simp only [kP] <;> rfl) ?_
          refine SOps.onEv tab_ok rfl rfl (by simp only [kE, kT, kL, kC]) (by simp only [kE, kT, kL, kC] <;> rfl) (by simp only [kP] <;> rfl) ?_
          refine SOps.onEv tab_ok rfl rfl (by simp only [kE, kT, kL, kC]) (by simp only [kE, kT, kL, kC] <;> rfl) (by simp only [kP] <;> rfl) ?_
          refine SV ?_
          refine SOps.nil ?_
          refine TOps.nil ?_
          refine ⟨rfl, ?_, rfl, rfl⟩
          refine ⟨?_, ?_, ?_, ?_, ?_, ?_, ?_, ?_, ?_, ?_, ?_, ?_, ?_, ?_, ?_, ?_, ?_, ?_, ?_, ?_, ?_, ?_, ?_, ?_, ?_, ?_, ?_, ?_, ?_, ?_, ?_, ?_, ?_, ?_, ?_, ?_, ?_, ?_, ?_, ?_, ?_, ?_, ?_, ?_, ?_, ?_, ?_, ?_, ?_, ?_, ?_, ?_, ?_, ?_, ?_, ?_, ?_, ?_, ?_, ?_, ?_, ?_, ?_, ?_, ?_, ?_, ?_, ?_, ?_, ?_, ?_, ?_, ?_, ?_, ?_, ?_, ?_, ?_, ?_, ?_, ?_, ?_, ?_, ?_, ?_, ?_, ?_, ?_, ?_, ?_, ?_, ?_, trivial⟩ <;> first | exact le_any _ | with_reducible exact le_rfl' _ | (refine .inl (congrArg V.bool ?_); (first | (simp [hmf, *]; done) | (simp [hmf, *] <;> omega) | (rw [Bool.eq_iff_iff]; simp [hmf, *] <;> omega) | (simp_all [hmf]; done) | (simp_all [hmf]; omega))) | exact le_rfl' _
       ·
        try simp only [bsimp] at hg7_13
        have hbf : beforeB b.mails (fun x y => decide (x.uid < y.uid)) i = true := by rw [show i = 0 by omega]; rfl
        refine SOps.offU rfl rfl (.inl (by simp only [kE, kT, kL, kC, Bool.not_true, Bool.not_false])) (by simp only [kP] <;> rfl) ?_
        refine SOps.offU rfl rfl (.inl (by simp only [kE, kT, kL, kC, Bool.not_true, Bool.not_false])) (by simp only [kP] <;> rfl) ?_
        refine SOps.offU rfl rfl (.inl (by simp only [kE, kT, kL, kC, Bool.not_true, Bool.not_false])) (by simp only [kP] <;> rfl) ?_
        refine SOps.offU rfl rfl (.inl (by simp only [kE, kT, kL, kC, Bool.not_true, Bool.not_false])) (by simp only [kP] <;> rfl) ?_
        refine SOps.offU rfl rfl (.inl (by simp only [kE, kT, kL, kC, Bool.not_true, Bool.not_false])) (by simp only [kP] <;> rfl) ?_
        refine SOps.offU rfl rfl (.inl (by simp only [kE, kT, kL, kC, Bool.not_true, Bool.not_false])) (by simp only [kP] <;> rfl) ?_
        refine SOps.offU rfl rfl (.inl (by simp only [kE, kT, kL, kC, Bool.not_true, Bool.not_false])) (by simp only [kP] <;> rfl) ?_
        refine SOps.offU rfl rfl (.inl (by simp only [kE, kT, kL, kC, Bool.not_true, Bool.not_false])) (by simp only [kP] <;> rfl) ?_
        refine SOps.offU rfl rfl (.inl (by simp only [kE, kT, kL, kC, Bool.not_true, Bool.not_false])) (by simp only [kP] <;> rfl) ?_
        refine SOps.offU rfl rfl (.inl (by simp only [kE, kT, kL, kC, Bool.not_true, Bool.not_false])) (by simp only [kP] <;> rfl) ?_
        refine SOps.onEv tab_ok rfl rfl (by simp only [kE, kT, kL, kC]) (by simp only [kE, kT, kL, kC] <;> rfl) (by simp only [kP] <;> rfl) ?_
        iterate 2 (refine SV ?_)
        refine SOps.onEv tab_ok rfl rfl (by simp only [kE, kT, kL, kC]) (by simp only [kE, kT, kL, kC] <;> rfl) (by simp only [kP] <;> rfl) ?_
        refine SOps.onEv tab_ok rfl rfl (by simp only [kE, kT, kL, kC]) (by simp only [kE, kT, kL, kC] <;> rfl) (by simp only [kP] <;> rfl) ?_
        refine SOps.onEv tab_ok rfl rfl (by simp only [kE, kT, kL, kC]) (by simp only [kE, kT, kL, kC] <;> rfl) (by simp only [kP] <;> rfl) ?_
        refine SOps.onEv tab_ok rfl rfl (by simp only [kE, kT, kL, kC]) (by simp only [kE, kT, kL, kC] <;> rfl) (by simp only [kP] <;> rfl) ?_
        refine SOps.onS0 rfl rfl (by simp only [kE, kT, kL, kC]) (OpS.weakM rfl (by simp only [kE, kT, kL, kC] <;> rfl) (by simp only [kE, kT, kL, kC] <;> rfl) cl150 (w_spec_l06In b.gone b.mails[i].gid (by have := h.2.2; omega))) (by simp only [kP] <;> rfl) ?_
        iterate 2 (refine SV ?_)
        refine SOps.split (d := 84) (by simp only [kE, kT, kL, kC] <;> rfl) (by simp only [kP] <;> rfl) (by simp only [kP] <;> rfl) (fun hg7_33 => ?_) (fun hg7_33 => ?_)
        ·
         try simp only [bsimp] at hg7_33
         refine SOps.offU rfl rfl (.inl (by simp only [kE, kT, kL, kC, Bool.not_true, Bool.not_false])) (by simp only [kP] <;> rfl) ?_
         refine SOps.offU rfl rfl (.inl (by simp only [kE, kT, kL, kC, Bool.not_true, Bool.not_false])) (by simp only [kP] <;> rfl) ?_
         refine SOps.offU rfl rfl (.inl (by simp only [kE, kT, kL, kC, Bool.not_true, Bool.not_false])) (by simp only [kP] <;> rfl) ?_
         refine SOps.offU rfl rfl (.inl (by simp only [kE, kT, kL, kC, Bool.not_true, Bool.not_false])) (by simp only [kP] <;> rfl) ?_
         refine SOps.offU rfl rfl (.inl (by simp only [kE, kT, kL, kC, Bool.not_true, Bool.not_false])) (by simp only [kP] <;> rfl) ?_
         refine SOps.offU rfl rfl (.inl (by simp only [kE, kT, kL, kC, Bool.not_true, Bool.not_false])) (by simp only [kP] <;> rfl) ?_
         refine SV ?_
         refine SOps.nil ?_
         refine TOps.nil ?_
         refine ⟨rfl, ?_, rfl, rfl⟩
         refine ⟨?_, ?_, ?_, ?_, ?_, ?_, ?_, ?_, ?_, ?_, ?_, ?_, ?_, ?_, ?_, ?_, ?_, ?_, ?_, ?_, ?_, ?_, ?_, ?_, ?_, ?_, ?_, ?_, ?_, ?_, ?_, ?_, ?_, ?_, ?_, ?_, ?_, ?_, ?_, ?_, ?_, ?_, ?_, ?_, ?_, ?_, ?_, ?_, ?_, ?_, ?_, ?_, ?_, ?_, ?_, ?_, ?_, ?_, ?_, ?_, ?_, ?_, ?_, ?_, ?_, ?_, ?_, ?_, ?_, ?_, ?_, ?_, ?_, ?_, ?_, ?_, ?_, ?_, ?_, ?_, ?_, ?_, ?_, ?_, ?_, ?_, ?_, ?_, ?_, ?_, ?_, ?_, trivial⟩ <;> first | exact le_any _ | with_reducible exact le_rfl' _ | (refine .inl (congrArg V.bool ?_); (first | (simp [hmf, *]; done) | (simp [hmf, *] <;> omega) | (rw [Bool.eq_iff_iff]; simp [hmf, *] <;> omega) | (simp_all [hmf]; done) | (simp_all [hmf]; omega))) | exact le_rfl' _
        ·
         try simp only [bsimp] at hg7_33
         refine SOps.onEv tab_ok rfl rfl (by simp only [kE, kT, kL, kC]) (by simp only [kE, kT, kL, kC] <;> rfl) (by simp only [kP] <;> rfl) ?_
         refine SOps.onEv tab_ok rfl rfl (by simp only [kE, kT, kL, kC]) (by simp only [kE, kT, kL, kC] <;> rfl) (by simp only [kP] <;> rfl) ?_
         refine SOps.onEv tab_ok rfl rfl (by simp only [kE, kT, kL, kC]) (by simp only [kE, kT, kL, kC] <;> rfl) (by simp only [kP] <;> rfl) ?_
         refine SOps.onS0 rfl rfl (by simp only [kE, kT, kL, kC]) (OpS.weakM rfl (by simp only [kE, kT, kL, kC] <;> rfl) (by simp only [kE, kT, kL, kC] <;> rfl) cl204 (w_spec_MailAt b b.mails[i].gid (by have := h.2.1.1; omega))) (by simp only [kP] <;> rfl) ?_
         refine SOps.onEv tab_ok rfl rfl (by simp only [kE, kT, kL, kC]) (by simp only [kE, kT, kL, kC] <;> rfl) (by simp only [kP] <;> rfl) ?_
         refine SOps.onEv tab_ok rfl rfl (by simp only [kE, kT, kL, kC]) (by simp only [kE, kT, kL, kC] <;> rfl) (by simp only [kP] <;> rfl) ?_
         refine SV ?_
         refine SOps.nil ?_
         refine TOps.nil ?_
         refine ⟨rfl, ?_, rfl, rfl⟩
         refine ⟨?_, ?_, ?_, ?_, ?_, ?_, ?_, ?_, ?_, ?_, ?_, ?_, ?_, ?_, ?_, ?_, ?_, ?_, ?_, ?_, ?_, ?_, ?_, ?_, ?_, ?_, ?_, ?_, ?_, ?_, ?_, ?_, ?_, ?_, ?_, ?_, ?_, ?_, ?_, ?_, ?_, ?_, ?_, ?_, ?_, ?_, ?_, ?_, ?_, ?_, ?_, ?_, ?_, ?_, ?_, ?_, ?_, ?_, ?_, ?_, ?_, ?_, ?_, ?_, ?_, ?_, ?_, ?_, ?_, ?_, ?_, ?_, ?_, ?_, ?_, ?_, ?_, ?_, ?_, ?_, ?_, ?_, ?_, ?_, ?_, ?_, ?_, ?_, ?_, ?_, ?_, ?_, trivial⟩ <;> first | exact le_any _ | with_reducible exact le_rfl' _ | (refine .inl (congrArg V.bool ?_); (first | (simp [hmf, *]; done) | (simp [hmf, *] <;> omega) | (rw [Bool.eq_iff_iff]; simp [hmf, *] <;> omega) | (simp_all [hmf]; done) | (simp_all [hmf]; omega))) | exact le_rfl' _
    ·
     refine Ok.cond (b := _) (by simp only [kE, kT, kL, kC] <;> rfl) (fun hb7 => ?_) (fun hb7 => ?_)
     ·
      try simp only [bsimp] at hb7
      rw [show boxOk b = false by unfold boxOk; rw [allUp_no hi hb7, Bool.and_false]]
      refine OQ ?_
      refine EV ?_
      refine ON ?_
      refine Ok.ret ?_
      with_reducible repeat (first | refine thenQ_ret ?_ | refine blockQ_ret ?_)
      refine RT ?_
      rfl
     ·
      try simp only [bsimp] at hb7
      refine Ok.skip ?_
      refine Ok.region ?_
      iterate 3 (refine EV ?_)
      refine ON ?_
      refine ⟨i + 1, ?_, rfl, ⟨by omega, up_next h2 hb7⟩, by omega⟩
      simp only [V.renL, V.travL, V.travLL, V.trav, frz, zz, zf, zy, Nat.reduceLeDiff, ↓reduceIte]
      refine ⟨?_, ?_, ?_, ?_, ?_, ?_, ?_, ?_, ?_, ?_, ?_, ?_, ?_, ?_, ?_, ?_, ?_, ?_, ?_, ?_, ?_, ?_, ?_, ?_, ?_, ?_, ?_, ?_, ?_, ?_, ?_, ?_, ?_, ?_, ?_, ?_, ?_, ?_, ?_, ?_, ?_, ?_, ?_, ?_, ?_, ?_, ?_, ?_, ?_, ?_, ?_, ?_, ?_, ?_, ?_, ?_, ?_, ?_, ?_, ?_, ?_, ?_, ?_, ?_, ?_, ?_, ?_, ?_, ?_, ?_, ?_, ?_, ?_, ?_, ?_, ?_, ?_, ?_, ?_, ?_, ?_, ?_, ?_, ?_, ?_, ?_, ?_, ?_, ?_, ?_, ?_, ?_, trivial⟩ <;> first | exact le_any _ | with_reducible exact le_rfl' _ | ((rw [wrap_add_one (by have := h.2.1.1; omega)]; exact le_rfl' _)) | exact le_rfl' _
   ·
    try simp only [bsimp] at hb4
    obtain rfl : i = b.mails.length := by omega
    rw [show boxOk b = true by unfold boxOk; rw [hh, allUp_yes h2]; rfl]
    refine Ok.exit ?_
    refine OQ ?_
    refine EV ?_
    refine ON ?_
    refine Ok.ret ?_
    with_reducible repeat (first | refine thenQ_ret ?_ | refine blockQ_ret ?_)
    refine RT ?_
    rfl
theorem w_spec_StoreOk (s : Store) (h : smStore s) : Weak Tryz.prog 97 [.agg (cStore s)] (.bool (storeOk s)) := by
 refine Weak.enter tab_ok Tryz.func97 rfl (.inr (by simp [V.labelsL, V.labels, V.labelsLL, zz, zf, zy, or_imp, forall_and])) (t := [.agg (cStore s), .any, .any, .any, .any, .any, .any, .any, .any, .any, .any, .any, .any, .any, .any, .any, .any, .any, .any, .any, .any, .any, .any, .any, .any, .any, .any, .any, .any, .any, .any, .any, .any, .any, .any, .any, .any, .any, .any, .any, .any, .any, .any, .any, .any, .any, .any, .any, .any, .any, .any, .any, .any, .any, .any, .any, .any, .any, .any, .any, .any, .any, .any, .any, .any, .any, .any, .any, .any, .any, .any, .any, .any, .any, .any, .any, .any, .any, .any, .any, .any, .any, .any, .any, .any, .any, .any, .any, .any, .any, .any, .any, .any, .any, .any, .any, .any, .any, .any, .any, .any, .any, .any, .any, .any, .any, .any]) rfl ?_
 refine OQ ?_
 iterate 2 (refine EV ?_)
 refine ON ?_
 refine Ok.seq ?_
 refine Ok.seqC [(28, .bool (!storeHead s))] [7, 8, 9, 10, 11, 12, 13, 14, 15, 16, 17, 18, 19, 20, 21, 22, 23, 24, 25, 26, 27] (by simp only [kover] <;> rfl) ?_ ?_
 ·
  refine Ok.region ?_
  iterate 2 (refine EV ?_)
  refine OkOps.S0 rfl (OpS.weak' rfl (by simp only [kE, kT, kL, kC] <;> rfl) (by simp only [kE, kT, kL, kC] <;> rfl) cl118 (w_spec_l01In s.by_ 1 2)) (by simp only [kP] <;> rfl) ?_
  iterate 2 (refine EV ?_)
  refine OkOps.split (d := 11) (by simp only [kE, kT, kL, kC] <;> rfl) (by simp only [kP] <;> rfl) (by simp only [kP] <;> rfl) (fun hg1_4 => ?_) (fun hg1_4 => ?_)
  ·
   try simp only [bsimp] at hg1_4
   refine OkOps.offU rfl rfl (.inl (by simp only [kE, kT, kL, kC, Bool.not_true, Bool.not_false])) (by simp only [kP] <;> rfl) ?_
   refine OkOps.offU rfl rfl (.inl (by simp only [kE, kT, kL, kC, Bool.not_true, Bool.not_false])) (by simp only [kP] <;> rfl) ?_
   refine OkOps.offU rfl rfl (.inl (by simp only [kE, kT, kL, kC, Bool.not_true, Bool.not_false])) (by simp only [kP] <;> rfl) ?_
   refine OkOps.offU rfl rfl (.inl (by simp only [kE, kT, kL, kC, Bool.not_true, Bool.not_false])) (by simp only [kP] <;> rfl) ?_
   iterate 2 (refine EV ?_)
   refine OkOps.offU rfl rfl (.inl (by simp only [kE, kT, kL, kC, Bool.not_true, Bool.not_false])) (by simp only [kP] <;> rfl) ?_
   refine OkOps.offU rfl rfl (.inl (by simp only [kE, kT, kL, kC, Bool.not_true, Bool.not_false])) (by simp only [kP] <;> rfl) ?_
   refine OkOps.offU rfl rfl (.inl (by simp only [kE, kT, kL, kC, Bool.not_true, Bool.not_false])) (by simp only [kP] <;> rfl) ?_
   refine OkOps.offU rfl rfl (.inl (by simp only [kE, kT, kL, kC, Bool.not_true, Bool.not_false])) (by simp only [kP] <;> rfl) ?_
   iterate 2 (refine EV ?_)
   refine OkOps.offU rfl rfl (.inl (by simp only [kE, kT, kL, kC, Bool.not_true, Bool.not_false])) (by simp only [kP] <;> rfl) ?_
   refine OkOps.offU rfl rfl (.inl (by simp only [kE, kT, kL, kC, Bool.not_true, Bool.not_false])) (by simp only [kP] <;> rfl) ?_
   refine OkOps.offU rfl rfl (.inl (by simp only [kE, kT, kL, kC, Bool.not_true, Bool.not_false])) (by simp only [kP] <;> rfl) ?_
   refine OkOps.offU rfl rfl (.inl (by simp only [kE, kT, kL, kC, Bool.not_true, Bool.not_false])) (by simp only [kP] <;> rfl) ?_
   refine EV ?_
   refine ON ?_
   refine ⟨rfl, ?_, rfl, rfl⟩
   refine ⟨?_, ?_, ?_, ?_, ?_, ?_, ?_, ?_, ?_, ?_, ?_, ?_, ?_, ?_, ?_, ?_, ?_, ?_, ?_, ?_, ?_, ?_, ?_, ?_, ?_, ?_, ?_, ?_, ?_, ?_, ?_, ?_, ?_, ?_, ?_, ?_, ?_, ?_, ?_, ?_, ?_, ?_, ?_, ?_, ?_, ?_, ?_, ?_, ?_, ?_, ?_, ?_, ?_, ?_, ?_, ?_, ?_, ?_, ?_, ?_, ?_, ?_, ?_, ?_, ?_, ?_, ?_, ?_, ?_, ?_, ?_, ?_, ?_, ?_, ?_, ?_, ?_, ?_, ?_, ?_, ?_, ?_, ?_, ?_, ?_, ?_, ?_, ?_, ?_, ?_, ?_, ?_, ?_, ?_, ?_, ?_, ?_, ?_, ?_, ?_, ?_, ?_, ?_, ?_, ?_, ?_, ?_, trivial⟩ <;> first | exact le_any _ | with_reducible exact le_rfl' _ | (refine .inl (congrArg V.bool ?_); (first | (simp [storeHead, *]; done) | (simp [storeHead, *] <;> omega) | (rw [Bool.eq_iff_iff]; simp [storeHead, *] <;> omega) | (simp_all [storeHead]; done) | (simp_all [storeHead]; omega))) | exact le_rfl' _
  ·
   try simp only [bsimp] at hg1_4
   refine OO ?_
   refine EV ?_
   refine OO ?_
   refine EV ?_
   refine OO ?_
   refine OkOps.S0 rfl (OpS.weak' rfl (by simp only [kE, kT, kL, kC] <;> rfl) (by simp only [kE, kT, kL, kC] <;> rfl) cl118 (w_spec_l01In s.time 0 100000)) (by simp only [kP] <;> rfl) ?_
   refine OO ?_
   iterate 3 (refine EV ?_)
   refine OkOps.split (d := 17) (by simp only [kE, kT, kL, kC] <;> rfl) (by simp only [kP] <;> rfl) (by simp only [kP] <;> rfl) (fun hg1_10 => ?_) (fun hg1_10 => ?_)
   ·
    try simp only [bsimp] at hg1_10
    refine OkOps.offU rfl rfl (.inl (by simp only [kE, kT, kL, kC, Bool.not_true, Bool.not_false])) (by simp only [kP] <;> rfl) ?_
    refine OkOps.offU rfl rfl (.inl (by simp only [kE, kT, kL, kC, Bool.not_true, Bool.not_false])) (by simp only [kP] <;> rfl) ?_
    refine OkOps.offU rfl rfl (.inl (by simp only [kE, kT, kL, kC, Bool.not_true, Bool.not_false])) (by simp only [kP] <;> rfl) ?_
    refine OkOps.offU rfl rfl (.inl (by simp only [kE, kT, kL, kC, Bool.not_true, Bool.not_false])) (by simp only [kP] <;> rfl) ?_
    iterate 2 (refine EV ?_)
    refine OkOps.offU rfl rfl (.inl (by simp only [kE, kT, kL, kC, Bool.not_true, Bool.not_false])) (by simp only [kP] <;> rfl) ?_
    refine OkOps.offU rfl rfl (.inl (by simp only [kE, kT, kL, kC, Bool.not_true, Bool.not_false])) (by simp only [kP] <;> rfl) ?_
    refine OkOps.offU rfl rfl (.inl (by simp only [kE, kT, kL, kC, Bool.not_true, Bool.not_false])) (by simp only [kP] <;> rfl) ?_
    refine OkOps.offU rfl rfl (.inl (by simp only [kE, kT, kL, kC, Bool.not_true, Bool.not_false])) (by simp only [kP] <;> rfl) ?_
    refine EV ?_
    refine ON ?_
    refine ⟨rfl, ?_, rfl, rfl⟩
    refine ⟨?_, ?_, ?_, ?_, ?_, ?_, ?_, ?_, ?_, ?_, ?_, ?_, ?_, ?_, ?_, ?_, ?_, ?_, ?_, ?_, ?_, ?_, ?_, ?_, ?_, ?_, ?_, ?_, ?_, ?_, ?_, ?_, ?_, ?_, ?_, ?_, ?_, ?_, ?_, ?_, ?_, ?_, ?_, ?_, ?_, ?_, ?_, ?_, ?_, ?_, ?_, ?_, ?_, ?_, ?_, ?_, ?_, ?_, ?_, ?_, ?_, ?_, ?_, ?_, ?_, ?_, ?_, ?_, ?_, ?_, ?_, ?_, ?_, ?_, ?_, ?_, ?_, ?_, ?_, ?_, ?_, ?_, ?_, ?_, ?_, ?_, ?_, ?_, ?_, ?_, ?_, ?_, ?_, ?_, ?_, ?_, ?_, ?_, ?_, ?_, ?_, ?_, ?_, ?_, ?_, ?_, ?_, trivial⟩ <;> first | exact le_any _ | with_reducible exact le_rfl' _ | (refine .inl (congrArg V.bool ?_); (first | (simp [storeHead, *]; done) | (simp [storeHead, *] <;> omega) | (rw [Bool.eq_iff_iff]; simp [storeHead, *] <;> omega) | (simp_all [storeHead]; done) | (simp_all [storeHead]; omega))) | exact le_rfl' _
   ·
    try simp only [bsimp] at hg1_10
    refine OO ?_
    refine EV ?_
    refine OO ?_
    refine EV ?_
    refine OO ?_
    refine EV ?_
    refine OO ?_
    iterate 3 (refine EV ?_)
    refine OkOps.split (d := 23) (by simp only [kE, kT, kL, kC] <;> rfl) (by simp only [kP] <;> rfl) (by simp only [kP] <;> rfl) (fun hg1_16 => ?_) (fun hg1_16 => ?_)
    ·
     try simp only [bsimp] at hg1_16
     refine OkOps.offU rfl rfl (.inl (by simp only [kE, kT, kL, kC, Bool.not_true, Bool.not_false])) (by simp only [kP] <;> rfl) ?_
     refine OkOps.offU rfl rfl (.inl (by simp only [kE, kT, kL, kC, Bool.not_true, Bool.not_false])) (by simp only [kP] <;> rfl) ?_
     refine OkOps.offU rfl rfl (.inl (by simp only [kE, kT, kL, kC, Bool.not_true, Bool.not_false])) (by simp only [kP] <;> rfl) ?_
     refine OkOps.offU rfl rfl (.inl (by simp only [kE, kT, kL, kC, Bool.not_true, Bool.not_false])) (by simp only [kP] <;> rfl) ?_
     refine EV ?_
     refine ON ?_
     refine ⟨rfl, ?_, rfl, rfl⟩
     refine ⟨?_, ?_, ?_, ?_, ?_, ?_, ?_, ?_, ?_, ?_, ?_, ?_, ?_, ?_, ?_, ?_, ?_, ?_, ?_, ?_, ?_, ?_, ?_, ?_, ?_, ?_, ?_, ?_, ?_, ?_, ?_, ?_, ?_, ?_, ?_, ?_, ?_, ?_, ?_, ?_, ?_, ?_, ?_, ?_, ?_, ?_, ?_, ?_, ?_, ?_, ?_, ?_, ?_, ?_, ?_, ?_, ?_, ?_, ?_, ?_, ?_, ?_, ?_, ?_, ?_, ?_, ?_, ?_, ?_, ?_, ?_, ?_, ?_, ?_, ?_, ?_, ?_, ?_, ?_, ?_, ?_, ?_, ?_, ?_, ?_, ?_, ?_, ?_, ?_, ?_, ?_, ?_, ?_, ?_, ?_, ?_, ?_, ?_, ?_, ?_, ?_, ?_, ?_, ?_, ?_, ?_, ?_, trivial⟩ <;> first | exact le_any _ | with_reducible exact le_rfl' _ | (refine .inl (congrArg V.bool ?_); (first | (simp [storeHead, *]; done) | (simp [storeHead, *] <;> omega) | (rw [Bool.eq_iff_iff]; simp [storeHead, *] <;> omega) | (simp_all [storeHead]; done) | (simp_all [storeHead]; omega))) | exact le_rfl' _
    ·
     try simp only [bsimp] at hg1_16
     refine OO ?_
     refine EV ?_
     refine OO ?_
     refine EV ?_
     refine OO ?_
     refine OkOps.S0 rfl (OpS.weak' rfl (by simp only [kE, kT, kL, kC] <;> rfl) (by simp only [kE, kT, kL, kC] <;> rfl) cl147 (w_spec_l06Sorted s.gone 20 (by have := h.2; omega))) (by simp only [kP] <;> rfl) ?_
     refine OO ?_
     iterate 2 (refine EV ?_)
     refine ON ?_
     refine ⟨rfl, ?_, rfl, rfl⟩
     refine ⟨?_, ?_, ?_, ?_, ?_, ?_, ?_, ?_, ?_, ?_, ?_, ?_, ?_, ?_, ?_, ?_, ?_, ?_, ?_, ?_, ?_, ?_, ?_, ?_, ?_, ?_, ?_, ?_, ?_, ?_, ?_, ?_, ?_, ?_, ?_, ?_, ?_, ?_, ?_, ?_, ?_, ?_, ?_, ?_, ?_, ?_, ?_, ?_, ?_, ?_, ?_, ?_, ?_, ?_, ?_, ?_, ?_, ?_, ?_, ?_, ?_, ?_, ?_, ?_, ?_, ?_, ?_, ?_, ?_, ?_, ?_, ?_, ?_, ?_, ?_, ?_, ?_, ?_, ?_, ?_, ?_, ?_, ?_, ?_, ?_, ?_, ?_, ?_, ?_, ?_, ?_, ?_, ?_, ?_, ?_, ?_, ?_, ?_, ?_, ?_, ?_, ?_, ?_, ?_, ?_, ?_, ?_, trivial⟩ <;> first | exact le_any _ | with_reducible exact le_rfl' _ | (refine .inl (congrArg V.bool ?_); (first | (simp [storeHead, *]; done) | (simp [storeHead, *] <;> omega) | (rw [Bool.eq_iff_iff]; simp [storeHead, *] <;> omega) | (simp_all [storeHead]; done) | (simp_all [storeHead]; omega))) | exact le_rfl' _
 ·
  refine Ok.cond (b := _) (by simp only [kE, kT, kL, kC] <;> rfl) (fun hb1 => ?_) (fun hb1 => ?_)
  ·
   try simp only [bsimp] at hb1
   rw [show storeOk s = false by unfold storeOk; rw [show storeHead s = false from hb1, Bool.false_and]]
   refine OQ ?_
   refine EV ?_
   refine ON ?_
   refine Ok.ret ?_
   with_reducible repeat (first | refine thenQ_ret ?_ | refine blockQ_ret ?_)
   refine RT ?_
   rfl
  ·
   try simp only [bsimp] at hb1
   have hh : storeHead s = true := hb1
   have hcap := h.1.1
   refine Ok.skip ?_
   refine OQ ?_
   iterate 2 (refine EV ?_)
   refine ON ?_
   refine Ok.seq ?_
   refine OQ ?_
   refine EV ?_
   refine ON ?_
   refine Ok.block ?_
   refine Ok.bump (n' := 3) (by omega) ?_
   refine Ok.loopWZ (τ := Nat) (fun x => [(3, .sl 2 1 0 ((seenG s x 0).map cZ)), (4, .int .i64 (x : Int))]) [2, 5, 6, 30, 31, 32, 33, 34, 35, 36, 37, 38, 39, 40, 41, 42, 43, 44, 45, 46, 47, 48, 49, 50, 51, 52, 53, 54, 55, 56, 57, 58, 59, 60, 61, 62, 63, 64, 65, 66, 67, 68, 69, 70, 71, 72, 73, 74, 75, 76, 77, 78, 79, 80, 81, 82, 83, 84, 85, 86, 87, 88, 89, 90, 91, 92, 93, 94, 95, 96, 97, 98, 99, 100, 101, 102, 103, 104, 105, 106] (fun x => by simp only [kover] <;> rfl) (fun x => x ≤ s.boxes.length ∧ ∀ k, k < x → boxGood s k = true) (fun x => s.boxes.length - x) 0 (by omega) (by refine ⟨?_, ?_, ?_, ?_, ?_, ?_, ?_, ?_, ?_, ?_, ?_, ?_, ?_, ?_, ?_, ?_, ?_, ?_, ?_, ?_, ?_, ?_, ?_, ?_, ?_, ?_, ?_, ?_, ?_, ?_, ?_, ?_, ?_, ?_, ?_, ?_, ?_, ?_, ?_, ?_, ?_, ?_, ?_, ?_, ?_, ?_, ?_, ?_, ?_, ?_, ?_, ?_, ?_, ?_, ?_, ?_, ?_, ?_, ?_, ?_, ?_, ?_, ?_, ?_, ?_, ?_, ?_, ?_, ?_, ?_, ?_, ?_, ?_, ?_, ?_, ?_, ?_, ?_, ?_, ?_, ?_, ?_, ?_, ?_, ?_, ?_, ?_, ?_, ?_, ?_, ?_, ?_, ?_, ?_, ?_, ?_, ?_, ?_, ?_, ?_, ?_, ?_, ?_, ?_, ?_, ?_, ?_, trivial⟩ <;> first | exact le_any _ | with_reducible exact le_rfl' _ | (first | exact le_rfl' _ | (rw [seen_zero]; exact le_nil 2 1)) | exact le_rfl' _) (⟨Nat.zero_le _, fun k h => by omega⟩) ?_
   rintro i ⟨h1, h2⟩
   refine Ok.seq ?_
   refine OQ ?_
   iterate 5 (refine EV ?_)
   refine ON ?_
   refine Ok.cond (b := _) (by simp only [kE, kT, kL, kC] <;> rfl) (fun hb5 => ?_) (fun hb5 => ?_)
   ·
    try simp only [bsimp] at hb5
    have hi : i < s.boxes.length := by omega
    have hmf := boxFine_at hi
    have hmc := (h.1.2 _ (List.getElem_mem hi)).2.1.1
    refine Ok.skip ?_
    refine Ok.seq ?_
    refine Ok.block ?_
    refine OQ ?_
    iterate 3 (refine EV ?_)
    refine OkOps.ev tab_ok rfl (ev_idx_map (by simp only [kE, kT, kL, kC] <;> rfl) (by simp only [kE, kT, kL, kC] <;> rfl) (by omega) (by simp only [kE, kT, kL, kC] <;> rfl)) (by simp only [kP] <;> rfl) ?_
    iterate 2 (refine EV ?_)
    refine OkOps.storeE tab_ok rfl rfl (by simp only [kE, kT, kL, kC] <;> rfl) ⟨_, _, by simp only [kE]; rfl⟩ (by first | (simp [V.labelsL, V.labelsLL, V.labels, zz, zf, zy]; done) | (simp [-List.map_map, -List.map_set, -List.map_drop, -List.map_take, -List.map_tail, -List.drop_one, V.labelsL, V.labelsLL, V.labels, zz, zf, zy]; done)) (by simp only [eq_self, V.updL, V.travL, V.travLL, V.trav, updS, updP, and_self, true_and, and_true, false_and, and_false, Nat.reduceEqDiff, Nat.reduceSub, Nat.le_refl, Nat.zero_le, ↓reduceIte, if_true, if_false, kP, zz, zf, zy] <;> rfl) (rfl) ?_
    refine ON ?_
    refine Ok.seq ?_
    refine Ok.seqC [(82, .bool (!boxFine s i))] [42, 43, 44, 45, 46, 47, 48, 49, 50, 51, 52, 53, 54, 55, 56, 57, 58, 59, 60, 61, 62, 63, 64, 65, 66, 67, 68, 69, 70, 71, 72, 73, 74, 75, 76, 77, 78, 79, 80, 81] (by simp only [kover] <;> rfl) ?_ ?_
    ·
     refine Ok.drawn 41 107 [] (by kernel_rfl) (by kernel_rfl) rfl ?_
     refine SV ?_
     refine SOps.S0 rfl (OpS.weakM rfl (by simp only [kE, kT, kL, kC] <;> rfl) (by simp only [kE, kT, kL, kC] <;> rfl) cl148 (w_spec_BoxOk s.boxes[i] (h.1.2 _ (List.getElem_mem hi)))) (by simp only [kP] <;> rfl) ?_
     iterate 2 (refine SV ?_)
     refine SOps.split (d := 45) (by simp only [kE, kT, kL, kC] <;> rfl) (by simp only [kP] <;> rfl) (by simp only [kP] <;> rfl) (fun hg8_3 => ?_) (fun hg8_3 => ?_)
     ·
      try simp only [bsimp] at hg8_3
      refine SOps.offU rfl rfl (.inl (by simp only [kE, kT, kL, kC, Bool.not_true, Bool.not_false])) (by simp only [kP] <;> rfl) ?_
      refine SOps.offU rfl rfl (.inl (by simp only [kE, kT, kL, kC, Bool.not_true, Bool.not_false])) (by simp only [kP] <;> rfl) ?_
      refine SOps.offU rfl rfl (.inl (by simp only [kE, kT, kL, kC, Bool.not_true, Bool.not_false])) (by simp only [kP] <;> rfl) ?_
      refine SOps.offU rfl rfl (.inr (by simp only [kE, kT, kL, kC])) (by simp only [kP] <;> rfl) ?_
      refine SOps.offU rfl rfl (.inr (by simp only [kE, kT, kL, kC])) (by simp only [kP] <;> rfl) ?_
      refine SOps.offU rfl rfl (.inr (by simp only [kE, kT, kL, kC])) (by simp only [kP] <;> rfl) ?_
      refine SOps.offU rfl rfl (.inr (by simp only [kE, kT, kL, kC])) (by simp only [kP] <;> rfl) ?_
      refine SOps.offU rfl rfl (.inr (by simp only [kE, kT, kL, kC])) (by simp only [kP] <;> rfl) ?_
      refine SOps.offU rfl rfl (.inr (by simp only [kE, kT, kL, kC])) (by simp only [kP] <;> rfl) ?_
      refine SOps.offU rfl rfl (.inr (by simp only [kE, kT, kL, kC])) (by simp only [kP] <;> rfl) ?_
      refine SOps.offU rfl rfl (.inr (by simp only [kE, kT, kL, kC])) (by simp only [kP] <;> rfl) ?_
      refine SOps.offU rfl rfl (.inr (by simp only [kE, kT, kL, kC])) (by simp only [kP] <;> rfl) ?_
      refine SOps.offU rfl rfl (.inr (by simp only [kE, kT, kL, kC])) (by simp only [kP] <;> rfl) ?_
      refine SOps.offU rfl rfl (.inl (by simp only [kE, kT, kL, kC, Bool.not_true, Bool.not_false])) (by simp only [kP] <;> rfl) ?_
      iterate 2 (refine SV ?_)
      refine SOps.offU rfl rfl (.inl (by simp only [kE, kT, kL, kC, Bool.not_true, Bool.not_false])) (by simp only [kP] <;> rfl) ?_
      refine SOps.offU rfl rfl (.inl (by simp only [kE, kT, kL, kC, Bool.not_true, Bool.not_false])) (by simp only [kP] <;> rfl) ?_
      refine SOps.offU rfl rfl (.inl (by simp only [kE, kT, kL, kC, Bool.not_true, Bool.not_false])) (by simp only [kP] <;> rfl) ?_
      refine SOps.offU rfl rfl (.inl (by simp only [kE, kT, kL, kC, Bool.not_true, Bool.not_false])) (by simp only [kP] <;> rfl) ?_
      refine SOps.offU rfl rfl (.inl (by simp only [kE, kT, kL, kC, Bool.not_true, Bool.not_false])) (by simp only [kP] <;> rfl) ?_
      refine SOps.offU rfl rfl (.inl (by simp only [kE, kT, kL, kC, Bool.not_true, Bool.not_false])) (by simp only [kP] <;> rfl) ?_
      iterate 2 (refine SV ?_)
      refine SOps.offU rfl rfl (.inl (by simp only [kE, kT, kL, kC, Bool.not_true, Bool.not_false])) (by simp only [kP] <;> rfl) ?_
      refine SOps.offU rfl rfl (.inl (by simp only [kE, kT, kL, kC, Bool.not_true, Bool.not_false])) (by simp only [kP] <;> rfl) ?_
      refine SOps.offU rfl rfl (.inl (by simp only [kE, kT, kL, kC, Bool.not_true, Bool.not_false])) (by simp only [kP] <;> rfl) ?_
      refine SOps.offU rfl rfl (.inl (by simp only [kE, kT, kL, kC, Bool.not_true, Bool.not_false])) (by simp only [kP] <;> rfl) ?_
      refine SOps.offU rfl rfl (.inl (by simp only [kE, kT, kL, kC, Bool.not_true, Bool.not_false])) (by simp only [kP] <;> rfl) ?_
      iterate 2 (refine SV ?_)
      refine SOps.offU rfl rfl (.inl (by simp only [kE, kT, kL, kC, Bool.not_true, Bool.not_false])) (by simp only [kP] <;> rfl) ?_
      refine SOps.offU rfl rfl (.inl (by simp only [kE, kT, kL, kC, Bool.not_true, Bool.not_false])) (by simp only [kP] <;> rfl) ?_
      refine SOps.offU rfl rfl (.inl (by simp only [kE, kT, kL, kC, Bool.not_true, Bool.not_false])) (by simp only [kP] <;> rfl) ?_
      refine SOps.offU rfl rfl (.inl (by simp only [kE, kT, kL, kC, Bool.not_true, Bool.not_false])) (by simp only [kP] <;> rfl) ?_
      refine SOps.offU rfl rfl (.inl (by simp only [kE, kT, kL, kC, Bool.not_true, Bool.not_false])) (by simp only [kP] <;> rfl) ?_
      refine SV ?_
      refine SOps.nil ?_
      refine TOps.nil ?_
      refine ⟨rfl, ?_, rfl, rfl⟩
      refine ⟨?_, ?_, ?_, ?_, ?_, ?_, ?_, ?_, ?_, ?_, ?_, ?_, ?_, ?_, ?_, ?_, ?_, ?_, ?_, ?_, ?_, ?_, ?_, ?_, ?_, ?_, ?_, ?_, ?_, ?_, ?_, ?_, ?_, ?_, ?_, ?_, ?_, ?_, ?_, ?_, ?_, ?_, ?_, ?_, ?_, ?_, ?_, ?_, ?_, ?_, ?_, ?_, ?_, ?_, ?_, ?_, ?_, ?_, ?_, ?_, ?_, ?_, ?_, ?_, ?_, ?_, ?_, ?_, ?_, ?_, ?_, ?_, ?_, ?_, ?_, ?_, ?_, ?_, ?_, ?_, ?_, ?_, ?_, ?_, ?_, ?_, ?_, ?_, ?_, ?_, ?_, ?_, ?_, ?_, ?_, ?_, ?_, ?_, ?_, ?_, ?_, ?_, ?_, ?_, ?_, ?_, ?_, trivial⟩ <;> first | exact le_any _ | with_reducible exact le_rfl' _ | (refine .inl (congrArg V.bool ?_); (first | (simp [hmf, *]; done) | (simp [hmf, *] <;> omega) | (rw [Bool.eq_iff_iff]; simp [hmf, *] <;> omega) | (simp_all [hmf]; done) | (simp_all [hmf]; omega))) | exact le_rfl' _
     ·
      try simp only [bsimp] at hg8_3
      refine SOps.onEv tab_ok rfl rfl (by simp only [kE, kT, kL, kC]) (by simp only [kE, kT, kL, kC] <;> rfl) (by simp only [kP] <;> rfl) ?_
      refine SOps.onEv tab_ok rfl rfl (by simp only [kE, kT, kL, kC]) (by simp only [kE, kT, kL, kC] <;> rfl) (by simp only [kP] <;> rfl) ?_
      refine SOps.onEv tab_ok rfl rfl (by simp only [kE, kT, kL, kC]) (by simp only [kE, kT, kL, kC] <;> rfl) (by simp only [kP] <;> rfl) ?_
      refine SOps.split (d := 48) (by simp only [kE, kT, kL, kC] <;> rfl) (by simp only [kP] <;> rfl) (by simp only [kP] <;> rfl) (fun hg8_6 => ?_) (fun hg8_6 => ?_)
      ·
       try simp only [bsimp] at hg8_6
       have hpos : 0 < i := by omega
       have hbf := beforeB_get (p := fun (x y : Box) => decide (x.gid < y.gid)) hi hpos
       refine SOps.onEv tab_ok rfl rfl (by simp only [kE, kT, kL, kC]) (by simp only [kE, kT, kL, kC] <;> rfl) (by simp only [kP] <;> rfl) ?_
       refine SOps.onEv tab_ok rfl rfl (by simp only [kE, kT, kL, kC]) (by simp only [kE, kT, kL, kC] <;> rfl) (by simp only [kP] <;> rfl) ?_
       refine SOps.onEv tab_ok rfl rfl (by simp only [kE, kT, kL, kC]) (by simp only [kE, kT, kL, kC] <;> rfl) (by simp only [kP] <;> rfl) ?_
       refine SOps.onEv tab_ok rfl rfl (by simp only [kE, kT, kL, kC]) (by simp only [kE, kT, kL, kC, wrap_pred hpos (by omega)] <;> rfl) (by simp only [kP] <;> rfl) ?_
       refine SOps.onEv tab_ok rfl rfl (by simp only [kE, kT, kL, kC]) (ev_idx_map (by simp only [kE, kT, kL, kC] <;> rfl) (by simp only [kE, kT, kL, kC] <;> rfl) (by omega) (by simp only [kE, kT, kL, kC] <;> rfl)) (by simp only [kP] <;> rfl) ?_
       refine SOps.onEv tab_ok rfl rfl (by simp only [kE, kT, kL, kC]) (by simp only [kE, kT, kL, kC] <;> rfl) (by simp only [kP] <;> rfl) ?_
       refine SOps.onEv tab_ok rfl rfl (by simp only [kE, kT, kL, kC]) (by simp only [kE, kT, kL, kC] <;> rfl) (by simp only [kP] <;> rfl) ?_
       refine SOps.onEv tab_ok rfl rfl (by simp only [kE, kT, kL, kC]) (by simp only [kE, kT, kL, kC] <;> rfl) (by simp only [kP] <;> rfl) ?_
       refine SOps.onEv tab_ok rfl rfl (by simp only [kE, kT, kL, kC]) (by simp only [kE, kT, kL, kC] <;> rfl) (by simp only [kP] <;> rfl) ?_
       refine SOps.onEv tab_ok rfl rfl (by simp only [kE, kT, kL, kC]) (by simp only [kE, kT, kL, kC] <;> rfl) (by simp only [kP] <;> rfl) ?_
       refine SOps.onEv tab_ok rfl rfl (by simp only [kE, kT, kL, kC]) (by simp only [kE, kT, kL, kC] <;> rfl) (by simp only [kP] <;> rfl) ?_
       iterate 2 (refine SV ?_)
       refine SOps.split (d := 61) (by simp only [kE, kT, kL, kC] <;> rfl) (by simp only [kP] <;> rfl) (by simp only [kP] <;> rfl) (fun hg8_19 => ?_) (fun hg8_19 => ?_)
       ·
        try simp only [bsimp] at hg8_19
        refine SOps.offU rfl rfl (.inl (by simp only [kE, kT, kL, kC, Bool.not_true, Bool.not_false])) (by simp only [kP] <;> rfl) ?_
        refine SOps.offU rfl rfl (.inl (by simp only [kE, kT, kL, kC, Bool.not_true, Bool.not_false])) (by simp only [kP] <;> rfl) ?_
        refine SOps.offU rfl rfl (.inl (by simp only [kE, kT, kL, kC, Bool.not_true, Bool.not_false])) (by simp only [kP] <;> rfl) ?_
        refine SOps.offU rfl rfl (.inl (by simp only [kE, kT, kL, kC, Bool.not_true, Bool.not_false])) (by simp only [kP] <;> rfl) ?_
        refine SOps.offU rfl rfl (.inl (by simp only [kE, kT, kL, kC, Bool.not_true, Bool.not_false])) (by simp only [kP] <;> rfl) ?_
        refine SOps.offU rfl rfl (.inl (by simp only [kE, kT, kL, kC, Bool.not_true, Bool.not_false])) (by simp only [kP] <;> rfl) ?_
        iterate 2 (refine SV ?_)
        refine SOps.offU rfl rfl (.inl (by simp only [kE, kT, kL, kC, Bool.not_true, Bool.not_false])) (by simp only [kP] <;> rfl) ?_
        refine SOps.offU rfl rfl (.inl (by simp only [kE, kT, kL, kC, Bool.not_true, Bool.not_false])) (by simp only [kP] <;> rfl) ?_
        refine SOps.offU rfl rfl (.inl (by simp only [kE, kT, kL, kC, Bool.not_true, Bool.not_false])) (by simp only [kP] <;> rfl) ?_
        refine SOps.offU rfl rfl (.inl (by simp only [kE, kT, kL, kC, Bool.not_true, Bool.not_false])) (by simp only [kP] <;> rfl) ?_
        refine SOps.offU rfl rfl (.inl (by simp only [kE, kT, kL, kC, Bool.not_true, Bool.not_false])) (by simp only [kP] <;> rfl) ?_
        iterate 2 (refine SV ?_)
        refine SOps.offU rfl rfl (.inl (by simp only [kE, kT, kL, kC, Bool.not_true, Bool.not_false])) (by simp only [kP] <;> rfl) ?_
        refine SOps.offU rfl rfl (.inl (by simp only [kE, kT, kL, kC, Bool.not_true, Bool.not_false])) (by simp only [kP] <;> rfl) ?_
        refine SOps.offU rfl rfl (.inl (by simp only [kE, kT, kL, kC, Bool.not_true, Bool.not_false])) (by simp only [kP] <;> rfl) ?_
        refine SOps.offU rfl rfl (.inl (by simp only [kE, kT, kL, kC, Bool.not_true, Bool.not_false])) (by simp only [kP] <;> rfl) ?_
        refine SOps.offU rfl rfl (.inl (by simp only [kE, kT, kL, kC, Bool.not_true, Bool.not_false])) (by simp only [kP] <;> rfl) ?_
        refine SV ?_
        refine SOps.nil ?_
        refine TOps.nil ?_
        refine ⟨rfl, ?_, rfl, rfl⟩
        refine ⟨?_, ?_, ?_, ?_, ?_, ?_, ?_, ?_, ?_, ?_, ?_, ?_, ?_, ?_, ?_, ?_, ?_, ?_, ?_, ?_, ?_, ?_, ?_, ?_, ?_, ?_, ?_, ?_, ?_, ?_, ?_, ?_, ?_, ?_, ?_, ?_, ?_, ?_, ?_, ?_, ?_, ?_, ?_, ?_, ?_, ?_, ?_, ?_, ?_, ?_, ?_, ?_, ?_, ?_, ?_, ?_, ?_, ?_, ?_, ?_, ?_, ?_, ?_, ?_, ?_, ?_, ?_, ?_, ?_, ?_, ?_, ?_, ?_, ?_, ?_, ?_, ?_, ?_, ?_, ?_, ?_, ?_, ?_, ?_, ?_, ?_, ?_, ?_, ?_, ?_, ?_, ?_, ?_, ?_, ?_, ?_, ?_, ?_, ?_, ?_, ?_, ?_, ?_, ?_, ?_, ?_, ?_, trivial⟩ <;> first | exact le_any _ | with_reducible exact le_rfl' _ | (refine .inl (congrArg V.bool ?_); (first | (simp [hmf, *]; done) | (simp [hmf, *] <;> omega) | (rw [Bool.eq_iff_iff]; simp [hmf, *] <;> omega) | (simp_all [hmf]; done) | (simp_all [hmf]; omega))) | exact le_rfl' _
       ·
        try simp only [bsimp] at hg8_19
        refine SOps.onEv tab_ok rfl rfl (by simp only [kE, kT, kL, kC]) (by simp only [kE, kT, kL, kC] <;> rfl) (by simp only [kP] <;> rfl) ?_
        refine SOps.onEv tab_ok rfl rfl (by simp only [kE, kT, kL, kC]) (by simp only [kE, kT, kL, kC] <;> rfl) (by simp only [kP] <;> rfl) ?_
        refine SOps.onEv tab_ok rfl rfl (by simp only [kE, kT, kL, kC]) (by simp only [kE, kT, kL, kC] <;> rfl) (by simp only [kP] <;> rfl) ?_
        refine SOps.onS0 rfl rfl (by simp only [kE, kT, kL, kC]) (OpS.weakM rfl (by simp only [kE, kT, kL, kC] <;> rfl) (by simp only [kE, kT, kL, kC] <;> rfl) cl149 (w_spec_BoxNamed s s.boxes[i].name (by have := h.1.1; omega))) (by simp only [kP] <;> rfl) ?_
        refine SOps.onEv tab_ok rfl rfl (by simp only [kE, kT, kL, kC]) (by simp only [kE, kT, kL, kC] <;> rfl) (by simp only [kP] <;> rfl) ?_
        refine SOps.onEv tab_ok rfl rfl (by simp only [kE, kT, kL, kC]) (by simp only [kE, kT, kL, kC] <;> rfl) (by simp only [kP] <;> rfl) ?_
        iterate 2 (refine SV ?_)
        refine SOps.split (d := 69) (by simp only [kE, kT, kL, kC] <;> rfl) (by simp only [kP] <;> rfl) (by simp only [kP] <;> rfl) (fun hg8_27 => ?_) (fun hg8_27 => ?_)
        ·
         try simp only [bsimp] at hg8_27
         refine SOps.offU rfl rfl (.inl (by simp only [kE, kT, kL, kC, Bool.not_true, Bool.not_false])) (by simp only [kP] <;> rfl) ?_
         refine SOps.offU rfl rfl (.inl (by simp only [kE, kT, kL, kC, Bool.not_true, Bool.not_false])) (by simp only [kP] <;> rfl) ?_
         refine SOps.offU rfl rfl (.inl (by simp only [kE, kT, kL, kC, Bool.not_true, Bool.not_false])) (by simp only [kP] <;> rfl) ?_
         refine SOps.offU rfl rfl (.inl (by simp only [kE, kT, kL, kC, Bool.not_true, Bool.not_false])) (by simp only [kP] <;> rfl) ?_
         refine SOps.offU rfl rfl (.inl (by simp only [kE, kT, kL, kC, Bool.not_true, Bool.not_false])) (by simp only [kP] <;> rfl) ?_
         iterate 2 (refine SV ?_)
         refine SOps.offU rfl rfl (.inl (by simp only [kE, kT, kL, kC, Bool.not_true, Bool.not_false])) (by simp only [kP] <;> rfl) ?_
         refine SOps.offU rfl rfl (.inl (by simp only [kE, kT, kL, kC, Bool.not_true, Bool.not_false])) (by simp only [kP] <;> rfl) ?_
         refine SOps.offU rfl rfl (.inl (by simp only [kE, kT, kL, kC, Bool.not_true, Bool.not_false])) (by simp only [kP] <;> rfl) ?_
         refine SOps.offU rfl rfl (.inl (by simp only [kE, kT, kL, kC, Bool.not_true, Bool.not_false])) (by simp only [kP] <;> rfl) ?_
         refine SOps.offU rfl rfl (.inl (by simp only [kE, kT, kL, kC, Bool.not_true, Bool.not_false])) (by simp only [kP] <;> rfl) ?_
         refine SV ?_
         refine SOps.nil ?_
         refine TOps.nil ?_
         refine ⟨rfl, ?_, rfl, rfl⟩
         refine ⟨?_, ?_, ?_, ?_, ?_, ?_, ?_, ?_, ?_, ?_, ?_, ?_, ?_, ?_, ?_, ?_, ?_, ?_, ?_, ?_, ?_, ?_, ?_, ?_, ?_, ?_, ?_, ?_, ?_, ?_, ?_, ?_, ?_, ?_, ?_, ?_, ?_, ?_, ?_, ?_, ?_, ?_, ?_, ?_, ?_, ?_, ?_, ?_, ?_, ?_, ?_, ?_, ?_, ?_, ?_, ?_, ?_, ?_, ?_, ?_, ?_, ?_, ?_, ?_, ?_, ?_, ?_, ?_, ?_, ?_, ?_, ?_, ?_, ?_, ?_, ?_, ?_, ?_, ?_, ?_, ?_, ?_, ?_, ?_, ?_, ?_, ?_, ?_, ?_, ?_, ?_, ?_, ?_, ?_, ?_, ?_, ?_, ?_, ?_, ?_, ?_, ?_, ?_, ?_, ?_, ?_, ?_, trivial⟩ <;> first | exact le_any _ | with_reducible exact le_rfl' _ | (refine .inl (congrArg V.bool ?_); (first | (simp [hmf, *]; done) | (simp [hmf, *] <;> omega) | (rw [Bool.eq_iff_iff]; simp [hmf, *] <;> omega) | (simp_all [hmf]; done) | (simp_all [hmf]; omega))) | exact le_rfl' _
        ·
         try simp only [bsimp] at hg8_27
         refine SOps.onEv tab_ok rfl rfl (by simp only [kE, kT, kL, kC]) (by simp only [kE, kT, kL, kC] <;> rfl) (by simp only [kP] <;> rfl) ?_
         refine SOps.onEv tab_ok rfl rfl (by simp only [kE, kT, kL, kC]) (by simp only [kE, kT, kL, kC] <;> rfl) (by simp only [kP] <;> rfl) ?_
         refine SOps.onEv tab_ok rfl rfl (by simp only [kE, kT, kL, kC]) (by simp only [kE, kT, kL, kC] <;> rfl) (by simp only [kP] <;> rfl) ?_
         refine SOps.onEv tab_ok rfl rfl (by simp only [kE, kT, kL, kC]) (by simp only [kE, kT, kL, kC] <;> rfl) (by simp only [kP] <;> rfl) ?_
         refine SOps.onS0 rfl rfl (by simp only [kE, kT, kL, kC]) (OpS.weakM rfl (by simp only [kE, kT, kL, kC] <;> rfl) (by simp only [kE, kT, kL, kC] <;> rfl) cl150 (w_spec_l06In s.gone s.boxes[i].gid (by have := h.2; omega))) (by simp only [kP] <;> rfl) ?_
         iterate 2 (refine SV ?_)
         refine SOps.split (d := 76) (by simp only [kE, kT, kL, kC] <;> rfl) (by simp only [kP] <;> rfl) (by simp only [kP] <;> rfl) (fun hg8_34 => ?_) (fun hg8_34 => ?_)
         ·
          try simp only [bsimp] at hg8_34
          refine SOps.offU rfl rfl (.inl (by simp only [kE, kT, kL, kC, Bool.not_true, Bool.not_false])) (by simp only [kP] <;> rfl) ?_
          refine SOps.offU rfl rfl (.inl (by simp only [kE, kT, kL, kC, Bool.not_true, Bool.not_false])) (by simp only [kP] <;> rfl) ?_
          refine SOps.offU rfl rfl (.inl (by simp only [kE, kT, kL, kC, Bool.not_true, Bool.not_false])) (by simp only [kP] <;> rfl) ?_
          refine SOps.offU rfl rfl (.inl (by simp only [kE, kT, kL, kC, Bool.not_true, Bool.not_false])) (by simp only [kP] <;> rfl) ?_
          refine SOps.offU rfl rfl (.inl (by simp only [kE, kT, kL, kC, Bool.not_true, Bool.not_false])) (by simp only [kP] <;> rfl) ?_
          refine SV ?_
          refine SOps.nil ?_
          refine TOps.nil ?_
          refine ⟨rfl, ?_, rfl, rfl⟩
          refine ⟨?_, ?_, ?_, ?_, ?_, ?_, ?_, ?_, ?_, ?_, ?_, ?_, ?_, ?_, ?_, ?_, ?_, ?_, ?_, ?_, ?_, ?_, ?_, ?_, ?_, ?_, ?_, ?_, ?_, ?_, ?_, ?_, ?_, ?_, ?_, ?_, ?_, ?_, ?_, ?_, ?_, ?_, ?_, ?_, ?_, ?_, ?_, ?_, ?_, ?_, ?_, ?_, ?_, ?_, ?_, ?_, ?_, ?_, ?_, ?_, ?_, ?_, ?_, ?_, ?_, ?_, ?_, ?_, ?_, ?_, ?_, ?_, ?_, ?_, ?_, ?_, ?_, ?_, ?_, ?_, ?_, ?_, ?_, ?_, ?_, ?_, ?_, ?_, ?_, ?_, ?_, ?_, ?_, ?_, ?_, ?_, ?_, ?_, ?_, ?_, ?_, ?_, ?_, ?_, ?_, ?_, ?_, trivial⟩ <;> first | exact le_any _ | with_reducible exact le_rfl' _ | (refine .inl (congrArg V.bool ?_); (first | (simp [hmf, *]; done) | (simp [hmf, *] <;> omega) | (rw [Bool.eq_iff_iff]; simp [hmf, *] <;> omega) | (simp_all [hmf]; done) | (simp_all [hmf]; omega))) | exact le_rfl' _
         ·
          try simp only [bsimp] at hg8_34
          refine SOps.onEv tab_ok rfl rfl (by simp only [kE, kT, kL, kC]) (by simp only [kE, kT, kL, kC] <;> rfl) (by simp only [kP] <;> rfl) ?_
          refine SOps.onEv tab_ok rfl rfl (by simp only [kE, kT, kL, kC]) (by simp only [kE, kT, kL, kC] <;> rfl) (by simp only [kP] <;> rfl) ?_
          refine SOps.onEv tab_ok rfl rfl (by simp only [kE, kT, kL, kC]) (by simp only [kE, kT, kL, kC] <;> rfl) (by simp only [kP] <;> rfl) ?_
          refine SOps.onS0 rfl rfl (by simp only [kE, kT, kL, kC]) (OpS.weakM rfl (by simp only [kE, kT, kL, kC] <;> rfl) (by simp only [kE, kT, kL, kC] <;> rfl) cl151 (w_spec_l07Times s.boxes[i] s.time (by have := (h.1.2 _ (List.getElem_mem hi)).2.1.1; omega) (fun m hm => by have := ((h.1.2 _ (List.getElem_mem hi)).2.1.2 m hm).1; omega))) (by simp only [kP] <;> rfl) ?_
          refine SOps.onEv tab_ok rfl rfl (by simp only [kE, kT, kL, kC]) (by simp only [kE, kT, kL, kC] <;> rfl) (by simp only [kP] <;> rfl) ?_
          refine SV ?_
          refine SOps.nil ?_
          refine TOps.nil ?_
          refine ⟨rfl, ?_, rfl, rfl⟩
          refine ⟨?_, ?_, ?_, ?_, ?_, ?_, ?_, ?_, ?_, ?_, ?_, ?_, ?_, ?_, ?_, ?_, ?_, ?_, ?_, ?_, ?_, ?_, ?_, ?_, ?_, ?_, ?_, ?_, ?_, ?_, ?_, ?_, ?_, ?_, ?_, ?_, ?_, ?_, ?_, ?_, ?_, ?_, ?_, ?_, ?_, ?_, ?_, ?_, ?_, ?_, ?_, ?_, ?_, ?_, ?_, ?_, ?_, ?_, ?_, ?_, ?_, ?_, ?_, ?_, ?_, ?_, ?_, ?_, ?_, ?_, ?_, ?_, ?_, ?_, ?_, ?_, ?_, ?_, ?_, ?_, ?_, ?_, ?_, ?_, ?_, ?_, ?_, ?_, ?_, ?_, ?_, ?_, ?_, ?_, ?_, ?_, ?_, ?_, ?_, ?_, ?_, ?_, ?_, ?_, ?_, ?_, ?_, trivial⟩ <;> first | exact le_any _ | with_reducible exact le_rfl' _ | (refine .inl (congrArg V.bool ?_); (first | (simp [hmf, *]; done) | (simp [hmf, *] <;> omega) | (rw [Bool.eq_iff_iff]; simp [hmf, *] <;> omega) | (simp_all [hmf]; done) | (simp_all [hmf]; omega))) | exact le_rfl' _
      ·
       try simp only [bsimp] at hg8_6
       have hbf : beforeB s.boxes (fun x y => decide (x.gid < y.gid)) i = true := by rw [show i = 0 by omega]; rfl
       refine SOps.offU rfl rfl (.inl (by simp only [kE, kT, kL, kC, Bool.not_true, Bool.not_false])) (by simp only [kP] <;> rfl) ?_
       refine SOps.offU rfl rfl (.inl (by simp only [kE, kT, kL, kC, Bool.not_true, Bool.not_false])) (by simp only [kP] <;> rfl) ?_
       refine SOps.offU rfl rfl (.inl (by simp only [kE, kT, kL, kC, Bool.not_true, Bool.not_false])) (by simp only [kP] <;> rfl) ?_
       refine SOps.offU rfl rfl (.inl (by simp only [kE, kT, kL, kC, Bool.not_true, Bool.not_false])) (by simp only [kP] <;> rfl) ?_
       refine SOps.offU rfl rfl (.inl (by simp only [kE, kT, kL, kC, Bool.not_true, Bool.not_false])) (by simp only [kP] <;> rfl) ?_
       refine SOps.offU rfl rfl (.inl (by simp only [kE, kT, kL, kC, Bool.not_true, Bool.not_false])) (by simp only [kP] <;> rfl) ?_
       refine SOps.offU rfl rfl (.inl (by simp only [kE, kT, kL, kC, Bool.not_true, Bool.not_false])) (by simp only [kP] <;> rfl) ?_
       refine SOps.offU rfl rfl (.inl (by simp only [kE, kT, kL, kC, Bool.not_true, Bool.not_false])) (by simp only [kP] <;> rfl) ?_
       refine SOps.offU rfl rfl (.inl (by simp only [kE, kT, kL, kC, Bool.not_true, Bool.not_false])) (by simp only [kP] <;> rfl) ?_
       refine SOps.offU rfl rfl (.inl (by simp only [kE, kT, kL, kC, Bool.not_true, Bool.not_false])) (by simp only [kP] <;> rfl) ?_
       refine SOps.onEv tab_ok rfl rfl (by simp only [kE, kT, kL, kC]) (by simp only [kE, kT, kL, kC] <;> rfl) (by simp only [kP] <;> rfl) ?_
       iterate 2 (refine SV ?_)
       refine SOps.onEv tab_ok rfl rfl (by simp only [kE, kT, kL, kC]) (by simp only [kE, kT, kL, kC] <;> rfl) (by simp only [kP] <;> rfl) ?_
       refine SOps.onEv tab_ok rfl rfl (by simp only [kE, kT, kL, kC]) (by simp only [kE, kT, kL, kC] <;> rfl) (by simp only [kP] <;> rfl) ?_
       refine SOps.onEv tab_ok rfl rfl (by simp only [kE, kT, kL, kC]) (by simp only [kE, kT, kL, kC] <;> rfl) (by simp only [kP] <;> rfl) ?_
       refine SOps.onS0 rfl rfl (by simp only [kE, kT, kL, kC]) (OpS.weakM rfl (by simp only [kE, kT, kL, kC] <;> rfl) (by simp only [kE, kT, kL, kC] <;> rfl) cl149 (w_spec_BoxNamed s s.boxes[i].name (by have := h.1.1; omega))) (by simp only [kP] <;> rfl) ?_
       refine SOps.onEv tab_ok rfl rfl (by simp only [kE, kT, kL, kC]) (by simp only [kE, kT, kL, kC] <;> rfl) (by simp only [kP] <;> rfl) ?_
       refine SOps.onEv tab_ok rfl rfl (by simp only [kE, kT, kL, kC]) (by simp only [kE, kT, kL, kC] <;> rfl) (by simp only [kP] <;> rfl) ?_
       iterate 2 (refine SV ?_)
       refine SOps.split (d := 69) (by simp only [kE, kT, kL, kC] <;> rfl) (by simp only [kP] <;> rfl) (by simp only [kP] <;> rfl) (fun hg8_27 => ?_) (fun hg8_27 => ?_)
       ·
        try simp only [bsimp] at hg8_27
        refine SOps.offU rfl rfl (.inl (by simp only [kE, kT, kL, kC, Bool.not_true, Bool.not_false])) (by simp only [kP] <;> rfl) ?_
        refine SOps.offU rfl rfl (.inl (by simp only [kE, kT, kL, kC, Bool.not_true, Bool.not_false])) (by simp only [kP] <;> rfl) ?_
        refine SOps.offU rfl rfl (.inl (by simp only [kE, kT, kL, kC, Bool.not_true, Bool.not_false])) (by simp only [kP] <;> rfl) ?_
        refine SOps.offU rfl rfl (.inl (by simp only [kE, kT, kL, kC, Bool.not_true, Bool.not_false])) (by simp only [kP] <;> rfl) ?_
        refine SOps.offU rfl rfl (.inl (by simp only [kE, kT, kL, kC, Bool.not_true, Bool.not_false])) (by simp only [kP] <;> rfl) ?_
        iterate 2 (refine SV ?_)
        refine SOps.offU rfl rfl (.inl (by simp only [kE, kT, kL, kC, Bool.not_true, Bool.not_false])) (by simp only [kP] <;> rfl) ?_
        refine SOps.offU rfl rfl (.inl (by simp only [kE, kT, kL, kC, Bool.not_true, Bool.not_false])) (by simp only [kP] <;> rfl) ?_
        refine SOps.offU rfl rfl (.inl (by simp only [kE, kT, kL, kC, Bool.not_true, Bool.not_false])) (by simp only [kP] <;> rfl) ?_
        refine SOps.offU rfl rfl (.inl (by simp only [kE, kT, kL, kC, Bool.not_true, Bool.not_false])) (by simp only [kP] <;> rfl) ?_
        refine SOps.offU rfl rfl (.inl (by simp only [kE, kT, kL, kC, Bool.not_true, Bool.not_false])) (by simp only [kP] <;> rfl) ?_
        refine SV ?_
        refine SOps.nil ?_
        refine TOps.nil ?_
        refine ⟨rfl, ?_, rfl, rfl⟩
        refine ⟨?_, ?_, ?_, ?_, ?_, ?_, ?_, ?_, ?_, ?_, ?_, ?_, ?_, ?_, ?_, ?_, ?_, ?_, ?_, ?_, ?_, ?_, ?_, ?_, ?_, ?_, ?_, ?_, ?_, ?_, ?_, ?_, ?_, ?_, ?_, ?_, ?_, ?_, ?_, ?_, ?_, ?_, ?_, ?_, ?_, ?_, ?_, ?_, ?_, ?_, ?_, ?_, ?_, ?_, ?_, ?_, ?_, ?_, ?_, ?_, ?_, ?_, ?_, ?_, ?_, ?_, ?_, ?_, ?_, ?_, ?_, ?_, ?_, ?_, ?_, ?_, ?_, ?_, ?_, ?_, ?_, ?_, ?_, ?_, ?_, ?_, ?_, ?_, ?_, ?_, ?_, ?_, ?_, ?_, ?_, ?_, ?_, ?_, ?_, ?_, ?_, ?_, ?_, ?_, ?_, ?_, ?_, trivial⟩ <;> first | exact le_any _ | with_reducible exact le_rfl' _ | (refine .inl (congrArg V.bool ?_); (first | (simp [hmf, *]; done) | (simp [hmf, *] <;> omega) | (rw [Bool.eq_iff_iff]; simp [hmf, *] <;> omega) | (simp_all [hmf]; done) | (simp_all [hmf]; omega))) | exact le_rfl' _
       ·
        try simp only [bsimp] at hg8_27
        refine SOps.onEv tab_ok rfl rfl (by simp only [kE, kT, kL, kC]) (by simp only [kE, kT, kL, kC] <;> rfl) (by simp only [kP] <;> rfl) ?_
        refine SOps.onEv tab_ok rfl rfl (by simp only [kE, kT, kL, kC]) (by simp only [kE, kT, kL, kC] <;> rfl) (by simp only [kP] <;> rfl) ?_
        refine SOps.onEv tab_ok rfl rfl (by simp only [kE, kT, kL, kC]) (by simp only [kE, kT, kL, kC] <;> rfl) (by simp only [kP] <;> rfl) ?_
        refine SOps.onEv tab_ok rfl rfl (by simp only [kE, kT, kL, kC]) (by simp only [kE, kT, kL, kC] <;> rfl) (by simp only [kP] <;> rfl) ?_
        refine SOps.onS0 rfl rfl (by simp only [kE, kT, kL, kC]) (OpS.weakM rfl (by simp only [kE, kT, kL, kC] <;> rfl) (by simp only [kE, kT, kL, kC] <;> rfl) cl150 (w_spec_l06In s.gone s.boxes[i].gid (by have := h.2; omega))) (by simp only [kP] <;> rfl) ?_
        iterate 2 (refine SV ?_)
        refine SOps.split (d := 76) (by simp only [kE, kT, kL, kC] <;> rfl) (by simp only [kP] <;> rfl) (by simp only [kP] <;> rfl) (fun hg8_34 => ?_) (fun hg8_34 => ?_)
        ·
         try simp only [bsimp] at hg8_34
         refine SOps.offU rfl rfl (.inl (by simp only [kE, kT, kL, kC, Bool.not_true, Bool.not_false])) (by simp only [kP] <;> rfl) ?_
         refine SOps.offU rfl rfl (.inl (by simp only [kE, kT, kL, kC, Bool.not_true, Bool.not_false])) (by simp only [kP] <;> rfl) ?_
         refine SOps.offU rfl rfl (.inl (by simp only [kE, kT, kL, kC, Bool.not_true, Bool.not_false])) (by simp only [kP] <;> rfl) ?_
         refine SOps.offU rfl rfl (.inl (by simp only [kE, kT, kL, kC, Bool.not_true, Bool.not_false])) (by simp only [kP] <;> rfl) ?_
         refine SOps.offU rfl rfl (.inl (by simp only [kE, kT, kL, kC, Bool.not_true, Bool.not_false])) (by simp only [kP] <;> rfl) ?_
         refine SV ?_
         refine SOps.nil ?_
         refine TOps.nil ?_
         refine ⟨rfl, ?_, rfl, rfl⟩
         refine ⟨?_, ?_, ?_, ?_, ?_, ?_, ?_, ?_, ?_, ?_, ?_, ?_, ?_, ?_, ?_, ?_, ?_, ?_, ?_, ?_, ?_, ?_, ?_, ?_, ?_, ?_, ?_, ?_, ?_, ?_, ?_, ?_, ?_, ?_, ?_, ?_, ?_, ?_, ?_, ?_, ?_, ?_, ?_, ?_, ?_, ?_, ?_, ?_, ?_, ?_, ?_, ?_, ?_, ?_, ?_, ?_, ?_, ?_, ?_, ?_, ?_, ?_, ?_, ?_, ?_, ?_, ?_, ?_, ?_, ?_, ?_, ?_, ?_, ?_, ?_, ?_, ?_, ?_, ?_, ?_, ?_, ?_, ?_, ?_, ?_, ?_, ?_, ?_, ?_, ?_, ?_, ?_, ?_, ?_, ?_, ?_, ?_, ?_, ?_, ?_, ?_, ?_, ?_, ?_, ?_, ?_, ?_, trivial⟩ <;> first | exact le_any _ | with_reducible exact le_rfl' _ | (refine .inl (congrArg V.bool ?_); (first | (simp [hmf, *]; done) | (simp [hmf, *] <;> omega) | (rw [Bool.eq_iff_iff]; simp [hmf, *] <;> omega) | (simp_all [hmf]; done) | (simp_all [hmf]; omega))) | exact le_rfl' _
        ·
         try simp only [bsimp] at hg8_34
         refine SOps.onEv tab_ok rfl rfl (by simp only [kE, kT, kL, kC]) (by simp only [kE, kT, kL, kC] <;> rfl) (by simp only [kP] <;> rfl) ?_
         refine SOps.onEv tab_ok rfl rfl (by simp only [kE, kT, kL, kC]) (by simp only [kE, kT, kL, kC] <;> rfl) (by simp only [kP] <;> rfl) ?_
         refine SOps.onEv tab_ok rfl rfl (by simp only [kE, kT, kL, kC]) (by simp only [kE, kT, kL, kC] <;> rfl) (by simp only [kP] <;> rfl) ?_
         refine SOps.onS0 rfl rfl (by simp only [kE, kT, kL, kC]) (OpS.weakM rfl (by simp only [kE, kT, kL, kC] <;> rfl) (by simp only [kE, kT, kL, kC] <;> rfl) cl151 (w_spec_l07Times s.boxes[i] s.time (by have := (h.1.2 _ (List.getElem_mem hi)).2.1.1; omega) (fun m hm => by have := ((h.1.2 _ (List.getElem_mem hi)).2.1.2 m hm).1; omega))) (by simp only [kP] <;> rfl) ?_
         refine SOps.onEv tab_ok rfl rfl (by simp only [kE, kT, kL, kC]) (by simp only [kE, kT, kL, kC] <;> rfl) (by simp only [kP] <;> rfl) ?_
         refine SV ?_
         refine SOps.nil ?_
         refine TOps.nil ?_
         refine ⟨rfl, ?_, rfl, rfl⟩
         refine ⟨?_, ?_, ?_, ?_, ?_, ?_, ?_, ?_, ?_, ?_, ?_, ?_, ?_, ?_, ?_, ?_, ?_, ?_, ?_, ?_, ?_, ?_, ?_, ?_, ?_, ?_, ?_, ?_, ?_, ?_, ?_, ?_, ?_, ?_, ?_, ?_, ?_, ?_, ?_, ?_, ?_, ?_, ?_, ?_, ?_, ?_, ?_, ?_, ?_, ?_, ?_, ?_, ?_, ?_, ?_, ?_, ?_, ?_, ?_, ?_, ?_, ?_, ?_, ?_, ?_, ?_, ?_, ?_, ?_, ?_, ?_, ?_, ?_, ?_, ?_, ?_, ?_, ?_, ?_, ?_, ?_, ?_, ?_, ?_, ?_, ?_, ?_, ?_, ?_, ?_, ?_, ?_, ?_, ?_, ?_, ?_, ?_, ?_, ?_, ?_, ?_, ?_, ?_, ?_, ?_, ?_, ?_, trivial⟩ <;> first | exact le_any _ | with_reducible exact le_rfl' _ | (refine .inl (congrArg V.bool ?_); (first | (simp [hmf, *]; done) | (simp [hmf, *] <;> omega) | (rw [Bool.eq_iff_iff]; simp [hmf, *] <;> omega) | (simp_all [hmf]; done) | (simp_all [hmf]; omega))) | exact le_rfl' _
    ·
     refine Ok.cond (b := _) (by simp only [kE, kT, kL, kC] <;> rfl) (fun hb8 => ?_) (fun hb8 => ?_)
     ·
      try simp only [bsimp] at hb8
      rw [show storeOk s = false by unfold storeOk; rw [allUp_no hi (show boxGood s i = false by unfold boxGood; rw [hb8, Bool.false_and]), Bool.and_false]]
      refine OQ ?_
      refine EV ?_
      refine ON ?_
      refine Ok.ret ?_
      with_reducible repeat (first | refine thenQ_ret ?_ | refine blockQ_ret ?_)
      refine RT ?_
      rfl
     ·
      try simp only [bsimp] at hb8
      refine Ok.skip ?_
      refine OQ ?_
      refine EV ?_
      refine ON ?_
      refine Ok.block ?_
      refine Ok.loopWZ (τ := Nat) (fun x => [(3, .sl 2 1 0 ((seenG s i x).map cZ)), (6, .int .i64 (x : Int))]) [2, 83, 84, 85, 86, 87, 88, 89, 90, 91, 92, 93, 94, 95, 96, 97, 98, 99, 100, 101, 102, 103, 104, 105, 106] (fun x => by simp only [kover] <;> rfl) (fun x => x ≤ s.boxes[i].mails.length ∧ ∀ k, k < x → newAt s i k = true) (fun x => s.boxes[i].mails.length - x) 0 (by omega) (by refine ⟨?_, ?_, ?_, ?_, ?_, ?_, ?_, ?_, ?_, ?_, ?_, ?_, ?_, ?_, ?_, ?_, ?_, ?_, ?_, ?_, ?_, ?_, ?_, ?_, ?_, ?_, ?_, ?_, ?_, ?_, ?_, ?_, ?_, ?_, ?_, ?_, ?_, ?_, ?_, ?_, ?_, ?_, ?_, ?_, ?_, ?_, ?_, ?_, ?_, ?_, ?_, ?_, ?_, ?_, ?_, ?_, ?_, ?_, ?_, ?_, ?_, ?_, ?_, ?_, ?_, ?_, ?_, ?_, ?_, ?_, ?_, ?_, ?_, ?_, ?_, ?_, ?_, ?_, ?_, ?_, ?_, ?_, ?_, ?_, ?_, ?_, ?_, ?_, ?_, ?_, ?_, ?_, ?_, ?_, ?_, ?_, ?_, ?_, ?_, ?_, ?_, ?_, ?_, ?_, ?_, ?_, ?_, trivial⟩ <;> first | exact le_any _ | with_reducible exact le_rfl' _ | (exact le_rfl' _) | exact le_rfl' _) (⟨Nat.zero_le _, fun k h => by omega⟩) ?_
      rintro j ⟨g1, g2⟩
      refine Ok.seq ?_
      refine OQ ?_
      iterate 5 (refine EV ?_)
      refine ON ?_
      refine Ok.cond (b := _) (by simp only [kE, kT, kL, kC] <;> rfl) (fun hb11 => ?_) (fun hb11 => ?_)
      ·
       try simp only [bsimp] at hb11
       have hj : j < s.boxes[i].mails.length := by omega
       have hna := newAt_get hi hj
       have hsl := seen_len h hi hj
       refine Ok.skip ?_
       refine Ok.seq ?_
       refine Ok.block ?_
       refine Ok.seq ?_
       refine OQ ?_
       iterate 4 (refine EV ?_)
       refine OkOps.ev tab_ok rfl (ev_idx_map (by simp only [kE, kT, kL, kC] <;> rfl) (by simp only [kE, kT, kL, kC] <;> rfl) (by omega) (by simp only [kE, kT, kL, kC] <;> rfl)) (by simp only [kP] <;> rfl) ?_
       iterate 2 (refine EV ?_)
       refine OkOps.S0 rfl (OpS.weakE rfl (by simp only [kE, kT, kL, kC] <;> rfl) (by simp only [kE, kT, kL, kC, V.eraseL, V.erase, V.travL, V.trav, zz, zf, zy] <;> rfl) cl150 (by simp [V.labels, V.labelsL, V.labelsLL, zz, zf, zy]) (w_spec_l06In (seenG s i j) s.boxes[i].mails[j].gid (by omega))) (by simp only [kP] <;> rfl) ?_
       refine ON ?_
       refine Ok.cond (b := _) (by simp only [kE, kT, kL, kC] <;> rfl) (fun hb13 => ?_) (fun hb13 => ?_)
       ·
        try simp only [bsimp] at hb13
        have hnw : newAt s i j = false := by rw [hna]; simpa using hb13
        rw [show storeOk s = false by unfold storeOk; rw [allUp_no hi (show boxGood s i = false by unfold boxGood; rw [boxNew_get hi, allUp_no hj hnw, Bool.and_false]), Bool.and_false]]
        refine OQ ?_
        refine EV ?_
        refine ON ?_
        refine Ok.ret ?_
        with_reducible repeat (first | refine thenQ_ret ?_ | refine blockQ_ret ?_)
        refine RT ?_
        rfl
       ·
        try simp only [bsimp] at hb13
        have hnw : newAt s i j = true := by rw [hna]; simpa using hb13
        refine Ok.skip ?_
        refine Ok.region ?_
        iterate 4 (refine EV ?_)
        refine OkOps.ev tab_ok rfl (ev_idx_map (by simp only [kE, kT, kL, kC] <;> rfl) (by simp only [kE, kT, kL, kC] <;> rfl) (by omega) (by simp only [kE, kT, kL, kC] <;> rfl)) (by simp only [kP] <;> rfl) ?_
        iterate 2 (refine EV ?_)
        refine OkOps.ev tab_ok rfl (ev_bs (by simp only [kT] <;> rfl) (by simp only [kT] <;> rfl) (by decide) (by decide) (by simp only [kE, kT, kL, kC, List.map_cons, List.map_nil] <;> rfl) (by simp only [kfe, beq_self_eq_true, Bool.and_true, Bool.true_and, decide_true, Nat.zero_add, Nat.lt_add_one, Nat.reduceLT, Nat.reduceAdd, Nat.zero_lt_succ, if_true, ↓reduceIte] <;> rfl)) (by simp only [kP] <;> rfl) ?_
        refine OkOps.append tab_ok rfl rfl (by simp only [kT] <;> rfl) (by simp only [kT] <;> rfl) (by decide) rfl (by simp only [kE, kT, kL, kC] <;> rfl) (.inl ⟨_, _, by simp only [kE, kT, kL, kC] <;> rfl⟩) (by omega) (by omega) (by simp only [List.length_map, List.length_cons, List.length_nil]; omega) (by simp only [List.length_map, List.length_cons, List.length_nil]; omega) (by simp [V.one]) (by simp only [V.killL, V.killLL, V.travL, V.travLL, V.trav, killS, killP, Nat.reduceEqDiff, ↓reduceIte, reduceCtorEq, if_true, if_false, List.append_nil, List.nil_append, List.cons_append, zz, zf, zy] <;> rfl) (by simp only [V.killL, V.killLL, V.travL, V.travLL, V.trav, killS, killP, Nat.reduceEqDiff, ↓reduceIte, reduceCtorEq, if_true, if_false, List.append_nil, List.nil_append, List.cons_append, zz, zf, zy, kP] <;> rfl) (rfl) ?_
        refine EV ?_
        refine ON ?_
        refine Ok.region ?_
        iterate 3 (refine EV ?_)
        refine ON ?_
        refine ⟨j + 1, ?_, rfl, ⟨by omega, up_next g2 hnw⟩, by omega⟩
        simp only [V.renL, V.travL, V.travLL, V.trav, frz, zz, zf, zy, Nat.reduceLeDiff, ↓reduceIte]
        refine ⟨?_, ?_, ?_, ?_, ?_, ?_, ?_, ?_, ?_, ?_, ?_, ?_, ?_, ?_, ?_, ?_, ?_, ?_, ?_, ?_, ?_, ?_, ?_, ?_, ?_, ?_, ?_, ?_, ?_, ?_, ?_, ?_, ?_, ?_, ?_, ?_, ?_, ?_, ?_, ?_, ?_, ?_, ?_, ?_, ?_, ?_, ?_, ?_, ?_, ?_, ?_, ?_, ?_, ?_, ?_, ?_, ?_, ?_, ?_, ?_, ?_, ?_, ?_, ?_, ?_, ?_, ?_, ?_, ?_, ?_, ?_, ?_, ?_, ?_, ?_, ?_, ?_, ?_, ?_, ?_, ?_, ?_, ?_, ?_, ?_, ?_, ?_, ?_, ?_, ?_, ?_, ?_, ?_, ?_, ?_, ?_, ?_, ?_, ?_, ?_, ?_, ?_, ?_, ?_, ?_, ?_, ?_, trivial⟩ <;> first | exact le_any _ | with_reducible exact le_rfl' _ | ((first | (rw [wrap_add_one (by omega)]; exact le_rfl' _) | (rw [seen_mail hi hj, List.map_append]; exact le_rfl' _) | (refine le_eqm ?_; rw [seen_mail hi hj, List.map_append]; rfl))) | exact le_rfl' _
      ·
       try simp only [bsimp] at hb11
       obtain rfl : j = s.boxes[i].mails.length := by omega
       have hgd : boxGood s i = true := by unfold boxGood; rw [hb8, boxNew_get hi, allUp_yes g2]; rfl
       refine Ok.exit ?_
       refine Ok.region ?_
       iterate 3 (refine EV ?_)
       refine ON ?_
       refine ⟨i + 1, ?_, rfl, ⟨by omega, up_next h2 hgd⟩, by omega⟩
       simp only [V.renL, V.travL, V.travLL, V.trav, frz, zz, zf, zy, Nat.reduceLeDiff, ↓reduceIte]
       refine ⟨?_, ?_, ?_, ?_, ?_, ?_, ?_, ?_, ?_, ?_, ?_, ?_, ?_, ?_, ?_, ?_, ?_, ?_, ?_, ?_, ?_, ?_, ?_, ?_, ?_, ?_, ?_, ?_, ?_, ?_, ?_, ?_, ?_, ?_, ?_, ?_, ?_, ?_, ?_, ?_, ?_, ?_, ?_, ?_, ?_, ?_, ?_, ?_, ?_, ?_, ?_, ?_, ?_, ?_, ?_, ?_, ?_, ?_, ?_, ?_, ?_, ?_, ?_, ?_, ?_, ?_, ?_, ?_, ?_, ?_, ?_, ?_, ?_, ?_, ?_, ?_, ?_, ?_, ?_, ?_, ?_, ?_, ?_, ?_, ?_, ?_, ?_, ?_, ?_, ?_, ?_, ?_, ?_, ?_, ?_, ?_, ?_, ?_, ?_, ?_, ?_, ?_, ?_, ?_, ?_, ?_, ?_, trivial⟩ <;> first | exact le_any _ | with_reducible exact le_rfl' _ | ((first | (rw [wrap_add_one (by omega)]; exact le_rfl' _) | (rw [seen_box hi]; exact le_rfl' _))) | exact le_rfl' _
   ·
    try simp only [bsimp] at hb5
    obtain rfl : i = s.boxes.length := by omega
    rw [show storeOk s = true by unfold storeOk; rw [hh, allUp_yes h2]; rfl]
    refine Ok.exit ?_
    refine OQ ?_
    refine EV ?_
    refine ON ?_
    refine Ok.ret ?_
    with_reducible repeat (first | refine thenQ_ret ?_ | refine blockQ_ret ?_)
    refine RT ?_
    rfl
end Go.Proofs.YtjhfabimacljhaaGreat.K
