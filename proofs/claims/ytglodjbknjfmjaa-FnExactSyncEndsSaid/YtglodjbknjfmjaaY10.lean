/- Walks: syncs ended. Printed by w2.py. -/
import Derived.Test.YtglodjbknjfmjaaY9
namespace Go.Proofs.Ytglodjbknjfmjaa.K
open Go Go.RowKit
set_option linter.unusedVariables false
set_option linter.unusedSimpArgs false
theorem p_impl_copySync (y : Sync) (h : y.link.way.length ≤ 2097152) (h2 : y.pieces.length ≤ 2097152) : Pure Try.prog 84 [.agg (cSync y)] (.agg (cSync y)) := by
  refine Pure.of (by simp [V.dat, V.datL, V.datLL, zz]) (OkCall.enter' tab_ok Try.func84 rfl (t := [.agg (cSync y), .any, .any, .any, .any, .any, .any, .any, .any, .any, .any, .any, .any]) rfl ?_)
  refine Ok.seq ?_
  refine Ok.region ?_
  iterate 2 (refine OkOps.ev tab_ok rfl (by simp only [kev, ktab, klen, kcv] <;> rfl) (by simp only [kput] <;> rfl) ?_)
  refine OkOps.nil ?_
  refine Ok.seq ?_
  refine Ok.region ?_
  iterate 2 (refine OkOps.ev tab_ok rfl (by simp only [kev, ktab, klen, kcv] <;> rfl) (by simp only [kput] <;> rfl) ?_)
  refine OkOps.S' rfl (OpS.pure' rfl (by simp only [kev, ktab, klen, kcv] <;> rfl) (by simp only [kev, ktab, klen, kcv, V.eraseL, V.erase, V.travL, V.trav, zz] <;> rfl) cl76 (by simp [V.dat, V.datL, V.datLL, zz]) (p_impl_copyLink y.link h)) (by simp only [V.cnt, V.cntL, zz, Nat.add_zero, Nat.reduceAdd] <;> rfl) (by simp only [kput, V.tag, V.tagL, V.cnt, V.cntL, zz, Nat.add_zero, Nat.reduceAdd] <;> rfl) ?_
  refine OkOps.ev tab_ok rfl (by simp only [kev, ktab, klen, kcv] <;> rfl) (by simp only [kput] <;> rfl) ?_
  refine OkOps.storeE tab_ok rfl rfl (by simp only [kev, ktab, klen, kcv] <;> rfl) ⟨_, _, by simp only [kev]; rfl⟩ (by simp [V.labelsL, V.labelsLL, V.labels, zz]) (by simp only [eq_self, V.updL, V.travL, V.travLL, V.trav, updS, updP, and_self, true_and, and_true, false_and, and_false, Nat.reduceEqDiff, Nat.reduceSub, Nat.le_refl, Nat.zero_le, ↓reduceIte, if_true, if_false, kput, zz] <;> rfl) (rfl) ?_
  refine OkOps.nil ?_
  refine Ok.seq ?_
  refine Ok.region ?_
  iterate 3 (refine OkOps.ev tab_ok rfl (by simp only [kev, ktab, klen, kcv] <;> rfl) (by simp only [kput] <;> rfl) ?_)
  refine OkOps.S rfl (ok_append_nil tab_ok (by simp only [ktab] <;> rfl) (by simp only [ktab] <;> rfl) (by decide) rfl rfl (by simp only [kev, ktab, klen, kcv] <;> rfl) (.inl ⟨_, _, by simp only [kev, ktab, klen, kcv] <;> rfl⟩) (by simp only [List.length_map]; omega) (by simp only [List.length_map]; omega)) (by simp only [kput, klen] <;> rfl) ?_
  refine OkOps.ev tab_ok rfl (by simp only [kev, ktab, klen, kcv] <;> rfl) (by simp only [kput] <;> rfl) ?_
  refine OkOps.storeE tab_ok rfl rfl (by simp only [kev, ktab, klen, kcv] <;> rfl) ⟨_, _, by simp only [kev]; rfl⟩ (by simp [V.labelsL, V.labelsLL, V.labels, zz]) (by simp only [eq_self, V.updL, V.travL, V.travLL, V.trav, updS, updP, and_self, true_and, and_true, false_and, and_false, Nat.reduceEqDiff, Nat.reduceSub, Nat.le_refl, Nat.zero_le, ↓reduceIte, if_true, if_false, kput, zz] <;> rfl) (rfl) ?_
  refine OkOps.nil ?_
  refine Ok.seq ?_
  refine Ok.region ?_
  refine OkOps.ev tab_ok rfl (by simp only [kev, ktab, klen, kcv] <;> rfl) (by simp only [kput] <;> rfl) ?_
  refine OkOps.storeE tab_ok rfl rfl (by simp only [kev, ktab, klen, kcv] <;> rfl) ⟨_, _, by simp only [kev]; rfl⟩ (by simp [V.labelsL, V.labelsLL, V.labels, zz]) (by simp only [eq_self, V.updL, V.travL, V.travLL, V.trav, updS, updP, and_self, true_and, and_true, false_and, and_false, Nat.reduceEqDiff, Nat.reduceSub, Nat.le_refl, Nat.zero_le, ↓reduceIte, if_true, if_false, kput, zz] <;> rfl) (rfl) ?_
  refine OkOps.nil ?_
  refine Ok.ret ?_
  repeat (first | with_reducible refine thenQ_ret ?_ | with_reducible refine blockQ_ret ?_)
  refine retQ.end (by show resVs tab _ [.cell 2 53] = _; simp only [kev, ktab, klen, kcv] <;> rfl) rfl ?_
  exact ⟨by simp [V.erase, V.trav, V.travL, packV, zz], by simp [V.labels, V.labelsL, V.labelsLL, packV, zz], by simp [V.labels, V.labelsL, V.labelsLL, packV, zz]⟩
theorem w_impl_copySync (y : Sync) (h : y.link.way.length ≤ 2097152) (h2 : y.pieces.length ≤ 2097152) : Weak Try.prog 84 [.agg (cSync y)] (.agg (cSync y)) := by
  have h := Pure.weak (by simp [V.dat, V.datL, V.datLL, zz]) (p_impl_copySync y h h2) (by simp [V.eraseL, V.erase, V.trav, V.travL, zz])
  simpa [V.erase, V.trav, V.travL, zz] using h
theorem p_spec_l18Copy (y : Sync) (h : y.link.way.length ≤ 2097152) (h2 : y.pieces.length ≤ 2097152) : Pure Try.prog 83 [.agg (cSync y)] (.agg (cSync y)) := by
  refine Pure.of (by simp [V.dat, V.datL, V.datLL, zz]) (OkCall.enter' tab_ok Try.func83 rfl (t := [.agg (cSync y), .any, .any, .any, .any, .any, .any, .any, .any, .any, .any, .any, .any, .any, .any]) rfl ?_)
  refine Ok.seq ?_
  refine Ok.region ?_
  iterate 2 (refine OkOps.ev tab_ok rfl (by simp only [kev, ktab, klen, kcv] <;> rfl) (by simp only [kput] <;> rfl) ?_)
  refine OkOps.nil ?_
  refine Ok.seq ?_
  refine Ok.region ?_
  iterate 2 (refine OkOps.ev tab_ok rfl (by simp only [kev, ktab, klen, kcv] <;> rfl) (by simp only [kput] <;> rfl) ?_)
  refine OkOps.storeE tab_ok rfl rfl (by simp only [kev, ktab, klen, kcv] <;> rfl) ⟨_, _, by simp only [kev]; rfl⟩ (by simp [V.labelsL, V.labelsLL, V.labels, zz]) (by simp only [eq_self, V.updL, V.travL, V.travLL, V.trav, updS, updP, and_self, true_and, and_true, false_and, and_false, Nat.reduceEqDiff, Nat.reduceSub, Nat.le_refl, Nat.zero_le, ↓reduceIte, if_true, if_false, kput, zz] <;> rfl) (rfl) ?_
  refine OkOps.nil ?_
  refine Ok.seq ?_
  refine Ok.region ?_
  iterate 2 (refine OkOps.ev tab_ok rfl (by simp only [kev, ktab, klen, kcv] <;> rfl) (by simp only [kput] <;> rfl) ?_)
  refine OkOps.S' rfl (OpS.pure' rfl (by simp only [kev, ktab, klen, kcv] <;> rfl) (by simp only [kev, ktab, klen, kcv, V.eraseL, V.erase, V.travL, V.trav, zz] <;> rfl) cl82 (by simp [V.dat, V.datL, V.datLL, zz]) (p_spec_l17Copy y.link h)) (by simp only [V.cnt, V.cntL, zz, Nat.add_zero, Nat.reduceAdd] <;> rfl) (by simp only [kput, V.tag, V.tagL, V.cnt, V.cntL, zz, Nat.add_zero, Nat.reduceAdd] <;> rfl) ?_
  refine OkOps.ev tab_ok rfl (by simp only [kev, ktab, klen, kcv] <;> rfl) (by simp only [kput] <;> rfl) ?_
  refine OkOps.storeE tab_ok rfl rfl (by simp only [kev, ktab, klen, kcv] <;> rfl) ⟨_, _, by simp only [kev]; rfl⟩ (by simp [V.labelsL, V.labelsLL, V.labels, zz]) (by simp only [eq_self, V.updL, V.travL, V.travLL, V.trav, updS, updP, and_self, true_and, and_true, false_and, and_false, Nat.reduceEqDiff, Nat.reduceSub, Nat.le_refl, Nat.zero_le, ↓reduceIte, if_true, if_false, kput, zz] <;> rfl) (rfl) ?_
  refine OkOps.nil ?_
  refine Ok.seq ?_
  refine Ok.region ?_
  iterate 3 (refine OkOps.ev tab_ok rfl (by simp only [kev, ktab, klen, kcv] <;> rfl) (by simp only [kput] <;> rfl) ?_)
  refine OkOps.S rfl (ok_append_nil tab_ok (by simp only [ktab] <;> rfl) (by simp only [ktab] <;> rfl) (by decide) rfl rfl (by simp only [kev, ktab, klen, kcv] <;> rfl) (.inl ⟨_, _, by simp only [kev, ktab, klen, kcv] <;> rfl⟩) (by simp only [List.length_map]; omega) (by simp only [List.length_map]; omega)) (by simp only [kput, klen] <;> rfl) ?_
  refine OkOps.ev tab_ok rfl (by simp only [kev, ktab, klen, kcv] <;> rfl) (by simp only [kput] <;> rfl) ?_
  refine OkOps.storeE tab_ok rfl rfl (by simp only [kev, ktab, klen, kcv] <;> rfl) ⟨_, _, by simp only [kev]; rfl⟩ (by simp [V.labelsL, V.labelsLL, V.labels, zz]) (by simp only [eq_self, V.updL, V.travL, V.travLL, V.trav, updS, updP, and_self, true_and, and_true, false_and, and_false, Nat.reduceEqDiff, Nat.reduceSub, Nat.le_refl, Nat.zero_le, ↓reduceIte, if_true, if_false, kput, zz] <;> rfl) (rfl) ?_
  refine OkOps.nil ?_
  refine Ok.seq ?_
  refine Ok.region ?_
  refine OkOps.ev tab_ok rfl (by simp only [kev, ktab, klen, kcv] <;> rfl) (by simp only [kput] <;> rfl) ?_
  refine OkOps.storeE tab_ok rfl rfl (by simp only [kev, ktab, klen, kcv] <;> rfl) ⟨_, _, by simp only [kev]; rfl⟩ (by simp [V.labelsL, V.labelsLL, V.labels, zz]) (by simp only [eq_self, V.updL, V.travL, V.travLL, V.trav, updS, updP, and_self, true_and, and_true, false_and, and_false, Nat.reduceEqDiff, Nat.reduceSub, Nat.le_refl, Nat.zero_le, ↓reduceIte, if_true, if_false, kput, zz] <;> rfl) (rfl) ?_
  refine OkOps.nil ?_
  refine Ok.ret ?_
  repeat (first | with_reducible refine thenQ_ret ?_ | with_reducible refine blockQ_ret ?_)
  refine retQ.end (by show resVs tab _ [.cell 2 53] = _; simp only [kev, ktab, klen, kcv] <;> rfl) rfl ?_
  exact ⟨by simp [V.erase, V.trav, V.travL, packV, zz], by simp [V.labels, V.labelsL, V.labelsLL, packV, zz], by simp [V.labels, V.labelsL, V.labelsLL, packV, zz]⟩
theorem w_spec_l18Copy (y : Sync) (h : y.link.way.length ≤ 2097152) (h2 : y.pieces.length ≤ 2097152) : Weak Try.prog 83 [.agg (cSync y)] (.agg (cSync y)) := by
  have h := Pure.weak (by simp [V.dat, V.datL, V.datLL, zz]) (p_spec_l18Copy y h h2) (by simp [V.eraseL, V.erase, V.trav, V.travL, zz])
  simpa [V.erase, V.trav, V.travL, zz] using h
theorem p_impl_SyncEnds (y : Sync) (b : Bool) (h : y.link.way.length ≤ 2097152) (h2 : y.pieces.length ≤ 2097152) : Pure Try.prog 51 [.agg (cSync y), .bool b] (.agg (cSync (syncEnds y b))) := by
  refine Pure.of (by simp [V.dat, V.datL, V.datLL, zz]) (OkCall.enter' tab_ok Try.func51 rfl (t := [.agg (cSync y), .bool b, .any, .any, .any, .any, .any, .any, .any, .any, .any, .any]) rfl ?_)
  refine Ok.seq ?_
  refine Ok.region ?_
  iterate 2 (refine OkOps.ev tab_ok rfl (by simp only [kev, ktab, klen, kcv] <;> rfl) (by simp only [kput] <;> rfl) ?_)
  refine OkOps.nil ?_
  refine Ok.seq ?_
  refine Ok.region ?_
  refine OkOps.ev tab_ok rfl (by simp only [kev, ktab, klen, kcv] <;> rfl) (by simp only [kput] <;> rfl) ?_
  refine OkOps.S' rfl (OpS.pure' rfl (by simp only [kev, ktab, klen, kcv] <;> rfl) (by simp only [kev, ktab, klen, kcv, V.eraseL, V.erase, V.travL, V.trav, zz] <;> rfl) cl84 (by simp [V.dat, V.datL, V.datLL, zz]) (p_impl_copySync y h h2)) (by simp only [V.cnt, V.cntL, zz, Nat.add_zero, Nat.reduceAdd] <;> rfl) (by simp only [kput, V.tag, V.tagL, V.cnt, V.cntL, zz, Nat.add_zero, Nat.reduceAdd] <;> rfl) ?_
  refine OkOps.ev tab_ok rfl (by simp only [kev, ktab, klen, kcv] <;> rfl) (by simp only [kput] <;> rfl) ?_
  refine OkOps.storeE tab_ok rfl rfl (by simp only [kev, ktab, klen, kcv] <;> rfl) ⟨_, _, by simp only [kev]; rfl⟩ (by simp [V.labelsL, V.labelsLL, V.labels, zz]) (by simp only [eq_self, V.updL, V.travL, V.travLL, V.trav, updS, updP, and_self, true_and, and_true, false_and, and_false, Nat.reduceEqDiff, Nat.reduceSub, Nat.le_refl, Nat.zero_le, ↓reduceIte, if_true, if_false, kput, zz] <;> rfl) (rfl) ?_
  refine OkOps.nil ?_
  refine Ok.seq ?_
  refine Ok.seq ?_
  refine Ok.region ?_
  refine OkOps.ev tab_ok rfl (by simp only [kev, ktab, klen, kcv] <;> rfl) (by simp only [kput] <;> rfl) ?_
  refine OkOps.nil ?_
  refine Ok.cond (b := _) (by simp only [kev, ktab, klen, kcv] <;> rfl) (fun hb2 => ?_) (fun hb2 => ?_)
  · try simp only [bsimp] at hb2
    rw [syncEnds_t hb2]
    refine Ok.region ?_
    refine OkOps.ev tab_ok rfl (by simp only [kev, ktab, klen, kcv] <;> rfl) (by simp only [kput] <;> rfl) ?_
    refine OkOps.storeE tab_ok rfl rfl (by simp only [kev, ktab, klen, kcv] <;> rfl) ⟨_, _, by simp only [kev]; rfl⟩ (by simp [V.labelsL, V.labelsLL, V.labels, zz]) (by simp only [eq_self, V.updL, V.travL, V.travLL, V.trav, updS, updP, and_self, true_and, and_true, false_and, and_false, Nat.reduceEqDiff, Nat.reduceSub, Nat.le_refl, Nat.zero_le, ↓reduceIte, if_true, if_false, kput, zz] <;> rfl) (rfl) ?_
    refine OkOps.nil ?_
    refine Ok.seq ?_
    refine Ok.region ?_
    refine OkOps.ev tab_ok rfl (by simp only [kev, ktab, klen, kcv] <;> rfl) (by simp only [kput] <;> rfl) ?_
    refine OkOps.storeE tab_ok rfl rfl (by simp only [kev, ktab, klen, kcv] <;> rfl) ⟨_, _, by simp only [kev]; rfl⟩ (by simp [V.labelsL, V.labelsLL, V.labels, zz]) (by simp only [eq_self, V.updL, V.travL, V.travLL, V.trav, updS, updP, and_self, true_and, and_true, false_and, and_false, Nat.reduceEqDiff, Nat.reduceSub, Nat.le_refl, Nat.zero_le, ↓reduceIte, if_true, if_false, kput, zz] <;> rfl) (rfl) ?_
    refine OkOps.nil ?_
    refine Ok.ret ?_
    repeat (first | with_reducible refine thenQ_ret ?_ | with_reducible refine blockQ_ret ?_)
    refine retQ.end (by show resVs tab _ [.cell 4 53] = _; simp only [kev, ktab, klen, kcv] <;> rfl) rfl ?_
    exact ⟨by simp [V.erase, V.trav, V.travL, packV, zz], by simp [V.labels, V.labelsL, V.labelsLL, packV, zz], by simp [V.labels, V.labelsL, V.labelsLL, packV, zz]⟩
  · try simp only [bsimp] at hb2
    rw [syncEnds_f hb2]
    refine Ok.region ?_
    refine OkOps.ev tab_ok rfl (by simp only [kev, ktab, klen, kcv] <;> rfl) (by simp only [kput] <;> rfl) ?_
    refine OkOps.storeE tab_ok rfl rfl (by simp only [kev, ktab, klen, kcv] <;> rfl) ⟨_, _, by simp only [kev]; rfl⟩ (by simp [V.labelsL, V.labelsLL, V.labels, zz]) (by simp only [eq_self, V.updL, V.travL, V.travLL, V.trav, updS, updP, and_self, true_and, and_true, false_and, and_false, Nat.reduceEqDiff, Nat.reduceSub, Nat.le_refl, Nat.zero_le, ↓reduceIte, if_true, if_false, kput, zz] <;> rfl) (rfl) ?_
    refine OkOps.nil ?_
    refine Ok.seq ?_
    refine Ok.region ?_
    refine OkOps.ev tab_ok rfl (by simp only [kev, ktab, klen, kcv] <;> rfl) (by simp only [kput] <;> rfl) ?_
    refine OkOps.storeE tab_ok rfl rfl (by simp only [kev, ktab, klen, kcv] <;> rfl) ⟨_, _, by simp only [kev]; rfl⟩ (by simp [V.labelsL, V.labelsLL, V.labels, zz]) (by simp only [eq_self, V.updL, V.travL, V.travLL, V.trav, updS, updP, and_self, true_and, and_true, false_and, and_false, Nat.reduceEqDiff, Nat.reduceSub, Nat.le_refl, Nat.zero_le, ↓reduceIte, if_true, if_false, kput, zz] <;> rfl) (rfl) ?_
    refine OkOps.nil ?_
    refine Ok.ret ?_
    repeat (first | with_reducible refine thenQ_ret ?_ | with_reducible refine blockQ_ret ?_)
    refine retQ.end (by show resVs tab _ [.cell 4 53] = _; simp only [kev, ktab, klen, kcv] <;> rfl) rfl ?_
    exact ⟨by simp [V.erase, V.trav, V.travL, packV, zz], by simp [V.labels, V.labelsL, V.labelsLL, packV, zz], by simp [V.labels, V.labelsL, V.labelsLL, packV, zz]⟩
theorem w_impl_SyncEnds (y : Sync) (b : Bool) (h : y.link.way.length ≤ 2097152) (h2 : y.pieces.length ≤ 2097152) : Weak Try.prog 51 [.agg (cSync y), .bool b] (.agg (cSync (syncEnds y b))) := by
  have h := Pure.weak (by simp [V.dat, V.datL, V.datLL, zz]) (p_impl_SyncEnds y b h h2) (by simp [V.eraseL, V.erase, V.trav, V.travL, zz])
  simpa [V.erase, V.trav, V.travL, zz] using h
theorem p_spec_SyncEnds (y : Sync) (b : Bool) (h : y.link.way.length ≤ 2097152) (h2 : y.pieces.length ≤ 2097152) : Pure Try.prog 50 [.agg (cSync y), .bool b] (.agg (cSync (syncEnds y b))) := by
  refine Pure.of (by simp [V.dat, V.datL, V.datLL, zz]) (OkCall.enter' tab_ok Try.func50 rfl (t := [.agg (cSync y), .bool b, .any, .any, .any, .any, .any, .any, .any, .any, .any, .any]) rfl ?_)
  refine Ok.seq ?_
  refine Ok.region ?_
  iterate 2 (refine OkOps.ev tab_ok rfl (by simp only [kev, ktab, klen, kcv] <;> rfl) (by simp only [kput] <;> rfl) ?_)
  refine OkOps.nil ?_
  refine Ok.seq ?_
  refine Ok.region ?_
  refine OkOps.ev tab_ok rfl (by simp only [kev, ktab, klen, kcv] <;> rfl) (by simp only [kput] <;> rfl) ?_
  refine OkOps.S' rfl (OpS.pure' rfl (by simp only [kev, ktab, klen, kcv] <;> rfl) (by simp only [kev, ktab, klen, kcv, V.eraseL, V.erase, V.travL, V.trav, zz] <;> rfl) cl83 (by simp [V.dat, V.datL, V.datLL, zz]) (p_spec_l18Copy y h h2)) (by simp only [V.cnt, V.cntL, zz, Nat.add_zero, Nat.reduceAdd] <;> rfl) (by simp only [kput, V.tag, V.tagL, V.cnt, V.cntL, zz, Nat.add_zero, Nat.reduceAdd] <;> rfl) ?_
  refine OkOps.ev tab_ok rfl (by simp only [kev, ktab, klen, kcv] <;> rfl) (by simp only [kput] <;> rfl) ?_
  refine OkOps.storeE tab_ok rfl rfl (by simp only [kev, ktab, klen, kcv] <;> rfl) ⟨_, _, by simp only [kev]; rfl⟩ (by simp [V.labelsL, V.labelsLL, V.labels, zz]) (by simp only [eq_self, V.updL, V.travL, V.travLL, V.trav, updS, updP, and_self, true_and, and_true, false_and, and_false, Nat.reduceEqDiff, Nat.reduceSub, Nat.le_refl, Nat.zero_le, ↓reduceIte, if_true, if_false, kput, zz] <;> rfl) (rfl) ?_
  refine OkOps.nil ?_
  refine Ok.seq ?_
  refine Ok.seq ?_
  refine Ok.region ?_
  refine OkOps.ev tab_ok rfl (by simp only [kev, ktab, klen, kcv] <;> rfl) (by simp only [kput] <;> rfl) ?_
  refine OkOps.nil ?_
  refine Ok.cond (b := _) (by simp only [kev, ktab, klen, kcv] <;> rfl) (fun hb2 => ?_) (fun hb2 => ?_)
  · try simp only [bsimp] at hb2
    rw [syncEnds_t hb2]
    refine Ok.region ?_
    refine OkOps.ev tab_ok rfl (by simp only [kev, ktab, klen, kcv] <;> rfl) (by simp only [kput] <;> rfl) ?_
    refine OkOps.storeE tab_ok rfl rfl (by simp only [kev, ktab, klen, kcv] <;> rfl) ⟨_, _, by simp only [kev]; rfl⟩ (by simp [V.labelsL, V.labelsLL, V.labels, zz]) (by simp only [eq_self, V.updL, V.travL, V.travLL, V.trav, updS, updP, and_self, true_and, and_true, false_and, and_false, Nat.reduceEqDiff, Nat.reduceSub, Nat.le_refl, Nat.zero_le, ↓reduceIte, if_true, if_false, kput, zz] <;> rfl) (rfl) ?_
    refine OkOps.nil ?_
    refine Ok.seq ?_
    refine Ok.region ?_
    refine OkOps.ev tab_ok rfl (by simp only [kev, ktab, klen, kcv] <;> rfl) (by simp only [kput] <;> rfl) ?_
    refine OkOps.storeE tab_ok rfl rfl (by simp only [kev, ktab, klen, kcv] <;> rfl) ⟨_, _, by simp only [kev]; rfl⟩ (by simp [V.labelsL, V.labelsLL, V.labels, zz]) (by simp only [eq_self, V.updL, V.travL, V.travLL, V.trav, updS, updP, and_self, true_and, and_true, false_and, and_false, Nat.reduceEqDiff, Nat.reduceSub, Nat.le_refl, Nat.zero_le, ↓reduceIte, if_true, if_false, kput, zz] <;> rfl) (rfl) ?_
    refine OkOps.nil ?_
    refine Ok.ret ?_
    repeat (first | with_reducible refine thenQ_ret ?_ | with_reducible refine blockQ_ret ?_)
    refine retQ.end (by show resVs tab _ [.cell 4 53] = _; simp only [kev, ktab, klen, kcv] <;> rfl) rfl ?_
    exact ⟨by simp [V.erase, V.trav, V.travL, packV, zz], by simp [V.labels, V.labelsL, V.labelsLL, packV, zz], by simp [V.labels, V.labelsL, V.labelsLL, packV, zz]⟩
  · try simp only [bsimp] at hb2
    rw [syncEnds_f hb2]
    refine Ok.region ?_
    refine OkOps.ev tab_ok rfl (by simp only [kev, ktab, klen, kcv] <;> rfl) (by simp only [kput] <;> rfl) ?_
    refine OkOps.storeE tab_ok rfl rfl (by simp only [kev, ktab, klen, kcv] <;> rfl) ⟨_, _, by simp only [kev]; rfl⟩ (by simp [V.labelsL, V.labelsLL, V.labels, zz]) (by simp only [eq_self, V.updL, V.travL, V.travLL, V.trav, updS, updP, and_self, true_and, and_true, false_and, and_false, Nat.reduceEqDiff, Nat.reduceSub, Nat.le_refl, Nat.zero_le, ↓reduceIte, if_true, if_false, kput, zz] <;> rfl) (rfl) ?_
    refine OkOps.nil ?_
    refine Ok.seq ?_
    refine Ok.region ?_
    refine OkOps.ev tab_ok rfl (by simp only [kev, ktab, klen, kcv] <;> rfl) (by simp only [kput] <;> rfl) ?_
    refine OkOps.storeE tab_ok rfl rfl (by simp only [kev, ktab, klen, kcv] <;> rfl) ⟨_, _, by simp only [kev]; rfl⟩ (by simp [V.labelsL, V.labelsLL, V.labels, zz]) (by simp only [eq_self, V.updL, V.travL, V.travLL, V.trav, updS, updP, and_self, true_and, and_true, false_and, and_false, Nat.reduceEqDiff, Nat.reduceSub, Nat.le_refl, Nat.zero_le, ↓reduceIte, if_true, if_false, kput, zz] <;> rfl) (rfl) ?_
    refine OkOps.nil ?_
    refine Ok.ret ?_
    repeat (first | with_reducible refine thenQ_ret ?_ | with_reducible refine blockQ_ret ?_)
    refine retQ.end (by show resVs tab _ [.cell 4 53] = _; simp only [kev, ktab, klen, kcv] <;> rfl) rfl ?_
    exact ⟨by simp [V.erase, V.trav, V.travL, packV, zz], by simp [V.labels, V.labelsL, V.labelsLL, packV, zz], by simp [V.labels, V.labelsL, V.labelsLL, packV, zz]⟩
theorem w_spec_SyncEnds (y : Sync) (b : Bool) (h : y.link.way.length ≤ 2097152) (h2 : y.pieces.length ≤ 2097152) : Weak Try.prog 50 [.agg (cSync y), .bool b] (.agg (cSync (syncEnds y b))) := by
  have h := Pure.weak (by simp [V.dat, V.datL, V.datLL, zz]) (p_spec_SyncEnds y b h h2) (by simp [V.eraseL, V.erase, V.trav, V.travL, zz])
  simpa [V.erase, V.trav, V.travL, zz] using h
theorem c_laws_markSync (y : Sync) (k L M : Nat) (hk : k + y.link.way.length + y.pieces.length ≤ 4611686018427387904) {h : List V} {n : Nat} (hL : L + 1 < n) (hM : M + 1 < n) (hLM : L ≠ M) : OkCall Try.prog 52 [.agg [.int .i64 y.epoch, .int .i64 y.link.epoch, .sl (L + 1) 1 0 (y.link.way.map cS), .int .i64 y.link.next, .int .i64 y.link.want, .int .i64 y.total, .sl (M + 1) 1 0 (y.pieces.map cS), .bool y.done, .bool y.failed], .int .i64 (k : Int)] h n (fun r h1 n1 => r = .int .i64 ((k + y.link.way.length + y.pieces.length : Nat) : Int) ∧ h1 = h.map (fillA (M + 1) ((marks (k + y.link.way.length) y.pieces.length).map cS) ∘ fillA (L + 1) ((marks k y.link.way.length).map cS)) ∧ n1 = n + 2) := by
  refine OkCall.enter' tab_ok Try.func52 rfl (t := [.agg [.int .i64 y.epoch, .int .i64 y.link.epoch, .sl (L + 1) 1 0 (y.link.way.map cS), .int .i64 y.link.next, .int .i64 y.link.want, .int .i64 y.total, .sl (M + 1) 1 0 (y.pieces.map cS), .bool y.done, .bool y.failed], .int .i64 (k : Int), .any, .any, .any, .any, .any, .any, .any, .any, .any, .any, .any, .any]) rfl ?_
  have e1 : (L = M) = False := by simp [hLM]
  have e2 : (M = L) = False := by simp [Ne.symm hLM]
  have e3 : (n = L + 1) = False := by simp; omega
  have e4 : (n = M + 1) = False := by simp; omega
  refine Ok.seq ?_
  refine Ok.region ?_
  iterate 2 (refine OkOps.ev tab_ok rfl (by simp only [kev, ktab, klen, kcv] <;> rfl) (by simp only [kput] <;> rfl) ?_)
  refine OkOps.nil ?_
  refine Ok.seq ?_
  refine Ok.region ?_
  iterate 3 (refine OkOps.ev tab_ok rfl (by simp only [kev, ktab, klen, kcv] <;> rfl) (by simp only [kput] <;> rfl) ?_)
  refine OkOps.turn _ rfl rfl (by simp only [kev, ktab, klen, kcv] <;> rfl) (by simp only [kev, ktab, klen, kcv] <;> rfl) cl27 (fun h => c_laws_markLink y.link k L (by omega) (by omega)) (by first | rfl | (simp only [Nat.add_zero, Nat.reduceAdd] <;> rfl)) (by simp only [List.map_cons, List.map_nil, kturn, fillA_ptr, fillA_far, fillA_self, zz, ne_eq, Nat.reduceEqDiff, not_false_eq_true, List.length_map, marks_len, e1, e2, e3, e4, kput] <;> rfl) (rfl) ?_
  refine OkOps.ev tab_ok rfl (by simp only [kev, ktab, klen, kcv] <;> rfl) (by simp only [kput] <;> rfl) ?_
  refine OkOps.nil ?_
  refine Ok.seq ?_
  refine Ok.region ?_
  iterate 3 (refine OkOps.ev tab_ok rfl (by simp only [kev, ktab, klen, kcv] <;> rfl) (by simp only [kput] <;> rfl) ?_)
  refine OkOps.turn _ rfl rfl (by simp only [kev, ktab, klen, kcv] <;> rfl) (by simp only [kev, ktab, klen, kcv] <;> rfl) cl22 (fun h => c_laws_markStringS y.pieces (k + y.link.way.length) M (by omega)) (by first | rfl | (simp only [Nat.add_zero, Nat.reduceAdd] <;> rfl)) (by simp only [List.map_cons, List.map_nil, kturn, fillA_ptr, fillA_far, fillA_self, zz, ne_eq, Nat.reduceEqDiff, not_false_eq_true, List.length_map, marks_len, e1, e2, e3, e4, kput] <;> rfl) (rfl) ?_
  refine OkOps.ev tab_ok rfl (by simp only [kev, ktab, klen, kcv] <;> rfl) (by simp only [kput] <;> rfl) ?_
  refine OkOps.nil ?_
  refine Ok.seq ?_
  refine Ok.region ?_
  iterate 2 (refine OkOps.ev tab_ok rfl (by simp only [kev, ktab, klen, kcv] <;> rfl) (by simp only [kput] <;> rfl) ?_)
  refine OkOps.nil ?_
  refine Ok.ret ?_
  repeat (first | with_reducible refine thenQ_ret ?_ | with_reducible refine blockQ_ret ?_)
  refine retQ.end (by show resVs tab _ [.tmp 4] = _; simp only [kev, ktab, klen, kcv] <;> rfl) rfl ?_
  exact ⟨rfl, List.map_map, rfl⟩
theorem w_laws_heldSync (y : Sync) (k m m2 : Nat) (hl : y.link.way = marks k m) (hl2 : y.pieces = marks (k + m) m2) (hk : k + m + m2 ≤ 4611686018427387904) : Weak Try.prog 53 [.agg (cSync y), .int .i64 (k : Int)] (.int .i64 ((k + m + m2 : Nat) : Int)) := by
  refine Weak.enter tab_ok Try.func53 rfl (.inr (by simp [V.labelsL, V.labels, zz])) (t := [.agg (cSync y), .int .i64 (k : Int), .any, .any, .any, .any, .any, .any, .any, .any, .any, .any, .any, .any, .any, .any, .any, .any]) rfl ?_
  refine Ok.seq ?_
  refine Ok.region ?_
  iterate 2 (refine OkOps.ev tab_ok rfl (by simp only [kev, ktab, klen, kcv] <;> rfl) (by simp only [kput] <;> rfl) ?_)
  refine OkOps.nil ?_
  refine Ok.seq ?_
  refine Ok.region ?_
  iterate 3 (refine OkOps.ev tab_ok rfl (by simp only [kev, ktab, klen, kcv] <;> rfl) (by simp only [kput] <;> rfl) ?_)
  refine OkOps.S rfl (OpS.weak' rfl (by simp only [kev, ktab, klen, kcv] <;> rfl) (by simp only [kev, ktab, klen, kcv] <;> rfl) cl28 (w_laws_heldLink y.link k m hl (by omega))) (by simp only [kput] <;> rfl) ?_
  refine OkOps.ev tab_ok rfl (by simp only [kev, ktab, klen, kcv] <;> rfl) (by simp only [kput] <;> rfl) ?_
  refine OkOps.nil ?_
  refine Ok.seq ?_
  refine Ok.seq ?_
  refine Ok.region ?_
  iterate 2 (refine OkOps.ev tab_ok rfl (by simp only [kev, ktab, klen, kcv] <;> rfl) (by simp only [kput] <;> rfl) ?_)
  refine OkOps.nil ?_
  refine Ok.cond_false (by simp only [kev, ktab, klen, kcv] <;> (simp; omega)) ?_
  refine Ok.skip ?_
  refine Ok.seq ?_
  refine Ok.region ?_
  refine OkOps.ev tab_ok rfl (by simp only [kev, ktab, klen, kcv] <;> rfl) (by simp only [kput] <;> rfl) ?_
  refine OkOps.ev tab_ok rfl (by simp only [kev, ktab, klen, kcv, hl2] <;> rfl) (by simp only [kput] <;> rfl) ?_
  refine OkOps.ev tab_ok rfl (by simp only [kev, ktab, klen, kcv] <;> rfl) (by simp only [kput] <;> rfl) ?_
  refine OkOps.S rfl (OpS.weak' rfl (by simp only [kev, ktab, klen, kcv] <;> rfl) (by simp only [kev, ktab, klen, kcv] <;> rfl) cl23 (w_laws_heldStringS (k + m) m2 (by omega))) (by simp only [kput] <;> rfl) ?_
  refine OkOps.ev tab_ok rfl (by simp only [kev, ktab, klen, kcv] <;> rfl) (by simp only [kput] <;> rfl) ?_
  refine OkOps.nil ?_
  refine Ok.seq ?_
  refine Ok.seq ?_
  refine Ok.region ?_
  iterate 2 (refine OkOps.ev tab_ok rfl (by simp only [kev, ktab, klen, kcv] <;> rfl) (by simp only [kput] <;> rfl) ?_)
  refine OkOps.nil ?_
  refine Ok.cond_false (by simp only [kev, ktab, klen, kcv] <;> (simp; omega)) ?_
  refine Ok.skip ?_
  refine Ok.seq ?_
  refine Ok.region ?_
  iterate 2 (refine OkOps.ev tab_ok rfl (by simp only [kev, ktab, klen, kcv] <;> rfl) (by simp only [kput] <;> rfl) ?_)
  refine OkOps.nil ?_
  refine Ok.ret ?_
  repeat (first | with_reducible refine thenQ_ret ?_ | with_reducible refine blockQ_ret ?_)
  refine retQ.end (by show resVs tab _ [.tmp 4] = _; simp only [kev, ktab, klen, kcv] <;> rfl) rfl ?_
  rfl
theorem w_laws_FnExactSyncEnds (y : Sync) (b : Bool) (hb : StrsB y.link.way ∧ StrsB y.pieces) : Weak Try.prog 11 [.agg (cSync y), .bool b] (.bool true) := by
  refine Weak.enter tab_ok Try.func11 rfl (.inr (by simp [V.labelsL, V.labels, zz])) (t := [.agg (cSync y), .bool b, .any, .any, .any, .any, .any, .any, .any, .any, .any, .any, .any, .any, .any, .any, .any, .any, .any, .any, .any, .any, .any, .any, .any, .any, .any, .any, .any, .any, .any, .any, .any, .any, .any, .any, .any, .any, .any, .any, .any, .any, .any, .any, .any, .any, .any, .any, .any, .any, .any, .any, .any, .any, .any, .any, .any, .any, .any, .any, .any, .any, .any, .any, .any, .any, .any, .any, .any, .any, .any, .any, .any, .any]) rfl ?_
  refine Ok.seq ?_
  refine Ok.region ?_
  iterate 2 (refine OkOps.ev tab_ok rfl (by simp only [kev, ktab, klen, kcv] <;> rfl) (by simp only [kput] <;> rfl) ?_)
  refine OkOps.nil ?_
  refine Ok.seq ?_
  refine Ok.region ?_
  refine OkOps.ev tab_ok rfl (by simp only [kev, ktab, klen, kcv] <;> rfl) (by simp only [kput] <;> rfl) ?_
  refine OkOps.nil ?_
  refine Ok.seq ?_
  refine Ok.region ?_
  iterate 2 (refine OkOps.ev tab_ok rfl (by simp only [kev, ktab, klen, kcv] <;> rfl) (by simp only [kput] <;> rfl) ?_)
  refine OkOps.S rfl (OpS.weak' rfl (by simp only [kev, ktab, klen, kcv] <;> rfl) (by simp only [kev, ktab, klen, kcv] <;> rfl) cl34 (w_laws_szSync y _)) (by simp only [kput] <;> rfl) ?_
  refine OkOps.ev tab_ok rfl (by simp only [kev, ktab, klen, kcv] <;> rfl) (by simp only [kput] <;> rfl) ?_
  refine OkOps.nil ?_
  refine Ok.seq ?_
  refine Ok.seq ?_
  refine Ok.region ?_
  iterate 2 (refine OkOps.ev tab_ok rfl (by simp only [kev, ktab, klen, kcv] <;> rfl) (by simp only [kput] <;> rfl) ?_)
  refine OkOps.nil ?_
  refine Ok.cond (b := _) (by simp only [kev, ktab, klen, kcv] <;> rfl) (fun hb3 => ?_) (fun hb3 => ?_)
  · try simp only [bsimp] at hb3
    refine Ok.seq ?_
    refine Ok.region ?_
    refine OkOps.ev tab_ok rfl (by simp only [kev, ktab, klen, kcv] <;> rfl) (by simp only [kput] <;> rfl) ?_
    refine OkOps.nil ?_
    refine Ok.ret ?_
    repeat (first | with_reducible refine thenQ_ret ?_ | with_reducible refine blockQ_ret ?_)
    refine retQ.end (by show resVs tab _ [.tmp 4] = _; simp only [kev, ktab, klen, kcv] <;> rfl) rfl ?_
    rfl
  · try simp only [bsimp] at hb3
    have hs := (szSync_ok (by omega) (by omega) hb.1 hb.2 hb3).2
    have hs1 : StrsOk y.link.way := hs.1.1
    have hs2 : StrsOk y.pieces := hs.2.1
    have hs3 : y.link.way.length ≤ 2097152 := by have := hs.1.1; omega
    have hs4 : y.pieces.length ≤ 2097152 := by have := hs.2.1; omega
    have hw := congrArg List.length (syncEnds_way y b)
    have hp := congrArg List.length (syncEnds_pieces y b)
    refine Ok.skip ?_
    refine Ok.seq ?_
    refine Ok.region ?_
    refine OkOps.ev tab_ok rfl (by simp only [kev, ktab, klen, kcv] <;> rfl) (by simp only [kput] <;> rfl) ?_
    refine OkOps.S rfl (OpS.weak' rfl (by simp only [kev, ktab, klen, kcv] <;> rfl) (by simp only [kev, ktab, klen, kcv] <;> rfl) cl36 (w_laws_toSync y hs1 hs2)) (by simp only [kput] <;> rfl) ?_
    refine OkOps.ev tab_ok rfl (by simp only [kev, ktab, klen, kcv] <;> rfl) (by simp only [kput] <;> rfl) ?_
    refine OkOps.S rfl (OpS.weak' rfl (by simp only [kev, ktab, klen, kcv] <;> rfl) (by simp only [kev, ktab, klen, kcv] <;> rfl) cl50 (w_spec_SyncEnds y b hs3 hs4)) (by simp only [kput] <;> rfl) ?_
    refine OkOps.ev tab_ok rfl (by simp only [kev, ktab, klen, kcv] <;> rfl) (by simp only [kput] <;> rfl) ?_
    refine OkOps.storeE tab_ok rfl rfl (by simp only [kev, ktab, klen, kcv] <;> rfl) ⟨_, _, by simp only [kev]; rfl⟩ (by simp [V.labelsL, V.labelsLL, V.labels, zz]) (by simp only [eq_self, V.updL, V.travL, V.travLL, V.trav, updS, updP, and_self, true_and, and_true, false_and, and_false, Nat.reduceEqDiff, Nat.reduceSub, Nat.le_refl, Nat.zero_le, ↓reduceIte, if_true, if_false, kput, zz] <;> rfl) (rfl) ?_
    refine OkOps.nil ?_
    refine Ok.seq ?_
    refine Ok.region ?_
    refine OkOps.ev tab_ok rfl (by simp only [kev, ktab, klen, kcv] <;> rfl) (by simp only [kput] <;> rfl) ?_
    refine OkOps.S' rfl (OpS.pure' rfl (by simp only [kev, ktab, klen, kcv] <;> rfl) (by simp only [kev, ktab, klen, kcv, V.eraseL, V.erase, V.travL, V.trav, zz] <;> rfl) cl36 (by simp [V.dat, V.datL, V.datLL, zz]) (p_laws_toSync y hs1 hs2)) (by simp only [V.cnt, V.cntL, zz, Nat.add_zero, Nat.reduceAdd] <;> rfl) (by simp only [kput, V.tag, V.tagL, V.cnt, V.cntL, zz, Nat.add_zero, Nat.reduceAdd] <;> rfl) ?_
    refine OkOps.ev tab_ok rfl (by simp only [kev, ktab, klen, kcv] <;> rfl) (by simp only [kput] <;> rfl) ?_
    refine OkOps.storeE tab_ok rfl rfl (by simp only [kev, ktab, klen, kcv] <;> rfl) ⟨_, _, by simp only [kev]; rfl⟩ (by simp [V.labelsL, V.labelsLL, V.labels, zz]) (by simp only [eq_self, V.updL, V.travL, V.travLL, V.trav, updS, updP, and_self, true_and, and_true, false_and, and_false, Nat.reduceEqDiff, Nat.reduceSub, Nat.le_refl, Nat.zero_le, ↓reduceIte, if_true, if_false, kput, zz] <;> rfl) (rfl) ?_
    refine OkOps.nil ?_
    refine Ok.seq ?_
    refine Ok.region ?_
    iterate 2 (refine OkOps.ev tab_ok rfl (by simp only [kev, ktab, klen, kcv] <;> rfl) (by simp only [kput] <;> rfl) ?_)
    refine OkOps.S' rfl (OpS.pure' rfl (by simp only [kev, ktab, klen, kcv] <;> rfl) (by simp only [kev, ktab, klen, kcv, V.eraseL, V.erase, V.travL, V.trav, zz] <;> rfl) cl51 (by simp [V.dat, V.datL, V.datLL, zz]) (p_impl_SyncEnds y b hs3 hs4)) (by simp only [V.cnt, V.cntL, zz, Nat.add_zero, Nat.reduceAdd] <;> rfl) (by simp only [kput, V.tag, V.tagL, V.cnt, V.cntL, zz, Nat.add_zero, Nat.reduceAdd] <;> rfl) ?_
    refine OkOps.ev tab_ok rfl (by simp only [kev, ktab, klen, kcv] <;> rfl) (by simp only [kput] <;> rfl) ?_
    refine OkOps.storeE tab_ok rfl rfl (by simp only [kev, ktab, klen, kcv] <;> rfl) ⟨_, _, by simp only [kev]; rfl⟩ (by simp [V.labelsL, V.labelsLL, V.labels, zz]) (by simp only [eq_self, V.updL, V.travL, V.travLL, V.trav, updS, updP, and_self, true_and, and_true, false_and, and_false, Nat.reduceEqDiff, Nat.reduceSub, Nat.le_refl, Nat.zero_le, ↓reduceIte, if_true, if_false, kput, zz] <;> rfl) (rfl) ?_
    refine OkOps.nil ?_
    refine Ok.seq ?_
    refine Ok.seq ?_
    refine Ok.region ?_
    iterate 2 (refine OkOps.ev tab_ok rfl (by simp only [kev, ktab, klen, kcv] <;> rfl) (by simp only [kput] <;> rfl) ?_)
    refine OkOps.S rfl (OpS.weakE rfl (by simp only [kev, ktab, klen, kcv] <;> rfl) (by simp only [kev, ktab, klen, kcv, V.eraseL, V.erase, V.travL, V.trav, zz] <;> rfl) cl38 (by simp [V.labels, V.labelsL, V.labelsLL, zz]) (w_laws_eqSync (syncEnds y b) (syncEnds y b))) (by simp only [kput] <;> rfl) ?_
    refine OkOps.ev tab_ok rfl (by simp only [kev, ktab, klen, kcv] <;> rfl) (by simp only [kput] <;> rfl) ?_
    refine OkOps.nil ?_
    refine Ok.cond_false (by simp only [kev, ktab, klen, kcv] <;> first | rfl | (simp; done) | (simp; omega)) ?_
    refine Ok.skip ?_
    refine Ok.seq ?_
    refine Ok.seq ?_
    refine Ok.drawn 5 74 [] (by kernel_rfl) (by kernel_rfl) rfl ?_
    refine SOps.ev tab_ok rfl (by simp only [kev, ktab, klen, kcv] <;> rfl) (by simp only [kput] <;> rfl) ?_
    refine SOps.ev tab_ok rfl (by simp only [kev, ktab, klen, kcv] <;> rfl) (by simp only [kput] <;> rfl) ?_
    refine SOps.S rfl (OpS.weakM rfl (by simp only [kev, ktab, klen, kcv] <;> rfl) (by simp only [kev, ktab, klen, kcv] <;> rfl) cl36 (w_laws_toSync y hs1 hs2)) (by simp only [kput] <;> rfl) ?_
    refine SOps.S rfl (OpS.weakEM rfl (by simp only [kev, ktab, klen, kcv] <;> rfl) (by simp only [kev, ktab, klen, kcv, V.eraseL, V.erase, V.travL, V.trav, zz] <;> rfl) cl38 (by simp [V.labels, V.labelsL, V.labelsLL, zz]) (w_laws_eqSync y y)) (by simp only [kput] <;> rfl) ?_
    refine SOps.ev tab_ok rfl (by simp only [kev, ktab, klen, kcv] <;> rfl) (by simp only [kput] <;> rfl) ?_
    refine SOps.nil ?_
    refine TOps.nil ?_
    refine Ok.cond_false (by simp only [kev, ktab, klen, kcv] <;> first | rfl | (simp; done) | (simp; omega)) ?_
    refine Ok.skip ?_
    refine Ok.seq ?_
    refine Ok.region ?_
    refine OkOps.ev tab_ok rfl (by simp only [kev, ktab, klen, kcv] <;> rfl) (by simp only [kput] <;> rfl) ?_
    refine OkOps.nil ?_
    refine Ok.seq ?_
    refine Ok.region ?_
    iterate 2 (refine OkOps.ev tab_ok rfl (by simp only [kev, ktab, klen, kcv] <;> rfl) (by simp only [kput] <;> rfl) ?_)
    refine OkOps.turn _ rfl rfl (by simp only [kev, ktab, klen, kcv] <;> rfl) (by simp only [kev, ktab, klen, kcv] <;> rfl) cl52 (fun h => c_laws_markSync y 1 2 3 (by omega) (by omega) (by omega) (by omega)) (by first | rfl | (simp only [Nat.add_zero, Nat.reduceAdd] <;> rfl)) (by simp only [List.map_cons, List.map_nil, kturn, fillA_ptr, fillA_far, fillA_self, zz, ne_eq, Nat.reduceEqDiff, not_false_eq_true, List.length_map, marks_len, Function.comp_apply, kput] <;> rfl) (rfl) ?_
    refine OkOps.ev tab_ok rfl (by simp only [kev, ktab, klen, kcv] <;> rfl) (by simp only [kput] <;> rfl) ?_
    refine OkOps.nil ?_
    refine Ok.seq ?_
    refine Ok.seq ?_
    refine Ok.region ?_
    iterate 3 (refine OkOps.ev tab_ok rfl (by simp only [kev, ktab, klen, kcv] <;> rfl) (by simp only [kput] <;> rfl) ?_)
    refine OkOps.split (d := 41) (by simp only [kev, ktab, klen, kcv] <;> rfl) (by simp only [kput] <;> rfl) (by simp only [kput] <;> rfl) (fun hg14_2 => ?_) (fun hg14_2 => ?_)
    · try simp only [bsimp] at hg14_2
      exfalso; omega
    · try simp only [bsimp] at hg14_2
      refine OkOps.on rfl rfl (by simp only [kev, ktab, klen, kcv]) ?_
      refine OkOps.ev tab_ok rfl (by simp only [kev, ktab, klen, kcv] <;> rfl) (by simp only [kput] <;> rfl) ?_
      refine OkOps.on rfl rfl (by simp only [kev, ktab, klen, kcv]) ?_
      refine OkOps.ev tab_ok rfl (by simp only [kev, ktab, klen, kcv] <;> rfl) (by simp only [kput] <;> rfl) ?_
      refine OkOps.on rfl rfl (by simp only [kev, ktab, klen, kcv]) ?_
      refine OkOps.S rfl (OpS.weakE rfl (by simp only [kev, ktab, klen, kcv] <;> rfl) (by simp only [kev, ktab, klen, kcv, V.eraseL, V.erase, V.travL, V.trav, zz] <;> rfl) cl38 (by simp [V.labels, V.labelsL, V.labelsLL, zz]) (w_laws_eqSync (syncEnds y b) (syncEnds y b))) (by simp only [kput] <;> rfl) ?_
      refine OkOps.on rfl rfl (by simp only [kev, ktab, klen, kcv]) ?_
      iterate 2 (refine OkOps.ev tab_ok rfl (by simp only [kev, ktab, klen, kcv] <;> rfl) (by simp only [kput] <;> rfl) ?_)
      refine OkOps.nil ?_
      refine Ok.cond_false (by simp only [kev, ktab, klen, kcv] <;> first | rfl | (simp; done) | (simp; omega)) ?_
      refine Ok.skip ?_
      refine Ok.seq ?_
      refine Ok.region ?_
      refine OkOps.ev tab_ok rfl (by simp only [kev, ktab, klen, kcv] <;> rfl) (by simp only [kput] <;> rfl) ?_
      refine OkOps.nil ?_
      refine Ok.seq ?_
      refine Ok.region ?_
      iterate 2 (refine OkOps.ev tab_ok rfl (by simp only [kev, ktab, klen, kcv] <;> rfl) (by simp only [kput] <;> rfl) ?_)
      refine OkOps.turn _ rfl rfl (by simp only [kev, ktab, klen, kcv] <;> rfl) (by simp only [kev, ktab, klen, kcv] <;> rfl) cl52 (fun h => c_laws_markSync (syncEnds y b) 1 5 6 (by omega) (by omega) (by omega) (by omega)) (by first | rfl | (simp only [Nat.add_zero, Nat.reduceAdd] <;> rfl)) (by simp only [List.map_cons, List.map_nil, kturn, fillA_ptr, fillA_far, fillA_self, zz, ne_eq, Nat.reduceEqDiff, not_false_eq_true, List.length_map, marks_len, Function.comp_apply, kput] <;> rfl) (rfl) ?_
      refine OkOps.ev tab_ok rfl (by simp only [kev, ktab, klen, kcv] <;> rfl) (by simp only [kput] <;> rfl) ?_
      refine OkOps.nil ?_
      refine Ok.seq ?_
      refine Ok.region ?_
      refine OkOps.ev tab_ok rfl (by simp only [kev, ktab, klen, kcv] <;> rfl) (by simp only [kput] <;> rfl) ?_
      refine OkOps.nil ?_
      refine Ok.seq ?_
      refine Ok.region ?_
      iterate 2 (refine OkOps.ev tab_ok rfl (by simp only [kev, ktab, klen, kcv] <;> rfl) (by simp only [kput] <;> rfl) ?_)
      refine OkOps.S rfl (OpS.weakE rfl (by simp only [kev, ktab, klen, kcv] <;> rfl) (by simp only [kev, ktab, klen, kcv, V.eraseL, V.erase, V.travL, V.trav, zz] <;> rfl) cl53 (by simp [V.labels, V.labelsL, V.labelsLL, zz]) (w_laws_heldSync { (syncEnds y b) with link := { (syncEnds y b).link with way := marks 1 (syncEnds y b).link.way.length }, pieces := marks (1 + (syncEnds y b).link.way.length) (syncEnds y b).pieces.length } 1 (syncEnds y b).link.way.length (syncEnds y b).pieces.length rfl rfl (by omega))) (by simp only [kput] <;> rfl) ?_
      refine OkOps.ev tab_ok rfl (by simp only [kev, ktab, klen, kcv] <;> rfl) (by simp only [kput] <;> rfl) ?_
      refine OkOps.nil ?_
      refine Ok.seq ?_
      refine Ok.seq ?_
      refine Ok.region ?_
      iterate 2 (refine OkOps.ev tab_ok rfl (by simp only [kev, ktab, klen, kcv] <;> rfl) (by simp only [kput] <;> rfl) ?_)
      refine OkOps.nil ?_
      refine Ok.cond_false (by simp only [kev, ktab, klen, kcv] <;> first | rfl | (simp; done) | (simp; omega)) ?_
      refine Ok.skip ?_
      refine Ok.seq ?_
      refine Ok.seq ?_
      refine Ok.region ?_
      iterate 3 (refine OkOps.ev tab_ok rfl (by simp only [kev, ktab, klen, kcv] <;> rfl) (by simp only [kput] <;> rfl) ?_)
      refine OkOps.nil ?_
      refine Ok.cond_false (by simp only [kev, ktab, klen, kcv] <;> first | rfl | (simp; done) | (simp; omega)) ?_
      refine Ok.skip ?_
      refine Ok.seq ?_
      refine Ok.region ?_
      refine OkOps.ev tab_ok rfl (by simp only [kev, ktab, klen, kcv] <;> rfl) (by simp only [kput] <;> rfl) ?_
      refine OkOps.S rfl (OpS.weak' rfl (by simp only [kev, ktab, klen, kcv] <;> rfl) (by simp only [kev, ktab, klen, kcv] <;> rfl) cl36 (w_laws_toSync y hs1 hs2)) (by simp only [kput] <;> rfl) ?_
      refine OkOps.ev tab_ok rfl (by simp only [kev, ktab, klen, kcv] <;> rfl) (by simp only [kput] <;> rfl) ?_
      refine OkOps.S rfl (OpS.weak' rfl (by simp only [kev, ktab, klen, kcv] <;> rfl) (by simp only [kev, ktab, klen, kcv] <;> rfl) cl51 (w_impl_SyncEnds y b hs3 hs4)) (by simp only [kput] <;> rfl) ?_
      refine OkOps.ev tab_ok rfl (by simp only [kev, ktab, klen, kcv] <;> rfl) (by simp only [kput] <;> rfl) ?_
      refine OkOps.storeE tab_ok rfl rfl (by simp only [kev, ktab, klen, kcv] <;> rfl) ⟨_, _, by simp only [kev]; rfl⟩ (by simp [V.labelsL, V.labelsLL, V.labels, zz]) (by simp only [eq_self, V.updL, V.travL, V.travLL, V.trav, updS, updP, and_self, true_and, and_true, false_and, and_false, Nat.reduceEqDiff, Nat.reduceSub, Nat.le_refl, Nat.zero_le, ↓reduceIte, if_true, if_false, kput, zz] <;> rfl) (rfl) ?_
      refine OkOps.nil ?_
      refine Ok.seq ?_
      refine Ok.seq ?_
      refine Ok.region ?_
      iterate 2 (refine OkOps.ev tab_ok rfl (by simp only [kev, ktab, klen, kcv] <;> rfl) (by simp only [kput] <;> rfl) ?_)
      refine OkOps.S rfl (OpS.weakE rfl (by simp only [kev, ktab, klen, kcv] <;> rfl) (by simp only [kev, ktab, klen, kcv, V.eraseL, V.erase, V.travL, V.trav, zz] <;> rfl) cl38 (by simp [V.labels, V.labelsL, V.labelsLL, zz]) (w_laws_eqSync (syncEnds y b) (syncEnds y b))) (by simp only [kput] <;> rfl) ?_
      refine OkOps.ev tab_ok rfl (by simp only [kev, ktab, klen, kcv] <;> rfl) (by simp only [kput] <;> rfl) ?_
      refine OkOps.nil ?_
      refine Ok.cond_false (by simp only [kev, ktab, klen, kcv] <;> first | rfl | (simp; done) | (simp; omega)) ?_
      refine Ok.skip ?_
      refine Ok.seq ?_
      refine Ok.region ?_
      refine OkOps.ev tab_ok rfl (by simp only [kev, ktab, klen, kcv] <;> rfl) (by simp only [kput] <;> rfl) ?_
      refine OkOps.nil ?_
      refine Ok.seq ?_
      refine Ok.region ?_
      iterate 2 (refine OkOps.ev tab_ok rfl (by simp only [kev, ktab, klen, kcv] <;> rfl) (by simp only [kput] <;> rfl) ?_)
      refine OkOps.S rfl (OpS.weakE rfl (by simp only [kev, ktab, klen, kcv] <;> rfl) (by simp only [kev, ktab, klen, kcv, V.eraseL, V.erase, V.travL, V.trav, zz] <;> rfl) cl53 (by simp [V.labels, V.labelsL, V.labelsLL, zz]) (w_laws_heldSync { (syncEnds y b) with link := { (syncEnds y b).link with way := marks 1 (syncEnds y b).link.way.length }, pieces := marks (1 + (syncEnds y b).link.way.length) (syncEnds y b).pieces.length } 1 (syncEnds y b).link.way.length (syncEnds y b).pieces.length rfl rfl (by omega))) (by simp only [kput] <;> rfl) ?_
      refine OkOps.ev tab_ok rfl (by simp only [kev, ktab, klen, kcv] <;> rfl) (by simp only [kput] <;> rfl) ?_
      refine OkOps.nil ?_
      refine Ok.seq ?_
      refine Ok.seq ?_
      refine Ok.region ?_
      iterate 2 (refine OkOps.ev tab_ok rfl (by simp only [kev, ktab, klen, kcv] <;> rfl) (by simp only [kput] <;> rfl) ?_)
      refine OkOps.nil ?_
      refine Ok.cond_false (by simp only [kev, ktab, klen, kcv] <;> first | rfl | (simp; done) | (simp; omega)) ?_
      refine Ok.skip ?_
      refine Ok.seq ?_
      refine Ok.seq ?_
      refine Ok.region ?_
      iterate 3 (refine OkOps.ev tab_ok rfl (by simp only [kev, ktab, klen, kcv] <;> rfl) (by simp only [kput] <;> rfl) ?_)
      refine OkOps.nil ?_
      refine Ok.cond_false (by simp only [kev, ktab, klen, kcv] <;> first | rfl | (simp; done) | (simp; omega)) ?_
      refine Ok.skip ?_
      refine Ok.seq ?_
      refine Ok.region ?_
      refine OkOps.ev tab_ok rfl (by simp only [kev, ktab, klen, kcv] <;> rfl) (by simp only [kput] <;> rfl) ?_
      refine OkOps.nil ?_
      refine Ok.ret ?_
      repeat (first | with_reducible refine thenQ_ret ?_ | with_reducible refine blockQ_ret ?_)
      refine retQ.end (by show resVs tab _ [.tmp 4] = _; simp only [kev, ktab, klen, kcv] <;> rfl) rfl ?_
      rfl
end Go.Proofs.Ytglodjbknjfmjaa.K
