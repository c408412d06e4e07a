/- The walk of FnLinks. Printed by w2.py. -/
import Derived.Test.YtglodjbknjfmjaaY12
namespace Go.Proofs.Ytglodjbknjfmjaa.K
open Go Go.RowKit
set_option linter.unusedVariables false
set_option linter.unusedSimpArgs false
set_option maxHeartbeats 4000000
set_option maxRecDepth 20000
theorem w_impl_LinkNew (e : Int) : Weak Try.prog 25 [.int .i64 e] (.agg (cLink ⟨e, [], 1, 1⟩)) := by
  refine Weak.enter tab_ok Try.func25 rfl (.inr (by simp [V.labelsL, V.labels, zz])) (t := [.int .i64 e, .any, .any, .any, .any]) rfl ?_
  refine Ok.seq ?_
  refine Ok.region ?_
  refine OkOps.ev tab_ok rfl (by simp only [kev, ktab, klen, kcv] <;> rfl) (by simp only [kput] <;> rfl) ?_
  refine OkOps.nil ?_
  refine Ok.seq ?_
  refine Ok.region ?_
  refine OkOps.ev tab_ok rfl (by simp only [kev, ktab, klen, kcv] <;> rfl) (by simp only [kput] <;> rfl) ?_
  refine OkOps.ev tab_ok rfl (by simp [ev1, fillV, kev, ktab, klen] <;> first | rfl | exact ⟨rfl, rfl⟩) (by simp only [kput] <;> rfl) ?_
  refine OkOps.storeE tab_ok rfl rfl (by simp only [kev, ktab, klen, kcv] <;> rfl) ⟨_, _, by simp only [kev]; rfl⟩ (by first | (simp [V.labelsL, V.labelsLL, V.labels, zz]; done) | (simp [-List.map_map, -List.map_drop, -List.map_take, -List.map_tail, -List.drop_one, V.labelsL, V.labelsLL, V.labels, zz]; done)) (by simp only [eq_self, V.updL, V.travL, V.travLL, V.trav, updS, updP, and_self, true_and, and_true, false_and, and_false, Nat.reduceEqDiff, Nat.reduceSub, Nat.le_refl, Nat.zero_le, ↓reduceIte, if_true, if_false, kput, zz] <;> rfl) (rfl) ?_
  refine OkOps.nil ?_
  refine Ok.ret ?_
  repeat (first | with_reducible refine thenQ_ret ?_ | with_reducible refine blockQ_ret ?_)
  refine retQ.end (by show resVs tab _ [.cell 2 35] = _; simp only [kev, ktab, klen, kcv] <;> rfl) rfl ?_
  rfl
theorem w_impl_LinkSays (l : Link) : Weak Try.prog 32 [.agg (cLink l)] (.agg (cPacket (linkSays l))) := by
  refine Weak.enter tab_ok Try.func32 rfl (.inr (by simp [V.labelsL, V.labels, zz])) (t := [.agg (cLink l), .any, .any, .any, .any, .any, .any, .any, .any, .any, .any, .any, .any, .any, .any, .any, .any, .any, .any, .any, .any, .any]) rfl ?_
  refine Ok.seq ?_
  refine Ok.region ?_
  iterate 2 (refine OkOps.ev tab_ok rfl (by simp only [kev, ktab, klen, kcv] <;> rfl) (by simp only [kput] <;> rfl) ?_)
  refine OkOps.nil ?_
  refine Ok.seq ?_
  refine Ok.region ?_
  iterate 4 (refine OkOps.ev tab_ok rfl (by simp only [kev, ktab, klen, kcv] <;> rfl) (by simp only [kput] <;> rfl) ?_)
  refine OkOps.ev tab_ok rfl (by simp [ev1, fillV, kev, ktab, klen] <;> first | rfl | exact ⟨rfl, rfl⟩) (by simp only [kput] <;> rfl) ?_
  refine OkOps.ev tab_ok rfl (by simp only [kev, ktab, klen, kcv] <;> rfl) (by simp only [kput] <;> rfl) ?_
  refine OkOps.storeE tab_ok rfl rfl (by simp only [kev, ktab, klen, kcv] <;> rfl) ⟨_, _, by simp only [kev]; rfl⟩ (by first | (simp [V.labelsL, V.labelsLL, V.labels, zz]; done) | (simp [-List.map_map, -List.map_drop, -List.map_take, -List.map_tail, -List.drop_one, V.labelsL, V.labelsLL, V.labels, zz]; done)) (by simp only [eq_self, V.updL, V.travL, V.travLL, V.trav, updS, updP, and_self, true_and, and_true, false_and, and_false, Nat.reduceEqDiff, Nat.reduceSub, Nat.le_refl, Nat.zero_le, ↓reduceIte, if_true, if_false, kput, zz] <;> rfl) (rfl) ?_
  refine OkOps.nil ?_
  refine Ok.seq ?_
  refine Ok.seq ?_
  refine Ok.region ?_
  iterate 4 (refine OkOps.ev tab_ok rfl (by simp only [kev, ktab, klen, kcv] <;> rfl) (by simp only [kput] <;> rfl) ?_)
  refine OkOps.nil ?_
  refine Ok.cond (b := _) (by simp only [kev, ktab, klen, kcv] <;> rfl) (fun hb2 => ?_) (fun hb2 => ?_)
  · try simp only [bsimp] at hb2
    obtain ⟨s, r, hw⟩ : ∃ s r, l.way = s :: r := by
      cases hh : l.way with
      | nil => simp [hh] at hb2
      | cons s r => exact ⟨s, r, rfl⟩
    refine Ok.seq ?_
    refine Ok.region ?_
    iterate 3 (refine OkOps.ev tab_ok rfl (by simp only [kev, ktab, klen, kcv] <;> rfl) (by simp only [kput] <;> rfl) ?_)
    refine OkOps.storeE tab_ok rfl rfl (by simp only [kev, ktab, klen, kcv] <;> rfl) ⟨_, _, by simp only [kev]; rfl⟩ (by first | (simp [V.labelsL, V.labelsLL, V.labels, zz]; done) | (simp [-List.map_map, -List.map_drop, -List.map_take, -List.map_tail, -List.drop_one, V.labelsL, V.labelsLL, V.labels, zz]; done)) (by simp only [eq_self, V.updL, V.travL, V.travLL, V.trav, updS, updP, and_self, true_and, and_true, false_and, and_false, Nat.reduceEqDiff, Nat.reduceSub, Nat.le_refl, Nat.zero_le, ↓reduceIte, if_true, if_false, kput, zz] <;> rfl) (rfl) ?_
    refine OkOps.nil ?_
    refine Ok.region ?_
    iterate 2 (refine OkOps.ev tab_ok rfl (by simp only [kev, ktab, klen, kcv] <;> rfl) (by simp only [kput] <;> rfl) ?_)
    refine OkOps.ev tab_ok rfl (ev_idx (j := 0) (by simp only [kev, ktab, klen, kcv] <;> rfl) (by simp only [kev, ktab, klen, kcv] <;> rfl) (by rw [hw]; rfl) (by simp only [kev, ktab, klen, kcv] <;> rfl)) (by simp only [kput] <;> rfl) ?_
    iterate 2 (refine OkOps.ev tab_ok rfl (by simp only [kev, ktab, klen, kcv] <;> rfl) (by simp only [kput] <;> rfl) ?_)
    refine OkOps.storeE tab_ok rfl rfl (by simp only [kev, ktab, klen, kcv] <;> rfl) ⟨_, _, by simp only [kev]; rfl⟩ (by first | (simp [V.labelsL, V.labelsLL, V.labels, zz]; done) | (simp [-List.map_map, -List.map_drop, -List.map_take, -List.map_tail, -List.drop_one, V.labelsL, V.labelsLL, V.labels, zz]; done)) (by simp only [eq_self, V.updL, V.travL, V.travLL, V.trav, updS, updP, and_self, true_and, and_true, false_and, and_false, Nat.reduceEqDiff, Nat.reduceSub, Nat.le_refl, Nat.zero_le, ↓reduceIte, if_true, if_false, kput, zz] <;> rfl) (rfl) ?_
    refine OkOps.nil ?_
    refine Ok.seq ?_
    refine Ok.region ?_
    refine OkOps.ev tab_ok rfl (by simp only [kev, ktab, klen, kcv] <;> rfl) (by simp only [kput] <;> rfl) ?_
    refine OkOps.storeE tab_ok rfl rfl (by simp only [kev, ktab, klen, kcv] <;> rfl) ⟨_, _, by simp only [kev]; rfl⟩ (by first | (simp [V.labelsL, V.labelsLL, V.labels, zz]; done) | (simp [-List.map_map, -List.map_drop, -List.map_take, -List.map_tail, -List.drop_one, V.labelsL, V.labelsLL, V.labels, zz]; done)) (by simp only [eq_self, V.updL, V.travL, V.travLL, V.trav, updS, updP, and_self, true_and, and_true, false_and, and_false, Nat.reduceEqDiff, Nat.reduceSub, Nat.le_refl, Nat.zero_le, ↓reduceIte, if_true, if_false, kput, zz] <;> rfl) (rfl) ?_
    refine OkOps.nil ?_
    refine Ok.ret ?_
    repeat (first | with_reducible refine thenQ_ret ?_ | with_reducible refine blockQ_ret ?_)
    refine retQ.end (by show resVs tab _ [.cell 2 43] = _; simp only [kev, ktab, klen, kcv] <;> rfl) rfl ?_
    simp only [packV, V.erase, V.trav, V.travL, zz, linkSays, hw]
  · try simp only [bsimp] at hb2
    have hw : l.way = [] := List.eq_nil_of_length_eq_zero (by omega)
    refine Ok.skip ?_
    refine Ok.seq ?_
    refine Ok.region ?_
    refine OkOps.ev tab_ok rfl (by simp only [kev, ktab, klen, kcv] <;> rfl) (by simp only [kput] <;> rfl) ?_
    refine OkOps.storeE tab_ok rfl rfl (by simp only [kev, ktab, klen, kcv] <;> rfl) ⟨_, _, by simp only [kev]; rfl⟩ (by first | (simp [V.labelsL, V.labelsLL, V.labels, zz]; done) | (simp [-List.map_map, -List.map_drop, -List.map_take, -List.map_tail, -List.drop_one, V.labelsL, V.labelsLL, V.labels, zz]; done)) (by simp only [eq_self, V.updL, V.travL, V.travLL, V.trav, updS, updP, and_self, true_and, and_true, false_and, and_false, Nat.reduceEqDiff, Nat.reduceSub, Nat.le_refl, Nat.zero_le, ↓reduceIte, if_true, if_false, kput, zz] <;> rfl) (rfl) ?_
    refine OkOps.nil ?_
    refine Ok.ret ?_
    repeat (first | with_reducible refine thenQ_ret ?_ | with_reducible refine blockQ_ret ?_)
    refine retQ.end (by show resVs tab _ [.cell 2 43] = _; simp only [kev, ktab, klen, kcv] <;> rfl) rfl ?_
    simp only [packV, V.erase, V.trav, V.travL, zz, linkSays, hw]
theorem w_spec_LinkSays (l : Link) : Weak Try.prog 30 [.agg (cLink l)] (.agg (cPacket (linkSays l))) := by
  refine Weak.enter tab_ok Try.func30 rfl (.inr (by simp [V.labelsL, V.labels, zz])) (t := [.agg (cLink l), .any, .any, .any, .any, .any, .any, .any, .any, .any, .any, .any, .any, .any, .any, .any, .any, .any, .any, .any, .any, .any]) rfl ?_
  refine Ok.seq ?_
  refine Ok.region ?_
  iterate 2 (refine OkOps.ev tab_ok rfl (by simp only [kev, ktab, klen, kcv] <;> rfl) (by simp only [kput] <;> rfl) ?_)
  refine OkOps.nil ?_
  refine Ok.seq ?_
  refine Ok.region ?_
  iterate 4 (refine OkOps.ev tab_ok rfl (by simp only [kev, ktab, klen, kcv] <;> rfl) (by simp only [kput] <;> rfl) ?_)
  refine OkOps.ev tab_ok rfl (by simp [ev1, fillV, kev, ktab, klen] <;> first | rfl | exact ⟨rfl, rfl⟩) (by simp only [kput] <;> rfl) ?_
  refine OkOps.ev tab_ok rfl (by simp only [kev, ktab, klen, kcv] <;> rfl) (by simp only [kput] <;> rfl) ?_
  refine OkOps.storeE tab_ok rfl rfl (by simp only [kev, ktab, klen, kcv] <;> rfl) ⟨_, _, by simp only [kev]; rfl⟩ (by first | (simp [V.labelsL, V.labelsLL, V.labels, zz]; done) | (simp [-List.map_map, -List.map_drop, -List.map_take, -List.map_tail, -List.drop_one, V.labelsL, V.labelsLL, V.labels, zz]; done)) (by simp only [eq_self, V.updL, V.travL, V.travLL, V.trav, updS, updP, and_self, true_and, and_true, false_and, and_false, Nat.reduceEqDiff, Nat.reduceSub, Nat.le_refl, Nat.zero_le, ↓reduceIte, if_true, if_false, kput, zz] <;> rfl) (rfl) ?_
  refine OkOps.nil ?_
  refine Ok.seq ?_
  refine Ok.seq ?_
  refine Ok.region ?_
  iterate 4 (refine OkOps.ev tab_ok rfl (by simp only [kev, ktab, klen, kcv] <;> rfl) (by simp only [kput] <;> rfl) ?_)
  refine OkOps.nil ?_
  refine Ok.cond (b := _) (by simp only [kev, ktab, klen, kcv] <;> rfl) (fun hb2 => ?_) (fun hb2 => ?_)
  · try simp only [bsimp] at hb2
    obtain ⟨s, r, hw⟩ : ∃ s r, l.way = s :: r := by
      cases hh : l.way with
      | nil => simp [hh] at hb2
      | cons s r => exact ⟨s, r, rfl⟩
    refine Ok.seq ?_
    refine Ok.region ?_
    iterate 3 (refine OkOps.ev tab_ok rfl (by simp only [kev, ktab, klen, kcv] <;> rfl) (by simp only [kput] <;> rfl) ?_)
    refine OkOps.storeE tab_ok rfl rfl (by simp only [kev, ktab, klen, kcv] <;> rfl) ⟨_, _, by simp only [kev]; rfl⟩ (by first | (simp [V.labelsL, V.labelsLL, V.labels, zz]; done) | (simp [-List.map_map, -List.map_drop, -List.map_take, -List.map_tail, -List.drop_one, V.labelsL, V.labelsLL, V.labels, zz]; done)) (by simp only [eq_self, V.updL, V.travL, V.travLL, V.trav, updS, updP, and_self, true_and, and_true, false_and, and_false, Nat.reduceEqDiff, Nat.reduceSub, Nat.le_refl, Nat.zero_le, ↓reduceIte, if_true, if_false, kput, zz] <;> rfl) (rfl) ?_
    refine OkOps.nil ?_
    refine Ok.region ?_
    iterate 2 (refine OkOps.ev tab_ok rfl (by simp only [kev, ktab, klen, kcv] <;> rfl) (by simp only [kput] <;> rfl) ?_)
    refine OkOps.ev tab_ok rfl (ev_idx (j := 0) (by simp only [kev, ktab, klen, kcv] <;> rfl) (by simp only [kev, ktab, klen, kcv] <;> rfl) (by rw [hw]; rfl) (by simp only [kev, ktab, klen, kcv] <;> rfl)) (by simp only [kput] <;> rfl) ?_
    iterate 2 (refine OkOps.ev tab_ok rfl (by simp only [kev, ktab, klen, kcv] <;> rfl) (by simp only [kput] <;> rfl) ?_)
    refine OkOps.storeE tab_ok rfl rfl (by simp only [kev, ktab, klen, kcv] <;> rfl) ⟨_, _, by simp only [kev]; rfl⟩ (by first | (simp [V.labelsL, V.labelsLL, V.labels, zz]; done) | (simp [-List.map_map, -List.map_drop, -List.map_take, -List.map_tail, -List.drop_one, V.labelsL, V.labelsLL, V.labels, zz]; done)) (by simp only [eq_self, V.updL, V.travL, V.travLL, V.trav, updS, updP, and_self, true_and, and_true, false_and, and_false, Nat.reduceEqDiff, Nat.reduceSub, Nat.le_refl, Nat.zero_le, ↓reduceIte, if_true, if_false, kput, zz] <;> rfl) (rfl) ?_
    refine OkOps.nil ?_
    refine Ok.seq ?_
    refine Ok.region ?_
    refine OkOps.ev tab_ok rfl (by simp only [kev, ktab, klen, kcv] <;> rfl) (by simp only [kput] <;> rfl) ?_
    refine OkOps.storeE tab_ok rfl rfl (by simp only [kev, ktab, klen, kcv] <;> rfl) ⟨_, _, by simp only [kev]; rfl⟩ (by first | (simp [V.labelsL, V.labelsLL, V.labels, zz]; done) | (simp [-List.map_map, -List.map_drop, -List.map_take, -List.map_tail, -List.drop_one, V.labelsL, V.labelsLL, V.labels, zz]; done)) (by simp only [eq_self, V.updL, V.travL, V.travLL, V.trav, updS, updP, and_self, true_and, and_true, false_and, and_false, Nat.reduceEqDiff, Nat.reduceSub, Nat.le_refl, Nat.zero_le, ↓reduceIte, if_true, if_false, kput, zz] <;> rfl) (rfl) ?_
    refine OkOps.nil ?_
    refine Ok.ret ?_
    repeat (first | with_reducible refine thenQ_ret ?_ | with_reducible refine blockQ_ret ?_)
    refine retQ.end (by show resVs tab _ [.cell 2 43] = _; simp only [kev, ktab, klen, kcv] <;> rfl) rfl ?_
    simp only [packV, V.erase, V.trav, V.travL, zz, linkSays, hw]
  · try simp only [bsimp] at hb2
    have hw : l.way = [] := List.eq_nil_of_length_eq_zero (by omega)
    refine Ok.skip ?_
    refine Ok.seq ?_
    refine Ok.region ?_
    refine OkOps.ev tab_ok rfl (by simp only [kev, ktab, klen, kcv] <;> rfl) (by simp only [kput] <;> rfl) ?_
    refine OkOps.storeE tab_ok rfl rfl (by simp only [kev, ktab, klen, kcv] <;> rfl) ⟨_, _, by simp only [kev]; rfl⟩ (by first | (simp [V.labelsL, V.labelsLL, V.labels, zz]; done) | (simp [-List.map_map, -List.map_drop, -List.map_take, -List.map_tail, -List.drop_one, V.labelsL, V.labelsLL, V.labels, zz]; done)) (by simp only [eq_self, V.updL, V.travL, V.travLL, V.trav, updS, updP, and_self, true_and, and_true, false_and, and_false, Nat.reduceEqDiff, Nat.reduceSub, Nat.le_refl, Nat.zero_le, ↓reduceIte, if_true, if_false, kput, zz] <;> rfl) (rfl) ?_
    refine OkOps.nil ?_
    refine Ok.ret ?_
    repeat (first | with_reducible refine thenQ_ret ?_ | with_reducible refine blockQ_ret ?_)
    refine retQ.end (by show resVs tab _ [.cell 2 43] = _; simp only [kev, ktab, klen, kcv] <;> rfl) rfl ?_
    simp only [packV, V.erase, V.trav, V.travL, zz, linkSays, hw]
theorem w_laws_FnLinks (code : Str) (hc : code.length ≤ 4611686018427387904) : Weak Try.prog 8 [.sl 0 1 0 (code.map cB)] (.bool true) := by
  refine Weak.enter tab_ok Try.func8 rfl (.inr (by simp [V.labelsL, V.labels, zz])) (t := [.sl 0 1 0 (code.map cB), .any, .any, .any, .any, .any, .any, .any, .any, .any, .any, .any, .any, .any, .any, .any, .any, .any, .any, .any, .any, .any, .any, .any, .any, .any, .any, .any, .any, .any, .any, .any, .any, .any, .any, .any, .any, .any, .any, .any, .any, .any, .any, .any, .any, .any, .any, .any, .any, .any, .any, .any, .any, .any, .any, .any, .any, .any, .any, .any, .any, .any, .any, .any, .any, .any, .any, .any, .any, .any, .any, .any, .any, .any, .any, .any, .any, .any, .any, .any, .any, .any, .any, .any, .any, .any, .any, .any, .any, .any, .any, .any, .any, .any, .any, .any, .any, .any, .any, .any, .any, .any, .any, .any, .any, .any, .any, .any, .any, .any, .any, .any, .any, .any, .any, .any, .any, .any, .any, .any, .any, .any, .any, .any, .any, .any, .any, .any, .any, .any, .any, .any, .any, .any, .any, .any, .any, .any, .any, .any, .any, .any, .any, .any, .any, .any, .any, .any, .any, .any, .any, .any, .any, .any, .any, .any, .any, .any, .any, .any]) rfl ?_
  refine Ok.seq ?_
  refine Ok.region ?_
  refine OkOps.ev tab_ok rfl (by simp only [kev, ktab, klen, kcv] <;> rfl) (by simp only [kput] <;> rfl) ?_
  refine OkOps.nil ?_
  refine Ok.seq ?_
  refine Ok.seq ?_
  refine Ok.region ?_
  refine OkOps.ev tab_ok rfl (by simp only [kev, ktab, klen, kcv] <;> rfl) (by simp only [kput] <;> rfl) ?_
  refine OkOps.S0 rfl (OpS.weak' rfl (by simp only [kev, ktab, klen, kcv] <;> rfl) (by simp only [kev, ktab, klen, kcv] <;> rfl) cl39 (w_laws_big code)) (by simp only [kput] <;> rfl) ?_
  refine OkOps.nil ?_
  refine Ok.cond (b := _) (by simp only [kev, ktab, klen, kcv] <;> rfl) (fun hb1 => ?_) (fun hb1 => ?_)
  · try simp only [bsimp] at hb1
    refine Ok.seq ?_
    refine Ok.region ?_
    refine OkOps.ev tab_ok rfl (by simp only [kev, ktab, klen, kcv] <;> rfl) (by simp only [kput] <;> rfl) ?_
    refine OkOps.nil ?_
    refine Ok.ret ?_
    repeat (first | with_reducible refine thenQ_ret ?_ | with_reducible refine blockQ_ret ?_)
    refine retQ.end (by show resVs tab _ [.tmp 2] = _; simp only [kev, ktab, klen, kcv] <;> rfl) rfl ?_
    first | rfl | (simp [V.erase, V.trav, packV, hkn, sayL]; done) | (exfalso; rw [hkn.2, List.take_length] at hg41_3; exact hg41_3 rfl)
  · try simp only [bsimp] at hb1
    refine Ok.skip ?_
    refine Ok.seq ?_
    refine Ok.region ?_
    refine OkOps.ev tab_ok rfl (by simp only [kev, ktab, klen, kcv] <;> rfl) (by simp only [kput] <;> rfl) ?_
    refine OkOps.S0 rfl (OpS.weak' rfl (by simp only [kev, ktab, klen, kcv] <;> rfl) (by simp only [kev, ktab, klen, kcv] <;> rfl) cl40 (w_spec_DrawPlaces code hc)) (by simp only [kput] <;> rfl) ?_
    refine OkOps.ev tab_ok rfl (by simp only [kev, ktab, klen, kcv] <;> rfl) (by simp only [kput] <;> rfl) ?_
    refine OkOps.nil ?_
    refine Ok.seq ?_
    refine Ok.region ?_
    obtain ⟨ps, hps⟩ : ∃ ps, ps = drawPlaces code := ⟨_, rfl⟩
    rw [← hps]
    have hlen : ps.length = 12 := by rw [hps]; exact drawPlaces_len code
    have hlt : ∀ i (h : i < ps.length), ps[i] < 10000 := by subst hps; exact fun i h => drawPlaces_lt code h
    clear hps
    have h0 : 0 < ps.length := by omega
    have hN : 1 + ps[0] % 4 ≤ 4 := by omega
    refine OkOps.S0 rfl (OpS.weak' rfl (by simp only [kev, ktab, klen, kcv] <;> rfl) (by simp only [kev, ktab, klen, kcv] <;> rfl) cl25 (w_impl_LinkNew _)) (by simp only [kput] <;> rfl) ?_
    refine OkOps.ev tab_ok rfl (by simp only [kev, ktab, klen, kcv] <;> rfl) (by simp only [kput] <;> rfl) ?_
    refine OkOps.storeE tab_ok rfl rfl (by simp only [kev, ktab, klen, kcv] <;> rfl) ⟨_, _, by simp only [kev]; rfl⟩ (by first | (simp [V.labelsL, V.labelsLL, V.labels, zz]; done) | (simp [-List.map_map, -List.map_drop, -List.map_take, -List.map_tail, -List.drop_one, V.labelsL, V.labelsLL, V.labels, zz]; done)) (by simp only [eq_self, V.updL, V.travL, V.travLL, V.trav, updS, updP, and_self, true_and, and_true, false_and, and_false, Nat.reduceEqDiff, Nat.reduceSub, Nat.le_refl, Nat.zero_le, ↓reduceIte, if_true, if_false, kput, zz] <;> rfl) (rfl) ?_
    refine OkOps.nil ?_
    refine Ok.seq ?_
    refine Ok.region ?_
    refine OkOps.S0 rfl (OpS.weak' rfl (by simp only [kev, ktab, klen, kcv] <;> rfl) (by simp only [kev, ktab, klen, kcv] <;> rfl) cl25 (w_impl_LinkNew _)) (by simp only [kput] <;> rfl) ?_
    refine OkOps.ev tab_ok rfl (by simp only [kev, ktab, klen, kcv] <;> rfl) (by simp only [kput] <;> rfl) ?_
    refine OkOps.storeE tab_ok rfl rfl (by simp only [kev, ktab, klen, kcv] <;> rfl) ⟨_, _, by simp only [kev]; rfl⟩ (by first | (simp [V.labelsL, V.labelsLL, V.labels, zz]; done) | (simp [-List.map_map, -List.map_drop, -List.map_take, -List.map_tail, -List.drop_one, V.labelsL, V.labelsLL, V.labels, zz]; done)) (by simp only [eq_self, V.updL, V.travL, V.travLL, V.trav, updS, updP, and_self, true_and, and_true, false_and, and_false, Nat.reduceEqDiff, Nat.reduceSub, Nat.le_refl, Nat.zero_le, ↓reduceIte, if_true, if_false, kput, zz] <;> rfl) (rfl) ?_
    refine OkOps.nil ?_
    refine Ok.seq ?_
    refine Ok.region ?_
    refine OkOps.ev tab_ok rfl (by simp only [kev, ktab, klen, kcv] <;> rfl) (by simp only [kput] <;> rfl) ?_
    refine OkOps.ev tab_ok rfl (ev_idx_map (j := 0) (by simp only [kev, ktab, klen, kcv] <;> rfl) (by simp only [kev, ktab, klen, kcv] <;> rfl) (h0) (by simp only [kev, ktab, klen, kcv] <;> rfl)) (by simp only [kput] <;> rfl) ?_
    refine OkOps.ev tab_ok rfl (by simp only [kev, ktab, klen, kcv] <;> rfl) (by simp only [kput] <;> rfl) ?_
    refine OkOps.ev tab_ok rfl (by simp only [kev, ktab, klen, kcv, rem_lit] <;> rfl) (by simp only [kput] <;> rfl) ?_
    refine OkOps.ev tab_ok rfl (by simp only [kev, ktab, klen, kcv, one_add (show ps[0] % 4 ≤ 1000 by omega)] <;> rfl) (by simp only [kput] <;> rfl) ?_
    refine OkOps.ev tab_ok rfl (by simp only [kev, ktab, klen, kcv] <;> rfl) (by simp only [kput] <;> rfl) ?_
    refine OkOps.nil ?_
    refine Ok.seq ?_
    refine Ok.region ?_
    iterate 2 (refine OkOps.ev tab_ok rfl (by simp only [kev, ktab, klen, kcv] <;> rfl) (by simp only [kput] <;> rfl) ?_)
    refine OkOps.nil ?_
    refine Ok.seq ?_
    refine Ok.seq ?_
    refine Ok.region ?_
    refine OkOps.ev tab_ok rfl (by simp only [kev, ktab, klen, kcv] <;> rfl) (by simp only [kput] <;> rfl) ?_
    refine OkOps.nil ?_
    refine Ok.block ?_
    refine Ok.bump (n' := 4) (by omega) ?_
    refine Ok.loopWZ (τ := Nat) (fun x => [(4, .ptr 1 0 0 (cLink ⟨3, (ps.take x).map saidT, 1, 1⟩)), (7, .sl 3 1 0 (((ps.take x).map saidT).map cS)), (8, .int .i64 (x : Int))]) [9, 35, 36, 37, 38, 39, 40, 41, 42, 43, 44, 45, 46, 47, 48, 49, 50, 51, 52, 53, 54, 55] (fun x => by simp only [kover] <;> rfl) (fun x => x ≤ 1 + ps[0] % 4) (fun x => 1 + ps[0] % 4 - x) 0 (by omega) (by refine ⟨?_, ?_, ?_, ?_, ?_, ?_, ?_, ?_, ?_, ?_, ?_, ?_, ?_, ?_, ?_, ?_, ?_, ?_, ?_, ?_, ?_, ?_, ?_, ?_, ?_, ?_, ?_, ?_, ?_, ?_, ?_, ?_, ?_, ?_, ?_, ?_, ?_, ?_, ?_, ?_, ?_, ?_, ?_, ?_, ?_, ?_, ?_, ?_, ?_, ?_, ?_, ?_, ?_, ?_, ?_, ?_, ?_, ?_, ?_, ?_, ?_, ?_, ?_, ?_, ?_, ?_, ?_, ?_, ?_, ?_, ?_, ?_, ?_, ?_, ?_, ?_, ?_, ?_, ?_, ?_, ?_, ?_, ?_, ?_, ?_, ?_, ?_, ?_, ?_, ?_, ?_, ?_, ?_, ?_, ?_, ?_, ?_, ?_, ?_, ?_, ?_, ?_, ?_, ?_, ?_, ?_, ?_, ?_, ?_, ?_, ?_, ?_, ?_, ?_, ?_, ?_, ?_, ?_, ?_, ?_, ?_, ?_, ?_, ?_, ?_, ?_, ?_, ?_, ?_, ?_, ?_, ?_, ?_, ?_, ?_, ?_, ?_, ?_, ?_, ?_, ?_, ?_, ?_, ?_, ?_, ?_, ?_, ?_, ?_, ?_, ?_, ?_, ?_, ?_, ?_, ?_, ?_, ?_, ?_, ?_, trivial⟩ <;> first | exact le_any _ | with_reducible exact le_rfl' _ | (first | exact le_nil 3 1 | exact le_rfl' _) | exact le_rfl' _) (Nat.zero_le _) ?_
    rintro i h1
    refine Ok.seq ?_
    refine Ok.seq ?_
    refine Ok.region ?_
    iterate 3 (refine OkOps.ev tab_ok rfl (by simp only [kev, ktab, klen, kcv] <;> rfl) (by simp only [kput] <;> rfl) ?_)
    refine OkOps.nil ?_
    refine Ok.cond (b := _) (by simp only [kev, ktab, klen, kcv] <;> rfl) (fun hb9 => ?_) (fun hb9 => ?_)
    · try simp only [bsimp] at hb9
      have hi : i < ps.length := by omega
      have hsl := saidT_len (hlt i hi)
      have hdl := decS_len (hlt i hi)
      have hput := put_said (a := (ps.take i).map saidT) (by rw [List.length_map, List.length_take]; omega) hsl
      have hwl : ((ps.take i).map saidT).length ≤ 4 := by rw [List.length_map, List.length_take]; omega
      refine Ok.skip ?_
      refine Ok.seq ?_
      refine Ok.block ?_
      refine Ok.seq ?_
      refine Ok.region ?_
      iterate 2 (refine OkOps.ev tab_ok rfl (by simp only [kev, ktab, klen, kcv] <;> rfl) (by simp only [kput] <;> rfl) ?_)
      refine OkOps.ev tab_ok rfl (ev_idx_map (by simp only [kev, ktab, klen, kcv] <;> rfl) (by simp only [kev, ktab, klen, kcv] <;> rfl) (hi) (by simp only [kev, ktab, klen, kcv] <;> rfl)) (by simp only [kput] <;> rfl) ?_
      refine OkOps.ev tab_ok rfl (by simp only [kev, ktab, klen, kcv] <;> rfl) (by simp only [kput] <;> rfl) ?_
      refine OkOps.S0 rfl (OpS.weak' rfl (by simp only [kev, ktab, klen, kcv] <;> rfl) (by simp only [kev, ktab, klen, kcv] <;> rfl) cl41 (w_spec_Decimal (ps[i]) (by have := hlt i hi; omega))) (by simp only [kput] <;> rfl) ?_
      refine OkOps.ev tab_ok rfl (ev_cat (by simp only [kev, ktab, klen, kcv] <;> rfl) (by simp only [kev, ktab, klen, kcv] <;> rfl) (by simp only [List.length_cons, List.length_nil]; omega)) (by simp only [kput] <;> rfl) ?_
      refine OkOps.ev tab_ok rfl (by simp only [kev, ktab, klen, kcv] <;> rfl) (by simp only [kput] <;> rfl) ?_
      refine OkOps.nil ?_
      refine Ok.seq ?_
      refine Ok.region ?_
      iterate 2 (refine OkOps.ev tab_ok rfl (by simp only [kev, ktab, klen, kcv] <;> rfl) (by simp only [kput] <;> rfl) ?_)
      refine OkOps.S0 rfl (OpS.weak' rfl (by simp only [kev, ktab, klen, kcv] <;> rfl) (by simp only [kev, ktab, klen, kcv] <;> rfl) cl42 (w_impl_LinkPut ⟨3, (ps.take i).map saidT, 1, 1⟩ (saidT ps[i]) (by show ((ps.take i).map saidT).length ≤ _; omega))) (by simp only [kput] <;> rfl) ?_
      refine OkOps.ev tab_ok rfl (by simp only [kev, ktab, klen, kcv] <;> rfl) (by simp only [kput] <;> rfl) ?_
      iterate 2 (refine OkOps.ev tab_ok rfl (by simp only [kev, ktab, klen, kcv, hput] <;> rfl) (by simp only [kput] <;> rfl) ?_)
      refine OkOps.storeE tab_ok rfl rfl (by simp only [kev, ktab, klen, kcv] <;> rfl) ⟨_, _, by simp only [kev]; rfl⟩ (by first | (simp [V.labelsL, V.labelsLL, V.labels, zz]; done) | (simp [-List.map_map, -List.map_drop, -List.map_take, -List.map_tail, -List.drop_one, V.labelsL, V.labelsLL, V.labels, zz]; done)) (by simp only [eq_self, V.updL, V.travL, V.travLL, V.trav, updS, updP, and_self, true_and, and_true, false_and, and_false, Nat.reduceEqDiff, Nat.reduceSub, Nat.le_refl, Nat.zero_le, ↓reduceIte, if_true, if_false, kput, zz] <;> rfl) (rfl) ?_
      refine OkOps.nil ?_
      refine Ok.region ?_
      iterate 2 (refine OkOps.ev tab_ok rfl (by simp only [kev, ktab, klen, kcv] <;> rfl) (by simp only [kput] <;> rfl) ?_)
      refine OkOps.ev tab_ok rfl (ev_bs (by simp only [ktab] <;> rfl) (by simp only [ktab] <;> rfl) (by decide) (by decide) (by simp only [kev, ktab, klen, kcv, List.map_cons, List.map_nil] <;> rfl) (by simp only [kfe, beq_self_eq_true, Bool.and_true, Bool.true_and, decide_true, Nat.zero_add, Nat.lt_add_one, Nat.reduceLT, Nat.reduceAdd, Nat.zero_lt_succ, if_true, ↓reduceIte] <;> rfl)) (by simp only [kput] <;> rfl) ?_
      refine OkOps.append tab_ok rfl rfl (by simp only [ktab] <;> rfl) (by simp only [ktab] <;> rfl) (by decide) rfl (by simp only [kev, ktab, klen, kcv] <;> rfl) (.inl ⟨_, _, by simp only [kev, ktab, klen, kcv] <;> rfl⟩) (by omega) (by omega) (by simp only [List.length_map, List.length_cons, List.length_nil, List.length_take]; omega) (by simp only [List.length_map, List.length_cons, List.length_nil, List.length_take]; omega) (by simp [V.one]) (by simp only [V.killL, V.killLL, V.travL, V.travLL, V.trav, killS, killP, Nat.reduceEqDiff, ↓reduceIte, reduceCtorEq, if_true, if_false, List.append_nil, List.nil_append, List.cons_append, zz] <;> rfl) (by simp only [V.killL, V.killLL, V.travL, V.travLL, V.trav, killS, killP, Nat.reduceEqDiff, ↓reduceIte, reduceCtorEq, if_true, if_false, List.append_nil, List.nil_append, List.cons_append, zz, kput] <;> rfl) (rfl) ?_
      refine OkOps.ev tab_ok rfl (by simp only [kev, ktab, klen, kcv] <;> rfl) (by simp only [kput] <;> rfl) ?_
      refine OkOps.nil ?_
      refine Ok.region ?_
      iterate 3 (refine OkOps.ev tab_ok rfl (by simp only [kev, ktab, klen, kcv] <;> rfl) (by simp only [kput] <;> rfl) ?_)
      refine OkOps.nil ?_
      refine ⟨i + 1, ?_, rfl, by omega, by omega⟩
      simp only [V.renL, V.travL, V.travLL, V.trav, frz, zz, Nat.reduceLeDiff, ↓reduceIte]
      refine ⟨?_, ?_, ?_, ?_, ?_, ?_, ?_, ?_, ?_, ?_, ?_, ?_, ?_, ?_, ?_, ?_, ?_, ?_, ?_, ?_, ?_, ?_, ?_, ?_, ?_, ?_, ?_, ?_, ?_, ?_, ?_, ?_, ?_, ?_, ?_, ?_, ?_, ?_, ?_, ?_, ?_, ?_, ?_, ?_, ?_, ?_, ?_, ?_, ?_, ?_, ?_, ?_, ?_, ?_, ?_, ?_, ?_, ?_, ?_, ?_, ?_, ?_, ?_, ?_, ?_, ?_, ?_, ?_, ?_, ?_, ?_, ?_, ?_, ?_, ?_, ?_, ?_, ?_, ?_, ?_, ?_, ?_, ?_, ?_, ?_, ?_, ?_, ?_, ?_, ?_, ?_, ?_, ?_, ?_, ?_, ?_, ?_, ?_, ?_, ?_, ?_, ?_, ?_, ?_, ?_, ?_, ?_, ?_, ?_, ?_, ?_, ?_, ?_, ?_, ?_, ?_, ?_, ?_, ?_, ?_, ?_, ?_, ?_, ?_, ?_, ?_, ?_, ?_, ?_, ?_, ?_, ?_, ?_, ?_, ?_, ?_, ?_, ?_, ?_, ?_, ?_, ?_, ?_, ?_, ?_, ?_, ?_, ?_, ?_, ?_, ?_, ?_, ?_, ?_, ?_, ?_, ?_, ?_, ?_, ?_, trivial⟩ <;> first | exact le_any _ | with_reducible exact le_rfl' _ | (first | (rw [wrap_add_one (by omega)]; exact le_rfl' _) | (rw [take_map_next hi]; exact le_rfl' _) | (rw [take_map_next hi, List.map_append]; exact le_rfl' _)) | exact le_rfl' _
    · try simp only [bsimp] at hb9
      obtain rfl : i = 1 + ps[0] % 4 := by omega
      obtain ⟨said, hsaid⟩ : ∃ said, said = ((ps.take (1 + ps[0] % 4)).map saidT) := ⟨_, rfl⟩
      have hn4 : said.length ≤ 4 := by rw [hsaid, List.length_map, List.length_take]; omega
      rw [← hsaid]
      refine Ok.exit ?_
      refine Ok.seq ?_
      refine Ok.region ?_
      iterate 2 (refine OkOps.ev tab_ok rfl (by simp only [kev, ktab, klen, kcv] <;> rfl) (by simp only [kput] <;> rfl) ?_)
      refine OkOps.nil ?_
      refine Ok.seq ?_
      refine Ok.seq ?_
      refine Ok.region ?_
      refine OkOps.ev tab_ok rfl (by simp only [kev, ktab, klen, kcv] <;> rfl) (by simp only [kput] <;> rfl) ?_
      refine OkOps.nil ?_
      refine Ok.block ?_
      refine Ok.bump (n' := 5) (by omega) ?_
      refine Ok.loopWZ (τ := Nat × Nat × Nat) (fun x => [(4, .ptr 1 0 0 (cLink (sayL said x.2.1))), (5, .ptr 2 0 0 (cLink (hearL x.2.2))), (10, .sl 4 1 0 ((said.take x.2.2).map cS)), (11, .int .i64 (x.1 : Int))]) [2, 12, 13, 14, 15, 16, 17, 18, 57, 58, 59, 60, 61, 62, 63, 64, 65, 66, 67, 68, 69, 70, 71, 72, 73, 74, 75, 76, 77, 78, 79, 80, 81, 82, 83, 84, 85, 86, 87, 88, 89, 90, 91, 92, 93, 94, 95, 96, 97, 98, 99, 100, 101, 102, 103, 104, 105, 106, 107, 108, 109, 110] (fun x => by simp only [kover] <;> rfl) (fun x => x.1 ≤ 12 ∧ x.2.1 ≤ x.2.2 ∧ x.2.2 ≤ x.2.1 + 1 ∧ x.2.2 ≤ said.length) (fun x => 12 - x.1) (0, 0, 0) (by omega) (by refine ⟨?_, ?_, ?_, ?_, ?_, ?_, ?_, ?_, ?_, ?_, ?_, ?_, ?_, ?_, ?_, ?_, ?_, ?_, ?_, ?_, ?_, ?_, ?_, ?_, ?_, ?_, ?_, ?_, ?_, ?_, ?_, ?_, ?_, ?_, ?_, ?_, ?_, ?_, ?_, ?_, ?_, ?_, ?_, ?_, ?_, ?_, ?_, ?_, ?_, ?_, ?_, ?_, ?_, ?_, ?_, ?_, ?_, ?_, ?_, ?_, ?_, ?_, ?_, ?_, ?_, ?_, ?_, ?_, ?_, ?_, ?_, ?_, ?_, ?_, ?_, ?_, ?_, ?_, ?_, ?_, ?_, ?_, ?_, ?_, ?_, ?_, ?_, ?_, ?_, ?_, ?_, ?_, ?_, ?_, ?_, ?_, ?_, ?_, ?_, ?_, ?_, ?_, ?_, ?_, ?_, ?_, ?_, ?_, ?_, ?_, ?_, ?_, ?_, ?_, ?_, ?_, ?_, ?_, ?_, ?_, ?_, ?_, ?_, ?_, ?_, ?_, ?_, ?_, ?_, ?_, ?_, ?_, ?_, ?_, ?_, ?_, ?_, ?_, ?_, ?_, ?_, ?_, ?_, ?_, ?_, ?_, ?_, ?_, ?_, ?_, ?_, ?_, ?_, ?_, ?_, ?_, ?_, ?_, ?_, ?_, trivial⟩ <;> first | exact le_any _ | with_reducible exact le_rfl' _ | (first | exact le_nil 4 1 | exact le_rfl' _) | exact le_rfl' _) (⟨Nat.zero_le _, Nat.zero_le _, Nat.zero_le _, Nat.zero_le _⟩) ?_
      rintro ⟨i, k, m⟩ ⟨h1, h2, h3, h4⟩
      have h1 : i ≤ 12 := h1
      have h2 : k ≤ m := h2
      have h3 : m ≤ k + 1 := h3
      have h4 : m ≤ said.length := h4
      have hwk : (sayL said k).way.length ≤ 2097152 := by simp only [sayL, List.length_drop]; omega
      refine Ok.seq ?_
      refine Ok.seq ?_
      refine Ok.region ?_
      iterate 2 (refine OkOps.ev tab_ok rfl (by simp only [kev, ktab, klen, kcv] <;> rfl) (by simp only [kput] <;> rfl) ?_)
      refine OkOps.nil ?_
      refine Ok.cond (b := _) (by simp only [kev, ktab, klen, kcv] <;> rfl) (fun hb16 => ?_) (fun hb16 => ?_)
      · try simp only [bsimp] at hb16
        have hi : i < ps.length := by omega
        refine Ok.skip ?_
        refine Ok.seq ?_
        refine Ok.block ?_
        refine Ok.seq ?_
        refine Ok.region ?_
        refine OkOps.ev tab_ok rfl (by simp only [kev, ktab, klen, kcv] <;> rfl) (by simp only [kput] <;> rfl) ?_
        refine OkOps.S0 rfl (OpS.weak' rfl (by simp only [kev, ktab, klen, kcv] <;> rfl) (by simp only [kev, ktab, klen, kcv] <;> rfl) cl32 (w_impl_LinkSays (sayL said k))) (by simp only [kput] <;> rfl) ?_
        refine OkOps.ev tab_ok rfl (by simp only [kev, ktab, klen, kcv] <;> rfl) (by simp only [kput] <;> rfl) ?_
        refine OkOps.storeE tab_ok rfl rfl (by simp only [kev, ktab, klen, kcv] <;> rfl) ⟨_, _, by simp only [kev]; rfl⟩ (by first | (simp [V.labelsL, V.labelsLL, V.labels, zz]; done) | (simp [-List.map_map, -List.map_drop, -List.map_take, -List.map_tail, -List.drop_one, V.labelsL, V.labelsLL, V.labels, zz]; done)) (by simp only [eq_self, V.updL, V.travL, V.travLL, V.trav, updS, updP, and_self, true_and, and_true, false_and, and_false, Nat.reduceEqDiff, Nat.reduceSub, Nat.le_refl, Nat.zero_le, ↓reduceIte, if_true, if_false, kput, zz] <;> rfl) (rfl) ?_
        refine OkOps.nil ?_
        refine Ok.seq ?_
        refine Ok.seq ?_
        refine Ok.region ?_
        iterate 2 (refine OkOps.ev tab_ok rfl (by simp only [kev, ktab, klen, kcv] <;> rfl) (by simp only [kput] <;> rfl) ?_)
        refine OkOps.ev tab_ok rfl (ev_idx_map (by simp only [kev, ktab, klen, kcv] <;> rfl) (by simp only [kev, ktab, klen, kcv] <;> rfl) (hi) (by simp only [kev, ktab, klen, kcv] <;> rfl)) (by simp only [kput] <;> rfl) ?_
        refine OkOps.ev tab_ok rfl (by simp only [kev, ktab, klen, kcv] <;> rfl) (by simp only [kput] <;> rfl) ?_
        refine OkOps.ev tab_ok rfl (by simp only [kev, ktab, klen, kcv, rem_lit] <;> rfl) (by simp only [kput] <;> rfl) ?_
        refine OkOps.ev tab_ok rfl (by simp only [kev, ktab, klen, kcv] <;> rfl) (by simp only [kput] <;> rfl) ?_
        refine OkOps.nil ?_
        refine Ok.cond (b := _) (by simp only [kev, ktab, klen, kcv] <;> rfl) (fun hb19 => ?_) (fun hb19 => ?_)
        · try simp only [bsimp] at hb19
          refine Ok.seq ?_
          refine Ok.region ?_
          iterate 2 (refine OkOps.ev tab_ok rfl (by simp only [kev, ktab, klen, kcv] <;> rfl) (by simp only [kput] <;> rfl) ?_)
          refine OkOps.S0 rfl (OpS.weak' rfl (by simp only [kev, ktab, klen, kcv] <;> rfl) (by simp only [kev, ktab, klen, kcv] <;> rfl) cl43 (w_impl_LinkHears (hearL m) (linkSays (sayL said k)) (Nat.zero_le _))) (by simp only [kput] <;> rfl) ?_
          iterate 5 (refine OkOps.ev tab_ok rfl (by simp only [kev, ktab, klen, kcv] <;> rfl) (by simp only [kput] <;> rfl) ?_)
          refine OkOps.storeE tab_ok rfl rfl (by simp only [kev, ktab, klen, kcv] <;> rfl) ⟨_, _, by simp only [kev]; rfl⟩ (by first | (simp [V.labelsL, V.labelsLL, V.labels, zz]; done) | (simp [-List.map_map, -List.map_drop, -List.map_take, -List.map_tail, -List.drop_one, V.labelsL, V.labelsLL, V.labels, zz]; done)) (by simp only [eq_self, V.updL, V.travL, V.travLL, V.trav, updS, updP, and_self, true_and, and_true, false_and, and_false, Nat.reduceEqDiff, Nat.reduceSub, Nat.le_refl, Nat.zero_le, ↓reduceIte, if_true, if_false, kput, zz] <;> rfl) (rfl) ?_
          iterate 2 (refine OkOps.ev tab_ok rfl (by simp only [kev, ktab, klen, kcv] <;> rfl) (by simp only [kput] <;> rfl) ?_)
          refine OkOps.nil ?_
          refine Ok.seq ?_
          refine Ok.region ?_
          refine OkOps.ev tab_ok rfl (by simp only [kev, ktab, klen, kcv] <;> rfl) (by simp only [kput] <;> rfl) ?_
          refine OkOps.storeE tab_ok rfl rfl (by simp only [kev, ktab, klen, kcv] <;> rfl) ⟨_, _, by simp only [kev]; rfl⟩ (by first | (simp [V.labelsL, V.labelsLL, V.labels, zz]; done) | (simp [-List.map_map, -List.map_drop, -List.map_take, -List.map_tail, -List.drop_one, V.labelsL, V.labelsLL, V.labels, zz]; done)) (by simp only [eq_self, V.updL, V.travL, V.travLL, V.trav, updS, updP, and_self, true_and, and_true, false_and, and_false, Nat.reduceEqDiff, Nat.reduceSub, Nat.le_refl, Nat.zero_le, ↓reduceIte, if_true, if_false, kput, zz] <;> rfl) (rfl) ?_
          refine OkOps.nil ?_
          refine Ok.seq ?_
          refine Ok.seq ?_
          refine Ok.region ?_
          refine OkOps.ev tab_ok rfl (by simp only [kev, ktab, klen, kcv] <;> rfl) (by simp only [kput] <;> rfl) ?_
          refine OkOps.nil ?_
          refine Ok.cond (b := _) (by simp only [kev, ktab, klen, kcv] <;> rfl) (fun hb22 => ?_) (fun hb22 => ?_)
          · try simp only [bsimp] at hb22
            have hkm : k < said.length ∧ m = k := Classical.byContradiction fun hq => by rw [hear_old hq] at hb22; cases hb22
            have hkl : m < said.length := by omega
            have he := hear_new' hkl hkm.2 (by omega)
            simp only [he]
            obtain ⟨mm, hmm⟩ : ∃ mm, mm = m + 1 := ⟨_, rfl⟩
            rw [← hmm]
            have hn2 : ¬ (k < said.length ∧ mm = k) := by omega
            have hm1 : k ≤ mm ∧ mm ≤ k + 1 ∧ mm ≤ said.length := by omega
            refine Ok.region ?_
            iterate 2 (refine OkOps.ev tab_ok rfl (by simp only [kev, ktab, klen, kcv] <;> rfl) (by simp only [kput] <;> rfl) ?_)
            refine OkOps.ev tab_ok rfl (ev_bs (by simp only [ktab] <;> rfl) (by simp only [ktab] <;> rfl) (by decide) (by decide) (by simp only [kev, ktab, klen, kcv, List.map_cons, List.map_nil] <;> rfl) (by simp only [kfe, beq_self_eq_true, Bool.and_true, Bool.true_and, decide_true, Nat.zero_add, Nat.lt_add_one, Nat.reduceLT, Nat.reduceAdd, Nat.zero_lt_succ, if_true, ↓reduceIte] <;> rfl)) (by simp only [kput] <;> rfl) ?_
            refine OkOps.append tab_ok rfl rfl (by simp only [ktab] <;> rfl) (by simp only [ktab] <;> rfl) (by decide) rfl (by simp only [kev, ktab, klen, kcv] <;> rfl) (.inl ⟨_, _, by simp only [kev, ktab, klen, kcv] <;> rfl⟩) (by omega) (by omega) (by simp only [List.length_map, List.length_cons, List.length_nil, List.length_take]; omega) (by simp only [List.length_map, List.length_cons, List.length_nil, List.length_take]; omega) (by simp [V.one]) (by simp only [V.killL, V.killLL, V.travL, V.travLL, V.trav, killS, killP, Nat.reduceEqDiff, ↓reduceIte, reduceCtorEq, if_true, if_false, List.append_nil, List.nil_append, List.cons_append, zz] <;> rfl) (by simp only [V.killL, V.killLL, V.travL, V.travLL, V.trav, killS, killP, Nat.reduceEqDiff, ↓reduceIte, reduceCtorEq, if_true, if_false, List.append_nil, List.nil_append, List.cons_append, zz, kput] <;> rfl) (rfl) ?_
            refine OkOps.ev tab_ok rfl (by simp only [kev, ktab, klen, kcv] <;> rfl) (by simp only [kput] <;> rfl) ?_
            refine OkOps.nil ?_
            refine Ok.seq ?_
            refine Ok.region ?_
            iterate 2 (refine OkOps.ev tab_ok rfl (by simp only [kev, ktab, klen, kcv] <;> rfl) (by simp only [kput] <;> rfl) ?_)
            refine OkOps.ev tab_ok rfl (ev_idx_map (by simp only [kev, ktab, klen, kcv] <;> rfl) (by simp only [kev, ktab, klen, kcv] <;> rfl) (hi) (by simp only [kev, ktab, klen, kcv] <;> rfl)) (by simp only [kput] <;> rfl) ?_
            refine OkOps.ev tab_ok rfl (by simp only [kev, ktab, klen, kcv] <;> rfl) (by simp only [kput] <;> rfl) ?_
            refine OkOps.ev tab_ok rfl (by simp only [kev, ktab, klen, kcv, rem_lit] <;> rfl) (by simp only [kput] <;> rfl) ?_
            refine OkOps.ev tab_ok rfl (by simp only [kev, ktab, klen, kcv] <;> rfl) (by simp only [kput] <;> rfl) ?_
            refine OkOps.nil ?_
            refine Ok.cond (b := _) (by simp only [kev, ktab, klen, kcv] <;> rfl) (fun hb24 => ?_) (fun hb24 => ?_)
            · try simp only [bsimp] at hb24
              have he2 := hear_old hn2
              refine Ok.seq ?_
              refine Ok.region ?_
              iterate 2 (refine OkOps.ev tab_ok rfl (by simp only [kev, ktab, klen, kcv] <;> rfl) (by simp only [kput] <;> rfl) ?_)
              refine OkOps.S0 rfl (OpS.weak' rfl (by simp only [kev, ktab, klen, kcv] <;> rfl) (by simp only [kev, ktab, klen, kcv] <;> rfl) cl43 (w_impl_LinkHears (hearL mm) (linkSays (sayL said k)) (Nat.zero_le _))) (by simp only [kput] <;> rfl) ?_
              refine OkOps.ev tab_ok rfl (by simp only [kev, ktab, klen, kcv] <;> rfl) (by simp only [kput] <;> rfl) ?_
              iterate 3 (refine OkOps.ev tab_ok rfl (by simp only [kev, ktab, klen, kcv, he2] <;> rfl) (by simp only [kput] <;> rfl) ?_)
              refine OkOps.ev tab_ok rfl (by simp only [kev, ktab, klen, kcv] <;> rfl) (by simp only [kput] <;> rfl) ?_
              refine OkOps.storeE tab_ok rfl rfl (by simp only [kev, ktab, klen, kcv] <;> rfl) ⟨_, _, by simp only [kev]; rfl⟩ (by first | (simp [V.labelsL, V.labelsLL, V.labels, zz]; done) | (simp [-List.map_map, -List.map_drop, -List.map_take, -List.map_tail, -List.drop_one, V.labelsL, V.labelsLL, V.labels, zz]; done)) (by simp only [eq_self, V.updL, V.travL, V.travLL, V.trav, updS, updP, and_self, true_and, and_true, false_and, and_false, Nat.reduceEqDiff, Nat.reduceSub, Nat.le_refl, Nat.zero_le, ↓reduceIte, if_true, if_false, kput, zz] <;> rfl) (rfl) ?_
              iterate 2 (refine OkOps.ev tab_ok rfl (by simp only [kev, ktab, klen, kcv] <;> rfl) (by simp only [kput] <;> rfl) ?_)
              refine OkOps.nil ?_
              refine Ok.seq ?_
              refine Ok.seq ?_
              refine Ok.region ?_
              refine OkOps.ev tab_ok rfl (by simp only [kev, ktab, klen, kcv] <;> rfl) (by simp only [kput] <;> rfl) ?_
              refine OkOps.nil ?_
              refine Ok.cond_false (by simp only [kev, ktab, klen, kcv] <;> rfl) ?_
              refine Ok.skip ?_
              refine Ok.region ?_
              refine OkOps.ev tab_ok rfl (by simp only [kev, ktab, klen, kcv] <;> rfl) (by simp only [kput] <;> rfl) ?_
              refine OkOps.storeE tab_ok rfl rfl (by simp only [kev, ktab, klen, kcv] <;> rfl) ⟨_, _, by simp only [kev]; rfl⟩ (by first | (simp [V.labelsL, V.labelsLL, V.labels, zz]; done) | (simp [-List.map_map, -List.map_drop, -List.map_take, -List.map_tail, -List.drop_one, V.labelsL, V.labelsLL, V.labels, zz]; done)) (by simp only [eq_self, V.updL, V.travL, V.travLL, V.trav, updS, updP, and_self, true_and, and_true, false_and, and_false, Nat.reduceEqDiff, Nat.reduceSub, Nat.le_refl, Nat.zero_le, ↓reduceIte, if_true, if_false, kput, zz] <;> rfl) (rfl) ?_
              refine OkOps.nil ?_
              refine Ok.seq ?_
              refine Ok.region ?_
              iterate 2 (refine OkOps.ev tab_ok rfl (by simp only [kev, ktab, klen, kcv] <;> rfl) (by simp only [kput] <;> rfl) ?_)
              refine OkOps.ev tab_ok rfl (ev_idx_map (by simp only [kev, ktab, klen, kcv] <;> rfl) (by simp only [kev, ktab, klen, kcv] <;> rfl) (hi) (by simp only [kev, ktab, klen, kcv] <;> rfl)) (by simp only [kput] <;> rfl) ?_
              refine OkOps.ev tab_ok rfl (by simp only [kev, ktab, klen, kcv] <;> rfl) (by simp only [kput] <;> rfl) ?_
              refine OkOps.ev tab_ok rfl (by simp only [kev, ktab, klen, kcv, rem_lit] <;> rfl) (by simp only [kput] <;> rfl) ?_
              refine OkOps.ev tab_ok rfl (by simp only [kev, ktab, klen, kcv] <;> rfl) (by simp only [kput] <;> rfl) ?_
              refine OkOps.nil ?_
              refine Ok.cond (b := _) (by simp only [kev, ktab, klen, kcv] <;> rfl) (fun hb29 => ?_) (fun hb29 => ?_)
              · try simp only [bsimp] at hb29
                have he3 := hear_back hm1.1 hm1.2.1 hm1.2.2 (by omega)
                obtain ⟨kk, hkk⟩ : ∃ kk, kk = mm := ⟨_, rfl⟩
                have hk1 : kk ≤ mm ∧ mm ≤ kk + 1 := by omega
                refine Ok.drawn 8 160 [6, 7] (by kernel_rfl) (by kernel_rfl) rfl ?_
                refine SOps.ev tab_ok rfl (by simp only [kev, ktab, klen, kcv] <;> rfl) (by simp only [kput] <;> rfl) ?_
                refine SOps.ev tab_ok rfl (by simp only [kev, ktab, klen, kcv] <;> rfl) (by simp only [kput] <;> rfl) ?_
                refine SOps.S0 rfl (OpS.weakM rfl (by simp only [kev, ktab, klen, kcv] <;> rfl) (by simp only [kev, ktab, klen, kcv] <;> rfl) cl32 (w_impl_LinkSays (hearL mm))) (by simp only [kput] <;> rfl) ?_
                refine SOps.S0 rfl (OpS.weakM rfl (by simp only [kev, ktab, klen, kcv] <;> rfl) (by simp only [kev, ktab, klen, kcv] <;> rfl) cl43 (w_impl_LinkHears (sayL said k) (linkSays (hearL mm)) hwk)) (by simp only [kput] <;> rfl) ?_
                refine SOps.ev tab_ok rfl (by simp only [kev, ktab, klen, kcv] <;> rfl) (by simp only [kput] <;> rfl) ?_
                refine SOps.ev tab_ok rfl (by simp only [kev, ktab, klen, kcv, he3] <;> rfl) (by simp only [kput] <;> rfl) ?_
                refine SOps.ev tab_ok rfl (by simp only [kev, ktab, klen, kcv, he3] <;> rfl) (by simp only [kput] <;> rfl) ?_
                refine SOps.ev tab_ok rfl (by simp only [kev, ktab, klen, kcv, he3] <;> rfl) (by simp only [kput] <;> rfl) ?_
                refine SOps.nil ?_
                refine TOps.storeL tab_ok rfl rfl rfl (by simp only [kev, ktab, klen, kcv] <;> rfl) ⟨_, _, by simp only [kev]; rfl⟩ (by first | (simp [V.labelsL, V.labelsLL, V.labels, zz]; done) | (simp [-List.map_map, -List.map_drop, -List.map_take, -List.map_tail, -List.drop_one, V.labelsL, V.labelsLL, V.labels, zz]; done)) (by simp only [eq_self, V.updL, V.travL, V.travLL, V.trav, updS, updP, and_self, true_and, and_true, false_and, and_false, Nat.reduceEqDiff, Nat.reduceSub, Nat.le_refl, Nat.zero_le, ↓reduceIte, if_true, if_false, kput, zz] <;> rfl) (rfl) (LateOk.cons (i := 6) tab_ok (by rfl) (by rfl) (by simp only [List.getElem_toArray, List.getElem_cons_succ, List.getElem_cons_zero]; exact (by simp only [kev, ktab, klen, kcv] <;> rfl)) (by show nth _ 109 = _; simp only [kev, ktab, klen, kcv] <;> rfl) (LateOk.cons (i := 7) tab_ok (by rfl) (by rfl) (by simp only [List.getElem_toArray, List.getElem_cons_succ, List.getElem_cons_zero]; exact (by simp only [kev, ktab, klen, kcv] <;> rfl)) (by show nth _ 110 = _; simp only [kev, ktab, klen, kcv] <;> rfl) LateOk.nil)) ?_
                refine TOps.nil ?_
                refine Ok.region ?_
                iterate 3 (refine OkOps.ev tab_ok rfl (by simp only [kev, ktab, klen, kcv] <;> rfl) (by simp only [kput] <;> rfl) ?_)
                refine OkOps.nil ?_
                refine ⟨(i + 1, kk, mm), ?_, rfl, ⟨by omega, hk1.1, hk1.2, hm1.2.2⟩, by show 12 - (i + 1) < 12 - i; omega⟩
                simp only [V.renL, V.travL, V.travLL, V.trav, frz, zz, Nat.reduceLeDiff, ↓reduceIte]
                refine ⟨?_, ?_, ?_, ?_, ?_, ?_, ?_, ?_, ?_, ?_, ?_, ?_, ?_, ?_, ?_, ?_, ?_, ?_, ?_, ?_, ?_, ?_, ?_, ?_, ?_, ?_, ?_, ?_, ?_, ?_, ?_, ?_, ?_, ?_, ?_, ?_, ?_, ?_, ?_, ?_, ?_, ?_, ?_, ?_, ?_, ?_, ?_, ?_, ?_, ?_, ?_, ?_, ?_, ?_, ?_, ?_, ?_, ?_, ?_, ?_, ?_, ?_, ?_, ?_, ?_, ?_, ?_, ?_, ?_, ?_, ?_, ?_, ?_, ?_, ?_, ?_, ?_, ?_, ?_, ?_, ?_, ?_, ?_, ?_, ?_, ?_, ?_, ?_, ?_, ?_, ?_, ?_, ?_, ?_, ?_, ?_, ?_, ?_, ?_, ?_, ?_, ?_, ?_, ?_, ?_, ?_, ?_, ?_, ?_, ?_, ?_, ?_, ?_, ?_, ?_, ?_, ?_, ?_, ?_, ?_, ?_, ?_, ?_, ?_, ?_, ?_, ?_, ?_, ?_, ?_, ?_, ?_, ?_, ?_, ?_, ?_, ?_, ?_, ?_, ?_, ?_, ?_, ?_, ?_, ?_, ?_, ?_, ?_, ?_, ?_, ?_, ?_, ?_, ?_, ?_, ?_, ?_, ?_, ?_, ?_, trivial⟩ <;> first | exact le_any _ | with_reducible exact le_rfl' _ | (first | (subst hkk; subst hmm; with_reducible exact le_rfl' _) | (rw [wrap_add_one (by omega)]; exact le_rfl' _) | (subst hmm; rw [List.take_succ_eq_append_getElem hkl, List.map_append]; exact le_rfl' _) | (subst hkk; subst hmm; exact le_rfl' _)) | exact le_rfl' _
              · try simp only [bsimp] at hb29
                obtain ⟨kk, hkk⟩ : ∃ kk, kk = k := ⟨_, rfl⟩
                have hk1 : kk ≤ mm ∧ mm ≤ kk + 1 := by omega
                refine Ok.skip ?_
                refine Ok.region ?_
                iterate 3 (refine OkOps.ev tab_ok rfl (by simp only [kev, ktab, klen, kcv] <;> rfl) (by simp only [kput] <;> rfl) ?_)
                refine OkOps.nil ?_
                refine ⟨(i + 1, kk, mm), ?_, rfl, ⟨by omega, hk1.1, hk1.2, hm1.2.2⟩, by show 12 - (i + 1) < 12 - i; omega⟩
                simp only [V.renL, V.travL, V.travLL, V.trav, frz, zz, Nat.reduceLeDiff, ↓reduceIte]
                refine ⟨?_, ?_, ?_, ?_, ?_, ?_, ?_, ?_, ?_, ?_, ?_, ?_, ?_, ?_, ?_, ?_, ?_, ?_, ?_, ?_, ?_, ?_, ?_, ?_, ?_, ?_, ?_, ?_, ?_, ?_, ?_, ?_, ?_, ?_, ?_, ?_, ?_, ?_, ?_, ?_, ?_, ?_, ?_, ?_, ?_, ?_, ?_, ?_, ?_, ?_, ?_, ?_, ?_, ?_, ?_, ?_, ?_, ?_, ?_, ?_, ?_, ?_, ?_, ?_, ?_, ?_, ?_, ?_, ?_, ?_, ?_, ?_, ?_, ?_, ?_, ?_, ?_, ?_, ?_, ?_, ?_, ?_, ?_, ?_, ?_, ?_, ?_, ?_, ?_, ?_, ?_, ?_, ?_, ?_, ?_, ?_, ?_, ?_, ?_, ?_, ?_, ?_, ?_, ?_, ?_, ?_, ?_, ?_, ?_, ?_, ?_, ?_, ?_, ?_, ?_, ?_, ?_, ?_, ?_, ?_, ?_, ?_, ?_, ?_, ?_, ?_, ?_, ?_, ?_, ?_, ?_, ?_, ?_, ?_, ?_, ?_, ?_, ?_, ?_, ?_, ?_, ?_, ?_, ?_, ?_, ?_, ?_, ?_, ?_, ?_, ?_, ?_, ?_, ?_, ?_, ?_, ?_, ?_, ?_, ?_, trivial⟩ <;> first | exact le_any _ | with_reducible exact le_rfl' _ | (first | (subst hkk; subst hmm; with_reducible exact le_rfl' _) | (rw [wrap_add_one (by omega)]; exact le_rfl' _) | (subst hmm; rw [List.take_succ_eq_append_getElem hkl, List.map_append]; exact le_rfl' _) | (subst hkk; subst hmm; exact le_rfl' _)) | exact le_rfl' _
            · try simp only [bsimp] at hb24
              refine Ok.skip ?_
              refine Ok.seq ?_
              refine Ok.region ?_
              iterate 2 (refine OkOps.ev tab_ok rfl (by simp only [kev, ktab, klen, kcv] <;> rfl) (by simp only [kput] <;> rfl) ?_)
              refine OkOps.ev tab_ok rfl (ev_idx_map (by simp only [kev, ktab, klen, kcv] <;> rfl) (by simp only [kev, ktab, klen, kcv] <;> rfl) (hi) (by simp only [kev, ktab, klen, kcv] <;> rfl)) (by simp only [kput] <;> rfl) ?_
              refine OkOps.ev tab_ok rfl (by simp only [kev, ktab, klen, kcv] <;> rfl) (by simp only [kput] <;> rfl) ?_
              refine OkOps.ev tab_ok rfl (by simp only [kev, ktab, klen, kcv, rem_lit] <;> rfl) (by simp only [kput] <;> rfl) ?_
              refine OkOps.ev tab_ok rfl (by simp only [kev, ktab, klen, kcv] <;> rfl) (by simp only [kput] <;> rfl) ?_
              refine OkOps.nil ?_
              refine Ok.cond (b := _) (by simp only [kev, ktab, klen, kcv] <;> rfl) (fun hb29 => ?_) (fun hb29 => ?_)
              · try simp only [bsimp] at hb29
                have he3 := hear_back hm1.1 hm1.2.1 hm1.2.2 (by omega)
                obtain ⟨kk, hkk⟩ : ∃ kk, kk = mm := ⟨_, rfl⟩
                have hk1 : kk ≤ mm ∧ mm ≤ kk + 1 := by omega
                refine Ok.drawn 8 160 [6, 7] (by kernel_rfl) (by kernel_rfl) rfl ?_
                refine SOps.ev tab_ok rfl (by simp only [kev, ktab, klen, kcv] <;> rfl) (by simp only [kput] <;> rfl) ?_
                refine SOps.ev tab_ok rfl (by simp only [kev, ktab, klen, kcv] <;> rfl) (by simp only [kput] <;> rfl) ?_
                refine SOps.S0 rfl (OpS.weakM rfl (by simp only [kev, ktab, klen, kcv] <;> rfl) (by simp only [kev, ktab, klen, kcv] <;> rfl) cl32 (w_impl_LinkSays (hearL mm))) (by simp only [kput] <;> rfl) ?_
                refine SOps.S0 rfl (OpS.weakM rfl (by simp only [kev, ktab, klen, kcv] <;> rfl) (by simp only [kev, ktab, klen, kcv] <;> rfl) cl43 (w_impl_LinkHears (sayL said k) (linkSays (hearL mm)) hwk)) (by simp only [kput] <;> rfl) ?_
                refine SOps.ev tab_ok rfl (by simp only [kev, ktab, klen, kcv] <;> rfl) (by simp only [kput] <;> rfl) ?_
                refine SOps.ev tab_ok rfl (by simp only [kev, ktab, klen, kcv, he3] <;> rfl) (by simp only [kput] <;> rfl) ?_
                refine SOps.ev tab_ok rfl (by simp only [kev, ktab, klen, kcv, he3] <;> rfl) (by simp only [kput] <;> rfl) ?_
                refine SOps.ev tab_ok rfl (by simp only [kev, ktab, klen, kcv, he3] <;> rfl) (by simp only [kput] <;> rfl) ?_
                refine SOps.nil ?_
                refine TOps.storeL tab_ok rfl rfl rfl (by simp only [kev, ktab, klen, kcv] <;> rfl) ⟨_, _, by simp only [kev]; rfl⟩ (by first | (simp [V.labelsL, V.labelsLL, V.labels, zz]; done) | (simp [-List.map_map, -List.map_drop, -List.map_take, -List.map_tail, -List.drop_one, V.labelsL, V.labelsLL, V.labels, zz]; done)) (by simp only [eq_self, V.updL, V.travL, V.travLL, V.trav, updS, updP, and_self, true_and, and_true, false_and, and_false, Nat.reduceEqDiff, Nat.reduceSub, Nat.le_refl, Nat.zero_le, ↓reduceIte, if_true, if_false, kput, zz] <;> rfl) (rfl) (LateOk.cons (i := 6) tab_ok (by rfl) (by rfl) (by simp only [List.getElem_toArray, List.getElem_cons_succ, List.getElem_cons_zero]; exact (by simp only [kev, ktab, klen, kcv] <;> rfl)) (by show nth _ 109 = _; simp only [kev, ktab, klen, kcv] <;> rfl) (LateOk.cons (i := 7) tab_ok (by rfl) (by rfl) (by simp only [List.getElem_toArray, List.getElem_cons_succ, List.getElem_cons_zero]; exact (by simp only [kev, ktab, klen, kcv] <;> rfl)) (by show nth _ 110 = _; simp only [kev, ktab, klen, kcv] <;> rfl) LateOk.nil)) ?_
                refine TOps.nil ?_
                refine Ok.region ?_
                iterate 3 (refine OkOps.ev tab_ok rfl (by simp only [kev, ktab, klen, kcv] <;> rfl) (by simp only [kput] <;> rfl) ?_)
                refine OkOps.nil ?_
                refine ⟨(i + 1, kk, mm), ?_, rfl, ⟨by omega, hk1.1, hk1.2, hm1.2.2⟩, by show 12 - (i + 1) < 12 - i; omega⟩
                simp only [V.renL, V.travL, V.travLL, V.trav, frz, zz, Nat.reduceLeDiff, ↓reduceIte]
                refine ⟨?_, ?_, ?_, ?_, ?_, ?_, ?_, ?_, ?_, ?_, ?_, ?_, ?_, ?_, ?_, ?_, ?_, ?_, ?_, ?_, ?_, ?_, ?_, ?_, ?_, ?_, ?_, ?_, ?_, ?_, ?_, ?_, ?_, ?_, ?_, ?_, ?_, ?_, ?_, ?_, ?_, ?_, ?_, ?_, ?_, ?_, ?_, ?_, ?_, ?_, ?_, ?_, ?_, ?_, ?_, ?_, ?_, ?_, ?_, ?_, ?_, ?_, ?_, ?_, ?_, ?_, ?_, ?_, ?_, ?_, ?_, ?_, ?_, ?_, ?_, ?_, ?_, ?_, ?_, ?_, ?_, ?_, ?_, ?_, ?_, ?_, ?_, ?_, ?_, ?_, ?_, ?_, ?_, ?_, ?_, ?_, ?_, ?_, ?_, ?_, ?_, ?_, ?_, ?_, ?_, ?_, ?_, ?_, ?_, ?_, ?_, ?_, ?_, ?_, ?_, ?_, ?_, ?_, ?_, ?_, ?_, ?_, ?_, ?_, ?_, ?_, ?_, ?_, ?_, ?_, ?_, ?_, ?_, ?_, ?_, ?_, ?_, ?_, ?_, ?_, ?_, ?_, ?_, ?_, ?_, ?_, ?_, ?_, ?_, ?_, ?_, ?_, ?_, ?_, ?_, ?_, ?_, ?_, ?_, ?_, trivial⟩ <;> first | exact le_any _ | with_reducible exact le_rfl' _ | (first | (subst hkk; subst hmm; with_reducible exact le_rfl' _) | (rw [wrap_add_one (by omega)]; exact le_rfl' _) | (subst hmm; rw [List.take_succ_eq_append_getElem hkl, List.map_append]; exact le_rfl' _) | (subst hkk; subst hmm; exact le_rfl' _)) | exact le_rfl' _
              · try simp only [bsimp] at hb29
                obtain ⟨kk, hkk⟩ : ∃ kk, kk = k := ⟨_, rfl⟩
                have hk1 : kk ≤ mm ∧ mm ≤ kk + 1 := by omega
                refine Ok.skip ?_
                refine Ok.region ?_
                iterate 3 (refine OkOps.ev tab_ok rfl (by simp only [kev, ktab, klen, kcv] <;> rfl) (by simp only [kput] <;> rfl) ?_)
                refine OkOps.nil ?_
                refine ⟨(i + 1, kk, mm), ?_, rfl, ⟨by omega, hk1.1, hk1.2, hm1.2.2⟩, by show 12 - (i + 1) < 12 - i; omega⟩
                simp only [V.renL, V.travL, V.travLL, V.trav, frz, zz, Nat.reduceLeDiff, ↓reduceIte]
                refine ⟨?_, ?_, ?_, ?_, ?_, ?_, ?_, ?_, ?_, ?_, ?_, ?_, ?_, ?_, ?_, ?_, ?_, ?_, ?_, ?_, ?_, ?_, ?_, ?_, ?_, ?_, ?_, ?_, ?_, ?_, ?_, ?_, ?_, ?_, ?_, ?_, ?_, ?_, ?_, ?_, ?_, ?_, ?_, ?_, ?_, ?_, ?_, ?_, ?_, ?_, ?_, ?_, ?_, ?_, ?_, ?_, ?_, ?_, ?_, ?_, ?_, ?_, ?_, ?_, ?_, ?_, ?_, ?_, ?_, ?_, ?_, ?_, ?_, ?_, ?_, ?_, ?_, ?_, ?_, ?_, ?_, ?_, ?_, ?_, ?_, ?_, ?_, ?_, ?_, ?_, ?_, ?_, ?_, ?_, ?_, ?_, ?_, ?_, ?_, ?_, ?_, ?_, ?_, ?_, ?_, ?_, ?_, ?_, ?_, ?_, ?_, ?_, ?_, ?_, ?_, ?_, ?_, ?_, ?_, ?_, ?_, ?_, ?_, ?_, ?_, ?_, ?_, ?_, ?_, ?_, ?_, ?_, ?_, ?_, ?_, ?_, ?_, ?_, ?_, ?_, ?_, ?_, ?_, ?_, ?_, ?_, ?_, ?_, ?_, ?_, ?_, ?_, ?_, ?_, ?_, ?_, ?_, ?_, ?_, ?_, trivial⟩ <;> first | exact le_any _ | with_reducible exact le_rfl' _ | (first | (subst hkk; subst hmm; with_reducible exact le_rfl' _) | (rw [wrap_add_one (by omega)]; exact le_rfl' _) | (subst hmm; rw [List.take_succ_eq_append_getElem hkl, List.map_append]; exact le_rfl' _) | (subst hkk; subst hmm; exact le_rfl' _)) | exact le_rfl' _
          · try simp only [bsimp] at hb22
            have hn2 : ¬ (k < said.length ∧ m = k) := fun hq => by rw [hear_new hq.1 hq.2 (by omega)] at hb22; cases hb22
            have he := hear_old hn2
            simp only [he]
            obtain ⟨mm, hmm⟩ : ∃ mm, mm = m := ⟨_, rfl⟩
            rw [← hmm]
            rw [← hmm] at hn2
            have hm1 : k ≤ mm ∧ mm ≤ k + 1 ∧ mm ≤ said.length := by omega
            refine Ok.skip ?_
            refine Ok.seq ?_
            refine Ok.region ?_
            iterate 2 (refine OkOps.ev tab_ok rfl (by simp only [kev, ktab, klen, kcv] <;> rfl) (by simp only [kput] <;> rfl) ?_)
            refine OkOps.ev tab_ok rfl (ev_idx_map (by simp only [kev, ktab, klen, kcv] <;> rfl) (by simp only [kev, ktab, klen, kcv] <;> rfl) (hi) (by simp only [kev, ktab, klen, kcv] <;> rfl)) (by simp only [kput] <;> rfl) ?_
            refine OkOps.ev tab_ok rfl (by simp only [kev, ktab, klen, kcv] <;> rfl) (by simp only [kput] <;> rfl) ?_
            refine OkOps.ev tab_ok rfl (by simp only [kev, ktab, klen, kcv, rem_lit] <;> rfl) (by simp only [kput] <;> rfl) ?_
            refine OkOps.ev tab_ok rfl (by simp only [kev, ktab, klen, kcv] <;> rfl) (by simp only [kput] <;> rfl) ?_
            refine OkOps.nil ?_
            refine Ok.cond (b := _) (by simp only [kev, ktab, klen, kcv] <;> rfl) (fun hb24 => ?_) (fun hb24 => ?_)
            · try simp only [bsimp] at hb24
              have he2 := hear_old hn2
              refine Ok.seq ?_
              refine Ok.region ?_
              iterate 2 (refine OkOps.ev tab_ok rfl (by simp only [kev, ktab, klen, kcv] <;> rfl) (by simp only [kput] <;> rfl) ?_)
              refine OkOps.S0 rfl (OpS.weak' rfl (by simp only [kev, ktab, klen, kcv] <;> rfl) (by simp only [kev, ktab, klen, kcv] <;> rfl) cl43 (w_impl_LinkHears (hearL mm) (linkSays (sayL said k)) (Nat.zero_le _))) (by simp only [kput] <;> rfl) ?_
              refine OkOps.ev tab_ok rfl (by simp only [kev, ktab, klen, kcv] <;> rfl) (by simp only [kput] <;> rfl) ?_
              iterate 3 (refine OkOps.ev tab_ok rfl (by simp only [kev, ktab, klen, kcv, he2] <;> rfl) (by simp only [kput] <;> rfl) ?_)
              refine OkOps.ev tab_ok rfl (by simp only [kev, ktab, klen, kcv] <;> rfl) (by simp only [kput] <;> rfl) ?_
              refine OkOps.storeE tab_ok rfl rfl (by simp only [kev, ktab, klen, kcv] <;> rfl) ⟨_, _, by simp only [kev]; rfl⟩ (by first | (simp [V.labelsL, V.labelsLL, V.labels, zz]; done) | (simp [-List.map_map, -List.map_drop, -List.map_take, -List.map_tail, -List.drop_one, V.labelsL, V.labelsLL, V.labels, zz]; done)) (by simp only [eq_self, V.updL, V.travL, V.travLL, V.trav, updS, updP, and_self, true_and, and_true, false_and, and_false, Nat.reduceEqDiff, Nat.reduceSub, Nat.le_refl, Nat.zero_le, ↓reduceIte, if_true, if_false, kput, zz] <;> rfl) (rfl) ?_
              iterate 2 (refine OkOps.ev tab_ok rfl (by simp only [kev, ktab, klen, kcv] <;> rfl) (by simp only [kput] <;> rfl) ?_)
              refine OkOps.nil ?_
              refine Ok.seq ?_
              refine Ok.seq ?_
              refine Ok.region ?_
              refine OkOps.ev tab_ok rfl (by simp only [kev, ktab, klen, kcv] <;> rfl) (by simp only [kput] <;> rfl) ?_
              refine OkOps.nil ?_
              refine Ok.cond_false (by simp only [kev, ktab, klen, kcv] <;> rfl) ?_
              refine Ok.skip ?_
              refine Ok.region ?_
              refine OkOps.ev tab_ok rfl (by simp only [kev, ktab, klen, kcv] <;> rfl) (by simp only [kput] <;> rfl) ?_
              refine OkOps.storeE tab_ok rfl rfl (by simp only [kev, ktab, klen, kcv] <;> rfl) ⟨_, _, by simp only [kev]; rfl⟩ (by first | (simp [V.labelsL, V.labelsLL, V.labels, zz]; done) | (simp [-List.map_map, -List.map_drop, -List.map_take, -List.map_tail, -List.drop_one, V.labelsL, V.labelsLL, V.labels, zz]; done)) (by simp only [eq_self, V.updL, V.travL, V.travLL, V.trav, updS, updP, and_self, true_and, and_true, false_and, and_false, Nat.reduceEqDiff, Nat.reduceSub, Nat.le_refl, Nat.zero_le, ↓reduceIte, if_true, if_false, kput, zz] <;> rfl) (rfl) ?_
              refine OkOps.nil ?_
              refine Ok.seq ?_
              refine Ok.region ?_
              iterate 2 (refine OkOps.ev tab_ok rfl (by simp only [kev, ktab, klen, kcv] <;> rfl) (by simp only [kput] <;> rfl) ?_)
              refine OkOps.ev tab_ok rfl (ev_idx_map (by simp only [kev, ktab, klen, kcv] <;> rfl) (by simp only [kev, ktab, klen, kcv] <;> rfl) (hi) (by simp only [kev, ktab, klen, kcv] <;> rfl)) (by simp only [kput] <;> rfl) ?_
              refine OkOps.ev tab_ok rfl (by simp only [kev, ktab, klen, kcv] <;> rfl) (by simp only [kput] <;> rfl) ?_
              refine OkOps.ev tab_ok rfl (by simp only [kev, ktab, klen, kcv, rem_lit] <;> rfl) (by simp only [kput] <;> rfl) ?_
              refine OkOps.ev tab_ok rfl (by simp only [kev, ktab, klen, kcv] <;> rfl) (by simp only [kput] <;> rfl) ?_
              refine OkOps.nil ?_
              refine Ok.cond (b := _) (by simp only [kev, ktab, klen, kcv] <;> rfl) (fun hb29 => ?_) (fun hb29 => ?_)
              · try simp only [bsimp] at hb29
                have he3 := hear_back hm1.1 hm1.2.1 hm1.2.2 (by omega)
                obtain ⟨kk, hkk⟩ : ∃ kk, kk = mm := ⟨_, rfl⟩
                have hk1 : kk ≤ mm ∧ mm ≤ kk + 1 := by omega
                refine Ok.drawn 8 160 [6, 7] (by kernel_rfl) (by kernel_rfl) rfl ?_
                refine SOps.ev tab_ok rfl (by simp only [kev, ktab, klen, kcv] <;> rfl) (by simp only [kput] <;> rfl) ?_
                refine SOps.ev tab_ok rfl (by simp only [kev, ktab, klen, kcv] <;> rfl) (by simp only [kput] <;> rfl) ?_
                refine SOps.S0 rfl (OpS.weakM rfl (by simp only [kev, ktab, klen, kcv] <;> rfl) (by simp only [kev, ktab, klen, kcv] <;> rfl) cl32 (w_impl_LinkSays (hearL mm))) (by simp only [kput] <;> rfl) ?_
                refine SOps.S0 rfl (OpS.weakM rfl (by simp only [kev, ktab, klen, kcv] <;> rfl) (by simp only [kev, ktab, klen, kcv] <;> rfl) cl43 (w_impl_LinkHears (sayL said k) (linkSays (hearL mm)) hwk)) (by simp only [kput] <;> rfl) ?_
                refine SOps.ev tab_ok rfl (by simp only [kev, ktab, klen, kcv] <;> rfl) (by simp only [kput] <;> rfl) ?_
                refine SOps.ev tab_ok rfl (by simp only [kev, ktab, klen, kcv, he3] <;> rfl) (by simp only [kput] <;> rfl) ?_
                refine SOps.ev tab_ok rfl (by simp only [kev, ktab, klen, kcv, he3] <;> rfl) (by simp only [kput] <;> rfl) ?_
                refine SOps.ev tab_ok rfl (by simp only [kev, ktab, klen, kcv, he3] <;> rfl) (by simp only [kput] <;> rfl) ?_
                refine SOps.nil ?_
                refine TOps.storeL tab_ok rfl rfl rfl (by simp only [kev, ktab, klen, kcv] <;> rfl) ⟨_, _, by simp only [kev]; rfl⟩ (by first | (simp [V.labelsL, V.labelsLL, V.labels, zz]; done) | (simp [-List.map_map, -List.map_drop, -List.map_take, -List.map_tail, -List.drop_one, V.labelsL, V.labelsLL, V.labels, zz]; done)) (by simp only [eq_self, V.updL, V.travL, V.travLL, V.trav, updS, updP, and_self, true_and, and_true, false_and, and_false, Nat.reduceEqDiff, Nat.reduceSub, Nat.le_refl, Nat.zero_le, ↓reduceIte, if_true, if_false, kput, zz] <;> rfl) (rfl) (LateOk.cons (i := 6) tab_ok (by rfl) (by rfl) (by simp only [List.getElem_toArray, List.getElem_cons_succ, List.getElem_cons_zero]; exact (by simp only [kev, ktab, klen, kcv] <;> rfl)) (by show nth _ 109 = _; simp only [kev, ktab, klen, kcv] <;> rfl) (LateOk.cons (i := 7) tab_ok (by rfl) (by rfl) (by simp only [List.getElem_toArray, List.getElem_cons_succ, List.getElem_cons_zero]; exact (by simp only [kev, ktab, klen, kcv] <;> rfl)) (by show nth _ 110 = _; simp only [kev, ktab, klen, kcv] <;> rfl) LateOk.nil)) ?_
                refine TOps.nil ?_
                refine Ok.region ?_
                iterate 3 (refine OkOps.ev tab_ok rfl (by simp only [kev, ktab, klen, kcv] <;> rfl) (by simp only [kput] <;> rfl) ?_)
                refine OkOps.nil ?_
                refine ⟨(i + 1, kk, mm), ?_, rfl, ⟨by omega, hk1.1, hk1.2, hm1.2.2⟩, by show 12 - (i + 1) < 12 - i; omega⟩
                simp only [V.renL, V.travL, V.travLL, V.trav, frz, zz, Nat.reduceLeDiff, ↓reduceIte]
                refine ⟨?_, ?_, ?_, ?_, ?_, ?_, ?_, ?_, ?_, ?_, ?_, ?_, ?_, ?_, ?_, ?_, ?_, ?_, ?_, ?_, ?_, ?_, ?_, ?_, ?_, ?_, ?_, ?_, ?_, ?_, ?_, ?_, ?_, ?_, ?_, ?_, ?_, ?_, ?_, ?_, ?_, ?_, ?_, ?_, ?_, ?_, ?_, ?_, ?_, ?_, ?_, ?_, ?_, ?_, ?_, ?_, ?_, ?_, ?_, ?_, ?_, ?_, ?_, ?_, ?_, ?_, ?_, ?_, ?_, ?_, ?_, ?_, ?_, ?_, ?_, ?_, ?_, ?_, ?_, ?_, ?_, ?_, ?_, ?_, ?_, ?_, ?_, ?_, ?_, ?_, ?_, ?_, ?_, ?_, ?_, ?_, ?_, ?_, ?_, ?_, ?_, ?_, ?_, ?_, ?_, ?_, ?_, ?_, ?_, ?_, ?_, ?_, ?_, ?_, ?_, ?_, ?_, ?_, ?_, ?_, ?_, ?_, ?_, ?_, ?_, ?_, ?_, ?_, ?_, ?_, ?_, ?_, ?_, ?_, ?_, ?_, ?_, ?_, ?_, ?_, ?_, ?_, ?_, ?_, ?_, ?_, ?_, ?_, ?_, ?_, ?_, ?_, ?_, ?_, ?_, ?_, ?_, ?_, ?_, ?_, trivial⟩ <;> first | exact le_any _ | with_reducible exact le_rfl' _ | (first | (subst hkk; subst hmm; with_reducible exact le_rfl' _) | (rw [wrap_add_one (by omega)]; exact le_rfl' _) | (subst hmm; rw [List.take_succ_eq_append_getElem hkl, List.map_append]; exact le_rfl' _) | (subst hkk; subst hmm; exact le_rfl' _)) | exact le_rfl' _
              · try simp only [bsimp] at hb29
                obtain ⟨kk, hkk⟩ : ∃ kk, kk = k := ⟨_, rfl⟩
                have hk1 : kk ≤ mm ∧ mm ≤ kk + 1 := by omega
                refine Ok.skip ?_
                refine Ok.region ?_
                iterate 3 (refine OkOps.ev tab_ok rfl (by simp only [kev, ktab, klen, kcv] <;> rfl) (by simp only [kput] <;> rfl) ?_)
                refine OkOps.nil ?_
                refine ⟨(i + 1, kk, mm), ?_, rfl, ⟨by omega, hk1.1, hk1.2, hm1.2.2⟩, by show 12 - (i + 1) < 12 - i; omega⟩
                simp only [V.renL, V.travL, V.travLL, V.trav, frz, zz, Nat.reduceLeDiff, ↓reduceIte]
                refine ⟨?_, ?_, ?_, ?_, ?_, ?_, ?_, ?_, ?_, ?_, ?_, ?_, ?_, ?_, ?_, ?_, ?_, ?_, ?_, ?_, ?_, ?_, ?_, ?_, ?_, ?_, ?_, ?_, ?_, ?_, ?_, ?_, ?_, ?_, ?_, ?_, ?_, ?_, ?_, ?_, ?_, ?_, ?_, ?_, ?_, ?_, ?_, ?_, ?_, ?_, ?_, ?_, ?_, ?_, ?_, ?_, ?_, ?_, ?_, ?_, ?_, ?_, ?_, ?_, ?_, ?_, ?_, ?_, ?_, ?_, ?_, ?_, ?_, ?_, ?_, ?_, ?_, ?_, ?_, ?_, ?_, ?_, ?_, ?_, ?_, ?_, ?_, ?_, ?_, ?_, ?_, ?_, ?_, ?_, ?_, ?_, ?_, ?_, ?_, ?_, ?_, ?_, ?_, ?_, ?_, ?_, ?_, ?_, ?_, ?_, ?_, ?_, ?_, ?_, ?_, ?_, ?_, ?_, ?_, ?_, ?_, ?_, ?_, ?_, ?_, ?_, ?_, ?_, ?_, ?_, ?_, ?_, ?_, ?_, ?_, ?_, ?_, ?_, ?_, ?_, ?_, ?_, ?_, ?_, ?_, ?_, ?_, ?_, ?_, ?_, ?_, ?_, ?_, ?_, ?_, ?_, ?_, ?_, ?_, ?_, trivial⟩ <;> first | exact le_any _ | with_reducible exact le_rfl' _ | (first | (subst hkk; subst hmm; with_reducible exact le_rfl' _) | (rw [wrap_add_one (by omega)]; exact le_rfl' _) | (subst hmm; rw [List.take_succ_eq_append_getElem hkl, List.map_append]; exact le_rfl' _) | (subst hkk; subst hmm; exact le_rfl' _)) | exact le_rfl' _
            · try simp only [bsimp] at hb24
              refine Ok.skip ?_
              refine Ok.seq ?_
              refine Ok.region ?_
              iterate 2 (refine OkOps.ev tab_ok rfl (by simp only [kev, ktab, klen, kcv] <;> rfl) (by simp only [kput] <;> rfl) ?_)
              refine OkOps.ev tab_ok rfl (ev_idx_map (by simp only [kev, ktab, klen, kcv] <;> rfl) (by simp only [kev, ktab, klen, kcv] <;> rfl) (hi) (by simp only [kev, ktab, klen, kcv] <;> rfl)) (by simp only [kput] <;> rfl) ?_
              refine OkOps.ev tab_ok rfl (by simp only [kev, ktab, klen, kcv] <;> rfl) (by simp only [kput] <;> rfl) ?_
              refine OkOps.ev tab_ok rfl (by simp only [kev, ktab, klen, kcv, rem_lit] <;> rfl) (by simp only [kput] <;> rfl) ?_
              refine OkOps.ev tab_ok rfl (by simp only [kev, ktab, klen, kcv] <;> rfl) (by simp only [kput] <;> rfl) ?_
              refine OkOps.nil ?_
              refine Ok.cond (b := _) (by simp only [kev, ktab, klen, kcv] <;> rfl) (fun hb29 => ?_) (fun hb29 => ?_)
              · try simp only [bsimp] at hb29
                have he3 := hear_back hm1.1 hm1.2.1 hm1.2.2 (by omega)
                obtain ⟨kk, hkk⟩ : ∃ kk, kk = mm := ⟨_, rfl⟩
                have hk1 : kk ≤ mm ∧ mm ≤ kk + 1 := by omega
                refine Ok.drawn 8 160 [6, 7] (by kernel_rfl) (by kernel_rfl) rfl ?_
                refine SOps.ev tab_ok rfl (by simp only [kev, ktab, klen, kcv] <;> rfl) (by simp only [kput] <;> rfl) ?_
                refine SOps.ev tab_ok rfl (by simp only [kev, ktab, klen, kcv] <;> rfl) (by simp only [kput] <;> rfl) ?_
                refine SOps.S0 rfl (OpS.weakM rfl (by simp only [kev, ktab, klen, kcv] <;> rfl) (by simp only [kev, ktab, klen, kcv] <;> rfl) cl32 (w_impl_LinkSays (hearL mm))) (by simp only [kput] <;> rfl) ?_
                refine SOps.S0 rfl (OpS.weakM rfl (by simp only [kev, ktab, klen, kcv] <;> rfl) (by simp only [kev, ktab, klen, kcv] <;> rfl) cl43 (w_impl_LinkHears (sayL said k) (linkSays (hearL mm)) hwk)) (by simp only [kput] <;> rfl) ?_
                refine SOps.ev tab_ok rfl (by simp only [kev, ktab, klen, kcv] <;> rfl) (by simp only [kput] <;> rfl) ?_
                refine SOps.ev tab_ok rfl (by simp only [kev, ktab, klen, kcv, he3] <;> rfl) (by simp only [kput] <;> rfl) ?_
                refine SOps.ev tab_ok rfl (by simp only [kev, ktab, klen, kcv, he3] <;> rfl) (by simp only [kput] <;> rfl) ?_
                refine SOps.ev tab_ok rfl (by simp only [kev, ktab, klen, kcv, he3] <;> rfl) (by simp only [kput] <;> rfl) ?_
                refine SOps.nil ?_
                refine TOps.storeL tab_ok rfl rfl rfl (by simp only [kev, ktab, klen, kcv] <;> rfl) ⟨_, _, by simp only [kev]; rfl⟩ (by first | (simp [V.labelsL, V.labelsLL, V.labels, zz]; done) | (simp [-List.map_map, -List.map_drop, -List.map_take, -List.map_tail, -List.drop_one, V.labelsL, V.labelsLL, V.labels, zz]; done)) (by simp only [eq_self, V.updL, V.travL, V.travLL, V.trav, updS, updP, and_self, true_and, and_true, false_and, and_false, Nat.reduceEqDiff, Nat.reduceSub, Nat.le_refl, Nat.zero_le, ↓reduceIte, if_true, if_false, kput, zz] <;> rfl) (rfl) (LateOk.cons (i := 6) tab_ok (by rfl) (by rfl) (by simp only [List.getElem_toArray, List.getElem_cons_succ, List.getElem_cons_zero]; exact (by simp only [kev, ktab, klen, kcv] <;> rfl)) (by show nth _ 109 = _; simp only [kev, ktab, klen, kcv] <;> rfl) (LateOk.cons (i := 7) tab_ok (by rfl) (by rfl) (by simp only [List.getElem_toArray, List.getElem_cons_succ, List.getElem_cons_zero]; exact (by simp only [kev, ktab, klen, kcv] <;> rfl)) (by show nth _ 110 = _; simp only [kev, ktab, klen, kcv] <;> rfl) LateOk.nil)) ?_
                refine TOps.nil ?_
                refine Ok.region ?_
                iterate 3 (refine OkOps.ev tab_ok rfl (by simp only [kev, ktab, klen, kcv] <;> rfl) (by simp only [kput] <;> rfl) ?_)
                refine OkOps.nil ?_
                refine ⟨(i + 1, kk, mm), ?_, rfl, ⟨by omega, hk1.1, hk1.2, hm1.2.2⟩, by show 12 - (i + 1) < 12 - i; omega⟩
                simp only [V.renL, V.travL, V.travLL, V.trav, frz, zz, Nat.reduceLeDiff, ↓reduceIte]
                refine ⟨?_, ?_, ?_, ?_, ?_, ?_, ?_, ?_, ?_, ?_, ?_, ?_, ?_, ?_, ?_, ?_, ?_, ?_, ?_, ?_, ?_, ?_, ?_, ?_, ?_, ?_, ?_, ?_, ?_, ?_, ?_, ?_, ?_, ?_, ?_, ?_, ?_, ?_, ?_, ?_, ?_, ?_, ?_, ?_, ?_, ?_, ?_, ?_, ?_, ?_, ?_, ?_, ?_, ?_, ?_, ?_, ?_, ?_, ?_, ?_, ?_, ?_, ?_, ?_, ?_, ?_, ?_, ?_, ?_, ?_, ?_, ?_, ?_, ?_, ?_, ?_, ?_, ?_, ?_, ?_, ?_, ?_, ?_, ?_, ?_, ?_, ?_, ?_, ?_, ?_, ?_, ?_, ?_, ?_, ?_, ?_, ?_, ?_, ?_, ?_, ?_, ?_, ?_, ?_, ?_, ?_, ?_, ?_, ?_, ?_, ?_, ?_, ?_, ?_, ?_, ?_, ?_, ?_, ?_, ?_, ?_, ?_, ?_, ?_, ?_, ?_, ?_, ?_, ?_, ?_, ?_, ?_, ?_, ?_, ?_, ?_, ?_, ?_, ?_, ?_, ?_, ?_, ?_, ?_, ?_, ?_, ?_, ?_, ?_, ?_, ?_, ?_, ?_, ?_, ?_, ?_, ?_, ?_, ?_, ?_, trivial⟩ <;> first | exact le_any _ | with_reducible exact le_rfl' _ | (first | (subst hkk; subst hmm; with_reducible exact le_rfl' _) | (rw [wrap_add_one (by omega)]; exact le_rfl' _) | (subst hmm; rw [List.take_succ_eq_append_getElem hkl, List.map_append]; exact le_rfl' _) | (subst hkk; subst hmm; exact le_rfl' _)) | exact le_rfl' _
              · try simp only [bsimp] at hb29
                obtain ⟨kk, hkk⟩ : ∃ kk, kk = k := ⟨_, rfl⟩
                have hk1 : kk ≤ mm ∧ mm ≤ kk + 1 := by omega
                refine Ok.skip ?_
                refine Ok.region ?_
                iterate 3 (refine OkOps.ev tab_ok rfl (by simp only [kev, ktab, klen, kcv] <;> rfl) (by simp only [kput] <;> rfl) ?_)
                refine OkOps.nil ?_
                refine ⟨(i + 1, kk, mm), ?_, rfl, ⟨by omega, hk1.1, hk1.2, hm1.2.2⟩, by show 12 - (i + 1) < 12 - i; omega⟩
                simp only [V.renL, V.travL, V.travLL, V.trav, frz, zz, Nat.reduceLeDiff, ↓reduceIte]
                refine ⟨?_, ?_, ?_, ?_, ?_, ?_, ?_, ?_, ?_, ?_, ?_, ?_, ?_, ?_, ?_, ?_, ?_, ?_, ?_, ?_, ?_, ?_, ?_, ?_, ?_, ?_, ?_, ?_, ?_, ?_, ?_, ?_, ?_, ?_, ?_, ?_, ?_, ?_, ?_, ?_, ?_, ?_, ?_, ?_, ?_, ?_, ?_, ?_, ?_, ?_, ?_, ?_, ?_, ?_, ?_, ?_, ?_, ?_, ?_, ?_, ?_, ?_, ?_, ?_, ?_, ?_, ?_, ?_, ?_, ?_, ?_, ?_, ?_, ?_, ?_, ?_, ?_, ?_, ?_, ?_, ?_, ?_, ?_, ?_, ?_, ?_, ?_, ?_, ?_, ?_, ?_, ?_, ?_, ?_, ?_, ?_, ?_, ?_, ?_, ?_, ?_, ?_, ?_, ?_, ?_, ?_, ?_, ?_, ?_, ?_, ?_, ?_, ?_, ?_, ?_, ?_, ?_, ?_, ?_, ?_, ?_, ?_, ?_, ?_, ?_, ?_, ?_, ?_, ?_, ?_, ?_, ?_, ?_, ?_, ?_, ?_, ?_, ?_, ?_, ?_, ?_, ?_, ?_, ?_, ?_, ?_, ?_, ?_, ?_, ?_, ?_, ?_, ?_, ?_, ?_, ?_, ?_, ?_, ?_, ?_, trivial⟩ <;> first | exact le_any _ | with_reducible exact le_rfl' _ | (first | (subst hkk; subst hmm; with_reducible exact le_rfl' _) | (rw [wrap_add_one (by omega)]; exact le_rfl' _) | (subst hmm; rw [List.take_succ_eq_append_getElem hkl, List.map_append]; exact le_rfl' _) | (subst hkk; subst hmm; exact le_rfl' _)) | exact le_rfl' _
        · try simp only [bsimp] at hb19
          obtain ⟨mm, hmm⟩ : ∃ mm, mm = m := ⟨_, rfl⟩
          rw [← hmm]
          have hm1 : k ≤ mm ∧ mm ≤ k + 1 ∧ mm ≤ said.length := by omega
          refine Ok.skip ?_
          refine Ok.seq ?_
          refine Ok.region ?_
          iterate 2 (refine OkOps.ev tab_ok rfl (by simp only [kev, ktab, klen, kcv] <;> rfl) (by simp only [kput] <;> rfl) ?_)
          refine OkOps.ev tab_ok rfl (ev_idx_map (by simp only [kev, ktab, klen, kcv] <;> rfl) (by simp only [kev, ktab, klen, kcv] <;> rfl) (hi) (by simp only [kev, ktab, klen, kcv] <;> rfl)) (by simp only [kput] <;> rfl) ?_
          refine OkOps.ev tab_ok rfl (by simp only [kev, ktab, klen, kcv] <;> rfl) (by simp only [kput] <;> rfl) ?_
          refine OkOps.ev tab_ok rfl (by simp only [kev, ktab, klen, kcv, rem_lit] <;> rfl) (by simp only [kput] <;> rfl) ?_
          refine OkOps.ev tab_ok rfl (by simp only [kev, ktab, klen, kcv] <;> rfl) (by simp only [kput] <;> rfl) ?_
          refine OkOps.nil ?_
          refine Ok.cond (b := _) (by simp only [kev, ktab, klen, kcv] <;> rfl) (fun hb29 => ?_) (fun hb29 => ?_)
          · try simp only [bsimp] at hb29
            have he3 := hear_back hm1.1 hm1.2.1 hm1.2.2 (by omega)
            obtain ⟨kk, hkk⟩ : ∃ kk, kk = mm := ⟨_, rfl⟩
            have hk1 : kk ≤ mm ∧ mm ≤ kk + 1 := by omega
            refine Ok.drawn 8 160 [6, 7] (by kernel_rfl) (by kernel_rfl) rfl ?_
            refine SOps.ev tab_ok rfl (by simp only [kev, ktab, klen, kcv] <;> rfl) (by simp only [kput] <;> rfl) ?_
            refine SOps.ev tab_ok rfl (by simp only [kev, ktab, klen, kcv] <;> rfl) (by simp only [kput] <;> rfl) ?_
            refine SOps.S0 rfl (OpS.weakM rfl (by simp only [kev, ktab, klen, kcv] <;> rfl) (by simp only [kev, ktab, klen, kcv] <;> rfl) cl32 (w_impl_LinkSays (hearL mm))) (by simp only [kput] <;> rfl) ?_
            refine SOps.S0 rfl (OpS.weakM rfl (by simp only [kev, ktab, klen, kcv] <;> rfl) (by simp only [kev, ktab, klen, kcv] <;> rfl) cl43 (w_impl_LinkHears (sayL said k) (linkSays (hearL mm)) hwk)) (by simp only [kput] <;> rfl) ?_
            refine SOps.ev tab_ok rfl (by simp only [kev, ktab, klen, kcv] <;> rfl) (by simp only [kput] <;> rfl) ?_
            refine SOps.ev tab_ok rfl (by simp only [kev, ktab, klen, kcv, he3] <;> rfl) (by simp only [kput] <;> rfl) ?_
            refine SOps.ev tab_ok rfl (by simp only [kev, ktab, klen, kcv, he3] <;> rfl) (by simp only [kput] <;> rfl) ?_
            refine SOps.ev tab_ok rfl (by simp only [kev, ktab, klen, kcv, he3] <;> rfl) (by simp only [kput] <;> rfl) ?_
            refine SOps.nil ?_
            refine TOps.storeL tab_ok rfl rfl rfl (by simp only [kev, ktab, klen, kcv] <;> rfl) ⟨_, _, by simp only [kev]; rfl⟩ (by first | (simp [V.labelsL, V.labelsLL, V.labels, zz]; done) | (simp [-List.map_map, -List.map_drop, -List.map_take, -List.map_tail, -List.drop_one, V.labelsL, V.labelsLL, V.labels, zz]; done)) (by simp only [eq_self, V.updL, V.travL, V.travLL, V.trav, updS, updP, and_self, true_and, and_true, false_and, and_false, Nat.reduceEqDiff, Nat.reduceSub, Nat.le_refl, Nat.zero_le, ↓reduceIte, if_true, if_false, kput, zz] <;> rfl) (rfl) (LateOk.cons (i := 6) tab_ok (by rfl) (by rfl) (by simp only [List.getElem_toArray, List.getElem_cons_succ, List.getElem_cons_zero]; exact (by simp only [kev, ktab, klen, kcv] <;> rfl)) (by show nth _ 109 = _; simp only [kev, ktab, klen, kcv] <;> rfl) (LateOk.cons (i := 7) tab_ok (by rfl) (by rfl) (by simp only [List.getElem_toArray, List.getElem_cons_succ, List.getElem_cons_zero]; exact (by simp only [kev, ktab, klen, kcv] <;> rfl)) (by show nth _ 110 = _; simp only [kev, ktab, klen, kcv] <;> rfl) LateOk.nil)) ?_
            refine TOps.nil ?_
            refine Ok.region ?_
            iterate 3 (refine OkOps.ev tab_ok rfl (by simp only [kev, ktab, klen, kcv] <;> rfl) (by simp only [kput] <;> rfl) ?_)
            refine OkOps.nil ?_
            refine ⟨(i + 1, kk, mm), ?_, rfl, ⟨by omega, hk1.1, hk1.2, hm1.2.2⟩, by show 12 - (i + 1) < 12 - i; omega⟩
            simp only [V.renL, V.travL, V.travLL, V.trav, frz, zz, Nat.reduceLeDiff, ↓reduceIte]
            refine ⟨?_, ?_, ?_, ?_, ?_, ?_, ?_, ?_, ?_, ?_, ?_, ?_, ?_, ?_, ?_, ?_, ?_, ?_, ?_, ?_, ?_, ?_, ?_, ?_, ?_, ?_, ?_, ?_, ?_, ?_, ?_, ?_, ?_, ?_, ?_, ?_, ?_, ?_, ?_, ?_, ?_, ?_, ?_, ?_, ?_, ?_, ?_, ?_, ?_, ?_, ?_, ?_, ?_, ?_, ?_, ?_, ?_, ?_, ?_, ?_, ?_, ?_, ?_, ?_, ?_, ?_, ?_, ?_, ?_, ?_, ?_, ?_, ?_, ?_, ?_, ?_, ?_, ?_, ?_, ?_, ?_, ?_, ?_, ?_, ?_, ?_, ?_, ?_, ?_, ?_, ?_, ?_, ?_, ?_, ?_, ?_, ?_, ?_, ?_, ?_, ?_, ?_, ?_, ?_, ?_, ?_, ?_, ?_, ?_, ?_, ?_, ?_, ?_, ?_, ?_, ?_, ?_, ?_, ?_, ?_, ?_, ?_, ?_, ?_, ?_, ?_, ?_, ?_, ?_, ?_, ?_, ?_, ?_, ?_, ?_, ?_, ?_, ?_, ?_, ?_, ?_, ?_, ?_, ?_, ?_, ?_, ?_, ?_, ?_, ?_, ?_, ?_, ?_, ?_, ?_, ?_, ?_, ?_, ?_, ?_, trivial⟩ <;> first | exact le_any _ | with_reducible exact le_rfl' _ | (first | (subst hkk; subst hmm; with_reducible exact le_rfl' _) | (rw [wrap_add_one (by omega)]; exact le_rfl' _) | (subst hmm; rw [List.take_succ_eq_append_getElem hkl, List.map_append]; exact le_rfl' _) | (subst hkk; subst hmm; exact le_rfl' _)) | exact le_rfl' _
          · try simp only [bsimp] at hb29
            obtain ⟨kk, hkk⟩ : ∃ kk, kk = k := ⟨_, rfl⟩
            have hk1 : kk ≤ mm ∧ mm ≤ kk + 1 := by omega
            refine Ok.skip ?_
            refine Ok.region ?_
            iterate 3 (refine OkOps.ev tab_ok rfl (by simp only [kev, ktab, klen, kcv] <;> rfl) (by simp only [kput] <;> rfl) ?_)
            refine OkOps.nil ?_
            refine ⟨(i + 1, kk, mm), ?_, rfl, ⟨by omega, hk1.1, hk1.2, hm1.2.2⟩, by show 12 - (i + 1) < 12 - i; omega⟩
            simp only [V.renL, V.travL, V.travLL, V.trav, frz, zz, Nat.reduceLeDiff, ↓reduceIte]
            refine ⟨?_, ?_, ?_, ?_, ?_, ?_, ?_, ?_, ?_, ?_, ?_, ?_, ?_, ?_, ?_, ?_, ?_, ?_, ?_, ?_, ?_, ?_, ?_, ?_, ?_, ?_, ?_, ?_, ?_, ?_, ?_, ?_, ?_, ?_, ?_, ?_, ?_, ?_, ?_, ?_, ?_, ?_, ?_, ?_, ?_, ?_, ?_, ?_, ?_, ?_, ?_, ?_, ?_, ?_, ?_, ?_, ?_, ?_, ?_, ?_, ?_, ?_, ?_, ?_, ?_, ?_, ?_, ?_, ?_, ?_, ?_, ?_, ?_, ?_, ?_, ?_, ?_, ?_, ?_, ?_, ?_, ?_, ?_, ?_, ?_, ?_, ?_, ?_, ?_, ?_, ?_, ?_, ?_, ?_, ?_, ?_, ?_, ?_, ?_, ?_, ?_, ?_, ?_, ?_, ?_, ?_, ?_, ?_, ?_, ?_, ?_, ?_, ?_, ?_, ?_, ?_, ?_, ?_, ?_, ?_, ?_, ?_, ?_, ?_, ?_, ?_, ?_, ?_, ?_, ?_, ?_, ?_, ?_, ?_, ?_, ?_, ?_, ?_, ?_, ?_, ?_, ?_, ?_, ?_, ?_, ?_, ?_, ?_, ?_, ?_, ?_, ?_, ?_, ?_, ?_, ?_, ?_, ?_, ?_, ?_, trivial⟩ <;> first | exact le_any _ | with_reducible exact le_rfl' _ | (first | (subst hkk; subst hmm; with_reducible exact le_rfl' _) | (rw [wrap_add_one (by omega)]; exact le_rfl' _) | (subst hmm; rw [List.take_succ_eq_append_getElem hkl, List.map_append]; exact le_rfl' _) | (subst hkk; subst hmm; exact le_rfl' _)) | exact le_rfl' _
      · try simp only [bsimp] at hb16
        have hml : (said.take m).length = m := by rw [List.length_take]; omega
        refine Ok.exit ?_
        refine Ok.seq ?_
        refine Ok.seq ?_
        refine Ok.region ?_
        iterate 6 (refine OkOps.ev tab_ok rfl (by simp only [kev, ktab, klen, kcv] <;> rfl) (by simp only [kput] <;> rfl) ?_)
        refine OkOps.split (d := 116) (by simp only [kev, ktab, klen, kcv] <;> rfl) (by simp only [kput] <;> rfl) (by simp only [kput] <;> rfl) (fun hg31_5 => ?_) (fun hg31_5 => ?_)
        · try simp only [bsimp] at hg31_5
          exfalso; rw [hml] at hg31_5; omega
        · try simp only [bsimp] at hg31_5
          refine OkOps.on rfl rfl (by simp only [kev, ktab, klen, kcv]) ?_
          refine OkOps.ev tab_ok rfl (by simp only [kev, ktab, klen, kcv] <;> rfl) (by simp only [kput] <;> rfl) ?_
          refine OkOps.on rfl rfl (by simp only [kev, ktab, klen, kcv]) ?_
          refine OkOps.ev tab_ok rfl (by simp only [kev, ktab, klen, kcv] <;> rfl) (by simp only [kput] <;> rfl) ?_
          refine OkOps.on rfl rfl (by simp only [kev, ktab, klen, kcv]) ?_
          refine OkOps.ev tab_ok rfl (by simp only [kev, ktab, klen, kcv] <;> rfl) (by simp only [kput] <;> rfl) ?_
          refine OkOps.on rfl rfl (by simp only [kev, ktab, klen, kcv]) ?_
          refine OkOps.ev tab_ok rfl (by simp only [kev, ktab, klen, kcv] <;> rfl) (by simp only [kput] <;> rfl) ?_
          refine OkOps.on rfl rfl (by simp only [kev, ktab, klen, kcv]) ?_
          refine OkOps.ev tab_ok rfl (ev_partHi_map (by simp only [kev, ktab, klen, kcv] <;> rfl) (by simp only [kev, ktab, klen, kcv] <;> rfl) (by simp only [ktab] <;> rfl) (by simp only [ktab, Option.map_some] <;> rfl) (by rw [hml]; exact h4)) (by simp only [kput] <;> rfl) ?_
          refine OkOps.on rfl rfl (by simp only [kev, ktab, klen, kcv]) ?_
          refine OkOps.S0 rfl (OpS.weakE rfl (by simp only [kev, ktab, klen, kcv] <;> rfl) (by simp only [kev, ktab, klen, kcv, V.eraseL, V.erase, V.travL, V.trav, zz] <;> rfl) cl44 (by simp [V.labels, V.labelsL, V.labelsLL, zz]) (w_laws_sameTexts (said.take m) (said.take (said.take m).length))) (by simp only [kput] <;> rfl) ?_
          refine OkOps.on rfl rfl (by simp only [kev, ktab, klen, kcv]) ?_
          iterate 2 (refine OkOps.ev tab_ok rfl (by simp only [kev, ktab, klen, kcv] <;> rfl) (by simp only [kput] <;> rfl) ?_)
          refine OkOps.nil ?_
          refine Ok.cond_false (by simp only [kev, ktab, klen, kcv, hml, List.take_length, decide_true, Bool.not_true] <;> simp) ?_
          refine Ok.skip ?_
          refine Ok.seq ?_
          refine Ok.seq ?_
          refine Ok.region ?_
          refine OkOps.ev tab_ok rfl (by simp only [kev, ktab, klen, kcv] <;> rfl) (by simp only [kput] <;> rfl) ?_
          refine OkOps.nil ?_
          refine Ok.block ?_
          refine Ok.loopWZ (τ := Nat × Nat × Nat) (fun x => [(4, .ptr 1 0 0 (cLink (sayL said x.2.1))), (5, .ptr 2 0 0 (cLink (hearL x.2.2))), (10, .sl 4 1 0 ((said.take x.2.2).map cS)), (19, .int .i64 (x.1 : Int))]) [20, 21, 22, 111, 117, 119, 125, 126, 127, 128, 129, 130, 131, 132, 133, 134, 135, 136, 137, 138, 139, 140, 141, 142, 143, 144, 145, 146, 147, 148, 149, 150] (fun x => by simp only [kover] <;> rfl) (fun x => x.1 ≤ 8 ∧ x.2.1 ≤ x.2.2 ∧ x.2.2 ≤ x.2.1 + 1 ∧ x.2.2 ≤ said.length ∧ min x.1 said.length ≤ x.2.1) (fun x => 8 - x.1) (0, k, m) (by omega) (by refine ⟨?_, ?_, ?_, ?_, ?_, ?_, ?_, ?_, ?_, ?_, ?_, ?_, ?_, ?_, ?_, ?_, ?_, ?_, ?_, ?_, ?_, ?_, ?_, ?_, ?_, ?_, ?_, ?_, ?_, ?_, ?_, ?_, ?_, ?_, ?_, ?_, ?_, ?_, ?_, ?_, ?_, ?_, ?_, ?_, ?_, ?_, ?_, ?_, ?_, ?_, ?_, ?_, ?_, ?_, ?_, ?_, ?_, ?_, ?_, ?_, ?_, ?_, ?_, ?_, ?_, ?_, ?_, ?_, ?_, ?_, ?_, ?_, ?_, ?_, ?_, ?_, ?_, ?_, ?_, ?_, ?_, ?_, ?_, ?_, ?_, ?_, ?_, ?_, ?_, ?_, ?_, ?_, ?_, ?_, ?_, ?_, ?_, ?_, ?_, ?_, ?_, ?_, ?_, ?_, ?_, ?_, ?_, ?_, ?_, ?_, ?_, ?_, ?_, ?_, ?_, ?_, ?_, ?_, ?_, ?_, ?_, ?_, ?_, ?_, ?_, ?_, ?_, ?_, ?_, ?_, ?_, ?_, ?_, ?_, ?_, ?_, ?_, ?_, ?_, ?_, ?_, ?_, ?_, ?_, ?_, ?_, ?_, ?_, ?_, ?_, ?_, ?_, ?_, ?_, ?_, ?_, ?_, ?_, ?_, ?_, trivial⟩ <;> first | exact le_any _ | with_reducible exact le_rfl' _ | (exact le_rfl' _) | exact le_rfl' _) (⟨Nat.zero_le _, h2, h3, h4, by show min 0 said.length ≤ k; omega⟩) ?_
          rintro ⟨j, k, m⟩ ⟨h1, h2, h3, h4, h5⟩
          have h1 : j ≤ 8 := h1
          have h2 : k ≤ m := h2
          have h3 : m ≤ k + 1 := h3
          have h4 : m ≤ said.length := h4
          have h5 : min j said.length ≤ k := h5
          have hwk : (sayL said k).way.length ≤ 2097152 := by simp only [sayL, List.length_drop]; omega
          refine Ok.seq ?_
          refine Ok.seq ?_
          refine Ok.region ?_
          iterate 2 (refine OkOps.ev tab_ok rfl (by simp only [kev, ktab, klen, kcv] <;> rfl) (by simp only [kput] <;> rfl) ?_)
          refine OkOps.nil ?_
          refine Ok.cond (b := _) (by simp only [kev, ktab, klen, kcv] <;> rfl) (fun hb34 => ?_) (fun hb34 => ?_)
          · try simp only [bsimp] at hb34
            refine Ok.skip ?_
            refine Ok.seq ?_
            refine Ok.block ?_
            refine Ok.seq ?_
            refine Ok.drawn 9 160 [6, 7] (by kernel_rfl) (by kernel_rfl) rfl ?_
            refine SOps.ev tab_ok rfl (by simp only [kev, ktab, klen, kcv] <;> rfl) (by simp only [kput] <;> rfl) ?_
            refine SOps.ev tab_ok rfl (by simp only [kev, ktab, klen, kcv] <;> rfl) (by simp only [kput] <;> rfl) ?_
            refine SOps.S0 rfl (OpS.weakM rfl (by simp only [kev, ktab, klen, kcv] <;> rfl) (by simp only [kev, ktab, klen, kcv] <;> rfl) cl32 (w_impl_LinkSays (sayL said k))) (by simp only [kput] <;> rfl) ?_
            refine SOps.S0 rfl (OpS.weakM rfl (by simp only [kev, ktab, klen, kcv] <;> rfl) (by simp only [kev, ktab, klen, kcv] <;> rfl) cl43 (w_impl_LinkHears (hearL m) (linkSays (sayL said k)) (Nat.zero_le _))) (by simp only [kput] <;> rfl) ?_
            refine SOps.ev tab_ok rfl (by simp only [kev, ktab, klen, kcv] <;> rfl) (by simp only [kput] <;> rfl) ?_
            refine SOps.ev tab_ok rfl (by simp only [kev, ktab, klen, kcv] <;> rfl) (by simp only [kput] <;> rfl) ?_
            refine SOps.ev tab_ok rfl (by simp only [kev, ktab, klen, kcv] <;> rfl) (by simp only [kput] <;> rfl) ?_
            refine SOps.ev tab_ok rfl (by simp only [kev, ktab, klen, kcv] <;> rfl) (by simp only [kput] <;> rfl) ?_
            refine SOps.ev tab_ok rfl (by simp only [kev, ktab, klen, kcv] <;> rfl) (by simp only [kput] <;> rfl) ?_
            refine SOps.nil ?_
            refine TOps.storeL tab_ok rfl rfl rfl (by simp only [kev, ktab, klen, kcv] <;> rfl) ⟨_, _, by simp only [kev]; rfl⟩ (by first | (simp [V.labelsL, V.labelsLL, V.labels, zz]; done) | (simp [-List.map_map, -List.map_drop, -List.map_take, -List.map_tail, -List.drop_one, V.labelsL, V.labelsLL, V.labels, zz]; done)) (by simp only [eq_self, V.updL, V.travL, V.travLL, V.trav, updS, updP, and_self, true_and, and_true, false_and, and_false, Nat.reduceEqDiff, Nat.reduceSub, Nat.le_refl, Nat.zero_le, ↓reduceIte, if_true, if_false, kput, zz] <;> rfl) (rfl) (LateOk.cons (i := 6) tab_ok (by rfl) (by rfl) (by simp only [List.getElem_toArray, List.getElem_cons_succ, List.getElem_cons_zero]; exact (by simp only [kev, ktab, klen, kcv] <;> rfl)) (by show nth _ 135 = _; simp only [kev, ktab, klen, kcv] <;> rfl) (LateOk.cons (i := 7) tab_ok (by rfl) (by rfl) (by simp only [List.getElem_toArray, List.getElem_cons_succ, List.getElem_cons_zero]; exact (by simp only [kev, ktab, klen, kcv] <;> rfl)) (by show nth _ 136 = _; simp only [kev, ktab, klen, kcv] <;> rfl) LateOk.nil)) ?_
            refine TOps.evL tab_ok rfl (by simp only [kev, ktab, klen, kcv] <;> rfl) (by simp only [kput] <;> rfl) (LateOk.cons (i := 6) tab_ok (by rfl) (by rfl) (by simp only [List.getElem_toArray, List.getElem_cons_succ, List.getElem_cons_zero]; exact (by simp only [kev, ktab, klen, kcv] <;> rfl)) (by show nth _ 135 = _; simp only [kev, ktab, klen, kcv] <;> rfl) (LateOk.cons (i := 7) tab_ok (by rfl) (by rfl) (by simp only [List.getElem_toArray, List.getElem_cons_succ, List.getElem_cons_zero]; exact (by simp only [kev, ktab, klen, kcv] <;> rfl)) (by show nth _ 136 = _; simp only [kev, ktab, klen, kcv] <;> rfl) LateOk.nil)) ?_
            refine TOps.evL tab_ok rfl (by simp only [kev, ktab, klen, kcv] <;> rfl) (by simp only [kput] <;> rfl) (LateOk.cons (i := 6) tab_ok (by rfl) (by rfl) (by simp only [List.getElem_toArray, List.getElem_cons_succ, List.getElem_cons_zero]; exact (by simp only [kev, ktab, klen, kcv] <;> rfl)) (by show nth _ 135 = _; simp only [kev, ktab, klen, kcv] <;> rfl) (LateOk.cons (i := 7) tab_ok (by rfl) (by rfl) (by simp only [List.getElem_toArray, List.getElem_cons_succ, List.getElem_cons_zero]; exact (by simp only [kev, ktab, klen, kcv] <;> rfl)) (by show nth _ 136 = _; simp only [kev, ktab, klen, kcv] <;> rfl) LateOk.nil)) ?_
            refine TOps.nil ?_
            refine Ok.seq ?_
            refine Ok.region ?_
            refine OkOps.ev tab_ok rfl (by simp only [kev, ktab, klen, kcv] <;> rfl) (by simp only [kput] <;> rfl) ?_
            refine OkOps.storeE tab_ok rfl rfl (by simp only [kev, ktab, klen, kcv] <;> rfl) ⟨_, _, by simp only [kev]; rfl⟩ (by first | (simp [V.labelsL, V.labelsLL, V.labels, zz]; done) | (simp [-List.map_map, -List.map_drop, -List.map_take, -List.map_tail, -List.drop_one, V.labelsL, V.labelsLL, V.labels, zz]; done)) (by simp only [eq_self, V.updL, V.travL, V.travLL, V.trav, updS, updP, and_self, true_and, and_true, false_and, and_false, Nat.reduceEqDiff, Nat.reduceSub, Nat.le_refl, Nat.zero_le, ↓reduceIte, if_true, if_false, kput, zz] <;> rfl) (rfl) ?_
            refine OkOps.nil ?_
            refine Ok.seq ?_
            refine Ok.seq ?_
            refine Ok.region ?_
            refine OkOps.ev tab_ok rfl (by simp only [kev, ktab, klen, kcv] <;> rfl) (by simp only [kput] <;> rfl) ?_
            refine OkOps.nil ?_
            refine Ok.cond (b := _) (by simp only [kev, ktab, klen, kcv] <;> rfl) (fun hb38 => ?_) (fun hb38 => ?_)
            · try simp only [bsimp] at hb38
              have hkm : k < said.length ∧ m = k := Classical.byContradiction fun hq => by rw [hear_old hq] at hb38; cases hb38
              have hkl : m < said.length := by omega
              have he := hear_new' hkl hkm.2 (by omega)
              simp only [he]
              obtain ⟨mm, hmm⟩ : ∃ mm, mm = m + 1 := ⟨_, rfl⟩
              rw [← hmm]
              have hm1 : k ≤ mm ∧ mm ≤ k + 1 ∧ mm ≤ said.length := by omega
              have hmin : min (j + 1) said.length ≤ mm := by omega
              have he3 := hear_back hm1.1 hm1.2.1 hm1.2.2 (by omega)
              obtain ⟨kk, hkk⟩ : ∃ kk, kk = mm := ⟨_, rfl⟩
              refine Ok.region ?_
              iterate 2 (refine OkOps.ev tab_ok rfl (by simp only [kev, ktab, klen, kcv] <;> rfl) (by simp only [kput] <;> rfl) ?_)
              refine OkOps.ev tab_ok rfl (ev_bs (by simp only [ktab] <;> rfl) (by simp only [ktab] <;> rfl) (by decide) (by decide) (by simp only [kev, ktab, klen, kcv, List.map_cons, List.map_nil] <;> rfl) (by simp only [kfe, beq_self_eq_true, Bool.and_true, Bool.true_and, decide_true, Nat.zero_add, Nat.lt_add_one, Nat.reduceLT, Nat.reduceAdd, Nat.zero_lt_succ, if_true, ↓reduceIte] <;> rfl)) (by simp only [kput] <;> rfl) ?_
              refine OkOps.append tab_ok rfl rfl (by simp only [ktab] <;> rfl) (by simp only [ktab] <;> rfl) (by decide) rfl (by simp only [kev, ktab, klen, kcv] <;> rfl) (.inl ⟨_, _, by simp only [kev, ktab, klen, kcv] <;> rfl⟩) (by omega) (by omega) (by simp only [List.length_map, List.length_cons, List.length_nil, List.length_take]; omega) (by simp only [List.length_map, List.length_cons, List.length_nil, List.length_take]; omega) (by simp [V.one]) (by simp only [V.killL, V.killLL, V.travL, V.travLL, V.trav, killS, killP, Nat.reduceEqDiff, ↓reduceIte, reduceCtorEq, if_true, if_false, List.append_nil, List.nil_append, List.cons_append, zz] <;> rfl) (by simp only [V.killL, V.killLL, V.travL, V.travLL, V.trav, killS, killP, Nat.reduceEqDiff, ↓reduceIte, reduceCtorEq, if_true, if_false, List.append_nil, List.nil_append, List.cons_append, zz, kput] <;> rfl) (rfl) ?_
              refine OkOps.ev tab_ok rfl (by simp only [kev, ktab, klen, kcv] <;> rfl) (by simp only [kput] <;> rfl) ?_
              refine OkOps.nil ?_
              refine Ok.drawn 8 160 [6, 7] (by kernel_rfl) (by kernel_rfl) rfl ?_
              refine SOps.ev tab_ok rfl (by simp only [kev, ktab, klen, kcv] <;> rfl) (by simp only [kput] <;> rfl) ?_
              refine SOps.ev tab_ok rfl (by simp only [kev, ktab, klen, kcv] <;> rfl) (by simp only [kput] <;> rfl) ?_
              refine SOps.S0 rfl (OpS.weakM rfl (by simp only [kev, ktab, klen, kcv] <;> rfl) (by simp only [kev, ktab, klen, kcv] <;> rfl) cl32 (w_impl_LinkSays (hearL mm))) (by simp only [kput] <;> rfl) ?_
              refine SOps.S0 rfl (OpS.weakM rfl (by simp only [kev, ktab, klen, kcv] <;> rfl) (by simp only [kev, ktab, klen, kcv] <;> rfl) cl43 (w_impl_LinkHears (sayL said k) (linkSays (hearL mm)) hwk)) (by simp only [kput] <;> rfl) ?_
              refine SOps.ev tab_ok rfl (by simp only [kev, ktab, klen, kcv] <;> rfl) (by simp only [kput] <;> rfl) ?_
              refine SOps.ev tab_ok rfl (by simp only [kev, ktab, klen, kcv, he3] <;> rfl) (by simp only [kput] <;> rfl) ?_
              refine SOps.ev tab_ok rfl (by simp only [kev, ktab, klen, kcv, he3] <;> rfl) (by simp only [kput] <;> rfl) ?_
              refine SOps.ev tab_ok rfl (by simp only [kev, ktab, klen, kcv, he3] <;> rfl) (by simp only [kput] <;> rfl) ?_
              refine SOps.nil ?_
              refine TOps.storeL tab_ok rfl rfl rfl (by simp only [kev, ktab, klen, kcv] <;> rfl) ⟨_, _, by simp only [kev]; rfl⟩ (by first | (simp [V.labelsL, V.labelsLL, V.labels, zz]; done) | (simp [-List.map_map, -List.map_drop, -List.map_take, -List.map_tail, -List.drop_one, V.labelsL, V.labelsLL, V.labels, zz]; done)) (by simp only [eq_self, V.updL, V.travL, V.travLL, V.trav, updS, updP, and_self, true_and, and_true, false_and, and_false, Nat.reduceEqDiff, Nat.reduceSub, Nat.le_refl, Nat.zero_le, ↓reduceIte, if_true, if_false, kput, zz] <;> rfl) (rfl) (LateOk.cons (i := 6) tab_ok (by rfl) (by rfl) (by simp only [List.getElem_toArray, List.getElem_cons_succ, List.getElem_cons_zero]; exact (by simp only [kev, ktab, klen, kcv] <;> rfl)) (by show nth _ 149 = _; simp only [kev, ktab, klen, kcv] <;> rfl) (LateOk.cons (i := 7) tab_ok (by rfl) (by rfl) (by simp only [List.getElem_toArray, List.getElem_cons_succ, List.getElem_cons_zero]; exact (by simp only [kev, ktab, klen, kcv] <;> rfl)) (by show nth _ 150 = _; simp only [kev, ktab, klen, kcv] <;> rfl) LateOk.nil)) ?_
              refine TOps.nil ?_
              refine Ok.region ?_
              iterate 3 (refine OkOps.ev tab_ok rfl (by simp only [kev, ktab, klen, kcv] <;> rfl) (by simp only [kput] <;> rfl) ?_)
              refine OkOps.nil ?_
              refine ⟨(j + 1, kk, mm), ?_, rfl, ⟨by show j + 1 ≤ 8; omega, by show kk ≤ mm; omega, by show mm ≤ kk + 1; omega, hm1.2.2, by show min (j + 1) said.length ≤ kk; omega⟩, by show 8 - (j + 1) < 8 - j; omega⟩
              simp only [V.renL, V.travL, V.travLL, V.trav, frz, zz, Nat.reduceLeDiff, ↓reduceIte]
              refine ⟨?_, ?_, ?_, ?_, ?_, ?_, ?_, ?_, ?_, ?_, ?_, ?_, ?_, ?_, ?_, ?_, ?_, ?_, ?_, ?_, ?_, ?_, ?_, ?_, ?_, ?_, ?_, ?_, ?_, ?_, ?_, ?_, ?_, ?_, ?_, ?_, ?_, ?_, ?_, ?_, ?_, ?_, ?_, ?_, ?_, ?_, ?_, ?_, ?_, ?_, ?_, ?_, ?_, ?_, ?_, ?_, ?_, ?_, ?_, ?_, ?_, ?_, ?_, ?_, ?_, ?_, ?_, ?_, ?_, ?_, ?_, ?_, ?_, ?_, ?_, ?_, ?_, ?_, ?_, ?_, ?_, ?_, ?_, ?_, ?_, ?_, ?_, ?_, ?_, ?_, ?_, ?_, ?_, ?_, ?_, ?_, ?_, ?_, ?_, ?_, ?_, ?_, ?_, ?_, ?_, ?_, ?_, ?_, ?_, ?_, ?_, ?_, ?_, ?_, ?_, ?_, ?_, ?_, ?_, ?_, ?_, ?_, ?_, ?_, ?_, ?_, ?_, ?_, ?_, ?_, ?_, ?_, ?_, ?_, ?_, ?_, ?_, ?_, ?_, ?_, ?_, ?_, ?_, ?_, ?_, ?_, ?_, ?_, ?_, ?_, ?_, ?_, ?_, ?_, ?_, ?_, ?_, ?_, ?_, ?_, trivial⟩ <;> first | exact le_any _ | with_reducible exact le_rfl' _ | (first | (subst hkk; subst hmm; with_reducible exact le_rfl' _) | (rw [wrap_add_one (by omega)]; exact le_rfl' _) | (subst hmm; rw [List.take_succ_eq_append_getElem hkl, List.map_append]; exact le_rfl' _) | (subst hkk; subst hmm; exact le_rfl' _)) | exact le_rfl' _
            · try simp only [bsimp] at hb38
              have hn2 : ¬ (k < said.length ∧ m = k) := fun hq => by rw [hear_new hq.1 hq.2 (by omega)] at hb38; cases hb38
              have he := hear_old hn2
              simp only [he]
              obtain ⟨mm, hmm⟩ : ∃ mm, mm = m := ⟨_, rfl⟩
              rw [← hmm]
              rw [← hmm] at hn2
              have hm1 : k ≤ mm ∧ mm ≤ k + 1 ∧ mm ≤ said.length := by omega
              have hmin : min (j + 1) said.length ≤ mm := by omega
              have he3 := hear_back hm1.1 hm1.2.1 hm1.2.2 (by omega)
              obtain ⟨kk, hkk⟩ : ∃ kk, kk = mm := ⟨_, rfl⟩
              refine Ok.skip ?_
              refine Ok.drawn 8 160 [6, 7] (by kernel_rfl) (by kernel_rfl) rfl ?_
              refine SOps.ev tab_ok rfl (by simp only [kev, ktab, klen, kcv] <;> rfl) (by simp only [kput] <;> rfl) ?_
              refine SOps.ev tab_ok rfl (by simp only [kev, ktab, klen, kcv] <;> rfl) (by simp only [kput] <;> rfl) ?_
              refine SOps.S0 rfl (OpS.weakM rfl (by simp only [kev, ktab, klen, kcv] <;> rfl) (by simp only [kev, ktab, klen, kcv] <;> rfl) cl32 (w_impl_LinkSays (hearL mm))) (by simp only [kput] <;> rfl) ?_
              refine SOps.S0 rfl (OpS.weakM rfl (by simp only [kev, ktab, klen, kcv] <;> rfl) (by simp only [kev, ktab, klen, kcv] <;> rfl) cl43 (w_impl_LinkHears (sayL said k) (linkSays (hearL mm)) hwk)) (by simp only [kput] <;> rfl) ?_
              refine SOps.ev tab_ok rfl (by simp only [kev, ktab, klen, kcv] <;> rfl) (by simp only [kput] <;> rfl) ?_
              refine SOps.ev tab_ok rfl (by simp only [kev, ktab, klen, kcv, he3] <;> rfl) (by simp only [kput] <;> rfl) ?_
              refine SOps.ev tab_ok rfl (by simp only [kev, ktab, klen, kcv, he3] <;> rfl) (by simp only [kput] <;> rfl) ?_
              refine SOps.ev tab_ok rfl (by simp only [kev, ktab, klen, kcv, he3] <;> rfl) (by simp only [kput] <;> rfl) ?_
              refine SOps.nil ?_
              refine TOps.storeL tab_ok rfl rfl rfl (by simp only [kev, ktab, klen, kcv] <;> rfl) ⟨_, _, by simp only [kev]; rfl⟩ (by first | (simp [V.labelsL, V.labelsLL, V.labels, zz]; done) | (simp [-List.map_map, -List.map_drop, -List.map_take, -List.map_tail, -List.drop_one, V.labelsL, V.labelsLL, V.labels, zz]; done)) (by simp only [eq_self, V.updL, V.travL, V.travLL, V.trav, updS, updP, and_self, true_and, and_true, false_and, and_false, Nat.reduceEqDiff, Nat.reduceSub, Nat.le_refl, Nat.zero_le, ↓reduceIte, if_true, if_false, kput, zz] <;> rfl) (rfl) (LateOk.cons (i := 6) tab_ok (by rfl) (by rfl) (by simp only [List.getElem_toArray, List.getElem_cons_succ, List.getElem_cons_zero]; exact (by simp only [kev, ktab, klen, kcv] <;> rfl)) (by show nth _ 149 = _; simp only [kev, ktab, klen, kcv] <;> rfl) (LateOk.cons (i := 7) tab_ok (by rfl) (by rfl) (by simp only [List.getElem_toArray, List.getElem_cons_succ, List.getElem_cons_zero]; exact (by simp only [kev, ktab, klen, kcv] <;> rfl)) (by show nth _ 150 = _; simp only [kev, ktab, klen, kcv] <;> rfl) LateOk.nil)) ?_
              refine TOps.nil ?_
              refine Ok.region ?_
              iterate 3 (refine OkOps.ev tab_ok rfl (by simp only [kev, ktab, klen, kcv] <;> rfl) (by simp only [kput] <;> rfl) ?_)
              refine OkOps.nil ?_
              refine ⟨(j + 1, kk, mm), ?_, rfl, ⟨by show j + 1 ≤ 8; omega, by show kk ≤ mm; omega, by show mm ≤ kk + 1; omega, hm1.2.2, by show min (j + 1) said.length ≤ kk; omega⟩, by show 8 - (j + 1) < 8 - j; omega⟩
              simp only [V.renL, V.travL, V.travLL, V.trav, frz, zz, Nat.reduceLeDiff, ↓reduceIte]
              refine ⟨?_, ?_, ?_, ?_, ?_, ?_, ?_, ?_, ?_, ?_, ?_, ?_, ?_, ?_, ?_, ?_, ?_, ?_, ?_, ?_, ?_, ?_, ?_, ?_, ?_, ?_, ?_, ?_, ?_, ?_, ?_, ?_, ?_, ?_, ?_, ?_, ?_, ?_, ?_, ?_, ?_, ?_, ?_, ?_, ?_, ?_, ?_, ?_, ?_, ?_, ?_, ?_, ?_, ?_, ?_, ?_, ?_, ?_, ?_, ?_, ?_, ?_, ?_, ?_, ?_, ?_, ?_, ?_, ?_, ?_, ?_, ?_, ?_, ?_, ?_, ?_, ?_, ?_, ?_, ?_, ?_, ?_, ?_, ?_, ?_, ?_, ?_, ?_, ?_, ?_, ?_, ?_, ?_, ?_, ?_, ?_, ?_, ?_, ?_, ?_, ?_, ?_, ?_, ?_, ?_, ?_, ?_, ?_, ?_, ?_, ?_, ?_, ?_, ?_, ?_, ?_, ?_, ?_, ?_, ?_, ?_, ?_, ?_, ?_, ?_, ?_, ?_, ?_, ?_, ?_, ?_, ?_, ?_, ?_, ?_, ?_, ?_, ?_, ?_, ?_, ?_, ?_, ?_, ?_, ?_, ?_, ?_, ?_, ?_, ?_, ?_, ?_, ?_, ?_, ?_, ?_, ?_, ?_, ?_, ?_, trivial⟩ <;> first | exact le_any _ | with_reducible exact le_rfl' _ | (first | (subst hkk; subst hmm; with_reducible exact le_rfl' _) | (rw [wrap_add_one (by omega)]; exact le_rfl' _) | (subst hmm; rw [List.take_succ_eq_append_getElem hkl, List.map_append]; exact le_rfl' _) | (subst hkk; subst hmm; exact le_rfl' _)) | exact le_rfl' _
          · try simp only [bsimp] at hb34
            have hkn : k = said.length ∧ m = said.length := by omega
            refine Ok.exit ?_
            refine Ok.seq ?_
            refine Ok.region ?_
            iterate 2 (refine OkOps.ev tab_ok rfl (by simp only [kev, ktab, klen, kcv] <;> rfl) (by simp only [kput] <;> rfl) ?_)
            refine OkOps.S0 rfl (OpS.weakE rfl (by simp only [kev, ktab, klen, kcv] <;> rfl) (by simp only [kev, ktab, klen, kcv, V.eraseL, V.erase, V.travL, V.trav, zz] <;> rfl) cl44 (by simp [V.labels, V.labelsL, V.labelsLL, zz]) (w_laws_sameTexts (said.take m) said)) (by simp only [kput] <;> rfl) ?_
            refine OkOps.ev tab_ok rfl (by simp only [kev, ktab, klen, kcv] <;> rfl) (by simp only [kput] <;> rfl) ?_
            refine OkOps.split (d := 154) (by simp only [kev, ktab, klen, kcv] <;> rfl) (by simp only [kput] <;> rfl) (by simp only [kput] <;> rfl) (fun hg41_3 => ?_) (fun hg41_3 => ?_)
            · try simp only [bsimp] at hg41_3
              refine OkOps.on rfl rfl (by simp only [kev, ktab, klen, kcv]) ?_
              refine OkOps.ev tab_ok rfl (by simp only [kev, ktab, klen, kcv] <;> rfl) (by simp only [kput] <;> rfl) ?_
              refine OkOps.on rfl rfl (by simp only [kev, ktab, klen, kcv]) ?_
              refine OkOps.ev tab_ok rfl (by simp only [kev, ktab, klen, kcv] <;> rfl) (by simp only [kput] <;> rfl) ?_
              refine OkOps.on rfl rfl (by simp only [kev, ktab, klen, kcv]) ?_
              refine OkOps.ev tab_ok rfl (by simp only [kev, ktab, klen, kcv] <;> rfl) (by simp only [kput] <;> rfl) ?_
              refine OkOps.on rfl rfl (by simp only [kev, ktab, klen, kcv]) ?_
              iterate 3 (refine OkOps.ev tab_ok rfl (by simp only [kev, ktab, klen, kcv] <;> rfl) (by simp only [kput] <;> rfl) ?_)
              refine OkOps.nil ?_
              refine Ok.ret ?_
              repeat (first | with_reducible refine thenQ_ret ?_ | with_reducible refine blockQ_ret ?_)
              refine retQ.end (by show resVs tab _ [.tmp 2] = _; simp only [kev, ktab, klen, kcv] <;> rfl) rfl ?_
              first | rfl | (simp [V.erase, V.trav, packV, hkn, sayL]; done) | (exfalso; rw [hkn.2, List.take_length] at hg41_3; exact hg41_3 rfl)
            · try simp only [bsimp] at hg41_3
              refine OkOps.offU rfl rfl (.inl (by simp only [kev, ktab, klen, kcv, Bool.not_true, Bool.not_false])) (by simp only [kput] <;> rfl) ?_
              refine OkOps.offU rfl rfl (.inl (by simp only [kev, ktab, klen, kcv, Bool.not_true, Bool.not_false])) (by simp only [kput] <;> rfl) ?_
              refine OkOps.offU rfl rfl (.inl (by simp only [kev, ktab, klen, kcv, Bool.not_true, Bool.not_false])) (by simp only [kput] <;> rfl) ?_
              refine OkOps.offU rfl rfl (.inl (by simp only [kev, ktab, klen, kcv, Bool.not_true, Bool.not_false])) (by simp only [kput] <;> rfl) ?_
              iterate 2 (refine OkOps.ev tab_ok rfl (by simp only [kev, ktab, klen, kcv] <;> rfl) (by simp only [kput] <;> rfl) ?_)
              refine OkOps.nil ?_
              refine Ok.ret ?_
              repeat (first | with_reducible refine thenQ_ret ?_ | with_reducible refine blockQ_ret ?_)
              refine retQ.end (by show resVs tab _ [.tmp 2] = _; simp only [kev, ktab, klen, kcv] <;> rfl) rfl ?_
              first | rfl | (simp [V.erase, V.trav, packV, hkn, sayL]; done) | (exfalso; rw [hkn.2, List.take_length] at hg41_3; exact hg41_3 rfl)
end Go.Proofs.Ytglodjbknjfmjaa.K
