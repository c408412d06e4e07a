/- Walks: copies as data of the call's own. Printed by w2.py. -/
import Derived.Test.YtjhfabimacljhaaGreatG5
import Derived.Test.YtjhfabimacljhaaGreatG4
import Derived.Test.YtjhfabimacljhaaGreatG6
namespace Go.Proofs.YtjhfabimacljhaaGreat.K
open Go Go.RowKit
set_option linter.unusedVariables false
set_option linter.unusedSimpArgs false
set_option maxHeartbeats 4000000
set_option maxRecDepth 20000
theorem w_own_toStamp (x : Stamp) : Weak Tryz.prog 165 [.agg (cStamp x)] (.agg (cStamp x)) := by
 refine Weak.enter tab_ok Tryz.func165 rfl (.inr (by simp [V.labelsL, V.labels, zz, zf, zy])) (t := [.agg (cStamp x), .any, .any, .any, .any, .any, .any, .any, .any, .any, .any]) rfl ?_
 refine OQ ?_
 iterate 2 (refine EV ?_)
 refine ON ?_
 refine OQ ?_
 refine EV ?_
 refine ON ?_
 refine OQ ?_
 iterate 3 (refine EV ?_)
 refine OkOps.storeE tab_ok rfl rfl (by simp only [kE, kT, kL, kC] <;> rfl) ⟨_, _, by simp only [kE]; rfl⟩ (by first | (simp [V.labelsL, V.labelsLL, V.labels, zz, zf, zy]; done) | (simp [-List.map_map, -List.map_set, -List.map_drop, -List.map_take, -List.map_tail, -List.drop_one, V.labelsL, V.labelsLL, V.labels, zz, zf, zy]; done)) (by simp only [eq_self, V.updL, V.travL, V.travLL, V.trav, updS, updP, and_self, true_and, and_true, false_and, and_false, Nat.reduceEqDiff, Nat.reduceSub, Nat.le_refl, Nat.zero_le, ↓reduceIte, if_true, if_false, kP, zz, zf, zy] <;> rfl) (rfl) ?_
 refine ON ?_
 refine OQ ?_
 iterate 3 (refine EV ?_)
 refine OkOps.storeE tab_ok rfl rfl (by simp only [kE, kT, kL, kC] <;> rfl) ⟨_, _, by simp only [kE]; rfl⟩ (by first | (simp [V.labelsL, V.labelsLL, V.labels, zz, zf, zy]; done) | (simp [-List.map_map, -List.map_set, -List.map_drop, -List.map_take, -List.map_tail, -List.drop_one, V.labelsL, V.labelsLL, V.labels, zz, zf, zy]; done)) (by simp only [eq_self, V.updL, V.travL, V.travLL, V.trav, updS, updP, and_self, true_and, and_true, false_and, and_false, Nat.reduceEqDiff, Nat.reduceSub, Nat.le_refl, Nat.zero_le, ↓reduceIte, if_true, if_false, kP, zz, zf, zy] <;> rfl) (rfl) ?_
 refine ON ?_
 refine OQ ?_
 refine EV ?_
 refine OkOps.storeE tab_ok rfl rfl (by simp only [kE, kT, kL, kC] <;> rfl) ⟨_, _, by simp only [kE]; rfl⟩ (by first | (simp [V.labelsL, V.labelsLL, V.labels, zz, zf, zy]; done) | (simp [-List.map_map, -List.map_set, -List.map_drop, -List.map_take, -List.map_tail, -List.drop_one, V.labelsL, V.labelsLL, V.labels, zz, zf, zy]; done)) (by simp only [eq_self, V.updL, V.travL, V.travLL, V.trav, updS, updP, and_self, true_and, and_true, false_and, and_false, Nat.reduceEqDiff, Nat.reduceSub, Nat.le_refl, Nat.zero_le, ↓reduceIte, if_true, if_false, kP, zz, zf, zy] <;> rfl) (rfl) ?_
 refine ON ?_
 refine Ok.ret ?_
 with_reducible repeat (first | refine thenQ_ret ?_ | refine blockQ_ret ?_)
 refine RT ?_
 rfl
theorem p_laws_toReg (x : Reg) : Pure Tryz.prog 253 [.agg (cReg x)] (.agg (cReg x)) := by
 refine Pure.of (by simp [V.dat, V.datL, V.datLL, zz, zf, zy]) (OkCall.enter' tab_ok Tryz.func253 rfl (t := [.agg (cReg x), .any, .any, .any, .any, .any, .any, .any, .any, .any, .any, .any]) rfl ?_)
 refine OQ ?_
 iterate 2 (refine EV ?_)
 refine ON ?_
 refine OQ ?_
 refine EV ?_
 refine ON ?_
 refine OQ ?_
 iterate 3 (refine EV ?_)
 refine OkOps.storeE tab_ok rfl rfl (by simp only [kE, kT, kL, kC] <;> rfl) ⟨_, _, by simp only [kE]; rfl⟩ (by first | (simp [V.labelsL, V.labelsLL, V.labels, zz, zf, zy]; done) | (simp [-List.map_map, -List.map_set, -List.map_drop, -List.map_take, -List.map_tail, -List.drop_one, V.labelsL, V.labelsLL, V.labels, zz, zf, zy]; done)) (by simp only [eq_self, V.updL, V.travL, V.travLL, V.trav, updS, updP, and_self, true_and, and_true, false_and, and_false, Nat.reduceEqDiff, Nat.reduceSub, Nat.le_refl, Nat.zero_le, ↓reduceIte, if_true, if_false, kP, zz, zf, zy] <;> rfl) (rfl) ?_
 refine ON ?_
 refine OQ ?_
 iterate 2 (refine EV ?_)
 refine OkOps.S0 rfl (OpS.weak' rfl (by simp only [kE, kT, kL, kC] <;> rfl) (by simp only [kE, kT, kL, kC] <;> rfl) cl165 (w_own_toStamp x.stamp)) (by simp only [kP] <;> rfl) ?_
 refine EV ?_
 refine OkOps.storeE tab_ok rfl rfl (by simp only [kE, kT, kL, kC] <;> rfl) ⟨_, _, by simp only [kE]; rfl⟩ (by first | (simp [V.labelsL, V.labelsLL, V.labels, zz, zf, zy]; done) | (simp [-List.map_map, -List.map_set, -List.map_drop, -List.map_take, -List.map_tail, -List.drop_one, V.labelsL, V.labelsLL, V.labels, zz, zf, zy]; done)) (by simp only [eq_self, V.updL, V.travL, V.travLL, V.trav, updS, updP, and_self, true_and, and_true, false_and, and_false, Nat.reduceEqDiff, Nat.reduceSub, Nat.le_refl, Nat.zero_le, ↓reduceIte, if_true, if_false, kP, zz, zf, zy] <;> rfl) (rfl) ?_
 refine ON ?_
 refine OQ ?_
 refine EV ?_
 refine OkOps.storeE tab_ok rfl rfl (by simp only [kE, kT, kL, kC] <;> rfl) ⟨_, _, by simp only [kE]; rfl⟩ (by first | (simp [V.labelsL, V.labelsLL, V.labels, zz, zf, zy]; done) | (simp [-List.map_map, -List.map_set, -List.map_drop, -List.map_take, -List.map_tail, -List.drop_one, V.labelsL, V.labelsLL, V.labels, zz, zf, zy]; done)) (by simp only [eq_self, V.updL, V.travL, V.travLL, V.trav, updS, updP, and_self, true_and, and_true, false_and, and_false, Nat.reduceEqDiff, Nat.reduceSub, Nat.le_refl, Nat.zero_le, ↓reduceIte, if_true, if_false, kP, zz, zf, zy] <;> rfl) (rfl) ?_
 refine ON ?_
 refine Ok.ret ?_
 with_reducible repeat (first | refine thenQ_ret ?_ | refine blockQ_ret ?_)
 refine RT ?_
 exact ⟨rfl, by simp [V.labels, V.labelsL, packV], by simp [V.labels, V.labelsL, packV]⟩
theorem p_laws_toRegS (a : List Reg) (ha : a.length ≤ 1048576) : Pure Tryz.prog 241 [.sl 0 3 0 (a.map cReg)] (.sl 0 3 0 (a.map cReg)) := by
 refine Pure.of (by simp [V.dat, V.datL, V.datLL, zz, zf, zy]) (OkCall.enter' tab_ok Tryz.func241 rfl (t := [.sl 0 3 0 (a.map cReg), .any, .any, .any, .any, .any, .any, .any, .any, .any, .any, .any, .any, .any, .any, .any, .any, .any, .any, .any, .any, .any, .any]) rfl ?_)
 refine OQ ?_
 refine EV ?_
 refine ON ?_
 refine OQ ?_
 iterate 2 (refine EV ?_)
 refine OkOps.S' rfl (ok_makeSlice (a := a.length) (b := a.length) tab_ok (by simp only [kT] <;> rfl) (by simp only [kT] <;> rfl) (by decide) rfl rfl (by simp only [kE, kL] <;> rfl) (by simp only [kE, kL] <;> rfl) (by omega) (by omega) (by omega) (by show ((24 : Nat) : Int) * _ ≤ _; omega)) (by simp only [Nat.reduceAdd] <;> rfl) (by simp only [kP, Int.toNat_natCast] <;> rfl) ?_
 refine EV ?_
 refine ON ?_
 refine Ok.seq ?_
 refine Ok.seq ?_
 refine Ok.drop [5, 6, 7] (by simp only [kover] <;> rfl) ?_
 refine Ok.region ?_
 refine EV ?_
 refine ON ?_
 refine Ok.block ?_
 refine Ok.loopN (τ := List (List V) × Nat) (fun x => [(3, .sl 1 3 0 (x.1 ++ List.replicate (a.length - x.1.length) zcReg)), (4, .int .i64 (x.1.length : Int)), (7, .any)]) [8, 9, 10, 11, 12, 13, 14, 15, 16, 17, 18, 19, 20, 21] (fun x => by simp only [kover] <;> rfl) (fun x => x.2 + 1) (fun x => x.1.length ≤ a.length ∧ V.travLL (fun sz => V.sl 0 sz 0 []) (fun _ sz _ es => V.sl 0 sz 0 es) (fun _ _ o e => V.ptr 0 0 o e) x.1 = (a.take x.1.length).map cReg ∧ (V.labelsLL x.1).Nodup ∧ (∀ z ∈ V.labelsLL x.1, 2 ≤ z ∧ z < x.2 + 1) ∧ 1 ≤ x.2) (fun x => a.length - x.1.length) ([], 1) (by refine ⟨?_, ?_, ?_, ?_, ?_, ?_, ?_, ?_, ?_, ?_, ?_, ?_, ?_, ?_, ?_, ?_, ?_, ?_, ?_, ?_, ?_, ?_, ?_, trivial⟩ <;> first | exact le_any _ | with_reducible exact le_rfl' _ | ((first | exact le_rfl' _ | (refine le_eqm ?_; simp only [List.nil_append, List.length_nil, Nat.sub_zero]; done))) | exact le_rfl' _) (by decide) (⟨Nat.zero_le _, rfl, List.nodup_nil, (fun z hz => by cases hz), Nat.le_refl _⟩) ?_
 rintro ⟨d, k⟩ ⟨h1, h2, h3, h4, h5⟩
 have h1 : d.length ≤ a.length := h1
 have h2 : V.travLL (fun sz => V.sl 0 sz 0 []) (fun _ sz _ es => V.sl 0 sz 0 es) (fun _ _ o e => V.ptr 0 0 o e) d = (a.take d.length).map cReg := h2
 have h3 : (V.labelsLL d).Nodup := h3
 have h4 : ∀ z ∈ V.labelsLL d, 2 ≤ z ∧ z < k + 1 := h4
 have h5 : 1 ≤ k := h5
 refine Ok.seq ?_
 refine OQ ?_
 iterate 4 (refine EV ?_)
 refine ON ?_
 refine Ok.cond (b := _) (by simp only [kE, kT, kL, kC] <;> rfl) (fun hb3 => ?_) (fun hb3 => ?_)
 ·
  try simp only [bsimp] at hb3
  have hi : d.length < a.length := by omega
  have hrep : List.replicate (a.length - d.length) zcReg = zcReg :: List.replicate (a.length - (d.length + 1)) zcReg := by rw [show a.length - d.length = a.length - (d.length + 1) + 1 by omega]; rfl
  rw [hrep]
  have dn : ¬ (1 ∈ V.labelsLL d) := fun h => by have := h4 1 h; omega
  have rn := lab_rep (n := a.length - (d.length + 1)) (c := zcReg) rfl
  refine Ok.skip ?_
  refine Ok.seq ?_
  refine Ok.block ?_
  refine Ok.drop [8, 9, 10, 11] (by simp only [kover] <;> rfl) ?_
  refine Ok.region ?_
  iterate 4 (refine EV ?_)
  refine OkOps.ev tab_ok rfl (ev_idx_map (by simp only [kE, kT, kL, kC] <;> rfl) (by simp only [kE, kT, kL, kC] <;> rfl) (by omega) (by simp only [kE, kT, kL, kC] <;> rfl)) (by simp only [kP] <;> rfl) ?_
  refine EV ?_
  obtain ⟨hXa, nda, rga⟩ := ownReg (k) (a[d.length])
  obtain ⟨ma, hma⟩ : ∃ m, k + 1 + V.cnt (.agg (cReg (a[d.length]))) = m + 1 := ⟨k + V.cnt (.agg (cReg (a[d.length]))), by omega⟩
  refine OkOps.S' rfl (OpS.pure' rfl (by simp only [kE, kT, kL, kC] <;> rfl) (by simp only [kE, kT, kL, kC, V.eraseL, V.erase, V.travL, V.trav, zz, zf, zy] <;> rfl) cl253 (by simp [V.dat, V.datL, V.datLL, zz, zf, zy]) (p_laws_toReg a[d.length])) hma (by simp only [kP, hXa] <;> rfl) ?_
  refine OkOps.ev tab_ok rfl (ev_idx (by simp only [kE, kT, kL, kC] <;> rfl) (by simp only [kE, kT, kL, kC] <;> rfl) (get_mid rfl) (by simp only [kE, kT, kL, kC] <;> rfl)) (by simp only [kP] <;> rfl) ?_
  refine OkOps.storeN tab_ok rfl rfl (by simp only [kE, kT, kL, kC] <;> rfl) ⟨_, _, by simp only [kE]; rfl⟩ (by first | (simp [V.labelsL, V.labelsLL, V.labels, zz, zf, zy]; done) | (intro h; simp only [V.labelsL, V.labels, List.mem_append, List.append_nil, List.nil_append, List.not_mem_nil, or_false, false_or] at h)) (fun W hW hF => by have f0 := far0 hW (fun h => by omega); simp only [List.map_cons, List.map_nil, hW.int, hW.str, hW.bool, hW.any, hW.tup0, hW.agg, hW.nilV, hF.ptr, f0, hF.sl, set_mid (rfl : d.length = d.length), labelsLL_app, V.labelsLL, V.labelsL, V.labels, List.mem_append, List.not_mem_nil, List.append_nil, List.nil_append, or_false, false_or, not_or, not_false_eq_true, and_self, Nat.zero_add, dn, rn, (fun i o e => hW.ptr 0 i o e (by decide) : ∀ i o e, W (.ptr 0 i o e) = .ptr 0 i o (e.map W)), cReg, zcReg, kP] <;> rfl) ?_
  refine ON ?_
  refine Ok.drop [14, 15, 16, 17, 18, 19, 20, 21] (by simp only [kover] <;> rfl) ?_
  refine Ok.region ?_
  iterate 3 (refine EV ?_)
  refine ON ?_
  refine ⟨(d ++ [[.int .i64 (a[d.length]).val, .int .i64 (a[d.length]).stamp.time, .int .i64 (a[d.length]).stamp.by_]], ma), ?_, rfl, (by dsimp only; omega), rows_snoc hi h2 h3 h4 h5 (by omega) (by simp only [V.travL, V.trav] <;> rfl) nda (fun z hz => by have := rga z hz; omega), by show a.length - (d ++ [_]).length < a.length - d.length; rw [List.length_append]; simp only [List.length_cons, List.length_nil]; omega⟩
  refine ⟨?_, ?_, ?_, ?_, ?_, ?_, ?_, ?_, ?_, ?_, ?_, ?_, ?_, ?_, ?_, ?_, ?_, ?_, ?_, ?_, ?_, ?_, ?_, trivial⟩ <;> first | exact le_any _ | with_reducible exact le_rfl' _ | (dsimp only; first | (rw [wrap_add_one (by omega)]; refine le_eqm ?_; simp only [List.length_append, List.length_cons, List.length_nil]; done) | (refine le_eqm ?_; simp only [List.length_append, List.length_cons, List.length_nil, List.append_assoc, List.cons_append, List.nil_append, Nat.zero_add]; done)) | exact le_rfl' _
 ·
  try simp only [bsimp] at hb3
  have hi : d.length = a.length := by omega
  have hrep : List.replicate (a.length - d.length) zcReg = [] := by rw [hi, Nat.sub_self]; rfl
  rw [hrep, List.append_nil]
  rw [hi, List.take_length] at h2
  refine Ok.exit ?_
  refine Ok.seq ?_
  refine Ok.drop [8, 9, 10, 11] (by simp only [kover] <;> rfl) ?_
  refine Ok.region ?_
  iterate 2 (refine EV ?_)
  refine ON ?_
  refine Ok.ret ?_
  with_reducible repeat (first | refine thenQ_ret ?_ | refine blockQ_ret ?_)
  refine RT ?_
  exact ⟨(by simp only [packV, V.erase, V.trav, V.travLL, zz, zf, zy, h2] <;> rfl), (by intro L hL; simp only [packV, V.labels, List.mem_cons] at hL; rcases hL with hL | hL <;> first | omega | (have := h4 L hL; omega)), (by simp only [packV, V.labels, List.nodup_cons]; exact ⟨fun h => by have := h4 1 h; omega, h3⟩)⟩
theorem p_laws_toIntS (a : List Int) (ha : a.length ≤ 1048576) : Pure Tryz.prog 54 [.sl 0 1 0 (a.map cZ)] (.sl 0 1 0 (a.map cZ)) := by
 refine Pure.of (by simp [V.dat, V.datL, V.datLL, zz, zf, zy]) (OkCall.enter' tab_ok Tryz.func54 rfl (t := [.sl 0 1 0 (a.map cZ), .any, .any, .any, .any, .any, .any, .any, .any, .any, .any, .any, .any, .any, .any, .any, .any, .any, .any, .any, .any, .any]) rfl ?_)
 refine OQ ?_
 refine EV ?_
 refine ON ?_
 refine OQ ?_
 iterate 2 (refine EV ?_)
 refine OkOps.S' rfl (ok_makeSlice (a := a.length) (b := a.length) tab_ok (by simp only [kT] <;> rfl) (by simp only [kT] <;> rfl) (by decide) rfl rfl (by simp only [kE, kL] <;> rfl) (by simp only [kE, kL] <;> rfl) (by omega) (by omega) (by omega) (by show ((8 : Nat) : Int) * _ ≤ _; omega)) (by simp only [Nat.reduceAdd] <;> rfl) (by simp only [kP, Int.toNat_natCast] <;> rfl) ?_
 refine EV ?_
 refine ON ?_
 refine Ok.seq ?_
 refine Ok.seq ?_
 refine Ok.drop [5, 6, 7] (by simp only [kover] <;> rfl) ?_
 refine Ok.region ?_
 refine EV ?_
 refine ON ?_
 refine Ok.block ?_
 refine Ok.loopN (τ := List (List V) × Nat) (fun x => [(3, .sl 1 1 0 (x.1 ++ List.replicate (a.length - x.1.length) zcI)), (4, .int .i64 (x.1.length : Int)), (7, .any)]) [8, 9, 10, 11, 12, 13, 14, 15, 16, 17, 18, 19, 20] (fun x => by simp only [kover] <;> rfl) (fun x => x.2 + 1) (fun x => x.1.length ≤ a.length ∧ V.travLL (fun sz => V.sl 0 sz 0 []) (fun _ sz _ es => V.sl 0 sz 0 es) (fun _ _ o e => V.ptr 0 0 o e) x.1 = (a.take x.1.length).map cZ ∧ (V.labelsLL x.1).Nodup ∧ (∀ z ∈ V.labelsLL x.1, 2 ≤ z ∧ z < x.2 + 1) ∧ 1 ≤ x.2) (fun x => a.length - x.1.length) ([], 1) (by refine ⟨?_, ?_, ?_, ?_, ?_, ?_, ?_, ?_, ?_, ?_, ?_, ?_, ?_, ?_, ?_, ?_, ?_, ?_, ?_, ?_, ?_, ?_, trivial⟩ <;> first | exact le_any _ | with_reducible exact le_rfl' _ | ((first | exact le_rfl' _ | (refine le_eqm ?_; simp only [List.nil_append, List.length_nil, Nat.sub_zero]; done))) | exact le_rfl' _) (by decide) (⟨Nat.zero_le _, rfl, List.nodup_nil, (fun z hz => by cases hz), Nat.le_refl _⟩) ?_
 rintro ⟨d, k⟩ ⟨h1, h2, h3, h4, h5⟩
 have h1 : d.length ≤ a.length := h1
 have h2 : V.travLL (fun sz => V.sl 0 sz 0 []) (fun _ sz _ es => V.sl 0 sz 0 es) (fun _ _ o e => V.ptr 0 0 o e) d = (a.take d.length).map cZ := h2
 have h3 : (V.labelsLL d).Nodup := h3
 have h4 : ∀ z ∈ V.labelsLL d, 2 ≤ z ∧ z < k + 1 := h4
 have h5 : 1 ≤ k := h5
 refine Ok.seq ?_
 refine OQ ?_
 iterate 4 (refine EV ?_)
 refine ON ?_
 refine Ok.cond (b := _) (by simp only [kE, kT, kL, kC] <;> rfl) (fun hb3 => ?_) (fun hb3 => ?_)
 ·
  try simp only [bsimp] at hb3
  have hi : d.length < a.length := by omega
  have hrep : List.replicate (a.length - d.length) zcI = zcI :: List.replicate (a.length - (d.length + 1)) zcI := by rw [show a.length - d.length = a.length - (d.length + 1) + 1 by omega]; rfl
  rw [hrep]
  have dn : ¬ (1 ∈ V.labelsLL d) := fun h => by have := h4 1 h; omega
  have rn := lab_rep (n := a.length - (d.length + 1)) (c := zcI) rfl
  refine Ok.skip ?_
  refine Ok.seq ?_
  refine Ok.block ?_
  refine Ok.drop [8, 9, 10, 11] (by simp only [kover] <;> rfl) ?_
  refine Ok.region ?_
  iterate 4 (refine EV ?_)
  refine OkOps.ev tab_ok rfl (ev_idx_map (by simp only [kE, kT, kL, kC] <;> rfl) (by simp only [kE, kT, kL, kC] <;> rfl) (by omega) (by simp only [kE, kT, kL, kC] <;> rfl)) (by simp only [kP] <;> rfl) ?_
  refine EV ?_
  refine OkOps.ev tab_ok rfl (ev_idx (by simp only [kE, kT, kL, kC] <;> rfl) (by simp only [kE, kT, kL, kC] <;> rfl) (get_mid rfl) (by simp only [kE, kT, kL, kC] <;> rfl)) (by simp only [kP] <;> rfl) ?_
  refine OkOps.storeN tab_ok rfl rfl (by simp only [kE, kT, kL, kC] <;> rfl) ⟨_, _, by simp only [kE]; rfl⟩ (by first | (simp [V.labelsL, V.labelsLL, V.labels, zz, zf, zy]; done) | (intro h; simp only [V.labelsL, V.labels, List.mem_append, List.append_nil, List.nil_append, List.not_mem_nil, or_false, false_or] at h)) (fun W hW hF => by have f0 := far0 hW (fun h => by omega); simp only [List.map_cons, List.map_nil, hW.int, hW.str, hW.bool, hW.any, hW.tup0, hW.agg, hW.nilV, hF.ptr, f0, hF.sl, set_mid (rfl : d.length = d.length), labelsLL_app, V.labelsLL, V.labelsL, V.labels, List.mem_append, List.not_mem_nil, List.append_nil, List.nil_append, or_false, false_or, not_or, not_false_eq_true, and_self, Nat.zero_add, dn, rn, (fun i o e => hW.ptr 0 i o e (by decide) : ∀ i o e, W (.ptr 0 i o e) = .ptr 0 i o (e.map W)), cZ, zcI, kP] <;> rfl) ?_
  refine ON ?_
  refine Ok.drop [14, 15, 16, 17, 18, 19, 20] (by simp only [kover] <;> rfl) ?_
  refine Ok.region ?_
  iterate 3 (refine EV ?_)
  refine ON ?_
  refine ⟨(d ++ [[.int .i64 a[d.length]]], k), ?_, rfl, Nat.le_refl _, rows_snoc hi h2 h3 h4 h5 (by omega) (by simp only [V.travL, V.trav] <;> rfl) (by simp [V.labelsL, V.labels]) (fun z hz => by simp [V.labelsL, V.labels] at hz), by show a.length - (d ++ [_]).length < a.length - d.length; rw [List.length_append]; simp only [List.length_cons, List.length_nil]; omega⟩
  refine ⟨?_, ?_, ?_, ?_, ?_, ?_, ?_, ?_, ?_, ?_, ?_, ?_, ?_, ?_, ?_, ?_, ?_, ?_, ?_, ?_, ?_, ?_, trivial⟩ <;> first | exact le_any _ | with_reducible exact le_rfl' _ | (dsimp only; first | (rw [wrap_add_one (by omega)]; refine le_eqm ?_; simp only [List.length_append, List.length_cons, List.length_nil]; done) | (refine le_eqm ?_; simp only [List.length_append, List.length_cons, List.length_nil, List.append_assoc, List.cons_append, List.nil_append, Nat.zero_add]; done)) | exact le_rfl' _
 ·
  try simp only [bsimp] at hb3
  have hi : d.length = a.length := by omega
  have hrep : List.replicate (a.length - d.length) zcI = [] := by rw [hi, Nat.sub_self]; rfl
  rw [hrep, List.append_nil]
  rw [hi, List.take_length] at h2
  refine Ok.exit ?_
  refine Ok.seq ?_
  refine Ok.drop [8, 9, 10, 11] (by simp only [kover] <;> rfl) ?_
  refine Ok.region ?_
  iterate 2 (refine EV ?_)
  refine ON ?_
  refine Ok.ret ?_
  with_reducible repeat (first | refine thenQ_ret ?_ | refine blockQ_ret ?_)
  refine RT ?_
  exact ⟨(by simp only [packV, V.erase, V.trav, V.travLL, zz, zf, zy, h2] <;> rfl), (by intro L hL; simp only [packV, V.labels, List.mem_cons] at hL; rcases hL with hL | hL <;> first | omega | (have := h4 L hL; omega)), (by simp only [packV, V.labels, List.nodup_cons]; exact ⟨fun h => by have := h4 1 h; omega, h3⟩)⟩
theorem p_laws_toStringS (a : List Str) (ha : a.length ≤ 1048576) : Pure Tryz.prog 187 [.sl 0 1 0 (a.map cS)] (.sl 0 1 0 (a.map cS)) := by
 refine Pure.of (by simp [V.dat, V.datL, V.datLL, zz, zf, zy]) (OkCall.enter' tab_ok Tryz.func187 rfl (t := [.sl 0 1 0 (a.map cS), .any, .any, .any, .any, .any, .any, .any, .any, .any, .any, .any, .any, .any, .any, .any, .any, .any, .any, .any, .any, .any]) rfl ?_)
 refine OQ ?_
 refine EV ?_
 refine ON ?_
 refine OQ ?_
 iterate 2 (refine EV ?_)
 refine OkOps.S' rfl (ok_makeSlice (a := a.length) (b := a.length) tab_ok (by simp only [kT] <;> rfl) (by simp only [kT] <;> rfl) (by decide) rfl rfl (by simp only [kE, kL] <;> rfl) (by simp only [kE, kL] <;> rfl) (by omega) (by omega) (by omega) (by show ((16 : Nat) : Int) * _ ≤ _; omega)) (by simp only [Nat.reduceAdd] <;> rfl) (by simp only [kP, Int.toNat_natCast] <;> rfl) ?_
 refine EV ?_
 refine ON ?_
 refine Ok.seq ?_
 refine Ok.seq ?_
 refine Ok.drop [5, 6, 7] (by simp only [kover] <;> rfl) ?_
 refine Ok.region ?_
 refine EV ?_
 refine ON ?_
 refine Ok.block ?_
 refine Ok.loopN (τ := List (List V) × Nat) (fun x => [(3, .sl 1 1 0 (x.1 ++ List.replicate (a.length - x.1.length) zcT)), (4, .int .i64 (x.1.length : Int)), (7, .any)]) [8, 9, 10, 11, 12, 13, 14, 15, 16, 17, 18, 19, 20] (fun x => by simp only [kover] <;> rfl) (fun x => x.2 + 1) (fun x => x.1.length ≤ a.length ∧ V.travLL (fun sz => V.sl 0 sz 0 []) (fun _ sz _ es => V.sl 0 sz 0 es) (fun _ _ o e => V.ptr 0 0 o e) x.1 = (a.take x.1.length).map cS ∧ (V.labelsLL x.1).Nodup ∧ (∀ z ∈ V.labelsLL x.1, 2 ≤ z ∧ z < x.2 + 1) ∧ 1 ≤ x.2) (fun x => a.length - x.1.length) ([], 1) (by refine ⟨?_, ?_, ?_, ?_, ?_, ?_, ?_, ?_, ?_, ?_, ?_, ?_, ?_, ?_, ?_, ?_, ?_, ?_, ?_, ?_, ?_, ?_, trivial⟩ <;> first | exact le_any _ | with_reducible exact le_rfl' _ | ((first | exact le_rfl' _ | (refine le_eqm ?_; simp only [List.nil_append, List.length_nil, Nat.sub_zero]; done))) | exact le_rfl' _) (by decide) (⟨Nat.zero_le _, rfl, List.nodup_nil, (fun z hz => by cases hz), Nat.le_refl _⟩) ?_
 rintro ⟨d, k⟩ ⟨h1, h2, h3, h4, h5⟩
 have h1 : d.length ≤ a.length := h1
 have h2 : V.travLL (fun sz => V.sl 0 sz 0 []) (fun _ sz _ es => V.sl 0 sz 0 es) (fun _ _ o e => V.ptr 0 0 o e) d = (a.take d.length).map cS := h2
 have h3 : (V.labelsLL d).Nodup := h3
 have h4 : ∀ z ∈ V.labelsLL d, 2 ≤ z ∧ z < k + 1 := h4
 have h5 : 1 ≤ k := h5
 refine Ok.seq ?_
 refine OQ ?_
 iterate 4 (refine EV ?_)
 refine ON ?_
 refine Ok.cond (b := _) (by simp only [kE, kT, kL, kC] <;> rfl) (fun hb3 => ?_) (fun hb3 => ?_)
 ·
  try simp only [bsimp] at hb3
  have hi : d.length < a.length := by omega
  have hrep : List.replicate (a.length - d.length) zcT = zcT :: List.replicate (a.length - (d.length + 1)) zcT := by rw [show a.length - d.length = a.length - (d.length + 1) + 1 by omega]; rfl
  rw [hrep]
  have dn : ¬ (1 ∈ V.labelsLL d) := fun h => by have := h4 1 h; omega
  have rn := lab_rep (n := a.length - (d.length + 1)) (c := zcT) rfl
  refine Ok.skip ?_
  refine Ok.seq ?_
  refine Ok.block ?_
  refine Ok.drop [8, 9, 10, 11] (by simp only [kover] <;> rfl) ?_
  refine Ok.region ?_
  iterate 4 (refine EV ?_)
  refine OkOps.ev tab_ok rfl (ev_idx_map (by simp only [kE, kT, kL, kC] <;> rfl) (by simp only [kE, kT, kL, kC] <;> rfl) (by omega) (by simp only [kE, kT, kL, kC] <;> rfl)) (by simp only [kP] <;> rfl) ?_
  refine EV ?_
  refine OkOps.ev tab_ok rfl (ev_idx (by simp only [kE, kT, kL, kC] <;> rfl) (by simp only [kE, kT, kL, kC] <;> rfl) (get_mid rfl) (by simp only [kE, kT, kL, kC] <;> rfl)) (by simp only [kP] <;> rfl) ?_
  refine OkOps.storeN tab_ok rfl rfl (by simp only [kE, kT, kL, kC] <;> rfl) ⟨_, _, by simp only [kE]; rfl⟩ (by first | (simp [V.labelsL, V.labelsLL, V.labels, zz, zf, zy]; done) | (intro h; simp only [V.labelsL, V.labels, List.mem_append, List.append_nil, List.nil_append, List.not_mem_nil, or_false, false_or] at h)) (fun W hW hF => by have f0 := far0 hW (fun h => by omega); simp only [List.map_cons, List.map_nil, hW.int, hW.str, hW.bool, hW.any, hW.tup0, hW.agg, hW.nilV, hF.ptr, f0, hF.sl, set_mid (rfl : d.length = d.length), labelsLL_app, V.labelsLL, V.labelsL, V.labels, List.mem_append, List.not_mem_nil, List.append_nil, List.nil_append, or_false, false_or, not_or, not_false_eq_true, and_self, Nat.zero_add, dn, rn, (fun i o e => hW.ptr 0 i o e (by decide) : ∀ i o e, W (.ptr 0 i o e) = .ptr 0 i o (e.map W)), cS, zcT, kP] <;> rfl) ?_
  refine ON ?_
  refine Ok.drop [14, 15, 16, 17, 18, 19, 20] (by simp only [kover] <;> rfl) ?_
  refine Ok.region ?_
  iterate 3 (refine EV ?_)
  refine ON ?_
  refine ⟨(d ++ [[.str a[d.length]]], k), ?_, rfl, Nat.le_refl _, rows_snoc hi h2 h3 h4 h5 (by omega) (by simp only [V.travL, V.trav] <;> rfl) (by simp [V.labelsL, V.labels]) (fun z hz => by simp [V.labelsL, V.labels] at hz), by show a.length - (d ++ [_]).length < a.length - d.length; rw [List.length_append]; simp only [List.length_cons, List.length_nil]; omega⟩
  refine ⟨?_, ?_, ?_, ?_, ?_, ?_, ?_, ?_, ?_, ?_, ?_, ?_, ?_, ?_, ?_, ?_, ?_, ?_, ?_, ?_, ?_, ?_, trivial⟩ <;> first | exact le_any _ | with_reducible exact le_rfl' _ | (dsimp only; first | (rw [wrap_add_one (by omega)]; refine le_eqm ?_; simp only [List.length_append, List.length_cons, List.length_nil]; done) | (refine le_eqm ?_; simp only [List.length_append, List.length_cons, List.length_nil, List.append_assoc, List.cons_append, List.nil_append, Nat.zero_add]; done)) | exact le_rfl' _
 ·
  try simp only [bsimp] at hb3
  have hi : d.length = a.length := by omega
  have hrep : List.replicate (a.length - d.length) zcT = [] := by rw [hi, Nat.sub_self]; rfl
  rw [hrep, List.append_nil]
  rw [hi, List.take_length] at h2
  refine Ok.exit ?_
  refine Ok.seq ?_
  refine Ok.drop [8, 9, 10, 11] (by simp only [kover] <;> rfl) ?_
  refine Ok.region ?_
  iterate 2 (refine EV ?_)
  refine ON ?_
  refine Ok.ret ?_
  with_reducible repeat (first | refine thenQ_ret ?_ | refine blockQ_ret ?_)
  refine RT ?_
  exact ⟨(by simp only [packV, V.erase, V.trav, V.travLL, zz, zf, zy, h2] <;> rfl), (by intro L hL; simp only [packV, V.labels, List.mem_cons] at hL; rcases hL with hL | hL <;> first | omega | (have := h4 L hL; omega)), (by simp only [packV, V.labels, List.nodup_cons]; exact ⟨fun h => by have := h4 1 h; omega, h3⟩)⟩
theorem p_laws_toMail (x : Mail) (h : smMail x) : Pure Tryz.prog 213 [.agg (cMail x)] (.agg (cMail x)) := by
 refine Pure.of (by simp [V.dat, V.datL, V.datLL, zz, zf, zy]) (OkCall.enter' tab_ok Tryz.func213 rfl (t := [.agg (cMail x), .any, .any, .any, .any, .any, .any, .any, .any, .any, .any, .any, .any, .any, .any, .any, .any, .any]) rfl ?_)
 refine OQ ?_
 iterate 2 (refine EV ?_)
 refine ON ?_
 refine OQ ?_
 refine EV ?_
 refine ON ?_
 refine OQ ?_
 iterate 3 (refine EV ?_)
 refine OkOps.storeN tab_ok rfl rfl (by simp only [kE, kT, kL, kC] <;> rfl) ⟨_, _, by simp only [kE]; rfl⟩ (by first | (simp [V.labelsL, V.labelsLL, V.labels, zz, zf, zy]; done) | (intro h; simp [V.labelsL, V.labels] at h)) (fun W hW hF => by have f0 := far0 hW (fun h => by omega); have p0 := fun i o e => hW.ptr (1) i o e (by omega);  have p1 := fun i o e => hW.ptr (2) i o e (by omega); simp only [List.map_cons, List.map_nil, hW.int, hW.str, hW.bool, hW.any, hW.tup0, hW.agg, hW.nilV, hF.ptr, f0, p0, p1, kP] <;> rfl) ?_
 refine ON ?_
 refine Ok.seq ?_
 refine Ok.drop [4, 5, 6] (by simp only [kover] <;> rfl) ?_
 refine Ok.region ?_
 iterate 3 (refine EV ?_)
 refine OkOps.storeN tab_ok rfl rfl (by simp only [kE, kT, kL, kC] <;> rfl) ⟨_, _, by simp only [kE]; rfl⟩ (by first | (simp [V.labelsL, V.labelsLL, V.labels, zz, zf, zy]; done) | (intro h; simp [V.labelsL, V.labels] at h)) (fun W hW hF => by have f0 := far0 hW (fun h => by omega); have p0 := fun i o e => hW.ptr (1) i o e (by omega);  have p1 := fun i o e => hW.ptr (2) i o e (by omega); simp only [List.map_cons, List.map_nil, hW.int, hW.str, hW.bool, hW.any, hW.tup0, hW.agg, hW.nilV, hF.ptr, f0, p0, p1, kP] <;> rfl) ?_
 refine ON ?_
 refine Ok.seq ?_
 refine Ok.drop [7, 8, 9] (by simp only [kover] <;> rfl) ?_
 refine Ok.region ?_
 iterate 2 (refine EV ?_)
 obtain ⟨L0a, e0a, hXa, q0a, E0a, M0a, N0a, nda, rga⟩ := ownSReg (3) (x.flags)
 obtain ⟨ma, hma⟩ : ∃ m, 3 + 1 + V.cnt (.sl 0 3 0 ((x.flags).map cReg)) = m + 1 := ⟨3 + V.cnt (.sl 0 3 0 ((x.flags).map cReg)), by omega⟩
 have r0a : ∀ z ∈ V.labels (.sl (L0a + 1) 3 0 e0a), 3 + 1 ≤ z ∧ z < ma + 1 := fun z hz => by have := rga z (by first | exact hz | (simp only [V.labelsL, V.labels, List.mem_append] at hz ⊢; simp only [hz, true_or, or_true])); omega
 refine OkOps.S' rfl (OpS.pure' rfl (by simp only [kE, kT, kL, kC] <;> rfl) (by simp only [kE, kT, kL, kC, V.eraseL, V.erase, V.travL, V.trav, zz, zf, zy] <;> rfl) cl241 (by simp [V.dat, V.datL, V.datLL, zz, zf, zy]) (p_laws_toRegS x.flags h.1)) hma (by simp only [kP, hXa] <;> rfl) ?_
 refine EV ?_
 refine OkOps.storeN tab_ok rfl rfl (by simp only [kE, kT, kL, kC] <;> rfl) ⟨_, _, by simp only [kE]; rfl⟩ (by first | (simp [V.labelsL, V.labelsLL, V.labels, zz, zf, zy]; done) | (intro h; simp only [V.labelsL, V.labels, List.mem_append, List.append_nil, List.nil_append, List.not_mem_nil, or_false, false_or] at h; first | (have := r0a _ h; omega))) (fun W hW hF => by obtain ⟨z0a, zz0a⟩ := farA hW r0a (fun y h1 h2 h => by omega); have f0 := far0 hW (fun h => by omega); have p0 := fun i o e => hW.ptr (1) i o e (by omega);  have p1 := fun i o e => hW.ptr (2) i o e (by omega); simp only [List.map_cons, List.map_nil, hW.int, hW.str, hW.bool, hW.any, hW.tup0, hW.agg, hW.nilV, hF.ptr, z0a, zz0a, f0, p0, p1, kP] <;> rfl) ?_
 refine ON ?_
 refine Ok.seq ?_
 refine Ok.drop [10, 11, 12, 13] (by simp only [kover] <;> rfl) ?_
 refine Ok.region ?_
 iterate 3 (refine EV ?_)
 refine OkOps.storeN tab_ok rfl rfl (by simp only [kE, kT, kL, kC] <;> rfl) ⟨_, _, by simp only [kE]; rfl⟩ (by first | (simp [V.labelsL, V.labelsLL, V.labels, zz, zf, zy]; done) | (intro h; simp only [V.labelsL, V.labels, List.mem_append, List.append_nil, List.nil_append, List.not_mem_nil, or_false, false_or] at h; first | (have := r0a _ h; omega))) (fun W hW hF => by obtain ⟨z0a, zz0a⟩ := farA hW r0a (fun y h1 h2 h => by omega); have f0 := far0 hW (fun h => by omega); have p0 := fun i o e => hW.ptr (1) i o e (by omega);  have p1 := fun i o e => hW.ptr (2) i o e (by omega); simp only [List.map_cons, List.map_nil, hW.int, hW.str, hW.bool, hW.any, hW.tup0, hW.agg, hW.nilV, hF.ptr, z0a, zz0a, f0, p0, p1, kP] <;> rfl) ?_
 refine ON ?_
 refine Ok.seq ?_
 refine Ok.drop [14, 15, 16] (by simp only [kover] <;> rfl) ?_
 refine Ok.region ?_
 refine EV ?_
 refine OkOps.storeN tab_ok rfl rfl (by simp only [kE, kT, kL, kC] <;> rfl) ⟨_, _, by simp only [kE]; rfl⟩ (by first | (simp [V.labelsL, V.labelsLL, V.labels, zz, zf, zy]; done) | (intro h; simp only [V.labelsL, V.labels, List.mem_append, List.append_nil, List.nil_append, List.not_mem_nil, or_false, false_or] at h; first | (have := r0a _ h; omega))) (fun W hW hF => by obtain ⟨z0a, zz0a⟩ := farA hW r0a (fun y h1 h2 h => by omega); have f0 := far0 hW (fun h => by omega); have p0 := fun i o e => hW.ptr (1) i o e (by omega);  have p2 := fun i o e => hW.ptr (3) i o e (by omega); simp only [List.map_cons, List.map_nil, hW.int, hW.str, hW.bool, hW.any, hW.tup0, hW.agg, hW.nilV, hF.ptr, z0a, zz0a, f0, p0, p2, kP] <;> rfl) ?_
 refine ON ?_
 refine Ok.ret ?_
 with_reducible repeat (first | refine thenQ_ret ?_ | refine blockQ_ret ?_)
 refine RT ?_
 exact ⟨(by simp only [packV, V.erase, V.trav, V.travL, V.travLL, zz, zf, zy, E0a] <;> rfl), (by intro L hL; simp only [packV, V.labels, V.labelsL, List.append_nil, List.nil_append] at hL;  first | (have := r0a L hL; omega)), (by simp only [packV, V.labels, V.labelsL, List.append_nil, List.nil_append] at nda ⊢; exact nda)⟩
theorem p_laws_toMailS (a : List Mail) (ha : a.length ≤ 1048576) (hz : ∀ z ∈ a, smMail z) : Pure Tryz.prog 166 [.sl 0 4 0 (a.map cMail)] (.sl 0 4 0 (a.map cMail)) := by
 refine Pure.of (by simp [V.dat, V.datL, V.datLL, zz, zf, zy]) (OkCall.enter' tab_ok Tryz.func166 rfl (t := [.sl 0 4 0 (a.map cMail), .any, .any, .any, .any, .any, .any, .any, .any, .any, .any, .any, .any, .any, .any, .any, .any, .any, .any, .any, .any, .any, .any]) rfl ?_)
 refine OQ ?_
 refine EV ?_
 refine ON ?_
 refine OQ ?_
 iterate 2 (refine EV ?_)
 refine OkOps.S' rfl (ok_makeSlice (a := a.length) (b := a.length) tab_ok (by simp only [kT] <;> rfl) (by simp only [kT] <;> rfl) (by decide) rfl rfl (by simp only [kE, kL] <;> rfl) (by simp only [kE, kL] <;> rfl) (by omega) (by omega) (by omega) (by show ((56 : Nat) : Int) * _ ≤ _; omega)) (by simp only [Nat.reduceAdd] <;> rfl) (by simp only [kP, Int.toNat_natCast] <;> rfl) ?_
 refine EV ?_
 refine ON ?_
 refine Ok.seq ?_
 refine Ok.seq ?_
 refine Ok.drop [5, 6, 7] (by simp only [kover] <;> rfl) ?_
 refine Ok.region ?_
 refine EV ?_
 refine ON ?_
 refine Ok.block ?_
 refine Ok.loopN (τ := List (List V) × Nat) (fun x => [(3, .sl 1 4 0 (x.1 ++ List.replicate (a.length - x.1.length) zcMail)), (4, .int .i64 (x.1.length : Int)), (7, .any)]) [8, 9, 10, 11, 12, 13, 14, 15, 16, 17, 18, 19, 20, 21] (fun x => by simp only [kover] <;> rfl) (fun x => x.2 + 1) (fun x => x.1.length ≤ a.length ∧ V.travLL (fun sz => V.sl 0 sz 0 []) (fun _ sz _ es => V.sl 0 sz 0 es) (fun _ _ o e => V.ptr 0 0 o e) x.1 = (a.take x.1.length).map cMail ∧ (V.labelsLL x.1).Nodup ∧ (∀ z ∈ V.labelsLL x.1, 2 ≤ z ∧ z < x.2 + 1) ∧ 1 ≤ x.2) (fun x => a.length - x.1.length) ([], 1) (by refine ⟨?_, ?_, ?_, ?_, ?_, ?_, ?_, ?_, ?_, ?_, ?_, ?_, ?_, ?_, ?_, ?_, ?_, ?_, ?_, ?_, ?_, ?_, ?_, trivial⟩ <;> first | exact le_any _ | with_reducible exact le_rfl' _ | ((first | exact le_rfl' _ | (refine le_eqm ?_; simp only [List.nil_append, List.length_nil, Nat.sub_zero]; done))) | exact le_rfl' _) (by decide) (⟨Nat.zero_le _, rfl, List.nodup_nil, (fun z hz => by cases hz), Nat.le_refl _⟩) ?_
 rintro ⟨d, k⟩ ⟨h1, h2, h3, h4, h5⟩
 have h1 : d.length ≤ a.length := h1
 have h2 : V.travLL (fun sz => V.sl 0 sz 0 []) (fun _ sz _ es => V.sl 0 sz 0 es) (fun _ _ o e => V.ptr 0 0 o e) d = (a.take d.length).map cMail := h2
 have h3 : (V.labelsLL d).Nodup := h3
 have h4 : ∀ z ∈ V.labelsLL d, 2 ≤ z ∧ z < k + 1 := h4
 have h5 : 1 ≤ k := h5
 refine Ok.seq ?_
 refine OQ ?_
 iterate 4 (refine EV ?_)
 refine ON ?_
 refine Ok.cond (b := _) (by simp only [kE, kT, kL, kC] <;> rfl) (fun hb3 => ?_) (fun hb3 => ?_)
 ·
  try simp only [bsimp] at hb3
  have hi : d.length < a.length := by omega
  have hrep : List.replicate (a.length - d.length) zcMail = zcMail :: List.replicate (a.length - (d.length + 1)) zcMail := by rw [show a.length - d.length = a.length - (d.length + 1) + 1 by omega]; rfl
  rw [hrep]
  have dn : ¬ (1 ∈ V.labelsLL d) := fun h => by have := h4 1 h; omega
  have rn := lab_rep (n := a.length - (d.length + 1)) (c := zcMail) rfl
  refine Ok.skip ?_
  refine Ok.seq ?_
  refine Ok.block ?_
  refine Ok.drop [8, 9, 10, 11] (by simp only [kover] <;> rfl) ?_
  refine Ok.region ?_
  iterate 4 (refine EV ?_)
  refine OkOps.ev tab_ok rfl (ev_idx_map (by simp only [kE, kT, kL, kC] <;> rfl) (by simp only [kE, kT, kL, kC] <;> rfl) (by omega) (by simp only [kE, kT, kL, kC] <;> rfl)) (by simp only [kP] <;> rfl) ?_
  refine EV ?_
  obtain ⟨L2a, e2a, hXa, q2a, E2a, M2a, N2a, nda, rga⟩ := ownMail (k) (a[d.length])
  obtain ⟨ma, hma⟩ : ∃ m, k + 1 + V.cnt (.agg (cMail (a[d.length]))) = m + 1 := ⟨k + V.cnt (.agg (cMail (a[d.length]))), by omega⟩
  have r2a : ∀ z ∈ V.labels (.sl (L2a + 1) 3 0 e2a), k + 1 ≤ z ∧ z < ma + 1 := fun z hz => by have := rga z (by first | exact hz | (simp only [V.labelsL, V.labels, List.mem_append] at hz ⊢; simp only [hz, true_or, or_true])); omega
  refine OkOps.S' rfl (OpS.pure' rfl (by simp only [kE, kT, kL, kC] <;> rfl) (by simp only [kE, kT, kL, kC, V.eraseL, V.erase, V.travL, V.trav, zz, zf, zy] <;> rfl) cl213 (by simp [V.dat, V.datL, V.datLL, zz, zf, zy]) (p_laws_toMail a[d.length] (hz _ (List.getElem_mem hi)))) hma (by simp only [kP, hXa] <;> rfl) ?_
  refine OkOps.ev tab_ok rfl (ev_idx (by simp only [kE, kT, kL, kC] <;> rfl) (by simp only [kE, kT, kL, kC] <;> rfl) (get_mid rfl) (by simp only [kE, kT, kL, kC] <;> rfl)) (by simp only [kP] <;> rfl) ?_
  refine OkOps.storeN tab_ok rfl rfl (by simp only [kE, kT, kL, kC] <;> rfl) ⟨_, _, by simp only [kE]; rfl⟩ (by first | (simp [V.labelsL, V.labelsLL, V.labels, zz, zf, zy]; done) | (intro h; simp only [V.labelsL, V.labels, List.mem_append, List.append_nil, List.nil_append, List.not_mem_nil, or_false, false_or] at h; first | (have := r2a _ h; omega))) (fun W hW hF => by obtain ⟨z2a, zz2a⟩ := farA hW r2a (fun y h1 h2 h => by omega); have f0 := far0 hW (fun h => by omega); simp only [List.map_cons, List.map_nil, hW.int, hW.str, hW.bool, hW.any, hW.tup0, hW.agg, hW.nilV, hF.ptr, z2a, zz2a, f0, hF.sl, set_mid (rfl : d.length = d.length), labelsLL_app, V.labelsLL, V.labelsL, V.labels, List.mem_append, List.not_mem_nil, List.append_nil, List.nil_append, or_false, false_or, not_or, not_false_eq_true, and_self, Nat.zero_add, dn, rn, (fun i o e => hW.ptr 0 i o e (by decide) : ∀ i o e, W (.ptr 0 i o e) = .ptr 0 i o (e.map W)), cMail, zcMail, kP] <;> rfl) ?_
  refine ON ?_
  refine Ok.drop [14, 15, 16, 17, 18, 19, 20, 21] (by simp only [kover] <;> rfl) ?_
  refine Ok.region ?_
  iterate 3 (refine EV ?_)
  refine ON ?_
  refine ⟨(d ++ [[.int .i64 (a[d.length]).gid, .int .i64 (a[d.length]).uid, .sl (L2a + 1) 3 0 e2a, .str (a[d.length]).text]], ma), ?_, rfl, (by dsimp only; omega), rows_snoc hi h2 h3 h4 h5 (by omega) (by simp only [V.travL, V.trav, E2a] <;> rfl) nda (fun z hz => by have := rga z hz; omega), by show a.length - (d ++ [_]).length < a.length - d.length; rw [List.length_append]; simp only [List.length_cons, List.length_nil]; omega⟩
  refine ⟨?_, ?_, ?_, ?_, ?_, ?_, ?_, ?_, ?_, ?_, ?_, ?_, ?_, ?_, ?_, ?_, ?_, ?_, ?_, ?_, ?_, ?_, ?_, trivial⟩ <;> first | exact le_any _ | with_reducible exact le_rfl' _ | (dsimp only; first | (rw [wrap_add_one (by omega)]; refine le_eqm ?_; simp only [List.length_append, List.length_cons, List.length_nil]; done) | (refine le_eqm ?_; simp only [List.length_append, List.length_cons, List.length_nil, List.append_assoc, List.cons_append, List.nil_append, Nat.zero_add]; done)) | exact le_rfl' _
 ·
  try simp only [bsimp] at hb3
  have hi : d.length = a.length := by omega
  have hrep : List.replicate (a.length - d.length) zcMail = [] := by rw [hi, Nat.sub_self]; rfl
  rw [hrep, List.append_nil]
  rw [hi, List.take_length] at h2
  refine Ok.exit ?_
  refine Ok.seq ?_
  refine Ok.drop [8, 9, 10, 11] (by simp only [kover] <;> rfl) ?_
  refine Ok.region ?_
  iterate 2 (refine EV ?_)
  refine ON ?_
  refine Ok.ret ?_
  with_reducible repeat (first | refine thenQ_ret ?_ | refine blockQ_ret ?_)
  refine RT ?_
  exact ⟨(by simp only [packV, V.erase, V.trav, V.travLL, zz, zf, zy, h2] <;> rfl), (by intro L hL; simp only [packV, V.labels, List.mem_cons] at hL; rcases hL with hL | hL <;> first | omega | (have := h4 L hL; omega)), (by simp only [packV, V.labels, List.nodup_cons]; exact ⟨fun h => by have := h4 1 h; omega, h3⟩)⟩
theorem p_laws_toBox (x : Box) (h : smBox x) : Pure Tryz.prog 119 [.agg (cBox x)] (.agg (cBox x)) := by
 refine Pure.of (by simp [V.dat, V.datL, V.datLL, zz, zf, zy]) (OkCall.enter' tab_ok Tryz.func119 rfl (t := [.agg (cBox x), .any, .any, .any, .any, .any, .any, .any, .any, .any, .any, .any, .any, .any, .any, .any, .any, .any, .any, .any, .any, .any, .any, .any, .any, .any]) rfl ?_)
 refine OQ ?_
 iterate 2 (refine EV ?_)
 refine ON ?_
 refine OQ ?_
 refine EV ?_
 refine ON ?_
 refine OQ ?_
 iterate 3 (refine EV ?_)
 refine OkOps.storeN tab_ok rfl rfl (by simp only [kE, kT, kL, kC] <;> rfl) ⟨_, _, by simp only [kE]; rfl⟩ (by first | (simp [V.labelsL, V.labelsLL, V.labels, zz, zf, zy]; done) | (intro h; simp [V.labelsL, V.labels] at h)) (fun W hW hF => by have f0 := far0 hW (fun h => by omega); have p0 := fun i o e => hW.ptr (1) i o e (by omega);  have p1 := fun i o e => hW.ptr (2) i o e (by omega); simp only [List.map_cons, List.map_nil, hW.int, hW.str, hW.bool, hW.any, hW.tup0, hW.agg, hW.nilV, hF.ptr, f0, p0, p1, kP] <;> rfl) ?_
 refine ON ?_
 refine Ok.seq ?_
 refine Ok.drop [4, 5, 6] (by simp only [kover] <;> rfl) ?_
 refine Ok.region ?_
 iterate 3 (refine EV ?_)
 refine OkOps.storeN tab_ok rfl rfl (by simp only [kE, kT, kL, kC] <;> rfl) ⟨_, _, by simp only [kE]; rfl⟩ (by first | (simp [V.labelsL, V.labelsLL, V.labels, zz, zf, zy]; done) | (intro h; simp [V.labelsL, V.labels] at h)) (fun W hW hF => by have f0 := far0 hW (fun h => by omega); have p0 := fun i o e => hW.ptr (1) i o e (by omega);  have p1 := fun i o e => hW.ptr (2) i o e (by omega); simp only [List.map_cons, List.map_nil, hW.int, hW.str, hW.bool, hW.any, hW.tup0, hW.agg, hW.nilV, hF.ptr, f0, p0, p1, kP] <;> rfl) ?_
 refine ON ?_
 refine Ok.seq ?_
 refine Ok.drop [7, 8, 9] (by simp only [kover] <;> rfl) ?_
 refine Ok.region ?_
 iterate 2 (refine EV ?_)
 refine OkOps.S0 rfl (OpS.weak' rfl (by simp only [kE, kT, kL, kC] <;> rfl) (by simp only [kE, kT, kL, kC] <;> rfl) cl165 (w_own_toStamp x.named)) (by simp only [kP] <;> rfl) ?_
 refine EV ?_
 refine OkOps.storeN tab_ok rfl rfl (by simp only [kE, kT, kL, kC] <;> rfl) ⟨_, _, by simp only [kE]; rfl⟩ (by first | (simp [V.labelsL, V.labelsLL, V.labels, zz, zf, zy]; done) | (intro h; simp [V.labelsL, V.labels] at h)) (fun W hW hF => by have f0 := far0 hW (fun h => by omega); have p0 := fun i o e => hW.ptr (1) i o e (by omega);  have p1 := fun i o e => hW.ptr (2) i o e (by omega); simp only [List.map_cons, List.map_nil, hW.int, hW.str, hW.bool, hW.any, hW.tup0, hW.agg, hW.nilV, hF.ptr, f0, p0, p1, kP] <;> rfl) ?_
 refine ON ?_
 refine Ok.seq ?_
 refine Ok.drop [10, 11, 12, 13] (by simp only [kover] <;> rfl) ?_
 refine Ok.region ?_
 iterate 3 (refine EV ?_)
 refine OkOps.storeN tab_ok rfl rfl (by simp only [kE, kT, kL, kC] <;> rfl) ⟨_, _, by simp only [kE]; rfl⟩ (by first | (simp [V.labelsL, V.labelsLL, V.labels, zz, zf, zy]; done) | (intro h; simp [V.labelsL, V.labels] at h)) (fun W hW hF => by have f0 := far0 hW (fun h => by omega); have p0 := fun i o e => hW.ptr (1) i o e (by omega);  have p1 := fun i o e => hW.ptr (2) i o e (by omega); simp only [List.map_cons, List.map_nil, hW.int, hW.str, hW.bool, hW.any, hW.tup0, hW.agg, hW.nilV, hF.ptr, f0, p0, p1, kP] <;> rfl) ?_
 refine ON ?_
 refine Ok.seq ?_
 refine Ok.drop [14, 15, 16] (by simp only [kover] <;> rfl) ?_
 refine Ok.region ?_
 iterate 2 (refine EV ?_)
 obtain ⟨L0a, e0a, hXa, q0a, E0a, M0a, N0a, nda, rga⟩ := ownSMail (3) (x.mails)
 obtain ⟨ma, hma⟩ : ∃ m, 3 + 1 + V.cnt (.sl 0 4 0 ((x.mails).map cMail)) = m + 1 := ⟨3 + V.cnt (.sl 0 4 0 ((x.mails).map cMail)), by omega⟩
 have r0a : ∀ z ∈ V.labels (.sl (L0a + 1) 4 0 e0a), 3 + 1 ≤ z ∧ z < ma + 1 := fun z hz => by have := rga z (by first | exact hz | (simp only [V.labelsL, V.labels, List.mem_append] at hz ⊢; simp only [hz, true_or, or_true])); omega
 refine OkOps.S' rfl (OpS.pure' rfl (by simp only [kE, kT, kL, kC] <;> rfl) (by simp only [kE, kT, kL, kC, V.eraseL, V.erase, V.travL, V.trav, zz, zf, zy] <;> rfl) cl166 (by simp [V.dat, V.datL, V.datLL, zz, zf, zy]) (p_laws_toMailS x.mails h.2.1.1 h.2.1.2)) hma (by simp only [kP, hXa] <;> rfl) ?_
 refine EV ?_
 refine OkOps.storeN tab_ok rfl rfl (by simp only [kE, kT, kL, kC] <;> rfl) ⟨_, _, by simp only [kE]; rfl⟩ (by first | (simp [V.labelsL, V.labelsLL, V.labels, zz, zf, zy]; done) | (intro h; simp only [V.labelsL, V.labels, List.mem_append, List.append_nil, List.nil_append, List.not_mem_nil, or_false, false_or] at h; first | (have := r0a _ h; omega))) (fun W hW hF => by obtain ⟨z0a, zz0a⟩ := farA hW r0a (fun y h1 h2 h => by omega); have f0 := far0 hW (fun h => by omega); have p0 := fun i o e => hW.ptr (1) i o e (by omega);  have p1 := fun i o e => hW.ptr (2) i o e (by omega); simp only [List.map_cons, List.map_nil, hW.int, hW.str, hW.bool, hW.any, hW.tup0, hW.agg, hW.nilV, hF.ptr, z0a, zz0a, f0, p0, p1, kP] <;> rfl) ?_
 refine ON ?_
 refine Ok.seq ?_
 refine Ok.drop [17, 18, 19, 20] (by simp only [kover] <;> rfl) ?_
 refine Ok.region ?_
 iterate 2 (refine EV ?_)
 obtain ⟨L0b, e0b, hXb, q0b, E0b, M0b, N0b, ndb, rgb⟩ := ownSInt (ma) (x.gone)
 obtain ⟨mb, hmb⟩ : ∃ m, ma + 1 + V.cnt (.sl 0 1 0 ((x.gone).map cZ)) = m + 1 := ⟨ma + V.cnt (.sl 0 1 0 ((x.gone).map cZ)), by omega⟩
 have r0b : ∀ z ∈ V.labels (.sl (L0b + 1) 1 0 e0b), ma + 1 ≤ z ∧ z < mb + 1 := fun z hz => by have := rgb z (by first | exact hz | (simp only [V.labelsL, V.labels, List.mem_append] at hz ⊢; simp only [hz, true_or, or_true])); omega
 refine OkOps.S' rfl (OpS.pure' rfl (by simp only [kE, kT, kL, kC] <;> rfl) (by simp only [kE, kT, kL, kC, E0a, M0a, N0a, V.eraseL, V.erase, V.travL, V.trav, zz, zf, zy] <;> rfl) cl54 (by simp [V.dat, V.datL, V.datLL, zz, zf, zy]) (p_laws_toIntS x.gone h.2.2)) hmb (by simp only [kP, hXb] <;> rfl) ?_
 refine EV ?_
 refine OkOps.storeN tab_ok rfl rfl (by simp only [kE, kT, kL, kC] <;> rfl) ⟨_, _, by simp only [kE]; rfl⟩ (by first | (simp [V.labelsL, V.labelsLL, V.labels, zz, zf, zy]; done) | (intro h; simp only [V.labelsL, V.labels, List.mem_append, List.append_nil, List.nil_append, List.not_mem_nil, or_false, false_or] at h; rcases h with h | h <;> first | (have := r0a _ h; omega) | (have := r0b _ h; omega))) (fun W hW hF => by obtain ⟨z0a, zz0a⟩ := farA hW r0a (fun y h1 h2 h => by omega); obtain ⟨z0b, zz0b⟩ := farA hW r0b (fun y h1 h2 h => by omega); have f0 := far0 hW (fun h => by omega); have p0 := fun i o e => hW.ptr (1) i o e (by omega);  have p1 := fun i o e => hW.ptr (2) i o e (by omega); simp only [List.map_cons, List.map_nil, hW.int, hW.str, hW.bool, hW.any, hW.tup0, hW.agg, hW.nilV, hF.ptr, z0a, zz0a, z0b, zz0b, f0, p0, p1, kP] <;> rfl) ?_
 refine ON ?_
 refine Ok.seq ?_
 refine Ok.drop [21, 22, 23, 24] (by simp only [kover] <;> rfl) ?_
 refine Ok.region ?_
 refine EV ?_
 refine OkOps.storeN tab_ok rfl rfl (by simp only [kE, kT, kL, kC] <;> rfl) ⟨_, _, by simp only [kE]; rfl⟩ (by first | (simp [V.labelsL, V.labelsLL, V.labels, zz, zf, zy]; done) | (intro h; simp only [V.labelsL, V.labels, List.mem_append, List.append_nil, List.nil_append, List.not_mem_nil, or_false, false_or] at h; rcases h with h | h <;> first | (have := r0a _ h; omega) | (have := r0b _ h; omega))) (fun W hW hF => by obtain ⟨z0a, zz0a⟩ := farA hW r0a (fun y h1 h2 h => by omega); obtain ⟨z0b, zz0b⟩ := farA hW r0b (fun y h1 h2 h => by omega); have f0 := far0 hW (fun h => by omega); have p0 := fun i o e => hW.ptr (1) i o e (by omega);  have p2 := fun i o e => hW.ptr (3) i o e (by omega); simp only [List.map_cons, List.map_nil, hW.int, hW.str, hW.bool, hW.any, hW.tup0, hW.agg, hW.nilV, hF.ptr, z0a, zz0a, z0b, zz0b, f0, p0, p2, kP] <;> rfl) ?_
 refine ON ?_
 refine Ok.ret ?_
 with_reducible repeat (first | refine thenQ_ret ?_ | refine blockQ_ret ?_)
 refine RT ?_
 exact ⟨(by simp only [packV, V.erase, V.trav, V.travL, V.travLL, zz, zf, zy, E0a, E0b] <;> rfl), (by intro L hL; simp only [packV, V.labels, V.labelsL, List.append_nil, List.nil_append] at hL; (try rw [List.mem_append] at hL); (try rw [List.mem_append] at hL); rcases hL with hL | hL <;>  first | (have := r0a L hL; omega) | (have := r0b L hL; omega)), (by have n1 := nda; have n2 := ndb; simp only [V.labels, V.labelsL, List.append_nil, List.nil_append] at n1 n2; simp only [packV, V.labels, V.labelsL, List.append_nil, List.nil_append]; rw [List.nodup_append]; exact ⟨n1, n2, fun y hy z hz h => by (have q2 := r0b z hz; first | (have q1 := r0a y hy; omega))⟩)⟩
theorem p_laws_toBoxS (a : List Box) (ha : a.length ≤ 1048576) (hz : ∀ z ∈ a, smBox z) : Pure Tryz.prog 53 [.sl 0 7 0 (a.map cBox)] (.sl 0 7 0 (a.map cBox)) := by
 refine Pure.of (by simp [V.dat, V.datL, V.datLL, zz, zf, zy]) (OkCall.enter' tab_ok Tryz.func53 rfl (t := [.sl 0 7 0 (a.map cBox), .any, .any, .any, .any, .any, .any, .any, .any, .any, .any, .any, .any, .any, .any, .any, .any, .any, .any, .any, .any, .any, .any]) rfl ?_)
 refine OQ ?_
 refine EV ?_
 refine ON ?_
 refine OQ ?_
 iterate 2 (refine EV ?_)
 refine OkOps.S' rfl (ok_makeSlice (a := a.length) (b := a.length) tab_ok (by simp only [kT] <;> rfl) (by simp only [kT] <;> rfl) (by decide) rfl rfl (by simp only [kE, kL] <;> rfl) (by simp only [kE, kL] <;> rfl) (by omega) (by omega) (by omega) (by show ((96 : Nat) : Int) * _ ≤ _; omega)) (by simp only [Nat.reduceAdd] <;> rfl) (by simp only [kP, Int.toNat_natCast] <;> rfl) ?_
 refine EV ?_
 refine ON ?_
 refine Ok.seq ?_
 refine Ok.seq ?_
 refine Ok.drop [5, 6, 7] (by simp only [kover] <;> rfl) ?_
 refine Ok.region ?_
 refine EV ?_
 refine ON ?_
 refine Ok.block ?_
 refine Ok.loopN (τ := List (List V) × Nat) (fun x => [(3, .sl 1 7 0 (x.1 ++ List.replicate (a.length - x.1.length) zcBox)), (4, .int .i64 (x.1.length : Int)), (7, .any)]) [8, 9, 10, 11, 12, 13, 14, 15, 16, 17, 18, 19, 20, 21] (fun x => by simp only [kover] <;> rfl) (fun x => x.2 + 1) (fun x => x.1.length ≤ a.length ∧ V.travLL (fun sz => V.sl 0 sz 0 []) (fun _ sz _ es => V.sl 0 sz 0 es) (fun _ _ o e => V.ptr 0 0 o e) x.1 = (a.take x.1.length).map cBox ∧ (V.labelsLL x.1).Nodup ∧ (∀ z ∈ V.labelsLL x.1, 2 ≤ z ∧ z < x.2 + 1) ∧ 1 ≤ x.2) (fun x => a.length - x.1.length) ([], 1) (by refine ⟨?_, ?_, ?_, ?_, ?_, ?_, ?_, ?_, ?_, ?_, ?_, ?_, ?_, ?_, ?_, ?_, ?_, ?_, ?_, ?_, ?_, ?_, ?_, trivial⟩ <;> first | exact le_any _ | with_reducible exact le_rfl' _ | ((first | exact le_rfl' _ | (refine le_eqm ?_; simp only [List.nil_append, List.length_nil, Nat.sub_zero]; done))) | exact le_rfl' _) (by decide) (⟨Nat.zero_le _, rfl, List.nodup_nil, (fun z hz => by cases hz), Nat.le_refl _⟩) ?_
 rintro ⟨d, k⟩ ⟨h1, h2, h3, h4, h5⟩
 have h1 : d.length ≤ a.length := h1
 have h2 : V.travLL (fun sz => V.sl 0 sz 0 []) (fun _ sz _ es => V.sl 0 sz 0 es) (fun _ _ o e => V.ptr 0 0 o e) d = (a.take d.length).map cBox := h2
 have h3 : (V.labelsLL d).Nodup := h3
 have h4 : ∀ z ∈ V.labelsLL d, 2 ≤ z ∧ z < k + 1 := h4
 have h5 : 1 ≤ k := h5
 refine Ok.seq ?_
 refine OQ ?_
 iterate 4 (refine EV ?_)
 refine ON ?_
 refine Ok.cond (b := _) (by simp only [kE, kT, kL, kC] <;> rfl) (fun hb3 => ?_) (fun hb3 => ?_)
 ·
  try simp only [bsimp] at hb3
  have hi : d.length < a.length := by omega
  have hrep : List.replicate (a.length - d.length) zcBox = zcBox :: List.replicate (a.length - (d.length + 1)) zcBox := by rw [show a.length - d.length = a.length - (d.length + 1) + 1 by omega]; rfl
  rw [hrep]
  have dn : ¬ (1 ∈ V.labelsLL d) := fun h => by have := h4 1 h; omega
  have rn := lab_rep (n := a.length - (d.length + 1)) (c := zcBox) rfl
  refine Ok.skip ?_
  refine Ok.seq ?_
  refine Ok.block ?_
  refine Ok.drop [8, 9, 10, 11] (by simp only [kover] <;> rfl) ?_
  refine Ok.region ?_
  iterate 4 (refine EV ?_)
  refine OkOps.ev tab_ok rfl (ev_idx_map (by simp only [kE, kT, kL, kC] <;> rfl) (by simp only [kE, kT, kL, kC] <;> rfl) (by omega) (by simp only [kE, kT, kL, kC] <;> rfl)) (by simp only [kP] <;> rfl) ?_
  refine EV ?_
  obtain ⟨L5a, e5a, L6a, e6a, hXa, q5a, E5a, M5a, N5a, q6a, E6a, M6a, N6a, nda, rga⟩ := ownBox (k) (a[d.length])
  obtain ⟨ma, hma⟩ : ∃ m, k + 1 + V.cnt (.agg (cBox (a[d.length]))) = m + 1 := ⟨k + V.cnt (.agg (cBox (a[d.length]))), by omega⟩
  have r5a : ∀ z ∈ V.labels (.sl (L5a + 1) 4 0 e5a), k + 1 ≤ z ∧ z < ma + 1 := fun z hz => by have := rga z (by first | exact hz | (simp only [V.labelsL, V.labels, List.mem_append] at hz ⊢; simp only [hz, true_or, or_true])); omega
  have r6a : ∀ z ∈ V.labels (.sl (L6a + 1) 1 0 e6a), k + 1 ≤ z ∧ z < ma + 1 := fun z hz => by have := rga z (by first | exact hz | (simp only [V.labelsL, V.labels, List.mem_append] at hz ⊢; simp only [hz, true_or, or_true])); omega
  refine OkOps.S' rfl (OpS.pure' rfl (by simp only [kE, kT, kL, kC] <;> rfl) (by simp only [kE, kT, kL, kC, V.eraseL, V.erase, V.travL, V.trav, zz, zf, zy] <;> rfl) cl119 (by simp [V.dat, V.datL, V.datLL, zz, zf, zy]) (p_laws_toBox a[d.length] (hz _ (List.getElem_mem hi)))) hma (by simp only [kP, hXa] <;> rfl) ?_
  refine OkOps.ev tab_ok rfl (ev_idx (by simp only [kE, kT, kL, kC] <;> rfl) (by simp only [kE, kT, kL, kC] <;> rfl) (get_mid rfl) (by simp only [kE, kT, kL, kC] <;> rfl)) (by simp only [kP] <;> rfl) ?_
  refine OkOps.storeN tab_ok rfl rfl (by simp only [kE, kT, kL, kC] <;> rfl) ⟨_, _, by simp only [kE]; rfl⟩ (by first | (simp [V.labelsL, V.labelsLL, V.labels, zz, zf, zy]; done) | (intro h; simp only [V.labelsL, V.labels, List.mem_append, List.append_nil, List.nil_append, List.not_mem_nil, or_false, false_or] at h; rcases h with h | h <;> first | (have := r5a _ h; omega) | (have := r6a _ h; omega))) (fun W hW hF => by obtain ⟨z5a, zz5a⟩ := farA hW r5a (fun y h1 h2 h => by omega); obtain ⟨z6a, zz6a⟩ := farA hW r6a (fun y h1 h2 h => by omega); have f0 := far0 hW (fun h => by omega); simp only [List.map_cons, List.map_nil, hW.int, hW.str, hW.bool, hW.any, hW.tup0, hW.agg, hW.nilV, hF.ptr, z5a, zz5a, z6a, zz6a, f0, hF.sl, set_mid (rfl : d.length = d.length), labelsLL_app, V.labelsLL, V.labelsL, V.labels, List.mem_append, List.not_mem_nil, List.append_nil, List.nil_append, or_false, false_or, not_or, not_false_eq_true, and_self, Nat.zero_add, dn, rn, (fun i o e => hW.ptr 0 i o e (by decide) : ∀ i o e, W (.ptr 0 i o e) = .ptr 0 i o (e.map W)), cBox, zcBox, kP] <;> rfl) ?_
  refine ON ?_
  refine Ok.drop [14, 15, 16, 17, 18, 19, 20, 21] (by simp only [kover] <;> rfl) ?_
  refine Ok.region ?_
  iterate 3 (refine EV ?_)
  refine ON ?_
  refine ⟨(d ++ [[.int .i64 (a[d.length]).gid, .str (a[d.length]).name, .int .i64 (a[d.length]).named.time, .int .i64 (a[d.length]).named.by_, .int .i64 (a[d.length]).next, .sl (L5a + 1) 4 0 e5a, .sl (L6a + 1) 1 0 e6a]], ma), ?_, rfl, (by dsimp only; omega), rows_snoc hi h2 h3 h4 h5 (by omega) (by simp only [V.travL, V.trav, E5a, E6a] <;> rfl) nda (fun z hz => by have := rga z hz; omega), by show a.length - (d ++ [_]).length < a.length - d.length; rw [List.length_append]; simp only [List.length_cons, List.length_nil]; omega⟩
  refine ⟨?_, ?_, ?_, ?_, ?_, ?_, ?_, ?_, ?_, ?_, ?_, ?_, ?_, ?_, ?_, ?_, ?_, ?_, ?_, ?_, ?_, ?_, ?_, trivial⟩ <;> first | exact le_any _ | with_reducible exact le_rfl' _ | (dsimp only; first | (rw [wrap_add_one (by omega)]; refine le_eqm ?_; simp only [List.length_append, List.length_cons, List.length_nil]; done) | (refine le_eqm ?_; simp only [List.length_append, List.length_cons, List.length_nil, List.append_assoc, List.cons_append, List.nil_append, Nat.zero_add]; done)) | exact le_rfl' _
 ·
  try simp only [bsimp] at hb3
  have hi : d.length = a.length := by omega
  have hrep : List.replicate (a.length - d.length) zcBox = [] := by rw [hi, Nat.sub_self]; rfl
  rw [hrep, List.append_nil]
  rw [hi, List.take_length] at h2
  refine Ok.exit ?_
  refine Ok.seq ?_
  refine Ok.drop [8, 9, 10, 11] (by simp only [kover] <;> rfl) ?_
  refine Ok.region ?_
  iterate 2 (refine EV ?_)
  refine ON ?_
  refine Ok.ret ?_
  with_reducible repeat (first | refine thenQ_ret ?_ | refine blockQ_ret ?_)
  refine RT ?_
  exact ⟨(by simp only [packV, V.erase, V.trav, V.travLL, zz, zf, zy, h2] <;> rfl), (by intro L hL; simp only [packV, V.labels, List.mem_cons] at hL; rcases hL with hL | hL <;> first | omega | (have := h4 L hL; omega)), (by simp only [packV, V.labels, List.nodup_cons]; exact ⟨fun h => by have := h4 1 h; omega, h3⟩)⟩
theorem p_laws_toStore (x : Store) (h : smStore x) : Pure Tryz.prog 10 [.agg (cStore x)] (.agg (cStore x)) := by
 refine Pure.of (by simp [V.dat, V.datL, V.datLL, zz, zf, zy]) (OkCall.enter' tab_ok Tryz.func10 rfl (t := [.agg (cStore x), .any, .any, .any, .any, .any, .any, .any, .any, .any, .any, .any, .any, .any, .any, .any, .any, .any, .any]) rfl ?_)
 refine OQ ?_
 iterate 2 (refine EV ?_)
 refine ON ?_
 refine OQ ?_
 refine EV ?_
 refine ON ?_
 refine OQ ?_
 iterate 3 (refine EV ?_)
 refine OkOps.storeN tab_ok rfl rfl (by simp only [kE, kT, kL, kC] <;> rfl) ⟨_, _, by simp only [kE]; rfl⟩ (by first | (simp [V.labelsL, V.labelsLL, V.labels, zz, zf, zy]; done) | (intro h; simp [V.labelsL, V.labels] at h)) (fun W hW hF => by have f0 := far0 hW (fun h => by omega); have p0 := fun i o e => hW.ptr (1) i o e (by omega);  have p1 := fun i o e => hW.ptr (2) i o e (by omega); simp only [List.map_cons, List.map_nil, hW.int, hW.str, hW.bool, hW.any, hW.tup0, hW.agg, hW.nilV, hF.ptr, f0, p0, p1, kP] <;> rfl) ?_
 refine ON ?_
 refine Ok.seq ?_
 refine Ok.drop [4, 5, 6] (by simp only [kover] <;> rfl) ?_
 refine Ok.region ?_
 iterate 3 (refine EV ?_)
 refine OkOps.storeN tab_ok rfl rfl (by simp only [kE, kT, kL, kC] <;> rfl) ⟨_, _, by simp only [kE]; rfl⟩ (by first | (simp [V.labelsL, V.labelsLL, V.labels, zz, zf, zy]; done) | (intro h; simp [V.labelsL, V.labels] at h)) (fun W hW hF => by have f0 := far0 hW (fun h => by omega); have p0 := fun i o e => hW.ptr (1) i o e (by omega);  have p1 := fun i o e => hW.ptr (2) i o e (by omega); simp only [List.map_cons, List.map_nil, hW.int, hW.str, hW.bool, hW.any, hW.tup0, hW.agg, hW.nilV, hF.ptr, f0, p0, p1, kP] <;> rfl) ?_
 refine ON ?_
 refine Ok.seq ?_
 refine Ok.drop [7, 8, 9] (by simp only [kover] <;> rfl) ?_
 refine Ok.region ?_
 iterate 2 (refine EV ?_)
 obtain ⟨L0a, e0a, hXa, q0a, E0a, M0a, N0a, nda, rga⟩ := ownSBox (3) (x.boxes)
 obtain ⟨ma, hma⟩ : ∃ m, 3 + 1 + V.cnt (.sl 0 7 0 ((x.boxes).map cBox)) = m + 1 := ⟨3 + V.cnt (.sl 0 7 0 ((x.boxes).map cBox)), by omega⟩
 have r0a : ∀ z ∈ V.labels (.sl (L0a + 1) 7 0 e0a), 3 + 1 ≤ z ∧ z < ma + 1 := fun z hz => by have := rga z (by first | exact hz | (simp only [V.labelsL, V.labels, List.mem_append] at hz ⊢; simp only [hz, true_or, or_true])); omega
 refine OkOps.S' rfl (OpS.pure' rfl (by simp only [kE, kT, kL, kC] <;> rfl) (by simp only [kE, kT, kL, kC, V.eraseL, V.erase, V.travL, V.trav, zz, zf, zy] <;> rfl) cl53 (by simp [V.dat, V.datL, V.datLL, zz, zf, zy]) (p_laws_toBoxS x.boxes h.1.1 h.1.2)) hma (by simp only [kP, hXa] <;> rfl) ?_
 refine EV ?_
 refine OkOps.storeN tab_ok rfl rfl (by simp only [kE, kT, kL, kC] <;> rfl) ⟨_, _, by simp only [kE]; rfl⟩ (by first | (simp [V.labelsL, V.labelsLL, V.labels, zz, zf, zy]; done) | (intro h; simp only [V.labelsL, V.labels, List.mem_append, List.append_nil, List.nil_append, List.not_mem_nil, or_false, false_or] at h; first | (have := r0a _ h; omega))) (fun W hW hF => by obtain ⟨z0a, zz0a⟩ := farA hW r0a (fun y h1 h2 h => by omega); have f0 := far0 hW (fun h => by omega); have p0 := fun i o e => hW.ptr (1) i o e (by omega);  have p1 := fun i o e => hW.ptr (2) i o e (by omega); simp only [List.map_cons, List.map_nil, hW.int, hW.str, hW.bool, hW.any, hW.tup0, hW.agg, hW.nilV, hF.ptr, z0a, zz0a, f0, p0, p1, kP] <;> rfl) ?_
 refine ON ?_
 refine Ok.seq ?_
 refine Ok.drop [10, 11, 12, 13] (by simp only [kover] <;> rfl) ?_
 refine Ok.region ?_
 iterate 2 (refine EV ?_)
 obtain ⟨L0b, e0b, hXb, q0b, E0b, M0b, N0b, ndb, rgb⟩ := ownSInt (ma) (x.gone)
 obtain ⟨mb, hmb⟩ : ∃ m, ma + 1 + V.cnt (.sl 0 1 0 ((x.gone).map cZ)) = m + 1 := ⟨ma + V.cnt (.sl 0 1 0 ((x.gone).map cZ)), by omega⟩
 have r0b : ∀ z ∈ V.labels (.sl (L0b + 1) 1 0 e0b), ma + 1 ≤ z ∧ z < mb + 1 := fun z hz => by have := rgb z (by first | exact hz | (simp only [V.labelsL, V.labels, List.mem_append] at hz ⊢; simp only [hz, true_or, or_true])); omega
 refine OkOps.S' rfl (OpS.pure' rfl (by simp only [kE, kT, kL, kC] <;> rfl) (by simp only [kE, kT, kL, kC, E0a, M0a, N0a, V.eraseL, V.erase, V.travL, V.trav, zz, zf, zy] <;> rfl) cl54 (by simp [V.dat, V.datL, V.datLL, zz, zf, zy]) (p_laws_toIntS x.gone h.2)) hmb (by simp only [kP, hXb] <;> rfl) ?_
 refine EV ?_
 refine OkOps.storeN tab_ok rfl rfl (by simp only [kE, kT, kL, kC] <;> rfl) ⟨_, _, by simp only [kE]; rfl⟩ (by first | (simp [V.labelsL, V.labelsLL, V.labels, zz, zf, zy]; done) | (intro h; simp only [V.labelsL, V.labels, List.mem_append, List.append_nil, List.nil_append, List.not_mem_nil, or_false, false_or] at h; rcases h with h | h <;> first | (have := r0a _ h; omega) | (have := r0b _ h; omega))) (fun W hW hF => by obtain ⟨z0a, zz0a⟩ := farA hW r0a (fun y h1 h2 h => by omega); obtain ⟨z0b, zz0b⟩ := farA hW r0b (fun y h1 h2 h => by omega); have f0 := far0 hW (fun h => by omega); have p0 := fun i o e => hW.ptr (1) i o e (by omega);  have p1 := fun i o e => hW.ptr (2) i o e (by omega); simp only [List.map_cons, List.map_nil, hW.int, hW.str, hW.bool, hW.any, hW.tup0, hW.agg, hW.nilV, hF.ptr, z0a, zz0a, z0b, zz0b, f0, p0, p1, kP] <;> rfl) ?_
 refine ON ?_
 refine Ok.seq ?_
 refine Ok.drop [14, 15, 16, 17] (by simp only [kover] <;> rfl) ?_
 refine Ok.region ?_
 refine EV ?_
 refine OkOps.storeN tab_ok rfl rfl (by simp only [kE, kT, kL, kC] <;> rfl) ⟨_, _, by simp only [kE]; rfl⟩ (by first | (simp [V.labelsL, V.labelsLL, V.labels, zz, zf, zy]; done) | (intro h; simp only [V.labelsL, V.labels, List.mem_append, List.append_nil, List.nil_append, List.not_mem_nil, or_false, false_or] at h; rcases h with h | h <;> first | (have := r0a _ h; omega) | (have := r0b _ h; omega))) (fun W hW hF => by obtain ⟨z0a, zz0a⟩ := farA hW r0a (fun y h1 h2 h => by omega); obtain ⟨z0b, zz0b⟩ := farA hW r0b (fun y h1 h2 h => by omega); have f0 := far0 hW (fun h => by omega); have p0 := fun i o e => hW.ptr (1) i o e (by omega);  have p2 := fun i o e => hW.ptr (3) i o e (by omega); simp only [List.map_cons, List.map_nil, hW.int, hW.str, hW.bool, hW.any, hW.tup0, hW.agg, hW.nilV, hF.ptr, z0a, zz0a, z0b, zz0b, f0, p0, p2, kP] <;> rfl) ?_
 refine ON ?_
 refine Ok.ret ?_
 with_reducible repeat (first | refine thenQ_ret ?_ | refine blockQ_ret ?_)
 refine RT ?_
 exact ⟨(by simp only [packV, V.erase, V.trav, V.travL, V.travLL, zz, zf, zy, E0a, E0b] <;> rfl), (by intro L hL; simp only [packV, V.labels, V.labelsL, List.append_nil, List.nil_append] at hL; (try rw [List.mem_append] at hL); (try rw [List.mem_append] at hL); rcases hL with hL | hL <;>  first | (have := r0a L hL; omega) | (have := r0b L hL; omega)), (by have n1 := nda; have n2 := ndb; simp only [V.labels, V.labelsL, List.append_nil, List.nil_append] at n1 n2; simp only [packV, V.labels, V.labelsL, List.append_nil, List.nil_append]; rw [List.nodup_append]; exact ⟨n1, n2, fun y hy z hz h => by (have q2 := r0b z hz; first | (have q1 := r0a y hy; omega))⟩)⟩
theorem p_laws_toKept (x : Kept) (h : smKept x) : Pure Tryz.prog 184 [.agg (cKept x)] (.agg (cKept x)) := by
 refine Pure.of (by simp [V.dat, V.datL, V.datLL, zz, zf, zy]) (OkCall.enter' tab_ok Tryz.func184 rfl (t := [.agg (cKept x), .any, .any, .any, .any, .any, .any, .any, .any, .any, .any, .any, .any, .any, .any]) rfl ?_)
 refine OQ ?_
 iterate 2 (refine EV ?_)
 refine ON ?_
 refine OQ ?_
 refine EV ?_
 refine ON ?_
 refine OQ ?_
 iterate 2 (refine EV ?_)
 obtain ⟨L2a, e2a, L3a, e3a, hXa, q2a, E2a, M2a, N2a, q3a, E3a, M3a, N3a, nda, rga⟩ := ownStore (3) (x.store)
 obtain ⟨ma, hma⟩ : ∃ m, 3 + 1 + V.cnt (.agg (cStore (x.store))) = m + 1 := ⟨3 + V.cnt (.agg (cStore (x.store))), by omega⟩
 have r2a : ∀ z ∈ V.labels (.sl (L2a + 1) 7 0 e2a), 3 + 1 ≤ z ∧ z < ma + 1 := fun z hz => by have := rga z (by first | exact hz | (simp only [V.labelsL, V.labels, List.mem_append] at hz ⊢; simp only [hz, true_or, or_true])); omega
 have r3a : ∀ z ∈ V.labels (.sl (L3a + 1) 1 0 e3a), 3 + 1 ≤ z ∧ z < ma + 1 := fun z hz => by have := rga z (by first | exact hz | (simp only [V.labelsL, V.labels, List.mem_append] at hz ⊢; simp only [hz, true_or, or_true])); omega
 refine OkOps.S' rfl (OpS.pure' rfl (by simp only [kE, kT, kL, kC] <;> rfl) (by simp only [kE, kT, kL, kC, V.eraseL, V.erase, V.travL, V.trav, zz, zf, zy] <;> rfl) cl10 (by simp [V.dat, V.datL, V.datLL, zz, zf, zy]) (p_laws_toStore x.store h.1)) hma (by simp only [kP, hXa] <;> rfl) ?_
 refine EV ?_
 refine OkOps.storeN tab_ok rfl rfl (by simp only [kE, kT, kL, kC] <;> rfl) ⟨_, _, by simp only [kE]; rfl⟩ (by first | (simp [V.labelsL, V.labelsLL, V.labels, zz, zf, zy]; done) | (intro h; simp only [V.labelsL, V.labels, List.mem_append, List.append_nil, List.nil_append, List.not_mem_nil, or_false, false_or] at h; rcases h with h | h <;> first | (have := r2a _ h; omega) | (have := r3a _ h; omega))) (fun W hW hF => by obtain ⟨z2a, zz2a⟩ := farA hW r2a (fun y h1 h2 h => by omega); obtain ⟨z3a, zz3a⟩ := farA hW r3a (fun y h1 h2 h => by omega); have f0 := far0 hW (fun h => by omega); have p0 := fun i o e => hW.ptr (1) i o e (by omega);  have p1 := fun i o e => hW.ptr (2) i o e (by omega); simp only [List.map_cons, List.map_nil, hW.int, hW.str, hW.bool, hW.any, hW.tup0, hW.agg, hW.nilV, hF.ptr, z2a, zz2a, z3a, zz3a, f0, p0, p1, kP] <;> rfl) ?_
 refine ON ?_
 refine Ok.seq ?_
 refine Ok.drop [4, 5, 6, 7] (by simp only [kover] <;> rfl) ?_
 refine Ok.region ?_
 iterate 3 (refine EV ?_)
 refine OkOps.storeN tab_ok rfl rfl (by simp only [kE, kT, kL, kC] <;> rfl) ⟨_, _, by simp only [kE]; rfl⟩ (by first | (simp [V.labelsL, V.labelsLL, V.labels, zz, zf, zy]; done) | (intro h; simp only [V.labelsL, V.labels, List.mem_append, List.append_nil, List.nil_append, List.not_mem_nil, or_false, false_or] at h; rcases h with h | h <;> first | (have := r2a _ h; omega) | (have := r3a _ h; omega))) (fun W hW hF => by obtain ⟨z2a, zz2a⟩ := farA hW r2a (fun y h1 h2 h => by omega); obtain ⟨z3a, zz3a⟩ := farA hW r3a (fun y h1 h2 h => by omega); have f0 := far0 hW (fun h => by omega); have p0 := fun i o e => hW.ptr (1) i o e (by omega);  have p1 := fun i o e => hW.ptr (2) i o e (by omega); simp only [List.map_cons, List.map_nil, hW.int, hW.str, hW.bool, hW.any, hW.tup0, hW.agg, hW.nilV, hF.ptr, z2a, zz2a, z3a, zz3a, f0, p0, p1, kP] <;> rfl) ?_
 refine ON ?_
 refine Ok.seq ?_
 refine Ok.drop [8, 9, 10] (by simp only [kover] <;> rfl) ?_
 refine Ok.region ?_
 iterate 3 (refine EV ?_)
 refine OkOps.storeN tab_ok rfl rfl (by simp only [kE, kT, kL, kC] <;> rfl) ⟨_, _, by simp only [kE]; rfl⟩ (by first | (simp [V.labelsL, V.labelsLL, V.labels, zz, zf, zy]; done) | (intro h; simp only [V.labelsL, V.labels, List.mem_append, List.append_nil, List.nil_append, List.not_mem_nil, or_false, false_or] at h; rcases h with h | h <;> first | (have := r2a _ h; omega) | (have := r3a _ h; omega))) (fun W hW hF => by obtain ⟨z2a, zz2a⟩ := farA hW r2a (fun y h1 h2 h => by omega); obtain ⟨z3a, zz3a⟩ := farA hW r3a (fun y h1 h2 h => by omega); have f0 := far0 hW (fun h => by omega); have p0 := fun i o e => hW.ptr (1) i o e (by omega);  have p1 := fun i o e => hW.ptr (2) i o e (by omega); simp only [List.map_cons, List.map_nil, hW.int, hW.str, hW.bool, hW.any, hW.tup0, hW.agg, hW.nilV, hF.ptr, z2a, zz2a, z3a, zz3a, f0, p0, p1, kP] <;> rfl) ?_
 refine ON ?_
 refine Ok.seq ?_
 refine Ok.drop [11, 12, 13] (by simp only [kover] <;> rfl) ?_
 refine Ok.region ?_
 refine EV ?_
 refine OkOps.storeN tab_ok rfl rfl (by simp only [kE, kT, kL, kC] <;> rfl) ⟨_, _, by simp only [kE]; rfl⟩ (by first | (simp [V.labelsL, V.labelsLL, V.labels, zz, zf, zy]; done) | (intro h; simp only [V.labelsL, V.labels, List.mem_append, List.append_nil, List.nil_append, List.not_mem_nil, or_false, false_or] at h; rcases h with h | h <;> first | (have := r2a _ h; omega) | (have := r3a _ h; omega))) (fun W hW hF => by obtain ⟨z2a, zz2a⟩ := farA hW r2a (fun y h1 h2 h => by omega); obtain ⟨z3a, zz3a⟩ := farA hW r3a (fun y h1 h2 h => by omega); have f0 := far0 hW (fun h => by omega); have p0 := fun i o e => hW.ptr (1) i o e (by omega);  have p2 := fun i o e => hW.ptr (3) i o e (by omega); simp only [List.map_cons, List.map_nil, hW.int, hW.str, hW.bool, hW.any, hW.tup0, hW.agg, hW.nilV, hF.ptr, z2a, zz2a, z3a, zz3a, f0, p0, p2, kP] <;> rfl) ?_
 refine ON ?_
 refine Ok.ret ?_
 with_reducible repeat (first | refine thenQ_ret ?_ | refine blockQ_ret ?_)
 refine RT ?_
 exact ⟨(by simp only [packV, V.erase, V.trav, V.travL, V.travLL, zz, zf, zy, E2a, E3a] <;> rfl), (by intro L hL; simp only [packV, V.labels, V.labelsL, List.append_nil, List.nil_append] at hL; (try rw [List.mem_append] at hL); (try rw [List.mem_append] at hL); rcases hL with hL | hL <;>  first | (have := r2a L hL; omega) | (have := r3a L hL; omega)), (by simp only [packV, V.labels, V.labelsL, List.append_nil, List.nil_append] at nda ⊢; exact nda)⟩
theorem p_laws_toSession (x : Session) (h : smSession x) : Pure Tryz.prog 185 [.agg (cSession x)] (.agg (cSession x)) := by
 refine Pure.of (by simp [V.dat, V.datL, V.datLL, zz, zf, zy]) (OkCall.enter' tab_ok Tryz.func185 rfl (t := [.agg (cSession x), .any, .any, .any, .any, .any, .any, .any, .any, .any, .any, .any, .any, .any, .any, .any, .any, .any, .any, .any, .any, .any, .any, .any]) rfl ?_)
 refine OQ ?_
 iterate 2 (refine EV ?_)
 refine ON ?_
 refine OQ ?_
 refine EV ?_
 refine ON ?_
 refine OQ ?_
 iterate 3 (refine EV ?_)
 refine OkOps.storeN tab_ok rfl rfl (by simp only [kE, kT, kL, kC] <;> rfl) ⟨_, _, by simp only [kE]; rfl⟩ (by first | (simp [V.labelsL, V.labelsLL, V.labels, zz, zf, zy]; done) | (intro h; simp [V.labelsL, V.labels] at h)) (fun W hW hF => by have f0 := far0 hW (fun h => by omega); have p0 := fun i o e => hW.ptr (1) i o e (by omega);  have p1 := fun i o e => hW.ptr (2) i o e (by omega); simp only [List.map_cons, List.map_nil, hW.int, hW.str, hW.bool, hW.any, hW.tup0, hW.agg, hW.nilV, hF.ptr, f0, p0, p1, kP] <;> rfl) ?_
 refine ON ?_
 refine Ok.seq ?_
 refine Ok.drop [4, 5, 6] (by simp only [kover] <;> rfl) ?_
 refine Ok.region ?_
 iterate 3 (refine EV ?_)
 refine OkOps.storeN tab_ok rfl rfl (by simp only [kE, kT, kL, kC] <;> rfl) ⟨_, _, by simp only [kE]; rfl⟩ (by first | (simp [V.labelsL, V.labelsLL, V.labels, zz, zf, zy]; done) | (intro h; simp [V.labelsL, V.labels] at h)) (fun W hW hF => by have f0 := far0 hW (fun h => by omega); have p0 := fun i o e => hW.ptr (1) i o e (by omega);  have p1 := fun i o e => hW.ptr (2) i o e (by omega); simp only [List.map_cons, List.map_nil, hW.int, hW.str, hW.bool, hW.any, hW.tup0, hW.agg, hW.nilV, hF.ptr, f0, p0, p1, kP] <;> rfl) ?_
 refine ON ?_
 refine Ok.seq ?_
 refine Ok.drop [7, 8, 9] (by simp only [kover] <;> rfl) ?_
 refine Ok.region ?_
 iterate 3 (refine EV ?_)
 refine OkOps.storeN tab_ok rfl rfl (by simp only [kE, kT, kL, kC] <;> rfl) ⟨_, _, by simp only [kE]; rfl⟩ (by first | (simp [V.labelsL, V.labelsLL, V.labels, zz, zf, zy]; done) | (intro h; simp [V.labelsL, V.labels] at h)) (fun W hW hF => by have f0 := far0 hW (fun h => by omega); have p0 := fun i o e => hW.ptr (1) i o e (by omega);  have p1 := fun i o e => hW.ptr (2) i o e (by omega); simp only [List.map_cons, List.map_nil, hW.int, hW.str, hW.bool, hW.any, hW.tup0, hW.agg, hW.nilV, hF.ptr, f0, p0, p1, kP] <;> rfl) ?_
 refine ON ?_
 refine Ok.seq ?_
 refine Ok.drop [10, 11, 12] (by simp only [kover] <;> rfl) ?_
 refine Ok.region ?_
 iterate 3 (refine EV ?_)
 refine OkOps.storeN tab_ok rfl rfl (by simp only [kE, kT, kL, kC] <;> rfl) ⟨_, _, by simp only [kE]; rfl⟩ (by first | (simp [V.labelsL, V.labelsLL, V.labels, zz, zf, zy]; done) | (intro h; simp [V.labelsL, V.labels] at h)) (fun W hW hF => by have f0 := far0 hW (fun h => by omega); have p0 := fun i o e => hW.ptr (1) i o e (by omega);  have p1 := fun i o e => hW.ptr (2) i o e (by omega); simp only [List.map_cons, List.map_nil, hW.int, hW.str, hW.bool, hW.any, hW.tup0, hW.agg, hW.nilV, hF.ptr, f0, p0, p1, kP] <;> rfl) ?_
 refine ON ?_
 refine Ok.seq ?_
 refine Ok.drop [13, 14, 15] (by simp only [kover] <;> rfl) ?_
 refine Ok.region ?_
 iterate 3 (refine EV ?_)
 refine OkOps.storeN tab_ok rfl rfl (by simp only [kE, kT, kL, kC] <;> rfl) ⟨_, _, by simp only [kE]; rfl⟩ (by first | (simp [V.labelsL, V.labelsLL, V.labels, zz, zf, zy]; done) | (intro h; simp [V.labelsL, V.labels] at h)) (fun W hW hF => by have f0 := far0 hW (fun h => by omega); have p0 := fun i o e => hW.ptr (1) i o e (by omega);  have p1 := fun i o e => hW.ptr (2) i o e (by omega); simp only [List.map_cons, List.map_nil, hW.int, hW.str, hW.bool, hW.any, hW.tup0, hW.agg, hW.nilV, hF.ptr, f0, p0, p1, kP] <;> rfl) ?_
 refine ON ?_
 refine Ok.seq ?_
 refine Ok.drop [16, 17, 18] (by simp only [kover] <;> rfl) ?_
 refine Ok.region ?_
 iterate 2 (refine EV ?_)
 obtain ⟨L0a, e0a, hXa, q0a, E0a, M0a, N0a, nda, rga⟩ := ownSInt (3) (x.view)
 obtain ⟨ma, hma⟩ : ∃ m, 3 + 1 + V.cnt (.sl 0 1 0 ((x.view).map cZ)) = m + 1 := ⟨3 + V.cnt (.sl 0 1 0 ((x.view).map cZ)), by omega⟩
 have r0a : ∀ z ∈ V.labels (.sl (L0a + 1) 1 0 e0a), 3 + 1 ≤ z ∧ z < ma + 1 := fun z hz => by have := rga z (by first | exact hz | (simp only [V.labelsL, V.labels, List.mem_append] at hz ⊢; simp only [hz, true_or, or_true])); omega
 refine OkOps.S' rfl (OpS.pure' rfl (by simp only [kE, kT, kL, kC] <;> rfl) (by simp only [kE, kT, kL, kC, V.eraseL, V.erase, V.travL, V.trav, zz, zf, zy] <;> rfl) cl54 (by simp [V.dat, V.datL, V.datLL, zz, zf, zy]) (p_laws_toIntS x.view h.2.2)) hma (by simp only [kP, hXa] <;> rfl) ?_
 refine EV ?_
 refine OkOps.storeN tab_ok rfl rfl (by simp only [kE, kT, kL, kC] <;> rfl) ⟨_, _, by simp only [kE]; rfl⟩ (by first | (simp [V.labelsL, V.labelsLL, V.labels, zz, zf, zy]; done) | (intro h; simp only [V.labelsL, V.labels, List.mem_append, List.append_nil, List.nil_append, List.not_mem_nil, or_false, false_or] at h; first | (have := r0a _ h; omega))) (fun W hW hF => by obtain ⟨z0a, zz0a⟩ := farA hW r0a (fun y h1 h2 h => by omega); have f0 := far0 hW (fun h => by omega); have p0 := fun i o e => hW.ptr (1) i o e (by omega);  have p1 := fun i o e => hW.ptr (2) i o e (by omega); simp only [List.map_cons, List.map_nil, hW.int, hW.str, hW.bool, hW.any, hW.tup0, hW.agg, hW.nilV, hF.ptr, z0a, zz0a, f0, p0, p1, kP] <;> rfl) ?_
 refine ON ?_
 refine Ok.seq ?_
 refine Ok.drop [19, 20, 21, 22] (by simp only [kover] <;> rfl) ?_
 refine Ok.region ?_
 refine EV ?_
 refine OkOps.storeN tab_ok rfl rfl (by simp only [kE, kT, kL, kC] <;> rfl) ⟨_, _, by simp only [kE]; rfl⟩ (by first | (simp [V.labelsL, V.labelsLL, V.labels, zz, zf, zy]; done) | (intro h; simp only [V.labelsL, V.labels, List.mem_append, List.append_nil, List.nil_append, List.not_mem_nil, or_false, false_or] at h; first | (have := r0a _ h; omega))) (fun W hW hF => by obtain ⟨z0a, zz0a⟩ := farA hW r0a (fun y h1 h2 h => by omega); have f0 := far0 hW (fun h => by omega); have p0 := fun i o e => hW.ptr (1) i o e (by omega);  have p2 := fun i o e => hW.ptr (3) i o e (by omega); simp only [List.map_cons, List.map_nil, hW.int, hW.str, hW.bool, hW.any, hW.tup0, hW.agg, hW.nilV, hF.ptr, z0a, zz0a, f0, p0, p2, kP] <;> rfl) ?_
 refine ON ?_
 refine Ok.ret ?_
 with_reducible repeat (first | refine thenQ_ret ?_ | refine blockQ_ret ?_)
 refine RT ?_
 exact ⟨(by simp only [packV, V.erase, V.trav, V.travL, V.travLL, zz, zf, zy, E0a] <;> rfl), (by intro L hL; simp only [packV, V.labels, V.labelsL, List.append_nil, List.nil_append] at hL;  first | (have := r0a L hL; omega)), (by simp only [packV, V.labels, V.labelsL, List.append_nil, List.nil_append] at nda ⊢; exact nda)⟩
theorem p_laws_toServer (x : Server) (h : smServer x) : Pure Tryz.prog 134 [.agg (cServer x)] (.agg (cServer x)) := by
 refine Pure.of (by simp [V.dat, V.datL, V.datLL, zz, zf, zy]) (OkCall.enter' tab_ok Tryz.func134 rfl (t := [.agg (cServer x), .any, .any, .any, .any, .any, .any, .any, .any, .any, .any, .any, .any, .any, .any, .any]) rfl ?_)
 refine OQ ?_
 iterate 2 (refine EV ?_)
 refine ON ?_
 refine OQ ?_
 refine EV ?_
 refine ON ?_
 refine OQ ?_
 iterate 2 (refine EV ?_)
 obtain ⟨L2a, e2a, L3a, e3a, hXa, q2a, E2a, M2a, N2a, q3a, E3a, M3a, N3a, nda, rga⟩ := ownKept (3) (x.kept)
 obtain ⟨ma, hma⟩ : ∃ m, 3 + 1 + V.cnt (.agg (cKept (x.kept))) = m + 1 := ⟨3 + V.cnt (.agg (cKept (x.kept))), by omega⟩
 have r2a : ∀ z ∈ V.labels (.sl (L2a + 1) 7 0 e2a), 3 + 1 ≤ z ∧ z < ma + 1 := fun z hz => by have := rga z (by first | exact hz | (simp only [V.labelsL, V.labels, List.mem_append] at hz ⊢; simp only [hz, true_or, or_true])); omega
 have r3a : ∀ z ∈ V.labels (.sl (L3a + 1) 1 0 e3a), 3 + 1 ≤ z ∧ z < ma + 1 := fun z hz => by have := rga z (by first | exact hz | (simp only [V.labelsL, V.labels, List.mem_append] at hz ⊢; simp only [hz, true_or, or_true])); omega
 refine OkOps.S' rfl (OpS.pure' rfl (by simp only [kE, kT, kL, kC] <;> rfl) (by simp only [kE, kT, kL, kC, V.eraseL, V.erase, V.travL, V.trav, zz, zf, zy] <;> rfl) cl184 (by simp [V.dat, V.datL, V.datLL, zz, zf, zy]) (p_laws_toKept x.kept h.1)) hma (by simp only [kP, hXa] <;> rfl) ?_
 refine EV ?_
 refine OkOps.storeN tab_ok rfl rfl (by simp only [kE, kT, kL, kC] <;> rfl) ⟨_, _, by simp only [kE]; rfl⟩ (by first | (simp [V.labelsL, V.labelsLL, V.labels, zz, zf, zy]; done) | (intro h; simp only [V.labelsL, V.labels, List.mem_append, List.append_nil, List.nil_append, List.not_mem_nil, or_false, false_or] at h; rcases h with h | h <;> first | (have := r2a _ h; omega) | (have := r3a _ h; omega))) (fun W hW hF => by obtain ⟨z2a, zz2a⟩ := farA hW r2a (fun y h1 h2 h => by omega); obtain ⟨z3a, zz3a⟩ := farA hW r3a (fun y h1 h2 h => by omega); have f0 := far0 hW (fun h => by omega); have p0 := fun i o e => hW.ptr (1) i o e (by omega);  have p1 := fun i o e => hW.ptr (2) i o e (by omega); simp only [List.map_cons, List.map_nil, hW.int, hW.str, hW.bool, hW.any, hW.tup0, hW.agg, hW.nilV, hF.ptr, z2a, zz2a, z3a, zz3a, f0, p0, p1, kP] <;> rfl) ?_
 refine ON ?_
 refine Ok.seq ?_
 refine Ok.drop [4, 5, 6, 7] (by simp only [kover] <;> rfl) ?_
 refine Ok.region ?_
 iterate 2 (refine EV ?_)
 obtain ⟨L5b, e5b, hXb, q5b, E5b, M5b, N5b, ndb, rgb⟩ := ownSession (ma) (x.session)
 obtain ⟨mb, hmb⟩ : ∃ m, ma + 1 + V.cnt (.agg (cSession (x.session))) = m + 1 := ⟨ma + V.cnt (.agg (cSession (x.session))), by omega⟩
 have r5b : ∀ z ∈ V.labels (.sl (L5b + 1) 1 0 e5b), ma + 1 ≤ z ∧ z < mb + 1 := fun z hz => by have := rgb z (by first | exact hz | (simp only [V.labelsL, V.labels, List.mem_append] at hz ⊢; simp only [hz, true_or, or_true])); omega
 refine OkOps.S' rfl (OpS.pure' rfl (by simp only [kE, kT, kL, kC] <;> rfl) (by simp only [kE, kT, kL, kC, E2a, M2a, N2a, E3a, M3a, N3a, V.eraseL, V.erase, V.travL, V.trav, zz, zf, zy] <;> rfl) cl185 (by simp [V.dat, V.datL, V.datLL, zz, zf, zy]) (p_laws_toSession x.session h.2)) hmb (by simp only [kP, hXb] <;> rfl) ?_
 refine EV ?_
 refine OkOps.storeN tab_ok rfl rfl (by simp only [kE, kT, kL, kC] <;> rfl) ⟨_, _, by simp only [kE]; rfl⟩ (by first | (simp [V.labelsL, V.labelsLL, V.labels, zz, zf, zy]; done) | (intro h; simp only [V.labelsL, V.labels, List.mem_append, List.append_nil, List.nil_append, List.not_mem_nil, or_false, false_or] at h; rcases h with h | h | h <;> first | (have := r2a _ h; omega) | (have := r3a _ h; omega) | (have := r5b _ h; omega))) (fun W hW hF => by obtain ⟨z2a, zz2a⟩ := farA hW r2a (fun y h1 h2 h => by omega); obtain ⟨z3a, zz3a⟩ := farA hW r3a (fun y h1 h2 h => by omega); obtain ⟨z5b, zz5b⟩ := farA hW r5b (fun y h1 h2 h => by omega); have f0 := far0 hW (fun h => by omega); have p0 := fun i o e => hW.ptr (1) i o e (by omega);  have p1 := fun i o e => hW.ptr (2) i o e (by omega); simp only [List.map_cons, List.map_nil, hW.int, hW.str, hW.bool, hW.any, hW.tup0, hW.agg, hW.nilV, hF.ptr, z2a, zz2a, z3a, zz3a, z5b, zz5b, f0, p0, p1, kP] <;> rfl) ?_
 refine ON ?_
 refine Ok.seq ?_
 refine Ok.drop [8, 9, 10, 11] (by simp only [kover] <;> rfl) ?_
 refine Ok.region ?_
 iterate 3 (refine EV ?_)
 refine OkOps.storeN tab_ok rfl rfl (by simp only [kE, kT, kL, kC] <;> rfl) ⟨_, _, by simp only [kE]; rfl⟩ (by first | (simp [V.labelsL, V.labelsLL, V.labels, zz, zf, zy]; done) | (intro h; simp only [V.labelsL, V.labels, List.mem_append, List.append_nil, List.nil_append, List.not_mem_nil, or_false, false_or] at h; rcases h with h | h | h <;> first | (have := r2a _ h; omega) | (have := r3a _ h; omega) | (have := r5b _ h; omega))) (fun W hW hF => by obtain ⟨z2a, zz2a⟩ := farA hW r2a (fun y h1 h2 h => by omega); obtain ⟨z3a, zz3a⟩ := farA hW r3a (fun y h1 h2 h => by omega); obtain ⟨z5b, zz5b⟩ := farA hW r5b (fun y h1 h2 h => by omega); have f0 := far0 hW (fun h => by omega); have p0 := fun i o e => hW.ptr (1) i o e (by omega);  have p1 := fun i o e => hW.ptr (2) i o e (by omega); simp only [List.map_cons, List.map_nil, hW.int, hW.str, hW.bool, hW.any, hW.tup0, hW.agg, hW.nilV, hF.ptr, z2a, zz2a, z3a, zz3a, z5b, zz5b, f0, p0, p1, kP] <;> rfl) ?_
 refine ON ?_
 refine Ok.seq ?_
 refine Ok.drop [12, 13, 14] (by simp only [kover] <;> rfl) ?_
 refine Ok.region ?_
 refine EV ?_
 refine OkOps.storeN tab_ok rfl rfl (by simp only [kE, kT, kL, kC] <;> rfl) ⟨_, _, by simp only [kE]; rfl⟩ (by first | (simp [V.labelsL, V.labelsLL, V.labels, zz, zf, zy]; done) | (intro h; simp only [V.labelsL, V.labels, List.mem_append, List.append_nil, List.nil_append, List.not_mem_nil, or_false, false_or] at h; rcases h with h | h | h <;> first | (have := r2a _ h; omega) | (have := r3a _ h; omega) | (have := r5b _ h; omega))) (fun W hW hF => by obtain ⟨z2a, zz2a⟩ := farA hW r2a (fun y h1 h2 h => by omega); obtain ⟨z3a, zz3a⟩ := farA hW r3a (fun y h1 h2 h => by omega); obtain ⟨z5b, zz5b⟩ := farA hW r5b (fun y h1 h2 h => by omega); have f0 := far0 hW (fun h => by omega); have p0 := fun i o e => hW.ptr (1) i o e (by omega);  have p2 := fun i o e => hW.ptr (3) i o e (by omega); simp only [List.map_cons, List.map_nil, hW.int, hW.str, hW.bool, hW.any, hW.tup0, hW.agg, hW.nilV, hF.ptr, z2a, zz2a, z3a, zz3a, z5b, zz5b, f0, p0, p2, kP] <;> rfl) ?_
 refine ON ?_
 refine Ok.ret ?_
 with_reducible repeat (first | refine thenQ_ret ?_ | refine blockQ_ret ?_)
 refine RT ?_
 exact ⟨(by simp only [packV, V.erase, V.trav, V.travL, V.travLL, zz, zf, zy, E2a, E3a, E5b] <;> rfl), (by intro L hL; simp only [packV, V.labels, V.labelsL, List.append_nil, List.nil_append] at hL; (try rw [List.mem_append] at hL); (try rw [List.mem_append] at hL); rcases hL with hL | hL | hL <;>  first | (have := r2a L hL; omega) | (have := r3a L hL; omega) | (have := r5b L hL; omega)), (by have n1 := nda; have n2 := ndb; simp only [V.labels, V.labelsL, List.append_nil, List.nil_append] at n1 n2; simp only [packV, V.labels, V.labelsL, List.append_nil, List.nil_append]; rw [← List.append_assoc]; rw [List.nodup_append]; exact ⟨n1, n2, fun y hy z hz h => by rcases List.mem_append.1 hy with hy | hy <;> (have q2 := r5b z hz; first | (have q1 := r2a y hy; omega) | (have q1 := r3a y hy; omega))⟩)⟩
end Go.Proofs.YtjhfabimacljhaaGreat.K

/- A link as data of the call's own. Printed by genlink.py. -/
namespace Go.Proofs.YtjhfabimacljhaaGreat.K
open Go Go.RowKit
set_option linter.unusedVariables false
set_option linter.unusedSimpArgs false
theorem ownLink (n : Nat) (x : Link) : ∃ (L1 : Nat) (e1 : List (List V)), V.tag (n + 1) (.agg (cLink x)) = .agg [.int .i64 x.epoch, .sl (L1 + 1) 1 0 e1, .int .i64 x.next, .int .i64 x.want] ∧ (∀ r ∈ e1, isText r) ∧ V.travLL (fun sz => V.sl 0 sz 0 []) (fun _ sz _ es => V.sl 0 sz 0 es) (fun _ _ o e => V.ptr 0 0 o e) e1 = x.way.map cS ∧ (∀ K, V.travLL (fun sz => V.sl 0 sz 0 []) (fun _ sz _ es => V.sl 0 sz 0 es) (fun _ _ o e => V.ptr 0 0 o e) (V.mkLL K e1) = V.mkLL K (x.way.map cS)) ∧ V.mnLL e1 = V.mnLL (x.way.map cS) ∧ (V.labelsL [.int .i64 x.epoch, .sl (L1 + 1) 1 0 e1, .int .i64 x.next, .int .i64 x.want]).Nodup ∧ (∀ z ∈ V.labelsL [.int .i64 x.epoch, .sl (L1 + 1) 1 0 e1, .int .i64 x.next, .int .i64 x.want], n + 1 ≤ z ∧ z < n + 1 + V.cnt (.agg (cLink x))) := by
  have hX : V.tagL (n + 1) (cLink x) = [.int .i64 x.epoch, .sl (n + 1) 1 0 (V.tagLL (n + 1 + 1) (x.way.map cS)), .int .i64 x.next, .int .i64 x.want] := by
    simp only [cLink, V.tagL, V.tag, V.cnt, Nat.add_zero]
  have hl := tagL_labels (cLink x) (n + 1)
  rw [hX] at hl
  have q1 := fun r hr => own_string x.way (n + 1) r hr
  have d1 := erase_tagd (es := V.tagLL (n + 1 + 1) (x.way.map cS)) (n := n + 1 + 1) (by simp [zz, zf, zy]) (by simp [V.eraseLL, zz, zf, zy]) rfl (fun r hr => pl_string (q1 r hr))
  have m1 := mnLL_erase (V.tagLL (n + 1 + 1) (x.way.map cS))
  rw [show V.eraseLL (V.tagLL (n + 1 + 1) (x.way.map cS)) = x.way.map cS from d1.1] at m1
  refine ⟨n, _, congrArg V.agg hX, q1, d1.1, d1.2, m1.symm, ?_, ?_⟩
  · rw [hl]; exact List.nodup_range'
  · intro z hz; rw [hl, List.mem_range'_1] at hz; exact hz
end Go.Proofs.YtjhfabimacljhaaGreat.K

/- Walks: pairs turned into the program's, as data of the call's own. Printed by w2.py. -/
namespace Go.Proofs.YtjhfabimacljhaaGreat.K
open Go Go.RowKit
set_option linter.unusedVariables false
set_option linter.unusedSimpArgs false
set_option maxHeartbeats 4000000
set_option maxRecDepth 20000
theorem p_laws_toLink (x : Link) (h : smLink x) : Pure Tryz.prog 186 [.agg (cLink x)] (.agg (cLink x)) := by
 refine Pure.of (by simp [V.dat, V.datL, V.datLL, zz, zf, zy]) (OkCall.enter' tab_ok Tryz.func186 rfl (t := [.agg (cLink x), .any, .any, .any, .any, .any, .any, .any, .any, .any, .any, .any, .any, .any, .any, .any, .any, .any]) rfl ?_)
 refine OQ ?_
 iterate 2 (refine EV ?_)
 refine ON ?_
 refine OQ ?_
 refine EV ?_
 refine ON ?_
 refine OQ ?_
 iterate 3 (refine EV ?_)
 refine OkOps.storeN tab_ok rfl rfl (by simp only [kE, kT, kL, kC] <;> rfl) ⟨_, _, by simp only [kE]; rfl⟩ (by first | (simp [V.labelsL, V.labelsLL, V.labels, zz, zf, zy]; done) | (intro h; simp [V.labelsL, V.labels] at h)) (fun W hW hF => by have f0 := far0 hW (fun h => by omega); have p0 := fun i o e => hW.ptr (1) i o e (by omega);  have p1 := fun i o e => hW.ptr (2) i o e (by omega); simp only [List.map_cons, List.map_nil, hW.int, hW.str, hW.bool, hW.any, hW.tup0, hW.agg, hW.nilV, hF.ptr, f0, p0, p1, kP] <;> rfl) ?_
 refine ON ?_
 refine Ok.seq ?_
 refine Ok.drop [4, 5, 6] (by simp only [kover] <;> rfl) ?_
 refine Ok.region ?_
 iterate 2 (refine EV ?_)
 obtain ⟨L0a, e0a, hXa, q0a, E0a, M0a, N0a, nda, rga⟩ := ownSString (3) (x.way)
 obtain ⟨ma, hma⟩ : ∃ m, 3 + 1 + V.cnt (.sl 0 1 0 ((x.way).map cS)) = m + 1 := ⟨3 + V.cnt (.sl 0 1 0 ((x.way).map cS)), by omega⟩
 have r0a : ∀ z ∈ V.labels (.sl (L0a + 1) 1 0 e0a), 3 + 1 ≤ z ∧ z < ma + 1 := fun z hz => by have := rga z (by first | exact hz | (simp only [V.labelsL, V.labels, List.mem_append] at hz ⊢; simp only [hz, true_or, or_true])); omega
 refine OkOps.S' rfl (OpS.pure' rfl (by simp only [kE, kT, kL, kC] <;> rfl) (by simp only [kE, kT, kL, kC, V.eraseL, V.erase, V.travL, V.trav, zz, zf, zy] <;> rfl) cl187 (by simp [V.dat, V.datL, V.datLL, zz, zf, zy]) (p_laws_toStringS x.way h.1)) hma (by simp only [kP, hXa] <;> rfl) ?_
 refine EV ?_
 refine OkOps.storeN tab_ok rfl rfl (by simp only [kE, kT, kL, kC] <;> rfl) ⟨_, _, by simp only [kE]; rfl⟩ (by first | (simp [V.labelsL, V.labelsLL, V.labels, zz, zf, zy]; done) | (intro h; simp only [V.labelsL, V.labels, List.mem_append, List.append_nil, List.nil_append, List.not_mem_nil, or_false, false_or] at h; first | (have := r0a _ h; omega))) (fun W hW hF => by obtain ⟨z0a, zz0a⟩ := farA hW r0a (fun y h1 h2 h => by omega); have f0 := far0 hW (fun h => by omega); have p0 := fun i o e => hW.ptr (1) i o e (by omega);  have p1 := fun i o e => hW.ptr (2) i o e (by omega); simp only [List.map_cons, List.map_nil, hW.int, hW.str, hW.bool, hW.any, hW.tup0, hW.agg, hW.nilV, hF.ptr, z0a, zz0a, f0, p0, p1, kP] <;> rfl) ?_
 refine ON ?_
 refine Ok.seq ?_
 refine Ok.drop [7, 8, 9, 10] (by simp only [kover] <;> rfl) ?_
 refine Ok.region ?_
 iterate 3 (refine EV ?_)
 refine OkOps.storeN tab_ok rfl rfl (by simp only [kE, kT, kL, kC] <;> rfl) ⟨_, _, by simp only [kE]; rfl⟩ (by first | (simp [V.labelsL, V.labelsLL, V.labels, zz, zf, zy]; done) | (intro h; simp only [V.labelsL, V.labels, List.mem_append, List.append_nil, List.nil_append, List.not_mem_nil, or_false, false_or] at h; first | (have := r0a _ h; omega))) (fun W hW hF => by obtain ⟨z0a, zz0a⟩ := farA hW r0a (fun y h1 h2 h => by omega); have f0 := far0 hW (fun h => by omega); have p0 := fun i o e => hW.ptr (1) i o e (by omega);  have p1 := fun i o e => hW.ptr (2) i o e (by omega); simp only [List.map_cons, List.map_nil, hW.int, hW.str, hW.bool, hW.any, hW.tup0, hW.agg, hW.nilV, hF.ptr, z0a, zz0a, f0, p0, p1, kP] <;> rfl) ?_
 refine ON ?_
 refine Ok.seq ?_
 refine Ok.drop [11, 12, 13] (by simp only [kover] <;> rfl) ?_
 refine Ok.region ?_
 iterate 3 (refine EV ?_)
 refine OkOps.storeN tab_ok rfl rfl (by simp only [kE, kT, kL, kC] <;> rfl) ⟨_, _, by simp only [kE]; rfl⟩ (by first | (simp [V.labelsL, V.labelsLL, V.labels, zz, zf, zy]; done) | (intro h; simp only [V.labelsL, V.labels, List.mem_append, List.append_nil, List.nil_append, List.not_mem_nil, or_false, false_or] at h; first | (have := r0a _ h; omega))) (fun W hW hF => by obtain ⟨z0a, zz0a⟩ := farA hW r0a (fun y h1 h2 h => by omega); have f0 := far0 hW (fun h => by omega); have p0 := fun i o e => hW.ptr (1) i o e (by omega);  have p1 := fun i o e => hW.ptr (2) i o e (by omega); simp only [List.map_cons, List.map_nil, hW.int, hW.str, hW.bool, hW.any, hW.tup0, hW.agg, hW.nilV, hF.ptr, z0a, zz0a, f0, p0, p1, kP] <;> rfl) ?_
 refine ON ?_
 refine Ok.seq ?_
 refine Ok.drop [14, 15, 16] (by simp only [kover] <;> rfl) ?_
 refine Ok.region ?_
 refine EV ?_
 refine OkOps.storeN tab_ok rfl rfl (by simp only [kE, kT, kL, kC] <;> rfl) ⟨_, _, by simp only [kE]; rfl⟩ (by first | (simp [V.labelsL, V.labelsLL, V.labels, zz, zf, zy]; done) | (intro h; simp only [V.labelsL, V.labels, List.mem_append, List.append_nil, List.nil_append, List.not_mem_nil, or_false, false_or] at h; first | (have := r0a _ h; omega))) (fun W hW hF => by obtain ⟨z0a, zz0a⟩ := farA hW r0a (fun y h1 h2 h => by omega); have f0 := far0 hW (fun h => by omega); have p0 := fun i o e => hW.ptr (1) i o e (by omega);  have p2 := fun i o e => hW.ptr (3) i o e (by omega); simp only [List.map_cons, List.map_nil, hW.int, hW.str, hW.bool, hW.any, hW.tup0, hW.agg, hW.nilV, hF.ptr, z0a, zz0a, f0, p0, p2, kP] <;> rfl) ?_
 refine ON ?_
 refine Ok.ret ?_
 with_reducible repeat (first | refine thenQ_ret ?_ | refine blockQ_ret ?_)
 refine RT ?_
 exact ⟨(by simp only [packV, V.erase, V.trav, V.travL, V.travLL, zz, zf, zy, E0a] <;> rfl), (by intro L hL; simp only [packV, V.labels, V.labelsL, List.append_nil, List.nil_append] at hL;  first | (have := r0a L hL; omega)), (by simp only [packV, V.labels, V.labelsL, List.append_nil, List.nil_append] at nda ⊢; exact nda)⟩
theorem p_laws_toSync (x : Sync) (h : smSync x) : Pure Tryz.prog 135 [.agg (cSync x)] (.agg (cSync x)) := by
 refine Pure.of (by simp [V.dat, V.datL, V.datLL, zz, zf, zy]) (OkCall.enter' tab_ok Tryz.func135 rfl (t := [.agg (cSync x), .any, .any, .any, .any, .any, .any, .any, .any, .any, .any, .any, .any, .any, .any, .any, .any, .any, .any, .any, .any, .any, .any, .any, .any]) rfl ?_)
 refine OQ ?_
 iterate 2 (refine EV ?_)
 refine ON ?_
 refine OQ ?_
 refine EV ?_
 refine ON ?_
 refine OQ ?_
 iterate 3 (refine EV ?_)
 refine OkOps.storeN tab_ok rfl rfl (by simp only [kE, kT, kL, kC] <;> rfl) ⟨_, _, by simp only [kE]; rfl⟩ (by first | (simp [V.labelsL, V.labelsLL, V.labels, zz, zf, zy]; done) | (intro h; simp [V.labelsL, V.labels] at h)) (fun W hW hF => by have f0 := far0 hW (fun h => by omega); have p0 := fun i o e => hW.ptr (1) i o e (by omega);  have p1 := fun i o e => hW.ptr (2) i o e (by omega); simp only [List.map_cons, List.map_nil, hW.int, hW.str, hW.bool, hW.any, hW.tup0, hW.agg, hW.nilV, hF.ptr, f0, p0, p1, kP] <;> rfl) ?_
 refine ON ?_
 refine Ok.seq ?_
 refine Ok.drop [4, 5, 6] (by simp only [kover] <;> rfl) ?_
 refine Ok.region ?_
 iterate 2 (refine EV ?_)
 obtain ⟨L1a, e1a, hXa, q1a, E1a, M1a, N1a, nda, rga⟩ := ownLink (3) (x.link)
 obtain ⟨ma, hma⟩ : ∃ m, 3 + 1 + V.cnt (.agg (cLink (x.link))) = m + 1 := ⟨3 + V.cnt (.agg (cLink (x.link))), by omega⟩
 have r1a : ∀ z ∈ V.labels (.sl (L1a + 1) 1 0 e1a), 3 + 1 ≤ z ∧ z < ma + 1 := fun z hz => by have := rga z (by first | exact hz | (simp only [V.labelsL, V.labels, List.mem_append] at hz ⊢; simp only [hz, true_or, or_true])); omega
 refine OkOps.S' rfl (OpS.pure' rfl (by simp only [kE, kT, kL, kC] <;> rfl) (by simp only [kE, kT, kL, kC, V.eraseL, V.erase, V.travL, V.trav, zz, zf, zy] <;> rfl) cl186 (by simp [V.dat, V.datL, V.datLL, zz, zf, zy]) (p_laws_toLink x.link h.1)) hma (by simp only [kP, hXa] <;> rfl) ?_
 refine EV ?_
 refine OkOps.storeN tab_ok rfl rfl (by simp only [kE, kT, kL, kC] <;> rfl) ⟨_, _, by simp only [kE]; rfl⟩ (by first | (simp [V.labelsL, V.labelsLL, V.labels, zz, zf, zy]; done) | (intro h; simp only [V.labelsL, V.labels, List.mem_append, List.append_nil, List.nil_append, List.not_mem_nil, or_false, false_or] at h; first | (have := r1a _ h; omega))) (fun W hW hF => by obtain ⟨z1a, zz1a⟩ := farA hW r1a (fun y h1 h2 h => by omega); have f0 := far0 hW (fun h => by omega); have p0 := fun i o e => hW.ptr (1) i o e (by omega);  have p1 := fun i o e => hW.ptr (2) i o e (by omega); simp only [List.map_cons, List.map_nil, hW.int, hW.str, hW.bool, hW.any, hW.tup0, hW.agg, hW.nilV, hF.ptr, z1a, zz1a, f0, p0, p1, kP] <;> rfl) ?_
 refine ON ?_
 refine Ok.seq ?_
 refine Ok.drop [7, 8, 9, 10] (by simp only [kover] <;> rfl) ?_
 refine Ok.region ?_
 iterate 3 (refine EV ?_)
 refine OkOps.storeN tab_ok rfl rfl (by simp only [kE, kT, kL, kC] <;> rfl) ⟨_, _, by simp only [kE]; rfl⟩ (by first | (simp [V.labelsL, V.labelsLL, V.labels, zz, zf, zy]; done) | (intro h; simp only [V.labelsL, V.labels, List.mem_append, List.append_nil, List.nil_append, List.not_mem_nil, or_false, false_or] at h; first | (have := r1a _ h; omega))) (fun W hW hF => by obtain ⟨z1a, zz1a⟩ := farA hW r1a (fun y h1 h2 h => by omega); have f0 := far0 hW (fun h => by omega); have p0 := fun i o e => hW.ptr (1) i o e (by omega);  have p1 := fun i o e => hW.ptr (2) i o e (by omega); simp only [List.map_cons, List.map_nil, hW.int, hW.str, hW.bool, hW.any, hW.tup0, hW.agg, hW.nilV, hF.ptr, z1a, zz1a, f0, p0, p1, kP] <;> rfl) ?_
 refine ON ?_
 refine Ok.seq ?_
 refine Ok.drop [11, 12, 13] (by simp only [kover] <;> rfl) ?_
 refine Ok.region ?_
 iterate 2 (refine EV ?_)
 obtain ⟨L0b, e0b, hXb, q0b, E0b, M0b, N0b, ndb, rgb⟩ := ownSString (ma) (x.pieces)
 obtain ⟨mb, hmb⟩ : ∃ m, ma + 1 + V.cnt (.sl 0 1 0 ((x.pieces).map cS)) = m + 1 := ⟨ma + V.cnt (.sl 0 1 0 ((x.pieces).map cS)), by omega⟩
 have r0b : ∀ z ∈ V.labels (.sl (L0b + 1) 1 0 e0b), ma + 1 ≤ z ∧ z < mb + 1 := fun z hz => by have := rgb z (by first | exact hz | (simp only [V.labelsL, V.labels, List.mem_append] at hz ⊢; simp only [hz, true_or, or_true])); omega
 refine OkOps.S' rfl (OpS.pure' rfl (by simp only [kE, kT, kL, kC] <;> rfl) (by simp only [kE, kT, kL, kC, E1a, M1a, N1a, V.eraseL, V.erase, V.travL, V.trav, zz, zf, zy] <;> rfl) cl187 (by simp [V.dat, V.datL, V.datLL, zz, zf, zy]) (p_laws_toStringS x.pieces h.2.1)) hmb (by simp only [kP, hXb] <;> rfl) ?_
 refine EV ?_
 refine OkOps.storeN tab_ok rfl rfl (by simp only [kE, kT, kL, kC] <;> rfl) ⟨_, _, by simp only [kE]; rfl⟩ (by first | (simp [V.labelsL, V.labelsLL, V.labels, zz, zf, zy]; done) | (intro h; simp only [V.labelsL, V.labels, List.mem_append, List.append_nil, List.nil_append, List.not_mem_nil, or_false, false_or] at h; rcases h with h | h <;> first | (have := r1a _ h; omega) | (have := r0b _ h; omega))) (fun W hW hF => by obtain ⟨z1a, zz1a⟩ := farA hW r1a (fun y h1 h2 h => by omega); obtain ⟨z0b, zz0b⟩ := farA hW r0b (fun y h1 h2 h => by omega); have f0 := far0 hW (fun h => by omega); have p0 := fun i o e => hW.ptr (1) i o e (by omega);  have p1 := fun i o e => hW.ptr (2) i o e (by omega); simp only [List.map_cons, List.map_nil, hW.int, hW.str, hW.bool, hW.any, hW.tup0, hW.agg, hW.nilV, hF.ptr, z1a, zz1a, z0b, zz0b, f0, p0, p1, kP] <;> rfl) ?_
 refine ON ?_
 refine Ok.seq ?_
 refine Ok.drop [14, 15, 16, 17] (by simp only [kover] <;> rfl) ?_
 refine Ok.region ?_
 iterate 3 (refine EV ?_)
 refine OkOps.storeN tab_ok rfl rfl (by simp only [kE, kT, kL, kC] <;> rfl) ⟨_, _, by simp only [kE]; rfl⟩ (by first | (simp [V.labelsL, V.labelsLL, V.labels, zz, zf, zy]; done) | (intro h; simp only [V.labelsL, V.labels, List.mem_append, List.append_nil, List.nil_append, List.not_mem_nil, or_false, false_or] at h; rcases h with h | h <;> first | (have := r1a _ h; omega) | (have := r0b _ h; omega))) (fun W hW hF => by obtain ⟨z1a, zz1a⟩ := farA hW r1a (fun y h1 h2 h => by omega); obtain ⟨z0b, zz0b⟩ := farA hW r0b (fun y h1 h2 h => by omega); have f0 := far0 hW (fun h => by omega); have p0 := fun i o e => hW.ptr (1) i o e (by omega);  have p1 := fun i o e => hW.ptr (2) i o e (by omega); simp only [List.map_cons, List.map_nil, hW.int, hW.str, hW.bool, hW.any, hW.tup0, hW.agg, hW.nilV, hF.ptr, z1a, zz1a, z0b, zz0b, f0, p0, p1, kP] <;> rfl) ?_
 refine ON ?_
 refine Ok.seq ?_
 refine Ok.drop [18, 19, 20] (by simp only [kover] <;> rfl) ?_
 refine Ok.region ?_
 iterate 3 (refine EV ?_)
 refine OkOps.storeN tab_ok rfl rfl (by simp only [kE, kT, kL, kC] <;> rfl) ⟨_, _, by simp only [kE]; rfl⟩ (by first | (simp [V.labelsL, V.labelsLL, V.labels, zz, zf, zy]; done) | (intro h; simp only [V.labelsL, V.labels, List.mem_append, List.append_nil, List.nil_append, List.not_mem_nil, or_false, false_or] at h; rcases h with h | h <;> first | (have := r1a _ h; omega) | (have := r0b _ h; omega))) (fun W hW hF => by obtain ⟨z1a, zz1a⟩ := farA hW r1a (fun y h1 h2 h => by omega); obtain ⟨z0b, zz0b⟩ := farA hW r0b (fun y h1 h2 h => by omega); have f0 := far0 hW (fun h => by omega); have p0 := fun i o e => hW.ptr (1) i o e (by omega);  have p1 := fun i o e => hW.ptr (2) i o e (by omega); simp only [List.map_cons, List.map_nil, hW.int, hW.str, hW.bool, hW.any, hW.tup0, hW.agg, hW.nilV, hF.ptr, z1a, zz1a, z0b, zz0b, f0, p0, p1, kP] <;> rfl) ?_
 refine ON ?_
 refine Ok.seq ?_
 refine Ok.drop [21, 22, 23] (by simp only [kover] <;> rfl) ?_
 refine Ok.region ?_
 refine EV ?_
 refine OkOps.storeN tab_ok rfl rfl (by simp only [kE, kT, kL, kC] <;> rfl) ⟨_, _, by simp only [kE]; rfl⟩ (by first | (simp [V.labelsL, V.labelsLL, V.labels, zz, zf, zy]; done) | (intro h; simp only [V.labelsL, V.labels, List.mem_append, List.append_nil, List.nil_append, List.not_mem_nil, or_false, false_or] at h; rcases h with h | h <;> first | (have := r1a _ h; omega) | (have := r0b _ h; omega))) (fun W hW hF => by obtain ⟨z1a, zz1a⟩ := farA hW r1a (fun y h1 h2 h => by omega); obtain ⟨z0b, zz0b⟩ := farA hW r0b (fun y h1 h2 h => by omega); have f0 := far0 hW (fun h => by omega); have p0 := fun i o e => hW.ptr (1) i o e (by omega);  have p2 := fun i o e => hW.ptr (3) i o e (by omega); simp only [List.map_cons, List.map_nil, hW.int, hW.str, hW.bool, hW.any, hW.tup0, hW.agg, hW.nilV, hF.ptr, z1a, zz1a, z0b, zz0b, f0, p0, p2, kP] <;> rfl) ?_
 refine ON ?_
 refine Ok.ret ?_
 with_reducible repeat (first | refine thenQ_ret ?_ | refine blockQ_ret ?_)
 refine RT ?_
 exact ⟨(by simp only [packV, V.erase, V.trav, V.travL, V.travLL, zz, zf, zy, E1a, E0b] <;> rfl), (by intro L hL; simp only [packV, V.labels, V.labelsL, List.append_nil, List.nil_append] at hL; (try rw [List.mem_append] at hL); (try rw [List.mem_append] at hL); rcases hL with hL | hL <;>  first | (have := r1a L hL; omega) | (have := r0b L hL; omega)), (by have n1 := nda; have n2 := ndb; simp only [V.labels, V.labelsL, List.append_nil, List.nil_append] at n1 n2; simp only [packV, V.labels, V.labelsL, List.append_nil, List.nil_append]; rw [List.nodup_append]; exact ⟨n1, n2, fun y hy z hz h => by (have q2 := r0b z hz; first | (have q1 := r1a y hy; omega))⟩)⟩
theorem p_laws_toLetter (x : Letter) (h : smLetter x) : Pure Tryz.prog 136 [.agg (cLetter x)] (.agg (cLetter x)) := by
 refine Pure.of (by simp [V.dat, V.datL, V.datLL, zz, zf, zy]) (OkCall.enter' tab_ok Tryz.func136 rfl (t := [.agg (cLetter x), .any, .any, .any, .any, .any, .any, .any, .any, .any, .any]) rfl ?_)
 refine OQ ?_
 iterate 2 (refine EV ?_)
 refine ON ?_
 refine OQ ?_
 refine EV ?_
 refine ON ?_
 refine OQ ?_
 iterate 3 (refine EV ?_)
 refine OkOps.storeE tab_ok rfl rfl (by simp only [kE, kT, kL, kC] <;> rfl) ⟨_, _, by simp only [kE]; rfl⟩ (by first | (simp [V.labelsL, V.labelsLL, V.labels, zz, zf, zy]; done) | (simp [-List.map_map, -List.map_set, -List.map_drop, -List.map_take, -List.map_tail, -List.drop_one, V.labelsL, V.labelsLL, V.labels, zz, zf, zy]; done)) (by simp only [eq_self, V.updL, V.travL, V.travLL, V.trav, updS, updP, and_self, true_and, and_true, false_and, and_false, Nat.reduceEqDiff, Nat.reduceSub, Nat.le_refl, Nat.zero_le, ↓reduceIte, if_true, if_false, kP, zz, zf, zy] <;> rfl) (rfl) ?_
 refine ON ?_
 refine OQ ?_
 iterate 3 (refine EV ?_)
 refine OkOps.storeE tab_ok rfl rfl (by simp only [kE, kT, kL, kC] <;> rfl) ⟨_, _, by simp only [kE]; rfl⟩ (by first | (simp [V.labelsL, V.labelsLL, V.labels, zz, zf, zy]; done) | (simp [-List.map_map, -List.map_set, -List.map_drop, -List.map_take, -List.map_tail, -List.drop_one, V.labelsL, V.labelsLL, V.labels, zz, zf, zy]; done)) (by simp only [eq_self, V.updL, V.travL, V.travLL, V.trav, updS, updP, and_self, true_and, and_true, false_and, and_false, Nat.reduceEqDiff, Nat.reduceSub, Nat.le_refl, Nat.zero_le, ↓reduceIte, if_true, if_false, kP, zz, zf, zy] <;> rfl) (rfl) ?_
 refine ON ?_
 refine OQ ?_
 refine EV ?_
 refine OkOps.storeE tab_ok rfl rfl (by simp only [kE, kT, kL, kC] <;> rfl) ⟨_, _, by simp only [kE]; rfl⟩ (by first | (simp [V.labelsL, V.labelsLL, V.labels, zz, zf, zy]; done) | (simp [-List.map_map, -List.map_set, -List.map_drop, -List.map_take, -List.map_tail, -List.drop_one, V.labelsL, V.labelsLL, V.labels, zz, zf, zy]; done)) (by simp only [eq_self, V.updL, V.travL, V.travLL, V.trav, updS, updP, and_self, true_and, and_true, false_and, and_false, Nat.reduceEqDiff, Nat.reduceSub, Nat.le_refl, Nat.zero_le, ↓reduceIte, if_true, if_false, kP, zz, zf, zy] <;> rfl) (rfl) ?_
 refine ON ?_
 refine Ok.ret ?_
 with_reducible repeat (first | refine thenQ_ret ?_ | refine blockQ_ret ?_)
 refine RT ?_
 exact ⟨rfl, by simp [V.labels, V.labelsL, packV], by simp [V.labels, V.labelsL, packV]⟩
theorem p_laws_toSyncS (a : List Sync) (ha : a.length ≤ 1048576) (hz : ∀ z ∈ a, smSync z) : Pure Tryz.prog 75 [.sl 0 9 0 (a.map cSync)] (.sl 0 9 0 (a.map cSync)) := by
 refine Pure.of (by simp [V.dat, V.datL, V.datLL, zz, zf, zy]) (OkCall.enter' tab_ok Tryz.func75 rfl (t := [.sl 0 9 0 (a.map cSync), .any, .any, .any, .any, .any, .any, .any, .any, .any, .any, .any, .any, .any, .any, .any, .any, .any, .any, .any, .any, .any, .any]) rfl ?_)
 refine OQ ?_
 refine EV ?_
 refine ON ?_
 refine OQ ?_
 iterate 2 (refine EV ?_)
 refine OkOps.S' rfl (ok_makeSlice (a := a.length) (b := a.length) tab_ok (by simp only [kT] <;> rfl) (by simp only [kT] <;> rfl) (by decide) rfl rfl (by simp only [kE, kL] <;> rfl) (by simp only [kE, kL] <;> rfl) (by omega) (by omega) (by omega) (by show ((96 : Nat) : Int) * _ ≤ _; omega)) (by simp only [Nat.reduceAdd] <;> rfl) (by simp only [kP, Int.toNat_natCast] <;> rfl) ?_
 refine EV ?_
 refine ON ?_
 refine Ok.seq ?_
 refine Ok.seq ?_
 refine Ok.drop [5, 6, 7] (by simp only [kover] <;> rfl) ?_
 refine Ok.region ?_
 refine EV ?_
 refine ON ?_
 refine Ok.block ?_
 refine Ok.loopN (τ := List (List V) × Nat) (fun x => [(3, .sl 1 9 0 (x.1 ++ List.replicate (a.length - x.1.length) zcSync)), (4, .int .i64 (x.1.length : Int)), (7, .any)]) [8, 9, 10, 11, 12, 13, 14, 15, 16, 17, 18, 19, 20, 21] (fun x => by simp only [kover] <;> rfl) (fun x => x.2 + 1) (fun x => x.1.length ≤ a.length ∧ V.travLL (fun sz => V.sl 0 sz 0 []) (fun _ sz _ es => V.sl 0 sz 0 es) (fun _ _ o e => V.ptr 0 0 o e) x.1 = (a.take x.1.length).map cSync ∧ (V.labelsLL x.1).Nodup ∧ (∀ z ∈ V.labelsLL x.1, 2 ≤ z ∧ z < x.2 + 1) ∧ 1 ≤ x.2) (fun x => a.length - x.1.length) ([], 1) (by refine ⟨?_, ?_, ?_, ?_, ?_, ?_, ?_, ?_, ?_, ?_, ?_, ?_, ?_, ?_, ?_, ?_, ?_, ?_, ?_, ?_, ?_, ?_, ?_, trivial⟩ <;> first | exact le_any _ | with_reducible exact le_rfl' _ | ((first | exact le_rfl' _ | (refine le_eqm ?_; simp only [List.nil_append, List.length_nil, Nat.sub_zero]; done))) | exact le_rfl' _) (by decide) (⟨Nat.zero_le _, rfl, List.nodup_nil, (fun z hz => by cases hz), Nat.le_refl _⟩) ?_
 rintro ⟨d, k⟩ ⟨h1, h2, h3, h4, h5⟩
 have h1 : d.length ≤ a.length := h1
 have h2 : V.travLL (fun sz => V.sl 0 sz 0 []) (fun _ sz _ es => V.sl 0 sz 0 es) (fun _ _ o e => V.ptr 0 0 o e) d = (a.take d.length).map cSync := h2
 have h3 : (V.labelsLL d).Nodup := h3
 have h4 : ∀ z ∈ V.labelsLL d, 2 ≤ z ∧ z < k + 1 := h4
 have h5 : 1 ≤ k := h5
 refine Ok.seq ?_
 refine OQ ?_
 iterate 4 (refine EV ?_)
 refine ON ?_
 refine Ok.cond (b := _) (by simp only [kE, kT, kL, kC] <;> rfl) (fun hb3 => ?_) (fun hb3 => ?_)
 ·
  try simp only [bsimp] at hb3
  have hi : d.length < a.length := by omega
  have hrep : List.replicate (a.length - d.length) zcSync = zcSync :: List.replicate (a.length - (d.length + 1)) zcSync := by rw [show a.length - d.length = a.length - (d.length + 1) + 1 by omega]; rfl
  rw [hrep]
  have dn : ¬ (1 ∈ V.labelsLL d) := fun h => by have := h4 1 h; omega
  have rn := lab_rep (n := a.length - (d.length + 1)) (c := zcSync) rfl
  refine Ok.skip ?_
  refine Ok.seq ?_
  refine Ok.block ?_
  refine Ok.drop [8, 9, 10, 11] (by simp only [kover] <;> rfl) ?_
  refine Ok.region ?_
  iterate 4 (refine EV ?_)
  refine OkOps.ev tab_ok rfl (ev_idx_map (by simp only [kE, kT, kL, kC] <;> rfl) (by simp only [kE, kT, kL, kC] <;> rfl) (by omega) (by simp only [kE, kT, kL, kC] <;> rfl)) (by simp only [kP] <;> rfl) ?_
  refine EV ?_
  obtain ⟨L2a, e2a, L6a, e6a, hXa, q2a, E2a, M2a, N2a, q6a, E6a, M6a, N6a, nda, rga⟩ := ownSync (k) (a[d.length])
  obtain ⟨ma, hma⟩ : ∃ m, k + 1 + V.cnt (.agg (cSync (a[d.length]))) = m + 1 := ⟨k + V.cnt (.agg (cSync (a[d.length]))), by omega⟩
  have r2a : ∀ z ∈ V.labels (.sl (L2a + 1) 1 0 e2a), k + 1 ≤ z ∧ z < ma + 1 := fun z hz => by have := rga z (by first | exact hz | (simp only [V.labelsL, V.labels, List.mem_append] at hz ⊢; simp only [hz, true_or, or_true])); omega
  have r6a : ∀ z ∈ V.labels (.sl (L6a + 1) 1 0 e6a), k + 1 ≤ z ∧ z < ma + 1 := fun z hz => by have := rga z (by first | exact hz | (simp only [V.labelsL, V.labels, List.mem_append] at hz ⊢; simp only [hz, true_or, or_true])); omega
  refine OkOps.S' rfl (OpS.pure' rfl (by simp only [kE, kT, kL, kC] <;> rfl) (by simp only [kE, kT, kL, kC, V.eraseL, V.erase, V.travL, V.trav, zz, zf, zy] <;> rfl) cl135 (by simp [V.dat, V.datL, V.datLL, zz, zf, zy]) (p_laws_toSync a[d.length] (hz _ (List.getElem_mem hi)))) hma (by simp only [kP, hXa] <;> rfl) ?_
  refine OkOps.ev tab_ok rfl (ev_idx (by simp only [kE, kT, kL, kC] <;> rfl) (by simp only [kE, kT, kL, kC] <;> rfl) (get_mid rfl) (by simp only [kE, kT, kL, kC] <;> rfl)) (by simp only [kP] <;> rfl) ?_
  refine OkOps.storeN tab_ok rfl rfl (by simp only [kE, kT, kL, kC] <;> rfl) ⟨_, _, by simp only [kE]; rfl⟩ (by first | (simp [V.labelsL, V.labelsLL, V.labels, zz, zf, zy]; done) | (intro h; simp only [V.labelsL, V.labels, List.mem_append, List.append_nil, List.nil_append, List.not_mem_nil, or_false, false_or] at h; rcases h with h | h <;> first | (have := r2a _ h; omega) | (have := r6a _ h; omega))) (fun W hW hF => by obtain ⟨z2a, zz2a⟩ := farA hW r2a (fun y h1 h2 h => by omega); obtain ⟨z6a, zz6a⟩ := farA hW r6a (fun y h1 h2 h => by omega); have f0 := far0 hW (fun h => by omega); simp only [List.map_cons, List.map_nil, hW.int, hW.str, hW.bool, hW.any, hW.tup0, hW.agg, hW.nilV, hF.ptr, z2a, zz2a, z6a, zz6a, f0, hF.sl, set_mid (rfl : d.length = d.length), labelsLL_app, V.labelsLL, V.labelsL, V.labels, List.mem_append, List.not_mem_nil, List.append_nil, List.nil_append, or_false, false_or, not_or, not_false_eq_true, and_self, Nat.zero_add, dn, rn, (fun i o e => hW.ptr 0 i o e (by decide) : ∀ i o e, W (.ptr 0 i o e) = .ptr 0 i o (e.map W)), cSync, zcSync, kP] <;> rfl) ?_
  refine ON ?_
  refine Ok.drop [14, 15, 16, 17, 18, 19, 20, 21] (by simp only [kover] <;> rfl) ?_
  refine Ok.region ?_
  iterate 3 (refine EV ?_)
  refine ON ?_
  refine ⟨(d ++ [[.int .i64 (a[d.length]).epoch, .int .i64 (a[d.length]).link.epoch, .sl (L2a + 1) 1 0 e2a, .int .i64 (a[d.length]).link.next, .int .i64 (a[d.length]).link.want, .int .i64 (a[d.length]).total, .sl (L6a + 1) 1 0 e6a, .bool (a[d.length]).done, .bool (a[d.length]).failed]], ma), ?_, rfl, (by dsimp only; omega), rows_snoc hi h2 h3 h4 h5 (by omega) (by simp only [V.travL, V.trav, E2a, E6a] <;> rfl) nda (fun z hz => by have := rga z hz; omega), by show a.length - (d ++ [_]).length < a.length - d.length; rw [List.length_append]; simp only [List.length_cons, List.length_nil]; omega⟩
  refine ⟨?_, ?_, ?_, ?_, ?_, ?_, ?_, ?_, ?_, ?_, ?_, ?_, ?_, ?_, ?_, ?_, ?_, ?_, ?_, ?_, ?_, ?_, ?_, trivial⟩ <;> first | exact le_any _ | with_reducible exact le_rfl' _ | (dsimp only; first | (rw [wrap_add_one (by omega)]; refine le_eqm ?_; simp only [List.length_append, List.length_cons, List.length_nil]; done) | (refine le_eqm ?_; simp only [List.length_append, List.length_cons, List.length_nil, List.append_assoc, List.cons_append, List.nil_append, Nat.zero_add]; done)) | exact le_rfl' _
 ·
  try simp only [bsimp] at hb3
  have hi : d.length = a.length := by omega
  have hrep : List.replicate (a.length - d.length) zcSync = [] := by rw [hi, Nat.sub_self]; rfl
  rw [hrep, List.append_nil]
  rw [hi, List.take_length] at h2
  refine Ok.exit ?_
  refine Ok.seq ?_
  refine Ok.drop [8, 9, 10, 11] (by simp only [kover] <;> rfl) ?_
  refine Ok.region ?_
  iterate 2 (refine EV ?_)
  refine ON ?_
  refine Ok.ret ?_
  with_reducible repeat (first | refine thenQ_ret ?_ | refine blockQ_ret ?_)
  refine RT ?_
  exact ⟨(by simp only [packV, V.erase, V.trav, V.travLL, zz, zf, zy, h2] <;> rfl), (by intro L hL; simp only [packV, V.labels, List.mem_cons] at hL; rcases hL with hL | hL <;> first | omega | (have := h4 L hL; omega)), (by simp only [packV, V.labels, List.nodup_cons]; exact ⟨fun h => by have := h4 1 h; omega, h3⟩)⟩
theorem p_laws_toServerS (a : List Server) (ha : a.length ≤ 1048576) (hz : ∀ z ∈ a, smServer z) : Pure Tryz.prog 74 [.sl 0 13 0 (a.map cServer)] (.sl 0 13 0 (a.map cServer)) := by
 refine Pure.of (by simp [V.dat, V.datL, V.datLL, zz, zf, zy]) (OkCall.enter' tab_ok Tryz.func74 rfl (t := [.sl 0 13 0 (a.map cServer), .any, .any, .any, .any, .any, .any, .any, .any, .any, .any, .any, .any, .any, .any, .any, .any, .any, .any, .any, .any, .any, .any]) rfl ?_)
 refine OQ ?_
 refine EV ?_
 refine ON ?_
 refine OQ ?_
 iterate 2 (refine EV ?_)
 refine OkOps.S' rfl (ok_makeSlice (a := a.length) (b := a.length) tab_ok (by simp only [kT] <;> rfl) (by simp only [kT] <;> rfl) (by decide) rfl rfl (by simp only [kE, kL] <;> rfl) (by simp only [kE, kL] <;> rfl) (by omega) (by omega) (by omega) (by show ((168 : Nat) : Int) * _ ≤ _; omega)) (by simp only [Nat.reduceAdd] <;> rfl) (by simp only [kP, Int.toNat_natCast] <;> rfl) ?_
 refine EV ?_
 refine ON ?_
 refine Ok.seq ?_
 refine Ok.seq ?_
 refine Ok.drop [5, 6, 7] (by simp only [kover] <;> rfl) ?_
 refine Ok.region ?_
 refine EV ?_
 refine ON ?_
 refine Ok.block ?_
 refine Ok.loopN (τ := List (List V) × Nat) (fun x => [(3, .sl 1 13 0 (x.1 ++ List.replicate (a.length - x.1.length) zcServer)), (4, .int .i64 (x.1.length : Int)), (7, .any)]) [8, 9, 10, 11, 12, 13, 14, 15, 16, 17, 18, 19, 20, 21] (fun x => by simp only [kover] <;> rfl) (fun x => x.2 + 1) (fun x => x.1.length ≤ a.length ∧ V.travLL (fun sz => V.sl 0 sz 0 []) (fun _ sz _ es => V.sl 0 sz 0 es) (fun _ _ o e => V.ptr 0 0 o e) x.1 = (a.take x.1.length).map cServer ∧ (V.labelsLL x.1).Nodup ∧ (∀ z ∈ V.labelsLL x.1, 2 ≤ z ∧ z < x.2 + 1) ∧ 1 ≤ x.2) (fun x => a.length - x.1.length) ([], 1) (by refine ⟨?_, ?_, ?_, ?_, ?_, ?_, ?_, ?_, ?_, ?_, ?_, ?_, ?_, ?_, ?_, ?_, ?_, ?_, ?_, ?_, ?_, ?_, ?_, trivial⟩ <;> first | exact le_any _ | with_reducible exact le_rfl' _ | ((first | exact le_rfl' _ | (refine le_eqm ?_; simp only [List.nil_append, List.length_nil, Nat.sub_zero]; done))) | exact le_rfl' _) (by decide) (⟨Nat.zero_le _, rfl, List.nodup_nil, (fun z hz => by cases hz), Nat.le_refl _⟩) ?_
 rintro ⟨d, k⟩ ⟨h1, h2, h3, h4, h5⟩
 have h1 : d.length ≤ a.length := h1
 have h2 : V.travLL (fun sz => V.sl 0 sz 0 []) (fun _ sz _ es => V.sl 0 sz 0 es) (fun _ _ o e => V.ptr 0 0 o e) d = (a.take d.length).map cServer := h2
 have h3 : (V.labelsLL d).Nodup := h3
 have h4 : ∀ z ∈ V.labelsLL d, 2 ≤ z ∧ z < k + 1 := h4
 have h5 : 1 ≤ k := h5
 refine Ok.seq ?_
 refine OQ ?_
 iterate 4 (refine EV ?_)
 refine ON ?_
 refine Ok.cond (b := _) (by simp only [kE, kT, kL, kC] <;> rfl) (fun hb3 => ?_) (fun hb3 => ?_)
 ·
  try simp only [bsimp] at hb3
  have hi : d.length < a.length := by omega
  have hrep : List.replicate (a.length - d.length) zcServer = zcServer :: List.replicate (a.length - (d.length + 1)) zcServer := by rw [show a.length - d.length = a.length - (d.length + 1) + 1 by omega]; rfl
  rw [hrep]
  have dn : ¬ (1 ∈ V.labelsLL d) := fun h => by have := h4 1 h; omega
  have rn := lab_rep (n := a.length - (d.length + 1)) (c := zcServer) rfl
  refine Ok.skip ?_
  refine Ok.seq ?_
  refine Ok.block ?_
  refine Ok.drop [8, 9, 10, 11] (by simp only [kover] <;> rfl) ?_
  refine Ok.region ?_
  iterate 4 (refine EV ?_)
  refine OkOps.ev tab_ok rfl (ev_idx_map (by simp only [kE, kT, kL, kC] <;> rfl) (by simp only [kE, kT, kL, kC] <;> rfl) (by omega) (by simp only [kE, kT, kL, kC] <;> rfl)) (by simp only [kP] <;> rfl) ?_
  refine EV ?_
  obtain ⟨L2a, e2a, L3a, e3a, L11a, e11a, hXa, q2a, E2a, M2a, N2a, q3a, E3a, M3a, N3a, q11a, E11a, M11a, N11a, nda, rga⟩ := ownServer (k) (a[d.length])
  obtain ⟨ma, hma⟩ : ∃ m, k + 1 + V.cnt (.agg (cServer (a[d.length]))) = m + 1 := ⟨k + V.cnt (.agg (cServer (a[d.length]))), by omega⟩
  have r2a : ∀ z ∈ V.labels (.sl (L2a + 1) 7 0 e2a), k + 1 ≤ z ∧ z < ma + 1 := fun z hz => by have := rga z (by first | exact hz | (simp only [V.labelsL, V.labels, List.mem_append] at hz ⊢; simp only [hz, true_or, or_true])); omega
  have r3a : ∀ z ∈ V.labels (.sl (L3a + 1) 1 0 e3a), k + 1 ≤ z ∧ z < ma + 1 := fun z hz => by have := rga z (by first | exact hz | (simp only [V.labelsL, V.labels, List.mem_append] at hz ⊢; simp only [hz, true_or, or_true])); omega
  have r11a : ∀ z ∈ V.labels (.sl (L11a + 1) 1 0 e11a), k + 1 ≤ z ∧ z < ma + 1 := fun z hz => by have := rga z (by first | exact hz | (simp only [V.labelsL, V.labels, List.mem_append] at hz ⊢; simp only [hz, true_or, or_true])); omega
  refine OkOps.S' rfl (OpS.pure' rfl (by simp only [kE, kT, kL, kC] <;> rfl) (by simp only [kE, kT, kL, kC, V.eraseL, V.erase, V.travL, V.trav, zz, zf, zy] <;> rfl) cl134 (by simp [V.dat, V.datL, V.datLL, zz, zf, zy]) (p_laws_toServer a[d.length] (hz _ (List.getElem_mem hi)))) hma (by simp only [kP, hXa] <;> rfl) ?_
  refine OkOps.ev tab_ok rfl (ev_idx (by simp only [kE, kT, kL, kC] <;> rfl) (by simp only [kE, kT, kL, kC] <;> rfl) (get_mid rfl) (by simp only [kE, kT, kL, kC] <;> rfl)) (by simp only [kP] <;> rfl) ?_
  refine OkOps.storeN tab_ok rfl rfl (by simp only [kE, kT, kL, kC] <;> rfl) ⟨_, _, by simp only [kE]; rfl⟩ (by first | (simp [V.labelsL, V.labelsLL, V.labels, zz, zf, zy]; done) | (intro h; simp only [V.labelsL, V.labels, List.mem_append, List.append_nil, List.nil_append, List.not_mem_nil, or_false, false_or] at h; rcases h with h | h | h <;> first | (have := r2a _ h; omega) | (have := r3a _ h; omega) | (have := r11a _ h; omega))) (fun W hW hF => by obtain ⟨z2a, zz2a⟩ := farA hW r2a (fun y h1 h2 h => by omega); obtain ⟨z3a, zz3a⟩ := farA hW r3a (fun y h1 h2 h => by omega); obtain ⟨z11a, zz11a⟩ := farA hW r11a (fun y h1 h2 h => by omega); have f0 := far0 hW (fun h => by omega); simp only [List.map_cons, List.map_nil, hW.int, hW.str, hW.bool, hW.any, hW.tup0, hW.agg, hW.nilV, hF.ptr, z2a, zz2a, z3a, zz3a, z11a, zz11a, f0, hF.sl, set_mid (rfl : d.length = d.length), labelsLL_app, V.labelsLL, V.labelsL, V.labels, List.mem_append, List.not_mem_nil, List.append_nil, List.nil_append, or_false, false_or, not_or, not_false_eq_true, and_self, Nat.zero_add, dn, rn, (fun i o e => hW.ptr 0 i o e (by decide) : ∀ i o e, W (.ptr 0 i o e) = .ptr 0 i o (e.map W)), cServer, zcServer, kP] <;> rfl) ?_
  refine ON ?_
  refine Ok.drop [14, 15, 16, 17, 18, 19, 20, 21] (by simp only [kover] <;> rfl) ?_
  refine Ok.region ?_
  iterate 3 (refine EV ?_)
  refine ON ?_
  refine ⟨(d ++ [[.int .i64 (a[d.length]).kept.store.by_, .int .i64 (a[d.length]).kept.store.time, .sl (L2a + 1) 7 0 e2a, .sl (L3a + 1) 1 0 e3a, .str (a[d.length]).kept.journal, .int .i64 (a[d.length]).kept.saved, .str (a[d.length]).session.inn, .str (a[d.length]).session.out, .bool (a[d.length]).session.on, .bool (a[d.length]).session.over, .int .i64 (a[d.length]).session.box, .sl (L11a + 1) 1 0 e11a, .bool (a[d.length]).up]], ma), ?_, rfl, (by dsimp only; omega), rows_snoc hi h2 h3 h4 h5 (by omega) (by simp only [V.travL, V.trav, E2a, E3a, E11a] <;> rfl) nda (fun z hz => by have := rga z hz; omega), by show a.length - (d ++ [_]).length < a.length - d.length; rw [List.length_append]; simp only [List.length_cons, List.length_nil]; omega⟩
  refine ⟨?_, ?_, ?_, ?_, ?_, ?_, ?_, ?_, ?_, ?_, ?_, ?_, ?_, ?_, ?_, ?_, ?_, ?_, ?_, ?_, ?_, ?_, ?_, trivial⟩ <;> first | exact le_any _ | with_reducible exact le_rfl' _ | (dsimp only; first | (rw [wrap_add_one (by omega)]; refine le_eqm ?_; simp only [List.length_append, List.length_cons, List.length_nil]; done) | (refine le_eqm ?_; simp only [List.length_append, List.length_cons, List.length_nil, List.append_assoc, List.cons_append, List.nil_append, Nat.zero_add]; done)) | exact le_rfl' _
 ·
  try simp only [bsimp] at hb3
  have hi : d.length = a.length := by omega
  have hrep : List.replicate (a.length - d.length) zcServer = [] := by rw [hi, Nat.sub_self]; rfl
  rw [hrep, List.append_nil]
  rw [hi, List.take_length] at h2
  refine Ok.exit ?_
  refine Ok.seq ?_
  refine Ok.drop [8, 9, 10, 11] (by simp only [kover] <;> rfl) ?_
  refine Ok.region ?_
  iterate 2 (refine EV ?_)
  refine ON ?_
  refine Ok.ret ?_
  with_reducible repeat (first | refine thenQ_ret ?_ | refine blockQ_ret ?_)
  refine RT ?_
  exact ⟨(by simp only [packV, V.erase, V.trav, V.travLL, zz, zf, zy, h2] <;> rfl), (by intro L hL; simp only [packV, V.labels, List.mem_cons] at hL; rcases hL with hL | hL <;> first | omega | (have := h4 L hL; omega)), (by simp only [packV, V.labels, List.nodup_cons]; exact ⟨fun h => by have := h4 1 h; omega, h3⟩)⟩
theorem p_laws_toLetterS (a : List Letter) (ha : a.length ≤ 1048576) (hz : ∀ z ∈ a, smLetter z) : Pure Tryz.prog 76 [.sl 0 2 0 (a.map cLetter)] (.sl 0 2 0 (a.map cLetter)) := by
 refine Pure.of (by simp [V.dat, V.datL, V.datLL, zz, zf, zy]) (OkCall.enter' tab_ok Tryz.func76 rfl (t := [.sl 0 2 0 (a.map cLetter), .any, .any, .any, .any, .any, .any, .any, .any, .any, .any, .any, .any, .any, .any, .any, .any, .any, .any, .any, .any, .any, .any]) rfl ?_)
 refine OQ ?_
 refine EV ?_
 refine ON ?_
 refine OQ ?_
 iterate 2 (refine EV ?_)
 refine OkOps.S' rfl (ok_makeSlice (a := a.length) (b := a.length) tab_ok (by simp only [kT] <;> rfl) (by simp only [kT] <;> rfl) (by decide) rfl rfl (by simp only [kE, kL] <;> rfl) (by simp only [kE, kL] <;> rfl) (by omega) (by omega) (by omega) (by show ((24 : Nat) : Int) * _ ≤ _; omega)) (by simp only [Nat.reduceAdd] <;> rfl) (by simp only [kP, Int.toNat_natCast] <;> rfl) ?_
 refine EV ?_
 refine ON ?_
 refine Ok.seq ?_
 refine Ok.seq ?_
 refine Ok.drop [5, 6, 7] (by simp only [kover] <;> rfl) ?_
 refine Ok.region ?_
 refine EV ?_
 refine ON ?_
 refine Ok.block ?_
 refine Ok.loopN (τ := List (List V) × Nat) (fun x => [(3, .sl 1 2 0 (x.1 ++ List.replicate (a.length - x.1.length) zcLetter)), (4, .int .i64 (x.1.length : Int)), (7, .any)]) [8, 9, 10, 11, 12, 13, 14, 15, 16, 17, 18, 19, 20, 21] (fun x => by simp only [kover] <;> rfl) (fun x => x.2 + 1) (fun x => x.1.length ≤ a.length ∧ V.travLL (fun sz => V.sl 0 sz 0 []) (fun _ sz _ es => V.sl 0 sz 0 es) (fun _ _ o e => V.ptr 0 0 o e) x.1 = (a.take x.1.length).map cLetter ∧ (V.labelsLL x.1).Nodup ∧ (∀ z ∈ V.labelsLL x.1, 2 ≤ z ∧ z < x.2 + 1) ∧ 1 ≤ x.2) (fun x => a.length - x.1.length) ([], 1) (by refine ⟨?_, ?_, ?_, ?_, ?_, ?_, ?_, ?_, ?_, ?_, ?_, ?_, ?_, ?_, ?_, ?_, ?_, ?_, ?_, ?_, ?_, ?_, ?_, trivial⟩ <;> first | exact le_any _ | with_reducible exact le_rfl' _ | ((first | exact le_rfl' _ | (refine le_eqm ?_; simp only [List.nil_append, List.length_nil, Nat.sub_zero]; done))) | exact le_rfl' _) (by decide) (⟨Nat.zero_le _, rfl, List.nodup_nil, (fun z hz => by cases hz), Nat.le_refl _⟩) ?_
 rintro ⟨d, k⟩ ⟨h1, h2, h3, h4, h5⟩
 have h1 : d.length ≤ a.length := h1
 have h2 : V.travLL (fun sz => V.sl 0 sz 0 []) (fun _ sz _ es => V.sl 0 sz 0 es) (fun _ _ o e => V.ptr 0 0 o e) d = (a.take d.length).map cLetter := h2
 have h3 : (V.labelsLL d).Nodup := h3
 have h4 : ∀ z ∈ V.labelsLL d, 2 ≤ z ∧ z < k + 1 := h4
 have h5 : 1 ≤ k := h5
 refine Ok.seq ?_
 refine OQ ?_
 iterate 4 (refine EV ?_)
 refine ON ?_
 refine Ok.cond (b := _) (by simp only [kE, kT, kL, kC] <;> rfl) (fun hb3 => ?_) (fun hb3 => ?_)
 ·
  try simp only [bsimp] at hb3
  have hi : d.length < a.length := by omega
  have hrep : List.replicate (a.length - d.length) zcLetter = zcLetter :: List.replicate (a.length - (d.length + 1)) zcLetter := by rw [show a.length - d.length = a.length - (d.length + 1) + 1 by omega]; rfl
  rw [hrep]
  have dn : ¬ (1 ∈ V.labelsLL d) := fun h => by have := h4 1 h; omega
  have rn := lab_rep (n := a.length - (d.length + 1)) (c := zcLetter) rfl
  refine Ok.skip ?_
  refine Ok.seq ?_
  refine Ok.block ?_
  refine Ok.drop [8, 9, 10, 11] (by simp only [kover] <;> rfl) ?_
  refine Ok.region ?_
  iterate 4 (refine EV ?_)
  refine OkOps.ev tab_ok rfl (ev_idx_map (by simp only [kE, kT, kL, kC] <;> rfl) (by simp only [kE, kT, kL, kC] <;> rfl) (by omega) (by simp only [kE, kT, kL, kC] <;> rfl)) (by simp only [kP] <;> rfl) ?_
  refine EV ?_
  obtain ⟨hXa, nda, rga⟩ := ownLetter (k) (a[d.length])
  obtain ⟨ma, hma⟩ : ∃ m, k + 1 + V.cnt (.agg (cLetter (a[d.length]))) = m + 1 := ⟨k + V.cnt (.agg (cLetter (a[d.length]))), by omega⟩
  refine OkOps.S' rfl (OpS.pure' rfl (by simp only [kE, kT, kL, kC] <;> rfl) (by simp only [kE, kT, kL, kC, V.eraseL, V.erase, V.travL, V.trav, zz, zf, zy] <;> rfl) cl136 (by simp [V.dat, V.datL, V.datLL, zz, zf, zy]) (p_laws_toLetter a[d.length] (hz _ (List.getElem_mem hi)))) hma (by simp only [kP, hXa] <;> rfl) ?_
  refine OkOps.ev tab_ok rfl (ev_idx (by simp only [kE, kT, kL, kC] <;> rfl) (by simp only [kE, kT, kL, kC] <;> rfl) (get_mid rfl) (by simp only [kE, kT, kL, kC] <;> rfl)) (by simp only [kP] <;> rfl) ?_
  refine OkOps.storeN tab_ok rfl rfl (by simp only [kE, kT, kL, kC] <;> rfl) ⟨_, _, by simp only [kE]; rfl⟩ (by first | (simp [V.labelsL, V.labelsLL, V.labels, zz, zf, zy]; done) | (intro h; simp only [V.labelsL, V.labels, List.mem_append, List.append_nil, List.nil_append, List.not_mem_nil, or_false, false_or] at h)) (fun W hW hF => by have f0 := far0 hW (fun h => by omega); simp only [List.map_cons, List.map_nil, hW.int, hW.str, hW.bool, hW.any, hW.tup0, hW.agg, hW.nilV, hF.ptr, f0, hF.sl, set_mid (rfl : d.length = d.length), labelsLL_app, V.labelsLL, V.labelsL, V.labels, List.mem_append, List.not_mem_nil, List.append_nil, List.nil_append, or_false, false_or, not_or, not_false_eq_true, and_self, Nat.zero_add, dn, rn, (fun i o e => hW.ptr 0 i o e (by decide) : ∀ i o e, W (.ptr 0 i o e) = .ptr 0 i o (e.map W)), cLetter, zcLetter, kP] <;> rfl) ?_
  refine ON ?_
  refine Ok.drop [14, 15, 16, 17, 18, 19, 20, 21] (by simp only [kover] <;> rfl) ?_
  refine Ok.region ?_
  iterate 3 (refine EV ?_)
  refine ON ?_
  refine ⟨(d ++ [[.int .i64 (a[d.length]).to_, .str (a[d.length]).text]], ma), ?_, rfl, (by dsimp only; omega), rows_snoc hi h2 h3 h4 h5 (by omega) (by simp only [V.travL, V.trav] <;> rfl) nda (fun z hz => by have := rga z hz; omega), by show a.length - (d ++ [_]).length < a.length - d.length; rw [List.length_append]; simp only [List.length_cons, List.length_nil]; omega⟩
  refine ⟨?_, ?_, ?_, ?_, ?_, ?_, ?_, ?_, ?_, ?_, ?_, ?_, ?_, ?_, ?_, ?_, ?_, ?_, ?_, ?_, ?_, ?_, ?_, trivial⟩ <;> first | exact le_any _ | with_reducible exact le_rfl' _ | (dsimp only; first | (rw [wrap_add_one (by omega)]; refine le_eqm ?_; simp only [List.length_append, List.length_cons, List.length_nil]; done) | (refine le_eqm ?_; simp only [List.length_append, List.length_cons, List.length_nil, List.append_assoc, List.cons_append, List.nil_append, Nat.zero_add]; done)) | exact le_rfl' _
 ·
  try simp only [bsimp] at hb3
  have hi : d.length = a.length := by omega
  have hrep : List.replicate (a.length - d.length) zcLetter = [] := by rw [hi, Nat.sub_self]; rfl
  rw [hrep, List.append_nil]
  rw [hi, List.take_length] at h2
  refine Ok.exit ?_
  refine Ok.seq ?_
  refine Ok.drop [8, 9, 10, 11] (by simp only [kover] <;> rfl) ?_
  refine Ok.region ?_
  iterate 2 (refine EV ?_)
  refine ON ?_
  refine Ok.ret ?_
  with_reducible repeat (first | refine thenQ_ret ?_ | refine blockQ_ret ?_)
  refine RT ?_
  exact ⟨(by simp only [packV, V.erase, V.trav, V.travLL, zz, zf, zy, h2] <;> rfl), (by intro L hL; simp only [packV, V.labels, List.mem_cons] at hL; rcases hL with hL | hL <;> first | omega | (have := h4 L hL; omega)), (by simp only [packV, V.labels, List.nodup_cons]; exact ⟨fun h => by have := h4 1 h; omega, h3⟩)⟩
theorem p_laws_toPair (x : Pair) (h : smPair x) : Pure Tryz.prog 19 [.agg (cPair x)] (.agg (cPair x)) := by
 refine Pure.of (by simp [V.dat, V.datL, V.datLL, zz, zf, zy]) (OkCall.enter' tab_ok Tryz.func19 rfl (t := [.agg (cPair x), .any, .any, .any, .any, .any, .any, .any, .any, .any, .any, .any, .any, .any, .any, .any, .any, .any, .any, .any]) rfl ?_)
 refine OQ ?_
 iterate 2 (refine EV ?_)
 refine ON ?_
 refine OQ ?_
 refine EV ?_
 refine ON ?_
 refine OQ ?_
 iterate 2 (refine EV ?_)
 obtain ⟨L0a, e0a, hXa, q0a, E0a, M0a, N0a, nda, rga⟩ := ownSServer (3) (x.servers)
 obtain ⟨ma, hma⟩ : ∃ m, 3 + 1 + V.cnt (.sl 0 13 0 ((x.servers).map cServer)) = m + 1 := ⟨3 + V.cnt (.sl 0 13 0 ((x.servers).map cServer)), by omega⟩
 have r0a : ∀ z ∈ V.labels (.sl (L0a + 1) 13 0 e0a), 3 + 1 ≤ z ∧ z < ma + 1 := fun z hz => by have := rga z (by first | exact hz | (simp only [V.labelsL, V.labels, List.mem_append] at hz ⊢; simp only [hz, true_or, or_true])); omega
 refine OkOps.S' rfl (OpS.pure' rfl (by simp only [kE, kT, kL, kC] <;> rfl) (by simp only [kE, kT, kL, kC, V.eraseL, V.erase, V.travL, V.trav, zz, zf, zy] <;> rfl) cl74 (by simp [V.dat, V.datL, V.datLL, zz, zf, zy]) (p_laws_toServerS x.servers h.1.1 h.1.2)) hma (by simp only [kP, hXa] <;> rfl) ?_
 refine EV ?_
 refine OkOps.storeN tab_ok rfl rfl (by simp only [kE, kT, kL, kC] <;> rfl) ⟨_, _, by simp only [kE]; rfl⟩ (by first | (simp [V.labelsL, V.labelsLL, V.labels, zz, zf, zy]; done) | (intro h; simp only [V.labelsL, V.labels, List.mem_append, List.append_nil, List.nil_append, List.not_mem_nil, or_false, false_or] at h; first | (have := r0a _ h; omega))) (fun W hW hF => by obtain ⟨z0a, zz0a⟩ := farA hW r0a (fun y h1 h2 h => by omega); have f0 := far0 hW (fun h => by omega); have p0 := fun i o e => hW.ptr (1) i o e (by omega);  have p1 := fun i o e => hW.ptr (2) i o e (by omega); simp only [List.map_cons, List.map_nil, hW.int, hW.str, hW.bool, hW.any, hW.tup0, hW.agg, hW.nilV, hF.ptr, z0a, zz0a, f0, p0, p1, kP] <;> rfl) ?_
 refine ON ?_
 refine Ok.seq ?_
 refine Ok.drop [4, 5, 6, 7] (by simp only [kover] <;> rfl) ?_
 refine Ok.region ?_
 iterate 2 (refine EV ?_)
 obtain ⟨L0b, e0b, hXb, q0b, E0b, M0b, N0b, ndb, rgb⟩ := ownSSync (ma) (x.syncs)
 obtain ⟨mb, hmb⟩ : ∃ m, ma + 1 + V.cnt (.sl 0 9 0 ((x.syncs).map cSync)) = m + 1 := ⟨ma + V.cnt (.sl 0 9 0 ((x.syncs).map cSync)), by omega⟩
 have r0b : ∀ z ∈ V.labels (.sl (L0b + 1) 9 0 e0b), ma + 1 ≤ z ∧ z < mb + 1 := fun z hz => by have := rgb z (by first | exact hz | (simp only [V.labelsL, V.labels, List.mem_append] at hz ⊢; simp only [hz, true_or, or_true])); omega
 refine OkOps.S' rfl (OpS.pure' rfl (by simp only [kE, kT, kL, kC] <;> rfl) (by simp only [kE, kT, kL, kC, E0a, M0a, N0a, V.eraseL, V.erase, V.travL, V.trav, zz, zf, zy] <;> rfl) cl75 (by simp [V.dat, V.datL, V.datLL, zz, zf, zy]) (p_laws_toSyncS x.syncs h.2.1.1 h.2.1.2)) hmb (by simp only [kP, hXb] <;> rfl) ?_
 refine EV ?_
 refine OkOps.storeN tab_ok rfl rfl (by simp only [kE, kT, kL, kC] <;> rfl) ⟨_, _, by simp only [kE]; rfl⟩ (by first | (simp [V.labelsL, V.labelsLL, V.labels, zz, zf, zy]; done) | (intro h; simp only [V.labelsL, V.labels, List.mem_append, List.append_nil, List.nil_append, List.not_mem_nil, or_false, false_or] at h; rcases h with h | h <;> first | (have := r0a _ h; omega) | (have := r0b _ h; omega))) (fun W hW hF => by obtain ⟨z0a, zz0a⟩ := farA hW r0a (fun y h1 h2 h => by omega); obtain ⟨z0b, zz0b⟩ := farA hW r0b (fun y h1 h2 h => by omega); have f0 := far0 hW (fun h => by omega); have p0 := fun i o e => hW.ptr (1) i o e (by omega);  have p1 := fun i o e => hW.ptr (2) i o e (by omega); simp only [List.map_cons, List.map_nil, hW.int, hW.str, hW.bool, hW.any, hW.tup0, hW.agg, hW.nilV, hF.ptr, z0a, zz0a, z0b, zz0b, f0, p0, p1, kP] <;> rfl) ?_
 refine ON ?_
 refine Ok.seq ?_
 refine Ok.drop [8, 9, 10, 11] (by simp only [kover] <;> rfl) ?_
 refine Ok.region ?_
 iterate 2 (refine EV ?_)
 obtain ⟨L0c, e0c, hXc, q0c, E0c, M0c, N0c, ndc, rgc⟩ := ownSLetter (mb) (x.net)
 obtain ⟨mc, hmc⟩ : ∃ m, mb + 1 + V.cnt (.sl 0 2 0 ((x.net).map cLetter)) = m + 1 := ⟨mb + V.cnt (.sl 0 2 0 ((x.net).map cLetter)), by omega⟩
 have r0c : ∀ z ∈ V.labels (.sl (L0c + 1) 2 0 e0c), mb + 1 ≤ z ∧ z < mc + 1 := fun z hz => by have := rgc z (by first | exact hz | (simp only [V.labelsL, V.labels, List.mem_append] at hz ⊢; simp only [hz, true_or, or_true])); omega
 refine OkOps.S' rfl (OpS.pure' rfl (by simp only [kE, kT, kL, kC] <;> rfl) (by simp only [kE, kT, kL, kC, E0a, M0a, N0a, E0b, M0b, N0b, V.eraseL, V.erase, V.travL, V.trav, zz, zf, zy] <;> rfl) cl76 (by simp [V.dat, V.datL, V.datLL, zz, zf, zy]) (p_laws_toLetterS x.net h.2.2.1 h.2.2.2)) hmc (by simp only [kP, hXc] <;> rfl) ?_
 refine EV ?_
 refine OkOps.storeN tab_ok rfl rfl (by simp only [kE, kT, kL, kC] <;> rfl) ⟨_, _, by simp only [kE]; rfl⟩ (by first | (simp [V.labelsL, V.labelsLL, V.labels, zz, zf, zy]; done) | (intro h; simp only [V.labelsL, V.labels, List.mem_append, List.append_nil, List.nil_append, List.not_mem_nil, or_false, false_or] at h; rcases h with h | h | h <;> first | (have := r0a _ h; omega) | (have := r0b _ h; omega) | (have := r0c _ h; omega))) (fun W hW hF => by obtain ⟨z0a, zz0a⟩ := farA hW r0a (fun y h1 h2 h => by omega); obtain ⟨z0b, zz0b⟩ := farA hW r0b (fun y h1 h2 h => by omega); obtain ⟨z0c, zz0c⟩ := farA hW r0c (fun y h1 h2 h => by omega); have f0 := far0 hW (fun h => by omega); have p0 := fun i o e => hW.ptr (1) i o e (by omega);  have p1 := fun i o e => hW.ptr (2) i o e (by omega); simp only [List.map_cons, List.map_nil, hW.int, hW.str, hW.bool, hW.any, hW.tup0, hW.agg, hW.nilV, hF.ptr, z0a, zz0a, z0b, zz0b, z0c, zz0c, f0, p0, p1, kP] <;> rfl) ?_
 refine ON ?_
 refine Ok.seq ?_
 refine Ok.drop [12, 13, 14, 15] (by simp only [kover] <;> rfl) ?_
 refine Ok.region ?_
 iterate 3 (refine EV ?_)
 refine OkOps.storeN tab_ok rfl rfl (by simp only [kE, kT, kL, kC] <;> rfl) ⟨_, _, by simp only [kE]; rfl⟩ (by first | (simp [V.labelsL, V.labelsLL, V.labels, zz, zf, zy]; done) | (intro h; simp only [V.labelsL, V.labels, List.mem_append, List.append_nil, List.nil_append, List.not_mem_nil, or_false, false_or] at h; rcases h with h | h | h <;> first | (have := r0a _ h; omega) | (have := r0b _ h; omega) | (have := r0c _ h; omega))) (fun W hW hF => by obtain ⟨z0a, zz0a⟩ := farA hW r0a (fun y h1 h2 h => by omega); obtain ⟨z0b, zz0b⟩ := farA hW r0b (fun y h1 h2 h => by omega); obtain ⟨z0c, zz0c⟩ := farA hW r0c (fun y h1 h2 h => by omega); have f0 := far0 hW (fun h => by omega); have p0 := fun i o e => hW.ptr (1) i o e (by omega);  have p1 := fun i o e => hW.ptr (2) i o e (by omega); simp only [List.map_cons, List.map_nil, hW.int, hW.str, hW.bool, hW.any, hW.tup0, hW.agg, hW.nilV, hF.ptr, z0a, zz0a, z0b, zz0b, z0c, zz0c, f0, p0, p1, kP] <;> rfl) ?_
 refine ON ?_
 refine Ok.seq ?_
 refine Ok.drop [16, 17, 18] (by simp only [kover] <;> rfl) ?_
 refine Ok.region ?_
 refine EV ?_
 refine OkOps.storeN tab_ok rfl rfl (by simp only [kE, kT, kL, kC] <;> rfl) ⟨_, _, by simp only [kE]; rfl⟩ (by first | (simp [V.labelsL, V.labelsLL, V.labels, zz, zf, zy]; done) | (intro h; simp only [V.labelsL, V.labels, List.mem_append, List.append_nil, List.nil_append, List.not_mem_nil, or_false, false_or] at h; rcases h with h | h | h <;> first | (have := r0a _ h; omega) | (have := r0b _ h; omega) | (have := r0c _ h; omega))) (fun W hW hF => by obtain ⟨z0a, zz0a⟩ := farA hW r0a (fun y h1 h2 h => by omega); obtain ⟨z0b, zz0b⟩ := farA hW r0b (fun y h1 h2 h => by omega); obtain ⟨z0c, zz0c⟩ := farA hW r0c (fun y h1 h2 h => by omega); have f0 := far0 hW (fun h => by omega); have p0 := fun i o e => hW.ptr (1) i o e (by omega);  have p2 := fun i o e => hW.ptr (3) i o e (by omega); simp only [List.map_cons, List.map_nil, hW.int, hW.str, hW.bool, hW.any, hW.tup0, hW.agg, hW.nilV, hF.ptr, z0a, zz0a, z0b, zz0b, z0c, zz0c, f0, p0, p2, kP] <;> rfl) ?_
 refine ON ?_
 refine Ok.ret ?_
 with_reducible repeat (first | refine thenQ_ret ?_ | refine blockQ_ret ?_)
 refine RT ?_
 exact ⟨(by simp only [packV, V.erase, V.trav, V.travL, V.travLL, zz, zf, zy, E0a, E0b, E0c] <;> rfl), (by intro L hL; simp only [packV, V.labels, V.labelsL, List.append_nil, List.nil_append, List.mem_append] at hL; rcases hL with hL | hL | hL <;> first | (have := r0a L hL; omega) | (have := r0b L hL; omega) | (have := r0c L hL; omega)), (by have na := nda; simp only [V.labels, V.labelsL, List.append_nil, List.nil_append] at na; have w0a := na; have nb := ndb; simp only [V.labels, V.labelsL, List.append_nil, List.nil_append] at nb; have w0b := nb; have nc := ndc; simp only [V.labels, V.labelsL, List.append_nil, List.nil_append] at nc; have w0c := nc; simp only [packV, V.labels, V.labelsL, List.append_nil, List.nil_append]; exact (nd_app2 w0a (nd_app2 w0b w0c (fun y hy hh => by exact (by have q1 := r0b y hy; have q2 := r0c y hh; omega))) (fun y hy hh => by exact (List.mem_append.1 hh).elim (fun hh => (by have q1 := r0a y hy; have q2 := r0b y hh; omega)) (fun hh => by exact (by have q1 := r0a y hy; have q2 := r0c y hh; omega)))))⟩
theorem wp_laws_toPair (p : Pair) (h : smPair p) : Weak Tryz.prog 19 [.agg (cPair p)] (.agg (cPair p)) := by
  have h := Pure.weak (by simp [V.dat, V.datL, V.datLL, zz, zf, zy]) (p_laws_toPair p h) (by simp [V.eraseL, V.erase, V.trav, V.travL, zz, zf, zy])
  simpa [V.erase, V.trav, V.travL, zz, zf, zy] using h
end Go.Proofs.YtjhfabimacljhaaGreat.K
