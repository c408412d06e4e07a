/- Walks: copies as data of the call's own. Printed by w2.py. -/
import Derived.Test.YtjhfabimacljhaaGreatG7
import Derived.Test.YtjhfabimacljhaaGreatG4
import Derived.Test.YtjhfabimacljhaaGreatG8
namespace Go.Proofs.YtjhfabimacljhaaGreat.K
open Go Go.RowKit
set_option linter.unusedVariables false
set_option linter.unusedSimpArgs false
set_option maxHeartbeats 4000000
set_option maxRecDepth 20000
theorem w_own_toStamp (x : Stamp) : Weak Tryz.prog 165 [.agg (cStamp x)] (.agg (cStamp x)) := by
 refine Weak.enter tab_ok Tryz.func165 rfl (.inr (by simp [V.labelsL, V.labels, zz, zf, zy])) (t := [.agg (cStamp x), .any, .any, .any, .any, .any, .any, .any, .any, .any, .any]) rfl ?_
 refine OQ ?_
 iterate 2 (refine EV ?_)
 refine ON ?_
 refine OQ ?_
 refine EV ?_
 refine ON ?_
 refine OQ ?_
 iterate 3 (refine EV ?_)
 refine OkOps.storeE tab_ok rfl rfl (by simp only [kE, kT, kL, kC] <;> rfl) ⟨_, _, by simp only [kE]; rfl⟩ (by first | (simp [V.labelsL, V.labelsLL, V.labels, zz, zf, zy]; done) | (simp [-List.map_map, -List.map_set, -List.map_drop, -List.map_take, -List.map_tail, -List.drop_one, V.labelsL, V.labelsLL, V.labels, zz, zf, zy]; done)) (by simp only [eq_self, V.updL, V.travL, V.travLL, V.trav, updS, updP, and_self, true_and, and_true, false_and, and_false, Nat.reduceEqDiff, Nat.reduceSub, Nat.le_refl, Nat.zero_le, ↓reduceIte, if_true, if_false, kP, zz, zf, zy] <;> rfl) (rfl) ?_
 refine ON ?_
 refine OQ ?_
 iterate 3 (refine EV ?_)
 refine OkOps.storeE tab_ok rfl rfl (by simp only [kE, kT, kL, kC] <;> rfl) ⟨_, _, by simp only [kE]; rfl⟩ (by first | (simp [V.labelsL, V.labelsLL, V.labels, zz, zf, zy]; done) | (simp [-List.map_map, -List.map_set, -List.map_drop, -List.map_take, -List.map_tail, -List.drop_one, V.labelsL, V.labelsLL, V.labels, zz, zf, zy]; done)) (by simp only [eq_self, V.updL, V.travL, V.travLL, V.trav, updS, updP, and_self, true_and, and_true, false_and, and_false, Nat.reduceEqDiff, Nat.reduceSub, Nat.le_refl, Nat.zero_le, ↓reduceIte, if_true, if_false, kP, zz, zf, zy] <;> rfl) (rfl) ?_
 refine ON ?_
 refine OQ ?_
 refine EV ?_
 refine OkOps.storeE tab_ok rfl rfl (by simp only [kE, kT, kL, kC] <;> rfl) ⟨_, _, by simp only [kE]; rfl⟩ (by first | (simp [V.labelsL, V.labelsLL, V.labels, zz, zf, zy]; done) | (simp [-List.map_map, -List.map_set, -List.map_drop, -List.map_take, -List.map_tail, -List.drop_one, V.labelsL, V.labelsLL, V.labels, zz, zf, zy]; done)) (by simp only [eq_self, V.updL, V.travL, V.travLL, V.trav, updS, updP, and_self, true_and, and_true, false_and, and_false, Nat.reduceEqDiff, Nat.reduceSub, Nat.le_refl, Nat.zero_le, ↓reduceIte, if_true, if_false, kP, zz, zf, zy] <;> rfl) (rfl) ?_
 refine ON ?_
 refine Ok.ret ?_
 with_reducible repeat (first | refine thenQ_ret ?_ | refine blockQ_ret ?_)
 refine RT ?_
 rfl
theorem p_laws_toReg (x : Reg) : Pure Tryz.prog 253 [.agg (cReg x)] (.agg (cReg x)) := by
 refine Pure.of (by simp [V.dat, V.datL, V.datLL, zz, zf, zy]) (OkCall.enter' tab_ok Tryz.func253 rfl (t := [.agg (cReg x), .any, .any, .any, .any, .any, .any, .any, .any, .any, .any, .any]) rfl ?_)
 refine OQ ?_
 iterate 2 (refine EV ?_)
 refine ON ?_
 refine OQ ?_
 refine EV ?_
 refine ON ?_
 refine OQ ?_
 iterate 3 (refine EV ?_)
 refine OkOps.storeE tab_ok rfl rfl (by simp only [kE, kT, kL, kC] <;> rfl) ⟨_, _, by simp only [kE]; rfl⟩ (by first | (simp [V.labelsL, V.labelsLL, V.labels, zz, zf, zy]; done) | (simp [-List.map_map, -List.map_set, -List.map_drop, -List.map_take, -List.map_tail, -List.drop_one, V.labelsL, V.labelsLL, V.labels, zz, zf, zy]; done)) (by simp only [eq_self, V.updL, V.travL, V.travLL, V.trav, updS, updP, and_self, true_and, and_true, false_and, and_false, Nat.reduceEqDiff, Nat.reduceSub, Nat.le_refl, Nat.zero_le, ↓reduceIte, if_true, if_false, kP, zz, zf, zy] <;> rfl) (rfl) ?_
 refine ON ?_
 refine OQ ?_
 iterate 2 (refine EV ?_)
 refine OkOps.S0 rfl (OpS.weak' rfl (by simp only [kE, kT, kL, kC] <;> rfl) (by simp only [kE, kT, kL, kC] <;> rfl) cl165 (w_own_toStamp x.stamp)) (by simp only [kP] <;> rfl) ?_
 refine EV ?_
 refine OkOps.storeE tab_ok rfl rfl (by simp only [kE, kT, kL, kC] <;> rfl) ⟨_, _, by simp only [kE]; rfl⟩ (by first | (simp [V.labelsL, V.labelsLL, V.labels, zz, zf, zy]; done) | (simp [-List.map_map, -List.map_set, -List.map_drop, -List.map_take, -List.map_tail, -List.drop_one, V.labelsL, V.labelsLL, V.labels, zz, zf, zy]; done)) (by simp only [eq_self, V.updL, V.travL, V.travLL, V.trav, updS, updP, and_self, true_and, and_true, false_and, and_false, Nat.reduceEqDiff, Nat.reduceSub, Nat.le_refl, Nat.zero_le, ↓reduceIte, if_true, if_false, kP, zz, zf, zy] <;> rfl) (rfl) ?_
 refine ON ?_
 refine OQ ?_
 refine EV ?_
 refine OkOps.storeE tab_ok rfl rfl (by simp only [kE, kT, kL, kC] <;> rfl) ⟨_, _, by simp only [kE]; rfl⟩ (by first | (simp [V.labelsL, V.labelsLL, V.labels, zz, zf, zy]; done) | (simp [-List.map_map, -List.map_set, -List.map_drop, -List.map_take, -List.map_tail, -List.drop_one, V.labelsL, V.labelsLL, V.labels, zz, zf, zy]; done)) (by simp only [eq_self, V.updL, V.travL, V.travLL, V.trav, updS, updP, and_self, true_and, and_true, false_and, and_false, Nat.reduceEqDiff, Nat.reduceSub, Nat.le_refl, Nat.zero_le, ↓reduceIte, if_true, if_false, kP, zz, zf, zy] <;> rfl) (rfl) ?_
 refine ON ?_
 refine Ok.ret ?_
 with_reducible repeat (first | refine thenQ_ret ?_ | refine blockQ_ret ?_)
 refine RT ?_
 exact ⟨rfl, by simp [V.labels, V.labelsL, packV], by simp [V.labels, V.labelsL, packV]⟩
theorem p_laws_toRegS (a : List Reg) (ha : a.length ≤ 1048576) : Pure Tryz.prog 241 [.sl 0 3 0 (a.map cReg)] (.sl 0 3 0 (a.map cReg)) := by
 refine Pure.of (by simp [V.dat, V.datL, V.datLL, zz, zf, zy]) (OkCall.enter' tab_ok Tryz.func241 rfl (t := [.sl 0 3 0 (a.map cReg), .any, .any, .any, .any, .any, .any, .any, .any, .any, .any, .any, .any, .any, .any, .any, .any, .any, .any, .any, .any, .any, .any]) rfl ?_)
 refine OQ ?_
 refine EV ?_
 refine ON ?_
 refine OQ ?_
 iterate 2 (refine EV ?_)
 refine OkOps.S' rfl (ok_makeSlice (a := a.length) (b := a.length) tab_ok (by simp only [kT] <;> rfl) (by simp only [kT] <;> rfl) (by decide) rfl rfl (by simp only [kE, kL] <;> rfl) (by simp only [kE, kL] <;> rfl) (by omega) (by omega) (by omega) (by show ((24 : Nat) : Int) * _ ≤ _; omega)) (by simp only [Nat.reduceAdd] <;> rfl) (by simp only [kP, Int.toNat_natCast] <;> rfl) ?_
 refine EV ?_
 refine ON ?_
 refine Ok.seq ?_
 refine Ok.seq ?_
 refine Ok.drop [5, 6, 7] (by simp only [kover] <;> rfl) ?_
 refine Ok.region ?_
 refine EV ?_
 refine ON ?_
 refine Ok.block ?_
 refine Ok.loopN (τ := List (List V) × Nat) (fun x => [(3, .sl 1 3 0 (x.1 ++ List.replicate (a.length - x.1.length) zcReg)), (4, .int .i64 (x.1.length : Int)), (7, .any)]) [8, 9, 10, 11, 12, 13, 14, 15, 16, 17, 18, 19, 20, 21] (fun x => by simp only [kover] <;> rfl) (fun x => x.2 + 1) (fun x => x.1.length ≤ a.length ∧ V.travLL (fun sz => V.sl 0 sz 0 []) (fun _ sz _ es => V.sl 0 sz 0 es) (fun _ _ o e => V.ptr 0 0 o e) x.1 = (a.take x.1.length).map cReg ∧ (V.labelsLL x.1).Nodup ∧ (∀ z ∈ V.labelsLL x.1, 2 ≤ z ∧ z < x.2 + 1) ∧ 1 ≤ x.2) (fun x => a.length - x.1.length) ([], 1) (by refine ⟨?_, ?_, ?_, ?_, ?_, ?_, ?_, ?_, ?_, ?_, ?_, ?_, ?_, ?_, ?_, ?_, ?_, ?_, ?_, ?_, ?_, ?_, ?_, trivial⟩ <;> first | exact le_any _ | with_reducible exact le_rfl' _ | ((first | exact le_rfl' _ | (refine le_eqm ?_; simp only [List.nil_append, List.length_nil, Nat.sub_zero]; done))) | exact le_rfl' _) (by decide) (⟨Nat.zero_le _, rfl, List.nodup_nil, (fun z hz => by cases hz), Nat.le_refl _⟩) ?_
 rintro ⟨d, k⟩ ⟨h1, h2, h3, h4, h5⟩
 have h1 : d.length ≤ a.length := h1
 have h2 : V.travLL (fun sz => V.sl 0 sz 0 []) (fun _ sz _ es => V.sl 0 sz 0 es) (fun _ _ o e => V.ptr 0 0 o e) d = (a.take d.length).map cReg := h2
 have h3 : (V.labelsLL d).Nodup := h3
 have h4 : ∀ z ∈ V.labelsLL d, 2 ≤ z ∧ z < k + 1 := h4
 have h5 : 1 ≤ k := h5
 refine Ok.seq ?_
 refine OQ ?_
 iterate 4 (refine EV ?_)
 refine ON ?_
 refine Ok.cond (b := _) (by simp only [kE, kT, kL, kC] <;> rfl) (fun hb3 => ?_) (fun hb3 => ?_)
 ·
  try simp only [bsimp] at hb3
  have hi : d.length < a.length := by omega
  have hrep : List.replicate (a.length - d.length) zcReg = zcReg :: List.replicate (a.length - (d.length + 1)) zcReg := by rw [show a.length - d.length = a.length - (d.length + 1) + 1 by omega]; rfl
  rw [hrep]
  have dn : ¬ (1 ∈ V.labelsLL d) := fun h => by have := h4 1 h; omega
  have rn := lab_rep (n := a.length - (d.length + 1)) (c := zcReg) rfl
  refine Ok.skip ?_
  refine Ok.seq ?_
  refine Ok.block ?_
  refine Ok.drop [8, 9, 10, 11] (by simp only [kover] <;> rfl) ?_
  refine Ok.region ?_
  iterate 4 (refine EV ?_)
  refine OkOps.ev tab_ok rfl (ev_idx_map (by simp only [kE, kT, kL, kC] <;> rfl) (by simp only [kE, kT, kL, kC] <;> rfl) (by omega) (by simp only [kE, kT, kL, kC] <;> rfl)) (by simp only [kP] <;> rfl) ?_
  refine EV ?_
  obtain ⟨hXa, nda, rga⟩ := ownReg (k) (a[d.length])
  obtain ⟨ma, hma⟩ : ∃ m, k + 1 + V.cnt (.agg (cReg (a[d.length]))) = m + 1 := ⟨k + V.cnt (.agg (cReg (a[d.length]))), by omega⟩
  refine OkOps.S' rfl (OpS.pure' rfl (by simp only [kE, kT, kL, kC] <;> rfl) (by simp only [kE, kT, kL, kC, V.eraseL, V.erase, V.travL, V.trav, zz, zf, zy] <;> rfl) cl253 (by simp [V.dat, V.datL, V.datLL, zz, zf, zy]) (p_laws_toReg a[d.length])) hma (by simp only [kP, hXa] <;> rfl) ?_
  refine OkOps.ev tab_ok rfl (ev_idx (by simp only [kE, kT, kL, kC] <;> rfl) (by simp only [kE, kT, kL, kC] <;> rfl) (get_mid rfl) (by simp only [kE, kT, kL, kC] <;> rfl)) (by simp only [kP] <;> rfl) ?_
  refine OkOps.storeN tab_ok rfl rfl (by simp only [kE, kT, kL, kC] <;> rfl) ⟨_, _, by simp only [kE]; rfl⟩ (by first | (simp [V.labelsL, V.labelsLL, V.labels, zz, zf, zy]; done) | (intro h; simp only [V.labelsL, V.labels, List.mem_append, List.append_nil, List.nil_append, List.not_mem_nil, or_false, false_or] at h)) (fun W hW hF => by have f0 := far0 hW (fun h => by omega); simp only [List.map_cons, List.map_nil, hW.int, hW.str, hW.bool, hW.any, hW.tup0, hW.agg, hW.nilV, hF.ptr, f0, hF.sl, set_mid (rfl : d.length = d.length), labelsLL_app, V.labelsLL, V.labelsL, V.labels, List.mem_append, List.not_mem_nil, List.append_nil, List.nil_append, or_false, false_or, not_or, not_false_eq_true, and_self, Nat.zero_add, dn, rn, (fun i o e => hW.ptr 0 i o e (by decide) : ∀ i o e, W (.ptr 0 i o e) = .ptr 0 i o (e.map W)), cReg, zcReg, kP] <;> rfl) ?_
  refine ON ?_
  refine Ok.drop [14, 15, 16, 17, 18, 19, 20, 21] (by simp only [kover] <;> rfl) ?_
  refine Ok.region ?_
  iterate 3 (refine EV ?_)
  refine ON ?_
  refine ⟨(d ++ [[.int .i64 (a[d.length]).val, .int .i64 (a[d.length]).stamp.time, .int .i64 (a[d.length]).stamp.by_]], ma), ?_, rfl, (by dsimp only; omega), rows_snoc hi h2 h3 h4 h5 (by omega) (by simp only [V.travL, V.trav] <;> rfl) nda (fun z hz => by have := rga z hz; omega), by show a.length - (d ++ [_]).length < a.length - d.length; rw [List.length_append]; simp only [List.length_cons, List.length_nil]; omega⟩
  refine ⟨?_, ?_, ?_, ?_, ?_, ?_, ?_, ?_, ?_, ?_, ?_, ?_, ?_, ?_, ?_, ?_, ?_, ?_, ?_, ?_, ?_, ?_, ?_, trivial⟩ <;> first | exact le_any _ | with_reducible exact le_rfl' _ | (dsimp only; first | (rw [wrap_add_one (by omega)]; refine le_eqm ?_; simp only [List.length_append, List.length_cons, List.length_nil]; done) | (refine le_eqm ?_; simp only [List.length_append, List.length_cons, List.length_nil, List.append_assoc, List.cons_append, List.nil_append, Nat.zero_add]; done)) | exact le_rfl' _
 ·
  try simp only [bsimp] at hb3
  have hi : d.length = a.length := by omega
  have hrep : List.replicate (a.length - d.length) zcReg = [] := by rw [hi, Nat.sub_self]; rfl
  rw [hrep, List.append_nil]
  rw [hi, List.take_length] at h2
  refine Ok.exit ?_
  refine Ok.seq ?_
  refine Ok.drop [8, 9, 10, 11] (by simp only [kover] <;> rfl) ?_
  refine Ok.region ?_
  iterate 2 (refine EV ?_)
  refine ON ?_
  refine Ok.ret ?_
  with_reducible repeat (first | refine thenQ_ret ?_ | refine blockQ_ret ?_)
  refine RT ?_
  exact ⟨(by simp only [packV, V.erase, V.trav, V.travLL, zz, zf, zy, h2] <;> rfl), (by intro L hL; simp only [packV, V.labels, List.mem_cons] at hL; rcases hL with hL | hL <;> first | omega | (have := h4 L hL; omega)), (by simp only [packV, V.labels, List.nodup_cons]; exact ⟨fun h => by have := h4 1 h; omega, h3⟩)⟩
theorem p_laws_toIntS (a : List Int) (ha : a.length ≤ 1048576) : Pure Tryz.prog 54 [.sl 0 1 0 (a.map cZ)] (.sl 0 1 0 (a.map cZ)) := by
 refine Pure.of (by simp [V.dat, V.datL, V.datLL, zz, zf, zy]) (OkCall.enter' tab_ok Tryz.func54 rfl (t := [.sl 0 1 0 (a.map cZ), .any, .any, .any, .any, .any, .any, .any, .any, .any, .any, .any, .any, .any, .any, .any, .any, .any, .any, .any, .any, .any]) rfl ?_)
 refine OQ ?_
 refine EV ?_
 refine ON ?_
 refine OQ ?_
 iterate 2 (refine EV ?_)
 refine OkOps.S' rfl (ok_makeSlice (a := a.length) (b := a.length) tab_ok (by simp only [kT] <;> rfl) (by simp only [kT] <;> rfl) (by decide) rfl rfl (by simp only [kE, kL] <;> rfl) (by simp only [kE, kL] <;> rfl) (by omega) (by omega) (by omega) (by show ((8 : Nat) : Int) * _ ≤ _; omega)) (by simp only [Nat.reduceAdd] <;> rfl) (by simp only [kP, Int.toNat_natCast] <;> rfl) ?_
 refine EV ?_
 refine ON ?_
 refine Ok.seq ?_
 refine Ok.seq ?_
 refine Ok.drop [5, 6, 7] (by simp only [kover] <;> rfl) ?_
 refine Ok.region ?_
 refine EV ?_
 refine ON ?_
 refine Ok.block ?_
 refine Ok.loopN (τ := List (List V) × Nat) (fun x => [(3, .sl 1 1 0 (x.1 ++ List.replicate (a.length - x.1.length) zcI)), (4, .int .i64 (x.1.length : Int)), (7, .any)]) [8, 9, 10, 11, 12, 13, 14, 15, 16, 17, 18, 19, 20] (fun x => by simp only [kover] <;> rfl) (fun x => x.2 + 1) (fun x => x.1.length ≤ a.length ∧ V.travLL (fun sz => V.sl 0 sz 0 []) (fun _ sz _ es => V.sl 0 sz 0 es) (fun _ _ o e => V.ptr 0 0 o e) x.1 = (a.take x.1.length).map cZ ∧ (V.labelsLL x.1).Nodup ∧ (∀ z ∈ V.labelsLL x.1, 2 ≤ z ∧ z < x.2 + 1) ∧ 1 ≤ x.2) (fun x => a.length - x.1.length) ([], 1) (by refine ⟨?_, ?_, ?_, ?_, ?_, ?_, ?_, ?_, ?_, ?_, ?_, ?_, ?_, ?_, ?_, ?_, ?_, ?_, ?_, ?_, ?_, ?_, trivial⟩ <;> first | exact le_any _ | with_reducible exact le_rfl' _ | ((first | exact le_rfl' _ | (refine le_eqm ?_; simp only [List.nil_append, List.length_nil, Nat.sub_zero]; done))) | exact le_rfl' _) (by decide) (⟨Nat.zero_le _, rfl, List.nodup_nil, (fun z hz => by cases hz), Nat.le_refl _⟩) ?_
 rintro ⟨d, k⟩ ⟨h1, h2, h3, h4, h5⟩
 have h1 : d.length ≤ a.length := h1
 have h2 : V.travLL (fun sz => V.sl 0 sz 0 []) (fun _ sz _ es => V.sl 0 sz 0 es) (fun _ _ o e => V.ptr 0 0 o e) d = (a.take d.length).map cZ := h2
 have h3 : (V.labelsLL d).Nodup := h3
 have h4 : ∀ z ∈ V.labelsLL d, 2 ≤ z ∧ z < k + 1 := h4
 have h5 : 1 ≤ k := h5
 refine Ok.seq ?_
 refine OQ ?_
 iterate 4 (refine EV ?_)
 refine ON ?_
 refine Ok.cond (b := _) (by simp only [kE, kT, kL, kC] <;> rfl) (fun hb3 => ?_) (fun hb3 => ?_)
 ·
  try simp only [bsimp] at hb3
  have hi : d.length < a.length := by omega
  have hrep : List.replicate (a.length - d.length) zcI = zcI :: List.replicate (a.length - (d.length + 1)) zcI := by rw [show a.length - d.length = a.length - (d.length + 1) + 1 by omega]; rfl
  rw [hrep]
  have dn : ¬ (1 ∈ V.labelsLL d) := fun h => by have := h4 1 h; omega
  have rn := lab_rep (n := a.length - (d.length + 1)) (c := zcI) rfl
  refine Ok.skip ?_
  refine Ok.seq ?_
  refine Ok.block ?_
  refine Ok.drop [8, 9, 10, 11] (by simp only [kover] <;> rfl) ?_
  refine Ok.region ?_
  iterate 4 (refine EV ?_)
  refine OkOps.ev tab_ok rfl (ev_idx_map (by simp only [kE, kT, kL, kC] <;> rfl) (by simp only [kE, kT, kL, kC] <;> rfl) (by omega) (by simp only [kE, kT, kL, kC] <;> rfl)) (by simp only [kP] <;> rfl) ?_
  refine EV ?_
  refine OkOps.ev tab_ok rfl (ev_idx (by simp only [kE, kT, kL, kC] <;> rfl) (by simp only [kE, kT, kL, kC] <;> rfl) (get_mid rfl) (by simp only [kE, kT, kL, kC] <;> rfl)) (by simp only [kP] <;> rfl) ?_
  refine OkOps.storeN tab_ok rfl rfl (by simp only [kE, kT, kL, kC] <;> rfl) ⟨_, _, by simp only [kE]; rfl⟩ (by first | (simp [V.labelsL, V.labelsLL, V.labels, zz, zf, zy]; done) | (intro h; simp only [V.labelsL, V.labels, List.mem_append, List.append_nil, List.nil_append, List.not_mem_nil, or_false, false_or] at h)) (fun W hW hF => by have f0 := far0 hW (fun h => by omega); simp only [List.map_cons, List.map_nil, hW.int, hW.str, hW.bool, hW.any, hW.tup0, hW.agg, hW.nilV, hF.ptr, f0, hF.sl, set_mid (rfl : d.length = d.length), labelsLL_app, V.labelsLL, V.labelsL, V.labels, List.mem_append, List.not_mem_nil, List.append_nil, List.nil_append, or_false, false_or, not_or, not_false_eq_true, and_self, Nat.zero_add, dn, rn, (fun i o e => hW.ptr 0 i o e (by decide) : ∀ i o e, W (.ptr 0 i o e) = .ptr 0 i o (e.map W)), cZ, zcI, kP] <;> rfl) ?_
  refine ON ?_
  refine Ok.drop [14, 15, 16, 17, 18, 19, 20] (by simp only [kover] <;> rfl) ?_
  refine Ok.region ?_
  iterate 3 (refine EV ?_)
  refine ON ?_
  refine ⟨(d ++ [[.int .i64 a[d.length]]], k), ?_, rfl, Nat.le_refl _, rows_snoc hi h2 h3 h4 h5 (by omega) (by simp only [V.travL, V.trav] <;> rfl) (by simp [V.labelsL, V.labels]) (fun z hz => by simp [V.labelsL, V.labels] at hz), by show a.length - (d ++ [_]).length < a.length - d.length; rw [List.length_append]; simp only [List.length_cons, List.length_nil]; omega⟩
  refine ⟨?_, ?_, ?_, ?_, ?_, ?_, ?_, ?_, ?_, ?_, ?_, ?_, ?_, ?_, ?_, ?_, ?_, ?_, ?_, ?_, ?_, ?_, trivial⟩ <;> first | exact le_any _ | with_reducible exact le_rfl' _ | (dsimp only; first | (rw [wrap_add_one (by omega)]; refine le_eqm ?_; simp only [List.length_append, List.length_cons, List.length_nil]; done) | (refine le_eqm ?_; simp only [List.length_append, List.length_cons, List.length_nil, List.append_assoc, List.cons_append, List.nil_append, Nat.zero_add]; done)) | exact le_rfl' _
 ·
  try simp only [bsimp] at hb3
  have hi : d.length = a.length := by omega
  have hrep : List.replicate (a.length - d.length) zcI = [] := by rw [hi, Nat.sub_self]; rfl
  rw [hrep, List.append_nil]
  rw [hi, List.take_length] at h2
  refine Ok.exit ?_
  refine Ok.seq ?_
  refine Ok.drop [8, 9, 10, 11] (by simp only [kover] <;> rfl) ?_
  refine Ok.region ?_
  iterate 2 (refine EV ?_)
  refine ON ?_
  refine Ok.ret ?_
  with_reducible repeat (first | refine thenQ_ret ?_ | refine blockQ_ret ?_)
  refine RT ?_
  exact ⟨(by simp only [packV, V.erase, V.trav, V.travLL, zz, zf, zy, h2] <;> rfl), (by intro L hL; simp only [packV, V.labels, List.mem_cons] at hL; rcases hL with hL | hL <;> first | omega | (have := h4 L hL; omega)), (by simp only [packV, V.labels, List.nodup_cons]; exact ⟨fun h => by have := h4 1 h; omega, h3⟩)⟩
theorem p_laws_toMail (x : Mail) (h : smMail x) : Pure Tryz.prog 213 [.agg (cMail x)] (.agg (cMail x)) := by
 refine Pure.of (by simp [V.dat, V.datL, V.datLL, zz, zf, zy]) (OkCall.enter' tab_ok Tryz.func213 rfl (t := [.agg (cMail x), .any, .any, .any, .any, .any, .any, .any, .any, .any, .any, .any, .any, .any, .any, .any, .any, .any]) rfl ?_)
 refine OQ ?_
 iterate 2 (refine EV ?_)
 refine ON ?_
 refine OQ ?_
 refine EV ?_
 refine ON ?_
 refine OQ ?_
 iterate 3 (refine EV ?_)
 refine OkOps.storeN tab_ok rfl rfl (by simp only [kE, kT, kL, kC] <;> rfl) ⟨_, _, by simp only [kE]; rfl⟩ (by first | (simp [V.labelsL, V.labelsLL, V.labels, zz, zf, zy]; done) | (intro h; simp [V.labelsL, V.labels] at h)) (fun W hW hF => by have f0 := far0 hW (fun h => by omega); have p0 := fun i o e => hW.ptr (1) i o e (by omega);  have p1 := fun i o e => hW.ptr (2) i o e (by omega); simp only [List.map_cons, List.map_nil, hW.int, hW.str, hW.bool, hW.any, hW.tup0, hW.agg, hW.nilV, hF.ptr, f0, p0, p1, kP] <;> rfl) ?_
 refine ON ?_
 refine Ok.seq ?_
 refine Ok.drop [4, 5, 6] (by simp only [kover] <;> rfl) ?_
 refine Ok.region ?_
 iterate 3 (refine EV ?_)
 refine OkOps.storeN tab_ok rfl rfl (by simp only [kE, kT, kL, kC] <;> rfl) ⟨_, _, by simp only [kE]; rfl⟩ (by first | (simp [V.labelsL, V.labelsLL, V.labels, zz, zf, zy]; done) | (intro h; simp [V.labelsL, V.labels] at h)) (fun W hW hF => by have f0 := far0 hW (fun h => by omega); have p0 := fun i o e => hW.ptr (1) i o e (by omega);  have p1 := fun i o e => hW.ptr (2) i o e (by omega); simp only [List.map_cons, List.map_nil, hW.int, hW.str, hW.bool, hW.any, hW.tup0, hW.agg, hW.nilV, hF.ptr, f0, p0, p1, kP] <;> rfl) ?_
 refine ON ?_
 refine Ok.seq ?_
 refine Ok.drop [7, 8, 9] (by simp only [kover] <;> rfl) ?_
 refine Ok.region ?_
 iterate 2 (refine EV ?_)
 obtain ⟨L0a, e0a, hXa, q0a, E0a, M0a, N0a, nda, rga⟩ := ownSReg (3) (x.flags)
 obtain ⟨ma, hma⟩ : ∃ m, 3 + 1 + V.cnt (.sl 0 3 0 ((x.flags).map cReg)) = m + 1 := ⟨3 + V.cnt (.sl 0 3 0 ((x.flags).map cReg)), by omega⟩
 have r0a : ∀ z ∈ V.labels (.sl (L0a + 1) 3 0 e0a), 3 + 1 ≤ z ∧ z < ma + 1 := fun z hz => by have := rga z (by first | exact hz | (simp only [V.labelsL, V.labels, List.mem_append] at hz ⊢; simp only [hz, true_or, or_true])); omega
 refine OkOps.S' rfl (OpS.pure' rfl (by simp only [kE, kT, kL, kC] <;> rfl) (by simp only [kE, kT, kL, kC, V.eraseL, V.erase, V.travL, V.trav, zz, zf, zy] <;> rfl) cl241 (by simp [V.dat, V.datL, V.datLL, zz, zf, zy]) (p_laws_toRegS x.flags h.1)) hma (by simp only [kP, hXa] <;> rfl) ?_
 refine EV ?_
 refine OkOps.storeN tab_ok rfl rfl (by simp only [kE, kT, kL, kC] <;> rfl) ⟨_, _, by simp only [kE]; rfl⟩ (by first | (simp [V.labelsL, V.labelsLL, V.labels, zz, zf, zy]; done) | (intro h; simp only [V.labelsL, V.labels, List.mem_append, List.append_nil, List.nil_append, List.not_mem_nil, or_false, false_or] at h; first | (have := r0a _ h; omega))) (fun W hW hF => by obtain ⟨z0a, zz0a⟩ := farA hW r0a (fun y h1 h2 h => by omega); have f0 := far0 hW (fun h => by omega); have p0 := fun i o e => hW.ptr (1) i o e (by omega);  have p1 := fun i o e => hW.ptr (2) i o e (by omega); simp only [List.map_cons, List.map_nil, hW.int, hW.str, hW.bool, hW.any, hW.tup0, hW.agg, hW.nilV, hF.ptr, z0a, zz0a, f0, p0, p1, kP] <;> rfl) ?_
 refine ON ?_
 refine Ok.seq ?_
 refine Ok.drop [10, 11, 12, 13] (by simp only [kover] <;> rfl) ?_
 refine Ok.region ?_
 iterate 3 (refine EV ?_)
 refine OkOps.storeN tab_ok rfl rfl (by simp only [kE, kT, kL, kC] <;> rfl) ⟨_, _, by simp only [kE]; rfl⟩ (by first | (simp [V.labelsL, V.labelsLL, V.labels, zz, zf, zy]; done) | (intro h; simp only [V.labelsL, V.labels, List.mem_append, List.append_nil, List.nil_append, List.not_mem_nil, or_false, false_or] at h; first | (have := r0a _ h; omega))) (fun W hW hF => by obtain ⟨z0a, zz0a⟩ := farA hW r0a (fun y h1 h2 h => by omega); have f0 := far0 hW (fun h => by omega); have p0 := fun i o e => hW.ptr (1) i o e (by omega);  have p1 := fun i o e => hW.ptr (2) i o e (by omega); simp only [List.map_cons, List.map_nil, hW.int, hW.str, hW.bool, hW.any, hW.tup0, hW.agg, hW.nilV, hF.ptr, z0a, zz0a, f0, p0, p1, kP] <;> rfl) ?_
 refine ON ?_
 refine Ok.seq ?_
 refine Ok.drop [14, 15, 16] (by simp only [kover] <;> rfl) ?_
 refine Ok.region ?_
 refine EV ?_
 refine OkOps.storeN tab_ok rfl rfl (by simp only [kE, kT, kL, kC] <;> rfl) ⟨_, _, by simp only [kE]; rfl⟩ (by first | (simp [V.labelsL, V.labelsLL, V.labels, zz, zf, zy]; done) | (intro h; simp only [V.labelsL, V.labels, List.mem_append, List.append_nil, List.nil_append, List.not_mem_nil, or_false, false_or] at h; first | (have := r0a _ h; omega))) (fun W hW hF => by obtain ⟨z0a, zz0a⟩ := farA hW r0a (fun y h1 h2 h => by omega); have f0 := far0 hW (fun h => by omega); have p0 := fun i o e => hW.ptr (1) i o e (by omega);  have p2 := fun i o e => hW.ptr (3) i o e (by omega); simp only [List.map_cons, List.map_nil, hW.int, hW.str, hW.bool, hW.any, hW.tup0, hW.agg, hW.nilV, hF.ptr, z0a, zz0a, f0, p0, p2, kP] <;> rfl) ?_
 refine ON ?_
 refine Ok.ret ?_
 with_reducible repeat (first | refine thenQ_ret ?_ | refine blockQ_ret ?_)
 refine RT ?_
 exact ⟨(by simp only [packV, V.erase, V.trav, V.travL, V.travLL, zz, zf, zy, E0a] <;> rfl), (by intro L hL; simp only [packV, V.labels, V.labelsL, List.append_nil, List.nil_append] at hL;  first | (have := r0a L hL; omega)), (by simp only [packV, V.labels, V.labelsL, List.append_nil, List.nil_append] at nda ⊢; exact nda)⟩
theorem p_laws_toMailS (a : List Mail) (ha : a.length ≤ 1048576) (hz : ∀ z ∈ a, smMail z) : Pure Tryz.prog 166 [.sl 0 4 0 (a.map cMail)] (.sl 0 4 0 (a.map cMail)) := by
 refine Pure.of (by simp [V.dat, V.datL, V.datLL, zz, zf, zy]) (OkCall.enter' tab_ok Tryz.func166 rfl (t := [.sl 0 4 0 (a.map cMail), .any, .any, .any, .any, .any, .any, .any, .any, .any, .any, .any, .any, .any, .any, .any, .any, .any, .any, .any, .any, .any, .any]) rfl ?_)
 refine OQ ?_
 refine EV ?_
 refine ON ?_
 refine OQ ?_
 iterate 2 (refine EV ?_)
 refine OkOps.S' rfl (ok_makeSlice (a := a.length) (b := a.length) tab_ok (by simp only [kT] <;> rfl) (by simp only [kT] <;> rfl) (by decide) rfl rfl (by simp only [kE, kL] <;> rfl) (by simp only [kE, kL] <;> rfl) (by omega) (by omega) (by omega) (by show ((56 : Nat) : Int) * _ ≤ _; omega)) (by simp only [Nat.reduceAdd] <;> rfl) (by simp only [kP, Int.toNat_natCast] <;> rfl) ?_
 refine EV ?_
 refine ON ?_
 refine Ok.seq ?_
 refine Ok.seq ?_
 refine Ok.drop [5, 6, 7] (by simp only [kover] <;> rfl) ?_
 refine Ok.region ?_
 refine EV ?_
 refine ON ?_
 refine Ok.block ?_
 refine Ok.loopN (τ := List (List V) × Nat) (fun x => [(3, .sl 1 4 0 (x.1 ++ List.replicate (a.length - x.1.length) zcMail)), (4, .int .i64 (x.1.length : Int)), (7, .any)]) [8, 9, 10, 11, 12, 13, 14, 15, 16, 17, 18, 19, 20, 21] (fun x => by simp only [kover] <;> rfl) (fun x => x.2 + 1) (fun x => x.1.length ≤ a.length ∧ V.travLL (fun sz => V.sl 0 sz 0 []) (fun _ sz _ es => V.sl 0 sz 0 es) (fun _ _ o e => V.ptr 0 0 o e) x.1 = (a.take x.1.length).map cMail ∧ (V.labelsLL x.1).Nodup ∧ (∀ z ∈ V.labelsLL x.1, 2 ≤ z ∧ z < x.2 + 1) ∧ 1 ≤ x.2) (fun x => a.length - x.1.length) ([], 1) (by refine ⟨?_, ?_, ?_, ?_, ?_, ?_, ?_, ?_, ?_, ?_, ?_, ?_, ?_, ?_, ?_, ?_, ?_, ?_, ?_, ?_, ?_, ?_, ?_, trivial⟩ <;> first | exact le_any _ | with_reducible exact le_rfl' _ | ((first | exact le_rfl' _ | (refine le_eqm ?_; simp only [List.nil_append, List.length_nil, Nat.sub_zero]; done))) | exact le_rfl' _) (by decide) (⟨Nat.zero_le _, rfl, List.nodup_nil, (fun z hz => by cases hz), Nat.le_refl _⟩) ?_
 rintro ⟨d, k⟩ ⟨h1, h2, h3, h4, h5⟩
 have h1 : d.length ≤ a.length := h1
 have h2 : V.travLL (fun sz => V.sl 0 sz 0 []) (fun _ sz _ es => V.sl 0 sz 0 es) (fun _ _ o e => V.ptr 0 0 o e) d = (a.take d.length).map cMail := h2
 have h3 : (V.labelsLL d).Nodup := h3
 have h4 : ∀ z ∈ V.labelsLL d, 2 ≤ z ∧ z < k + 1 := h4
 have h5 : 1 ≤ k := h5
 refine Ok.seq ?_
 refine OQ ?_
 iterate 4 (refine EV ?_)
 refine ON ?_
 refine Ok.cond (b := _) (by simp only [kE, kT, kL, kC] <;> rfl) (fun hb3 => ?_) (fun hb3 => ?_)
 ·
  try simp only [bsimp] at hb3
  have hi : d.length < a.length := by omega
  have hrep : List.replicate (a.length - d.length) zcMail = zcMail :: List.replicate (a.length - (d.length + 1)) zcMail := by rw [show a.length - d.length = a.length - (d.length + 1) + 1 by omega]; rfl
  rw [hrep]
  have dn : ¬ (1 ∈ V.labelsLL d) := fun h => by have := h4 1 h; omega
  have rn := lab_rep (n := a.length - (d.length + 1)) (c := zcMail) rfl
  refine Ok.skip ?_
  refine Ok.seq ?_
  refine Ok.block ?_
  refine Ok.drop [8, 9, 10, 11] (by simp only [kover] <;> rfl) ?_
  refine Ok.region ?_
  iterate 4 (refine EV ?_)
  refine OkOps.ev tab_ok rfl (ev_idx_map (by simp only [kE, kT, kL, kC] <;> rfl) (by simp only [kE, kT, kL, kC] <;> rfl) (by omega) (by simp only [kE, kT, kL, kC] <;> rfl)) (by simp only [kP] <;> rfl) ?_
  refine EV ?_
  obtain ⟨L2a, e2a, hXa, q2a, E2a, M2a, N2a, nda, rga⟩ := ownMail (k) (a[d.length])
  obtain ⟨ma, hma⟩ : ∃ m, k + 1 + V.cnt (.agg (cMail (a[d.length]))) = m + 1 := ⟨k + V.cnt (.agg (cMail (a[d.length]))), by omega⟩
  have r2a : ∀ z ∈ V.labels (.sl (L2a + 1) 3 0 e2a), k + 1 ≤ z ∧ z < ma + 1 := fun z hz => by have := rga z (by first | exact hz | (simp only [V.labelsL, V.labels, List.mem_append] at hz ⊢; simp only [hz, true_or, or_true])); omega
  refine OkOps.S' rfl (OpS.pure' rfl (by simp only [kE, kT, kL, kC] <;> rfl) (by simp only [kE, kT, kL, kC, V.eraseL, V.erase, V.travL, V.trav, zz, zf, zy] <;> rfl) cl213 (by simp [V.dat, V.datL, V.datLL, zz, zf, zy]) (p_laws_toMail a[d.length] (hz _ (List.getElem_mem hi)))) hma (by simp only [kP, hXa] <;> rfl) ?_
  refine OkOps.ev tab_ok rfl (ev_idx (by simp only [kE, kT, kL, kC] <;> rfl) (by simp only [kE, kT, kL, kC] <;> rfl) (get_mid rfl) (by simp only [kE, kT, kL, kC] <;> rfl)) (by simp only [kP] <;> rfl) ?_
  refine OkOps.storeN tab_ok rfl rfl (by simp only [kE, kT, kL, kC] <;> rfl) ⟨_, _, by simp only [kE]; rfl⟩ (by first | (simp [V.labelsL, V.labelsLL, V.labels, zz, zf, zy]; done) | (intro h; simp only [V.labelsL, V.labels, List.mem_append, List.append_nil, List.nil_append, List.not_mem_nil, or_false, false_or] at h; first | (have := r2a _ h; omega))) (fun W hW hF => by obtain ⟨z2a, zz2a⟩ := farA hW r2a (fun y h1 h2 h => by omega); have f0 := far0 hW (fun h => by omega); simp only [List.map_cons, List.map_nil, hW.int, hW.str, hW.bool, hW.any, hW.tup0, hW.agg, hW.nilV, hF.ptr, z2a, zz2a, f0, hF.sl, set_mid (rfl : d.length = d.length), labelsLL_app, V.labelsLL, V.labelsL, V.labels, List.mem_append, List.not_mem_nil, List.append_nil, List.nil_append, or_false, false_or, not_or, not_false_eq_true, and_self, Nat.zero_add, dn, rn, (fun i o e => hW.ptr 0 i o e (by decide) : ∀ i o e, W (.ptr 0 i o e) = .ptr 0 i o (e.map W)), cMail, zcMail, kP] <;> rfl) ?_
  refine ON ?_
  refine Ok.drop [14, 15, 16, 17, 18, 19, 20, 21] (by simp only [kover] <;> rfl) ?_
  refine Ok.region ?_
  iterate 3 (refine EV ?_)
  refine ON ?_
  refine ⟨(d ++ [[.int .i64 (a[d.length]).gid, .int .i64 (a[d.length]).uid, .sl (L2a + 1) 3 0 e2a, .str (a[d.length]).text]], ma), ?_, rfl, (by dsimp only; omega), rows_snoc hi h2 h3 h4 h5 (by omega) (by simp only [V.travL, V.trav, E2a] <;> rfl) nda (fun z hz => by have := rga z hz; omega), by show a.length - (d ++ [_]).length < a.length - d.length; rw [List.length_append]; simp only [List.length_cons, List.length_nil]; omega⟩
  refine ⟨?_, ?_, ?_, ?_, ?_, ?_, ?_, ?_, ?_, ?_, ?_, ?_, ?_, ?_, ?_, ?_, ?_, ?_, ?_, ?_, ?_, ?_, ?_, trivial⟩ <;> first | exact le_any _ | with_reducible exact le_rfl' _ | (dsimp only; first | (rw [wrap_add_one (by omega)]; refine le_eqm ?_; simp only [List.length_append, List.length_cons, List.length_nil]; done) | (refine le_eqm ?_; simp only [List.length_append, List.length_cons, List.length_nil, List.append_assoc, List.cons_append, List.nil_append, Nat.zero_add]; done)) | exact le_rfl' _
 ·
  try simp only [bsimp] at hb3
  have hi : d.length = a.length := by omega
  have hrep : List.replicate (a.length - d.length) zcMail = [] := by rw [hi, Nat.sub_self]; rfl
  rw [hrep, List.append_nil]
  rw [hi, List.take_length] at h2
  refine Ok.exit ?_
  refine Ok.seq ?_
  refine Ok.drop [8, 9, 10, 11] (by simp only [kover] <;> rfl) ?_
  refine Ok.region ?_
  iterate 2 (refine EV ?_)
  refine ON ?_
  refine Ok.ret ?_
  with_reducible repeat (first | refine thenQ_ret ?_ | refine blockQ_ret ?_)
  refine RT ?_
  exact ⟨(by simp only [packV, V.erase, V.trav, V.travLL, zz, zf, zy, h2] <;> rfl), (by intro L hL; simp only [packV, V.labels, List.mem_cons] at hL; rcases hL with hL | hL <;> first | omega | (have := h4 L hL; omega)), (by simp only [packV, V.labels, List.nodup_cons]; exact ⟨fun h => by have := h4 1 h; omega, h3⟩)⟩
theorem p_laws_toBox (x : Box) (h : smBox x) : Pure Tryz.prog 119 [.agg (cBox x)] (.agg (cBox x)) := by
 refine Pure.of (by simp [V.dat, V.datL, V.datLL, zz, zf, zy]) (OkCall.enter' tab_ok Tryz.func119 rfl (t := [.agg (cBox x), .any, .any, .any, .any, .any, .any, .any, .any, .any, .any, .any, .any, .any, .any, .any, .any, .any, .any, .any, .any, .any, .any, .any, .any, .any]) rfl ?_)
 refine OQ ?_
 iterate 2 (refine EV ?_)
 refine ON ?_
 refine OQ ?_
 refine EV ?_
 refine ON ?_
 refine OQ ?_
 iterate 3 (refine EV ?_)
 refine OkOps.storeN tab_ok rfl rfl (by simp only [kE, kT, kL, kC] <;> rfl) ⟨_, _, by simp only [kE]; rfl⟩ (by first | (simp [V.labelsL, V.labelsLL, V.labels, zz, zf, zy]; done) | (intro h; simp [V.labelsL, V.labels] at h)) (fun W hW hF => by have f0 := far0 hW (fun h => by omega); have p0 := fun i o e => hW.ptr (1) i o e (by omega);  have p1 := fun i o e => hW.ptr (2) i o e (by omega); simp only [List.map_cons, List.map_nil, hW.int, hW.str, hW.bool, hW.any, hW.tup0, hW.agg, hW.nilV, hF.ptr, f0, p0, p1, kP] <;> rfl) ?_
 refine ON ?_
 refine Ok.seq ?_
 refine Ok.drop [4, 5, 6] (by simp only [kover] <;> rfl) ?_
 refine Ok.region ?_
 iterate 3 (refine EV ?_)
 refine OkOps.storeN tab_ok rfl rfl (by simp only [kE, kT, kL, kC] <;> rfl) ⟨_, _, by simp only [kE]; rfl⟩ (by first | (simp [V.labelsL, V.labelsLL, V.labels, zz, zf, zy]; done) | (intro h; simp [V.labelsL, V.labels] at h)) (fun W hW hF => by have f0 := far0 hW (fun h => by omega); have p0 := fun i o e => hW.ptr (1) i o e (by omega);  have p1 := fun i o e => hW.ptr (2) i o e (by omega); simp only [List.map_cons, List.map_nil, hW.int, hW.str, hW.bool, hW.any, hW.tup0, hW.agg, hW.nilV, hF.ptr, f0, p0, p1, kP] <;> rfl) ?_
 refine ON ?_
 refine Ok.seq ?_
 refine Ok.drop [7, 8, 9] (by simp only [kover] <;> rfl) ?_
 refine Ok.region ?_
 iterate 2 (refine EV ?_)
 refine OkOps.S0 rfl (OpS.weak' rfl (by simp only [kE, kT, kL, kC] <;> rfl) (by simp only [kE, kT, kL, kC] <;> rfl) cl165 (w_own_toStamp x.named)) (by simp only [kP] <;> rfl) ?_
 refine EV ?_
 refine OkOps.storeN tab_ok rfl rfl (by simp only [kE, kT, kL, kC] <;> rfl) ⟨_, _, by simp only [kE]; rfl⟩ (by first | (simp [V.labelsL, V.labelsLL, V.labels, zz, zf, zy]; done) | (intro h; simp [V.labelsL, V.labels] at h)) (fun W hW hF => by have f0 := far0 hW (fun h => by omega); have p0 := fun i o e => hW.ptr (1) i o e (by omega);  have p1 := fun i o e => hW.ptr (2) i o e (by omega); simp only [List.map_cons, List.map_nil, hW.int, hW.str, hW.bool, hW.any, hW.tup0, hW.agg, hW.nilV, hF.ptr, f0, p0, p1, kP] <;> rfl) ?_
 refine ON ?_
 refine Ok.seq ?_
 refine Ok.drop [10, 11, 12, 13] (by simp only [kover] <;> rfl) ?_
 refine Ok.region ?_
 iterate 3 (refine EV ?_)
 refine OkOps.storeN tab_ok rfl rfl (by simp only [kE, kT, kL, kC] <;> rfl) ⟨_, _, by simp only [kE]; rfl⟩ (by first | (simp [V.labelsL, V.labelsLL, V.labels, zz, zf, zy]; done) | (intro h; simp [V.labelsL, V.labels] at h)) (fun W hW hF => by have f0 := far0 hW (fun h => by omega); have p0 := fun i o e => hW.ptr (1) i o e (by omega);  have p1 := fun i o e => hW.ptr (2) i o e (by omega); simp only [List.map_cons, List.map_nil, hW.int, hW.str, hW.bool, hW.any, hW.tup0, hW.agg, hW.nilV, hF.ptr, f0, p0, p1, kP] <;> rfl) ?_
 refine ON ?_
 refine Ok.seq ?_
 refine Ok.drop [14, 15, 16] (by simp only [kover] <;> rfl) ?_
 refine Ok.region ?_
 iterate 2 (refine EV ?_)
 obtain ⟨L0a, e0a, hXa, q0a, E0a, M0a, N0a, nda, rga⟩ := ownSMail (3) (x.mails)
 obtain ⟨ma, hma⟩ : ∃ m, 3 + 1 + V.cnt (.sl 0 4 0 ((x.mails).map cMail)) = m + 1 := ⟨3 + V.cnt (.sl 0 4 0 ((x.mails).map cMail)), by omega⟩
 have r0a : ∀ z ∈ V.labels (.sl (L0a + 1) 4 0 e0a), 3 + 1 ≤ z ∧ z < ma + 1 := fun z hz => by have := rga z (by first | exact hz | (simp only [V.labelsL, V.labels, List.mem_append] at hz ⊢; simp only [hz, true_or, or_true])); omega
 refine OkOps.S' rfl (OpS.pure' rfl (by simp only [kE, kT, kL, kC] <;> rfl) (by simp only [kE, kT, kL, kC, V.eraseL, V.erase, V.travL, V.trav, zz, zf, zy] <;> rfl) cl166 (by simp [V.dat, V.datL, V.datLL, zz, zf, zy]) (p_laws_toMailS x.mails h.2.1.1 h.2.1.2)) hma (by simp only [kP, hXa] <;> rfl) ?_
 refine EV ?_
 refine OkOps.storeN tab_ok rfl rfl (by simp only [kE, kT, kL, kC] <;> rfl) ⟨_, _, by simp only [kE]; rfl⟩ (by first | (simp [V.labelsL, V.labelsLL, V.labels, zz, zf, zy]; done) | (intro h; simp only [V.labelsL, V.labels, List.mem_append, List.append_nil, List.nil_append, List.not_mem_nil, or_false, false_or] at h; first | (have := r0a _ h; omega))) (fun W hW hF => by obtain ⟨z0a, zz0a⟩ := farA hW r0a (fun y h1 h2 h => by omega); have f0 := far0 hW (fun h => by omega); have p0 := fun i o e => hW.ptr (1) i o e (by omega);  have p1 := fun i o e => hW.ptr (2) i o e (by omega); simp only [List.map_cons, List.map_nil, hW.int, hW.str, hW.bool, hW.any, hW.tup0, hW.agg, hW.nilV, hF.ptr, z0a, zz0a, f0, p0, p1, kP] <;> rfl) ?_
 refine ON ?_
 refine Ok.seq ?_
 refine Ok.drop [17, 18, 19, 20] (by simp only [kover] <;> rfl) ?_
 refine Ok.region ?_
 iterate 2 (refine EV ?_)
 obtain ⟨L0b, e0b, hXb, q0b, E0b, M0b, N0b, ndb, rgb⟩ := ownSInt (ma) (x.gone)
 obtain ⟨mb, hmb⟩ : ∃ m, ma + 1 + V.cnt (.sl 0 1 0 ((x.gone).map cZ)) = m + 1 := ⟨ma + V.cnt (.sl 0 1 0 ((x.gone).map cZ)), by omega⟩
 have r0b : ∀ z ∈ V.labels (.sl (L0b + 1) 1 0 e0b), ma + 1 ≤ z ∧ z < mb + 1 := fun z hz => by have := rgb z (by first | exact hz | (simp only [V.labelsL, V.labels, List.mem_append] at hz ⊢; simp only [hz, true_or, or_true])); omega
 refine OkOps.S' rfl (OpS.pure' rfl (by simp only [kE, kT, kL, kC] <;> rfl) (by simp only [kE, kT, kL, kC, E0a, M0a, N0a, V.eraseL, V.erase, V.travL, V.trav, zz, zf, zy] <;> rfl) cl54 (by simp [V.dat, V.datL, V.datLL, zz, zf, zy]) (p_laws_toIntS x.gone h.2.2)) hmb (by simp only [kP, hXb] <;> rfl) ?_
 refine EV ?_
 refine OkOps.storeN tab_ok rfl rfl (by simp only [kE, kT, kL, kC] <;> rfl) ⟨_, _, by simp only [kE]; rfl⟩ (by first | (simp [V.labelsL, V.labelsLL, V.labels, zz, zf, zy]; done) | (intro h; simp only [V.labelsL, V.labels, List.mem_append, List.append_nil, List.nil_append, List.not_mem_nil, or_false, false_or] at h; rcases h with h | h <;> first | (have := r0a _ h; omega) | (have := r0b _ h; omega))) (fun W hW hF => by obtain ⟨z0a, zz0a⟩ := farA hW r0a (fun y h1 h2 h => by omega); obtain ⟨z0b, zz0b⟩ := farA hW r0b (fun y h1 h2 h => by omega); have f0 := far0 hW (fun h => by omega); have p0 := fun i o e => hW.ptr (1) i o e (by omega);  have p1 := fun i o e => hW.ptr (2) i o e (by omega); simp only [List.map_cons, List.map_nil, hW.int, hW.str, hW.bool, hW.any, hW.tup0, hW.agg, hW.nilV, hF.ptr, z0a, zz0a, z0b, zz0b, f0, p0, p1, kP] <;> rfl) ?_
 refine ON ?_
 refine Ok.seq ?_
 refine Ok.drop [21, 22, 23, 24] (by simp only [kover] <;> rfl) ?_
 refine Ok.region ?_
 refine EV ?_
 refine OkOps.storeN tab_ok rfl rfl (by simp only [kE, kT, kL, kC] <;> rfl) ⟨_, _, by simp only [kE]; rfl⟩ (by first | (simp [V.labelsL, V.labelsLL, V.labels, zz, zf, zy]; done) | (intro h; simp only [V.labelsL, V.labels, List.mem_append, List.append_nil, List.nil_append, List.not_mem_nil, or_false, false_or] at h; rcases h with h | h <;> first | (have := r0a _ h; omega) | (have := r0b _ h; omega))) (fun W hW hF => by obtain ⟨z0a, zz0a⟩ := farA hW r0a (fun y h1 h2 h => by omega); obtain ⟨z0b, zz0b⟩ := farA hW r0b (fun y h1 h2 h => by omega); have f0 := far0 hW (fun h => by omega); have p0 := fun i o e => hW.ptr (1) i o e (by omega);  have p2 := fun i o e => hW.ptr (3) i o e (by omega); simp only [List.map_cons, List.map_nil, hW.int, hW.str, hW.bool, hW.any, hW.tup0, hW.agg, hW.nilV, hF.ptr, z0a, zz0a, z0b, zz0b, f0, p0, p2, kP] <;> rfl) ?_
 refine ON ?_
 refine Ok.ret ?_
 with_reducible repeat (first | refine thenQ_ret ?_ | refine blockQ_ret ?_)
 refine RT ?_
 exact ⟨(by simp only [packV, V.erase, V.trav, V.travL, V.travLL, zz, zf, zy, E0a, E0b] <;> rfl), (by intro L hL; simp only [packV, V.labels, V.labelsL, List.append_nil, List.nil_append] at hL; (try rw [List.mem_append] at hL); (try rw [List.mem_append] at hL); rcases hL with hL | hL <;>  first | (have := r0a L hL; omega) | (have := r0b L hL; omega)), (by have n1 := nda; have n2 := ndb; simp only [V.labels, V.labelsL, List.append_nil, List.nil_append] at n1 n2; simp only [packV, V.labels, V.labelsL, List.append_nil, List.nil_append]; rw [List.nodup_append]; exact ⟨n1, n2, fun y hy z hz h => by (have q2 := r0b z hz; first | (have q1 := r0a y hy; omega))⟩)⟩
theorem p_laws_toBoxS (a : List Box) (ha : a.length ≤ 1048576) (hz : ∀ z ∈ a, smBox z) : Pure Tryz.prog 53 [.sl 0 7 0 (a.map cBox)] (.sl 0 7 0 (a.map cBox)) := by
 refine Pure.of (by simp [V.dat, V.datL, V.datLL, zz, zf, zy]) (OkCall.enter' tab_ok Tryz.func53 rfl (t := [.sl 0 7 0 (a.map cBox), .any, .any, .any, .any, .any, .any, .any, .any, .any, .any, .any, .any, .any, .any, .any, .any, .any, .any, .any, .any, .any, .any]) rfl ?_)
 refine OQ ?_
 refine EV ?_
 refine ON ?_
 refine OQ ?_
 iterate 2 (refine EV ?_)
 refine OkOps.S' rfl (ok_makeSlice (a := a.length) (b := a.length) tab_ok (by simp only [kT] <;> rfl) (by simp only [kT] <;> rfl) (by decide) rfl rfl (by simp only [kE, kL] <;> rfl) (by simp only [kE, kL] <;> rfl) (by omega) (by omega) (by omega) (by show ((96 : Nat) : Int) * _ ≤ _; omega)) (by simp only [Nat.reduceAdd] <;> rfl) (by simp only [kP, Int.toNat_natCast] <;> rfl) ?_
 refine EV ?_
 refine ON ?_
 refine Ok.seq ?_
 refine Ok.seq ?_
 refine Ok.drop [5, 6, 7] (by simp only [kover] <;> rfl) ?_
 refine Ok.region ?_
 refine EV ?_
 refine ON ?_
 refine Ok.block ?_
 refine Ok.loopN (τ := List (List V) × Nat) (fun x => [(3, .sl 1 7 0 (x.1 ++ List.replicate (a.length - x.1.length) zcBox)), (4, .int .i64 (x.1.length : Int)), (7, .any)]) [8, 9, 10, 11, 12, 13, 14, 15, 16, 17, 18, 19, 20, 21] (fun x => by simp only [kover] <;> rfl) (fun x => x.2 + 1) (fun x => x.1.length ≤ a.length ∧ V.travLL (fun sz => V.sl 0 sz 0 []) (fun _ sz _ es => V.sl 0 sz 0 es) (fun _ _ o e => V.ptr 0 0 o e) x.1 = (a.take x.1.length).map cBox ∧ (V.labelsLL x.1).Nodup ∧ (∀ z ∈ V.labelsLL x.1, 2 ≤ z ∧ z < x.2 + 1) ∧ 1 ≤ x.2) (fun x => a.length - x.1.length) ([], 1) (by refine ⟨?_, ?_, ?_, ?_, ?_, ?_, ?_, ?_, ?_, ?_, ?_, ?_, ?_, ?_, ?_, ?_, ?_, ?_, ?_, ?_, ?_, ?_, ?_, trivial⟩ <;> first | exact le_any _ | with_reducible exact le_rfl' _ | ((first | exact le_rfl' _ | (refine le_eqm ?_; simp only [List.nil_append, List.length_nil, Nat.sub_zero]; done))) | exact le_rfl' _) (by decide) (⟨Nat.zero_le _, rfl, List.nodup_nil, (fun z hz => by cases hz), Nat.le_refl _⟩) ?_
 rintro ⟨d, k⟩ ⟨h1, h2, h3, h4, h5⟩
 have h1 : d.length ≤ a.length := h1
 have h2 : V.travLL (fun sz => V.sl 0 sz 0 []) (fun _ sz _ es => V.sl 0 sz 0 es) (fun _ _ o e => V.ptr 0 0 o e) d = (a.take d.length).map cBox := h2
 have h3 : (V.labelsLL d).Nodup := h3
 have h4 : ∀ z ∈ V.labelsLL d, 2 ≤ z ∧ z < k + 1 := h4
 have h5 : 1 ≤ k := h5
 refine Ok.seq ?_
 refine OQ ?_
 iterate 4 (refine EV ?_)
 refine ON ?_
 refine Ok.cond (b := _) (by simp only [kE, kT, kL, kC] <;> rfl) (fun hb3 => ?_) (fun hb3 => ?_)
 ·
  try simp only [bsimp] at hb3
  have hi : d.length < a.length := by omega
  have hrep : List.replicate (a.length - d.length) zcBox = zcBox :: List.replicate (a.length - (d.length + 1)) zcBox := by rw [show a.length - d.length = a.length - (d.length + 1) + 1 by omega]; rfl
  rw [hrep]
  have dn : ¬ (1 ∈ V.labelsLL d) := fun h => by have := h4 1 h; omega
  have rn := lab_rep (n := a.length - (d.length + 1)) (c := zcBox) rfl
  refine Ok.skip ?_
  refine Ok.seq ?_
  refine Ok.block ?_
  refine Ok.drop [8, 9, 10, 11] (by simp only [kover] <;> rfl) ?_
  refine Ok.region ?_
  iterate 4 (refine EV ?_)
  refine OkOps.ev tab_ok rfl (ev_idx_map (by simp only [kE, kT, kL, kC] <;> rfl) (by simp only [kE, kT, kL, kC] <;> rfl) (by omega) (by simp only [kE, kT, kL, kC] <;> rfl)) (by simp only [kP] <;> rfl) ?_
  refine EV ?_
  obtain ⟨L5a, e5a, L6a, e6a, hXa, q5a, E5a, M5a, N5a, q6a, E6a, M6a, N6a, nda, rga⟩ := ownBox (k) (a[d.length])
  obtain ⟨ma, hma⟩ : ∃ m, k + 1 + V.cnt (.agg (cBox (a[d.length]))) = m + 1 := ⟨k + V.cnt (.agg (cBox (a[d.length]))), by omega⟩
  have r5a : ∀ z ∈ V.labels (.sl (L5a + 1) 4 0 e5a), k + 1 ≤ z ∧ z < ma + 1 := fun z hz => by have := rga z (by first | exact hz | (simp only [V.labelsL, V.labels, List.mem_append] at hz ⊢; simp only [hz, true_or, or_true])); omega
  have r6a : ∀ z ∈ V.labels (.sl (L6a + 1) 1 0 e6a), k + 1 ≤ z ∧ z < ma + 1 := fun z hz => by have := rga z (by first | exact hz | (simp only [V.labelsL, V.labels, List.mem_append] at hz ⊢; simp only [hz, true_or, or_true])); omega
  refine OkOps.S' rfl (OpS.pure' rfl (by simp only [kE, kT, kL, kC] <;> rfl) (by simp only [kE, kT, kL, kC, V.eraseL, V.erase, V.travL, V.trav, zz, zf, zy] <;> rfl) cl119 (by simp [V.dat, V.datL, V.datLL, zz, zf, zy]) (p_laws_toBox a[d.length] (hz _ (List.getElem_mem hi)))) hma (by simp only [kP, hXa] <;> rfl) ?_
  refine OkOps.ev tab_ok rfl (ev_idx (by simp only [kE, kT, kL, kC] <;> rfl) (by simp only [kE, kT, kL, kC] <;> rfl) (get_mid rfl) (by simp only [kE, kT, kL, kC] <;> rfl)) (by simp only [kP] <;> rfl) ?_
  refine OkOps.storeN tab_ok rfl rfl (by simp only [kE, kT, kL, kC] <;> rfl) ⟨_, _, by simp only [kE]; rfl⟩ (by first | (simp [V.labelsL, V.labelsLL, V.labels, zz, zf, zy]; done) | (intro h; simp only [V.labelsL, V.labels, List.mem_append, List.append_nil, List.nil_append, List.not_mem_nil, or_false, false_or] at h; rcases h with h | h <;> first | (have := r5a _ h; omega) | (have := r6a _ h; omega))) (fun W hW hF => by obtain ⟨z5a, zz5a⟩ := farA hW r5a (fun y h1 h2 h => by omega); obtain ⟨z6a, zz6a⟩ := farA hW r6a (fun y h1 h2 h => by omega); have f0 := far0 hW (fun h => by omega); simp only [List.map_cons, List.map_nil, hW.int, hW.str, hW.bool, hW.any, hW.tup0, hW.agg, hW.nilV, hF.ptr, z5a, zz5a, z6a, zz6a, f0, hF.sl, set_mid (rfl : d.length = d.length), labelsLL_app, V.labelsLL, V.labelsL, V.labels, List.mem_append, List.not_mem_nil, List.append_nil, List.nil_append, or_false, false_or, not_or, not_false_eq_true, and_self, Nat.zero_add, dn, rn, (fun i o e => hW.ptr 0 i o e (by decide) : ∀ i o e, W (.ptr 0 i o e) = .ptr 0 i o (e.map W)), cBox, zcBox, kP] <;> rfl) ?_
  refine ON ?_
  refine Ok.drop [14, 15, 16, 17, 18, 19, 20, 21] (by simp only [kover] <;> rfl) ?_
  refine Ok.region ?_
  iterate 3 (refine EV ?_)
  refine ON ?_
  refine ⟨(d ++ [[.int .i64 (a[d.length]).gid, .str (a[d.length]).name, .int .i64 (a[d.length]).named.time, .int .i64 (a[d.length]).named.by_, .int .i64 (a[d.length]).next, .sl (L5a + 1) 4 0 e5a, .sl (L6a + 1) 1 0 e6a]], ma), ?_, rfl, (by dsimp only; omega), rows_snoc hi h2 h3 h4 h5 (by omega) (by simp only [V.travL, V.trav, E5a, E6a] <;> rfl) nda (fun z hz => by have := rga z hz; omega), by show a.length - (d ++ [_]).length < a.length - d.length; rw [List.length_append]; simp only [List.length_cons, List.length_nil]; omega⟩
  refine ⟨?_, ?_, ?_, ?_, ?_, ?_, ?_, ?_, ?_, ?_, ?_, ?_, ?_, ?_, ?_, ?_, ?_, ?_, ?_, ?_, ?_, ?_, ?_, trivial⟩ <;> first | exact le_any _ | with_reducible exact le_rfl' _ | (dsimp only; first | (rw [wrap_add_one (by omega)]; refine le_eqm ?_; simp only [List.length_append, List.length_cons, List.length_nil]; done) | (refine le_eqm ?_; simp only [List.length_append, List.length_cons, List.length_nil, List.append_assoc, List.cons_append, List.nil_append, Nat.zero_add]; done)) | exact le_rfl' _
 ·
  try simp only [bsimp] at hb3
  have hi : d.length = a.length := by omega
  have hrep : List.replicate (a.length - d.length) zcBox = [] := by rw [hi, Nat.sub_self]; rfl
  rw [hrep, List.append_nil]
  rw [hi, List.take_length] at h2
  refine Ok.exit ?_
  refine Ok.seq ?_
  refine Ok.drop [8, 9, 10, 11] (by simp only [kover] <;> rfl) ?_
  refine Ok.region ?_
  iterate 2 (refine EV ?_)
  refine ON ?_
  refine Ok.ret ?_
  with_reducible repeat (first | refine thenQ_ret ?_ | refine blockQ_ret ?_)
  refine RT ?_
  exact ⟨(by simp only [packV, V.erase, V.trav, V.travLL, zz, zf, zy, h2] <;> rfl), (by intro L hL; simp only [packV, V.labels, List.mem_cons] at hL; rcases hL with hL | hL <;> first | omega | (have := h4 L hL; omega)), (by simp only [packV, V.labels, List.nodup_cons]; exact ⟨fun h => by have := h4 1 h; omega, h3⟩)⟩
theorem p_laws_toStore (x : Store) (h : smStore x) : Pure Tryz.prog 10 [.agg (cStore x)] (.agg (cStore x)) := by
 refine Pure.of (by simp [V.dat, V.datL, V.datLL, zz, zf, zy]) (OkCall.enter' tab_ok Tryz.func10 rfl (t := [.agg (cStore x), .any, .any, .any, .any, .any, .any, .any, .any, .any, .any, .any, .any, .any, .any, .any, .any, .any, .any]) rfl ?_)
 refine OQ ?_
 iterate 2 (refine EV ?_)
 refine ON ?_
 refine OQ ?_
 refine EV ?_
 refine ON ?_
 refine OQ ?_
 iterate 3 (refine EV ?_)
 refine OkOps.storeN tab_ok rfl rfl (by simp only [kE, kT, kL, kC] <;> rfl) ⟨_, _, by simp only [kE]; rfl⟩ (by first | (simp [V.labelsL, V.labelsLL, V.labels, zz, zf, zy]; done) | (intro h; simp [V.labelsL, V.labels] at h)) (fun W hW hF => by have f0 := far0 hW (fun h => by omega); have p0 := fun i o e => hW.ptr (1) i o e (by omega);  have p1 := fun i o e => hW.ptr (2) i o e (by omega); simp only [List.map_cons, List.map_nil, hW.int, hW.str, hW.bool, hW.any, hW.tup0, hW.agg, hW.nilV, hF.ptr, f0, p0, p1, kP] <;> rfl) ?_
 refine ON ?_
 refine Ok.seq ?_
 refine Ok.drop [4, 5, 6] (by simp only [kover] <;> rfl) ?_
 refine Ok.region ?_
 iterate 3 (refine EV ?_)
 refine OkOps.storeN tab_ok rfl rfl (by simp only [kE, kT, kL, kC] <;> rfl) ⟨_, _, by simp only [kE]; rfl⟩ (by first | (simp [V.labelsL, V.labelsLL, V.labels, zz, zf, zy]; done) | (intro h; simp [V.labelsL, V.labels] at h)) (fun W hW hF => by have f0 := far0 hW (fun h => by omega); have p0 := fun i o e => hW.ptr (1) i o e (by omega);  have p1 := fun i o e => hW.ptr (2) i o e (by omega); simp only [List.map_cons, List.map_nil, hW.int, hW.str, hW.bool, hW.any, hW.tup0, hW.agg, hW.nilV, hF.ptr, f0, p0, p1, kP] <;> rfl) ?_
 refine ON ?_
 refine Ok.seq ?_
 refine Ok.drop [7, 8, 9] (by simp only [kover] <;> rfl) ?_
 refine Ok.region ?_
 iterate 2 (refine EV ?_)
 obtain ⟨L0a, e0a, hXa, q0a, E0a, M0a, N0a, nda, rga⟩ := ownSBox (3) (x.boxes)
 obtain ⟨ma, hma⟩ : ∃ m, 3 + 1 + V.cnt (.sl 0 7 0 ((x.boxes).map cBox)) = m + 1 := ⟨3 + V.cnt (.sl 0 7 0 ((x.boxes).map cBox)), by omega⟩
 have r0a : ∀ z ∈ V.labels (.sl (L0a + 1) 7 0 e0a), 3 + 1 ≤ z ∧ z < ma + 1 := fun z hz => by have := rga z (by first | exact hz | (simp only [V.labelsL, V.labels, List.mem_append] at hz ⊢; simp only [hz, true_or, or_true])); omega
 refine OkOps.S' rfl (OpS.pure' rfl (by simp only [kE, kT, kL, kC] <;> rfl) (by simp only [kE, kT, kL, kC, V.eraseL, V.erase, V.travL, V.trav, zz, zf, zy] <;> rfl) cl53 (by simp [V.dat, V.datL, V.datLL, zz, zf, zy]) (p_laws_toBoxS x.boxes h.1.1 h.1.2)) hma (by simp only [kP, hXa] <;> rfl) ?_
 refine EV ?_
 refine OkOps.storeN tab_ok rfl rfl (by simp only [kE, kT, kL, kC] <;> rfl) ⟨_, _, by simp only [kE]; rfl⟩ (by first | (simp [V.labelsL, V.labelsLL, V.labels, zz, zf, zy]; done) | (intro h; simp only [V.labelsL, V.labels, List.mem_append, List.append_nil, List.nil_append, List.not_mem_nil, or_false, false_or] at h; first | (have := r0a _ h; omega))) (fun W hW hF => by obtain ⟨z0a, zz0a⟩ := farA hW r0a (fun y h1 h2 h => by omega); have f0 := far0 hW (fun h => by omega); have p0 := fun i o e => hW.ptr (1) i o e (by omega);  have p1 := fun i o e => hW.ptr (2) i o e (by omega); simp only [List.map_cons, List.map_nil, hW.int, hW.str, hW.bool, hW.any, hW.tup0, hW.agg, hW.nilV, hF.ptr, z0a, zz0a, f0, p0, p1, kP] <;> rfl) ?_
 refine ON ?_
 refine Ok.seq ?_
 refine Ok.drop [10, 11, 12, 13] (by simp only [kover] <;> rfl) ?_
 refine Ok.region ?_
 iterate 2 (refine EV ?_)
 obtain ⟨L0b, e0b, hXb, q0b, E0b, M0b, N0b, ndb, rgb⟩ := ownSInt (ma) (x.gone)
 obtain ⟨mb, hmb⟩ : ∃ m, ma + 1 + V.cnt (.sl 0 1 0 ((x.gone).map cZ)) = m + 1 := ⟨ma + V.cnt (.sl 0 1 0 ((x.gone).map cZ)), by omega⟩
 have r0b : ∀ z ∈ V.labels (.sl (L0b + 1) 1 0 e0b), ma + 1 ≤ z ∧ z < mb + 1 := fun z hz => by have := rgb z (by first | exact hz | (simp only [V.labelsL, V.labels, List.mem_append] at hz ⊢; simp only [hz, true_or, or_true])); omega
 refine OkOps.S' rfl (OpS.pure' rfl (by simp only [kE, kT, kL, kC] <;> rfl) (by simp only [kE, kT, kL, kC, E0a, M0a, N0a, V.eraseL, V.erase, V.travL, V.trav, zz, zf, zy] <;> rfl) cl54 (by simp [V.dat, V.datL, V.datLL, zz, zf, zy]) (p_laws_toIntS x.gone h.2)) hmb (by simp only [kP, hXb] <;> rfl) ?_
 refine EV ?_
 refine OkOps.storeN tab_ok rfl rfl (by simp only [kE, kT, kL, kC] <;> rfl) ⟨_, _, by simp only [kE]; rfl⟩ (by first | (simp [V.labelsL, V.labelsLL, V.labels, zz, zf, zy]; done) | (intro h; simp only [V.labelsL, V.labels, List.mem_append, List.append_nil, List.nil_append, List.not_mem_nil, or_false, false_or] at h; rcases h with h | h <;> first | (have := r0a _ h; omega) | (have := r0b _ h; omega))) (fun W hW hF => by obtain ⟨z0a, zz0a⟩ := farA hW r0a (fun y h1 h2 h => by omega); obtain ⟨z0b, zz0b⟩ := farA hW r0b (fun y h1 h2 h => by omega); have f0 := far0 hW (fun h => by omega); have p0 := fun i o e => hW.ptr (1) i o e (by omega);  have p1 := fun i o e => hW.ptr (2) i o e (by omega); simp only [List.map_cons, List.map_nil, hW.int, hW.str, hW.bool, hW.any, hW.tup0, hW.agg, hW.nilV, hF.ptr, z0a, zz0a, z0b, zz0b, f0, p0, p1, kP] <;> rfl) ?_
 refine ON ?_
 refine Ok.seq ?_
 refine Ok.drop [14, 15, 16, 17] (by simp only [kover] <;> rfl) ?_
 refine Ok.region ?_
 refine EV ?_
 refine OkOps.storeN tab_ok rfl rfl (by simp only [kE, kT, kL, kC] <;> rfl) ⟨_, _, by simp only [kE]; rfl⟩ (by first | (simp [V.labelsL, V.labelsLL, V.labels, zz, zf, zy]; done) | (intro h; simp only [V.labelsL, V.labels, List.mem_append, List.append_nil, List.nil_append, List.not_mem_nil, or_false, false_or] at h; rcases h with h | h <;> first | (have := r0a _ h; omega) | (have := r0b _ h; omega))) (fun W hW hF => by obtain ⟨z0a, zz0a⟩ := farA hW r0a (fun y h1 h2 h => by omega); obtain ⟨z0b, zz0b⟩ := farA hW r0b (fun y h1 h2 h => by omega); have f0 := far0 hW (fun h => by omega); have p0 := fun i o e => hW.ptr (1) i o e (by omega);  have p2 := fun i o e => hW.ptr (3) i o e (by omega); simp only [List.map_cons, List.map_nil, hW.int, hW.str, hW.bool, hW.any, hW.tup0, hW.agg, hW.nilV, hF.ptr, z0a, zz0a, z0b, zz0b, f0, p0, p2, kP] <;> rfl) ?_
 refine ON ?_
 refine Ok.ret ?_
 with_reducible repeat (first | refine thenQ_ret ?_ | refine blockQ_ret ?_)
 refine RT ?_
 exact ⟨(by simp only [packV, V.erase, V.trav, V.travL, V.travLL, zz, zf, zy, E0a, E0b] <;> rfl), (by intro L hL; simp only [packV, V.labels, V.labelsL, List.append_nil, List.nil_append] at hL; (try rw [List.mem_append] at hL); (try rw [List.mem_append] at hL); rcases hL with hL | hL <;>  first | (have := r0a L hL; omega) | (have := r0b L hL; omega)), (by have n1 := nda; have n2 := ndb; simp only [V.labels, V.labelsL, List.append_nil, List.nil_append] at n1 n2; simp only [packV, V.labels, V.labelsL, List.append_nil, List.nil_append]; rw [List.nodup_append]; exact ⟨n1, n2, fun y hy z hz h => by (have q2 := r0b z hz; first | (have q1 := r0a y hy; omega))⟩)⟩
end Go.Proofs.YtjhfabimacljhaaGreat.K

/- Walks: sizes, copies, comparisons of all data. Printed by w2.py. -/
namespace Go.Proofs.YtjhfabimacljhaaGreat.K
open Go Go.RowKit
set_option linter.unusedVariables false
set_option linter.unusedSimpArgs false
set_option maxHeartbeats 4000000
set_option maxRecDepth 20000
theorem w_laws_szRegS (a : List Reg) (left : Int) : Weak Tryz.prog 240 [.sl 0 3 0 (a.map cReg), .int .i64 left] (.int .i64 (szLen a.length left)) := by
 refine Weak.enter tab_ok Tryz.func240 rfl (.inr (by simp [V.labelsL, V.labels, V.labelsLL, zz, zf, zy, or_imp, forall_and])) (t := [.sl 0 3 0 (a.map cReg), .int .i64 left, .any, .any, .any, .any, .any, .any, .any, .any, .any, .any]) rfl ?_
 refine OQ ?_
 refine EV ?_
 refine ON ?_
 refine OQ ?_
 iterate 5 (refine EV ?_)
 refine ON ?_
 refine Ok.seq ?_
 refine OQ ?_
 iterate 2 (refine EV ?_)
 refine ON ?_
 refine Ok.cond (b := _) (by simp only [kE, kT, kL, kC] <;> rfl) (fun hb2 => ?_) (fun hb2 => ?_)
 ·
  try simp only [bsimp] at hb2
  refine OQ ?_
  refine EV ?_
  refine ON ?_
  refine Ok.ret ?_
  with_reducible repeat (first | refine thenQ_ret ?_ | refine blockQ_ret ?_)
  refine RT ?_
  first | (simp only [szLen, if_pos hb2]; rfl) | (simp only [szLen, if_neg hb2]; rfl)
 ·
  try simp only [bsimp] at hb2
  refine Ok.skip ?_
  refine OQ ?_
  iterate 2 (refine EV ?_)
  refine ON ?_
  refine Ok.ret ?_
  with_reducible repeat (first | refine thenQ_ret ?_ | refine blockQ_ret ?_)
  refine RT ?_
  first | (simp only [szLen, if_pos hb2]; rfl) | (simp only [szLen, if_neg hb2]; rfl)
theorem w_laws_szIntS (a : List Int) (left : Int) : Weak Tryz.prog 49 [.sl 0 1 0 (a.map cZ), .int .i64 left] (.int .i64 (szLen a.length left)) := by
 refine Weak.enter tab_ok Tryz.func49 rfl (.inr (by simp [V.labelsL, V.labels, V.labelsLL, zz, zf, zy, or_imp, forall_and])) (t := [.sl 0 1 0 (a.map cZ), .int .i64 left, .any, .any, .any, .any, .any, .any, .any, .any, .any, .any]) rfl ?_
 refine OQ ?_
 refine EV ?_
 refine ON ?_
 refine OQ ?_
 iterate 5 (refine EV ?_)
 refine ON ?_
 refine Ok.seq ?_
 refine OQ ?_
 iterate 2 (refine EV ?_)
 refine ON ?_
 refine Ok.cond (b := _) (by simp only [kE, kT, kL, kC] <;> rfl) (fun hb2 => ?_) (fun hb2 => ?_)
 ·
  try simp only [bsimp] at hb2
  refine OQ ?_
  refine EV ?_
  refine ON ?_
  refine Ok.ret ?_
  with_reducible repeat (first | refine thenQ_ret ?_ | refine blockQ_ret ?_)
  refine RT ?_
  first | (simp only [szLen, if_pos hb2]; rfl) | (simp only [szLen, if_neg hb2]; rfl)
 ·
  try simp only [bsimp] at hb2
  refine Ok.skip ?_
  refine OQ ?_
  iterate 2 (refine EV ?_)
  refine ON ?_
  refine Ok.ret ?_
  with_reducible repeat (first | refine thenQ_ret ?_ | refine blockQ_ret ?_)
  refine RT ?_
  first | (simp only [szLen, if_pos hb2]; rfl) | (simp only [szLen, if_neg hb2]; rfl)
theorem w_laws_szMail (x : Mail) (left : Int) : Weak Tryz.prog 212 [.agg (cMail x), .int .i64 left] (.int .i64 (szMail x left)) := by
 refine Weak.enter tab_ok Tryz.func212 rfl (.inr (by simp [V.labelsL, V.labels, V.labelsLL, zz, zf, zy, or_imp, forall_and])) (t := [.agg (cMail x), .int .i64 left, .any, .any, .any, .any, .any, .any, .any, .any, .any, .any, .any, .any, .any, .any, .any, .any, .any]) rfl ?_
 refine OQ ?_
 iterate 2 (refine EV ?_)
 refine ON ?_
 refine OQ ?_
 iterate 3 (refine EV ?_)
 refine OkOps.S0 rfl (OpS.weak' rfl (by simp only [kE, kT, kL, kC] <;> rfl) (by simp only [kE, kT, kL, kC] <;> rfl) cl240 (w_laws_szRegS x.flags _)) (by simp only [kP] <;> rfl) ?_
 refine EV ?_
 refine ON ?_
 refine Ok.seq ?_
 refine OQ ?_
 iterate 2 (refine EV ?_)
 refine ON ?_
 refine Ok.cond (b := _) (by simp only [kE, kT, kL, kC] <;> rfl) (fun hb2 => ?_) (fun hb2 => ?_)
 ·
  try simp only [bsimp] at hb2
  refine OQ ?_
  refine EV ?_
  refine ON ?_
  refine Ok.ret ?_
  with_reducible repeat (first | refine thenQ_ret ?_ | refine blockQ_ret ?_)
  refine RT ?_
  first | (simp [szMail, szSeq, szCut, *, V.erase, V.trav, packV]; done) | (simp_all [szMail, szSeq, szCut, V.erase, V.trav, packV]; done)
 ·
  try simp only [bsimp] at hb2
  refine Ok.skip ?_
  refine OQ ?_
  iterate 6 (refine EV ?_)
  refine ON ?_
  refine Ok.seq ?_
  refine OQ ?_
  iterate 2 (refine EV ?_)
  refine ON ?_
  refine Ok.cond (b := _) (by simp only [kE, kT, kL, kC] <;> rfl) (fun hb5 => ?_) (fun hb5 => ?_)
  ·
   try simp only [bsimp] at hb5
   refine OQ ?_
   refine EV ?_
   refine ON ?_
   refine Ok.ret ?_
   with_reducible repeat (first | refine thenQ_ret ?_ | refine blockQ_ret ?_)
   refine RT ?_
   first | (simp [szMail, szSeq, szCut, *, V.erase, V.trav, packV]; done) | (simp_all [szMail, szSeq, szCut, V.erase, V.trav, packV]; done)
  ·
   try simp only [bsimp] at hb5
   refine Ok.skip ?_
   refine OQ ?_
   iterate 2 (refine EV ?_)
   refine ON ?_
   refine Ok.ret ?_
   with_reducible repeat (first | refine thenQ_ret ?_ | refine blockQ_ret ?_)
   refine RT ?_
   first | (simp [szMail, szSeq, szCut, *, V.erase, V.trav, packV]; done) | (simp_all [szMail, szSeq, szCut, V.erase, V.trav, packV]; done)
theorem w_laws_szMailS (a : List Mail) (left : Int) : Weak Tryz.prog 164 [.sl 0 4 0 (a.map cMail), .int .i64 left] (.int .i64 (szAll szMail a left)) := by
 refine Weak.len 0 rfl fun ha => ?_
 refine Weak.enter tab_ok Tryz.func164 rfl (.inr (by simp [V.labelsL, V.labels, V.labelsLL, zz, zf, zy, or_imp, forall_and])) (t := [.sl 0 4 0 (a.map cMail), .int .i64 left, .any, .any, .any, .any, .any, .any, .any, .any, .any, .any, .any, .any, .any, .any, .any, .any, .any, .any, .any, .any, .any, .any, .any, .any, .any]) rfl ?_
 refine OQ ?_
 refine EV ?_
 refine ON ?_
 refine OQ ?_
 iterate 5 (refine EV ?_)
 refine ON ?_
 refine Ok.seq ?_
 refine OQ ?_
 iterate 2 (refine EV ?_)
 refine ON ?_
 refine Ok.cond (b := _) (by simp only [kE, kT, kL, kC] <;> rfl) (fun hb2 => ?_) (fun hb2 => ?_)
 ·
  try simp only [bsimp] at hb2
  refine OQ ?_
  refine EV ?_
  refine ON ?_
  refine Ok.ret ?_
  with_reducible repeat (first | refine thenQ_ret ?_ | refine blockQ_ret ?_)
  refine RT ?_
  simp only [szAll, if_pos hb2]; rfl
 ·
  try simp only [bsimp] at hb2
  refine Ok.skip ?_
  refine Ok.seq ?_
  refine OQ ?_
  refine EV ?_
  refine ON ?_
  refine Ok.block ?_
  refine Ok.loopW (τ := Nat × Int) (fun x => [(1, .int .i64 x.2), (5, .int .i64 (x.1 : Int))]) [4, 12, 13, 14, 15, 16, 17, 18, 19, 20, 21, 22, 23, 24, 25] (fun x => by simp only [kover] <;> rfl) (fun x => x.1 ≤ a.length ∧ szFold szMail (a.drop x.1) x.2 = szFold szMail a (IntKind.i64.wrap (left - a.length))) (fun x => a.length - x.1) (0, IntKind.i64.wrap (left - a.length)) (by refine ⟨?_, ?_, ?_, ?_, ?_, ?_, ?_, ?_, ?_, ?_, ?_, ?_, ?_, ?_, ?_, ?_, ?_, ?_, ?_, ?_, ?_, ?_, ?_, ?_, ?_, ?_, ?_, trivial⟩ <;> first | exact le_any _ | with_reducible exact le_rfl' _ | (exact le_rfl' _) | exact le_rfl' _) (⟨Nat.zero_le _, rfl⟩) ?_
  rintro ⟨i, l⟩ ⟨h1, h4⟩
  have h1 : i ≤ a.length := h1
  have h4 : szFold szMail (a.drop i) l = szFold szMail a (IntKind.i64.wrap (left - a.length)) := h4
  refine Ok.seq ?_
  refine OQ ?_
  iterate 4 (refine EV ?_)
  refine ON ?_
  refine Ok.cond (b := _) (by simp only [kE, kT, kL, kC] <;> rfl) (fun hb5 => ?_) (fun hb5 => ?_)
  ·
   try simp only [bsimp] at hb5
   have hi : i < a.length := by omega
   have h3 : a.drop i = a[i] :: a.drop (i + 1) := List.drop_eq_getElem_cons hi
   refine Ok.skip ?_
   refine Ok.seq ?_
   refine Ok.block ?_
   refine OQ ?_
   iterate 2 (refine EV ?_)
   refine OkOps.ev tab_ok rfl (ev_idx_map (by simp only [kE, kT, kL, kC] <;> rfl) (by simp only [kE, kT, kL, kC] <;> rfl) (by omega) (by simp only [kE, kT, kL, kC] <;> rfl)) (by simp only [kP] <;> rfl) ?_
   iterate 2 (refine EV ?_)
   refine OkOps.S0 rfl (OpS.weak' rfl (by simp only [kE, kT, kL, kC] <;> rfl) (by simp only [kE, kT, kL, kC] <;> rfl) cl212 (w_laws_szMail a[i] _)) (by simp only [kP] <;> rfl) ?_
   refine EV ?_
   refine ON ?_
   refine OQ ?_
   iterate 2 (refine EV ?_)
   refine ON ?_
   refine Ok.cond (b := _) (by simp only [kE, kT, kL, kC] <;> rfl) (fun hb8 => ?_) (fun hb8 => ?_)
   ·
    try simp only [bsimp] at hb8
    refine OQ ?_
    refine EV ?_
    refine ON ?_
    refine Ok.ret ?_
    with_reducible repeat (first | refine thenQ_ret ?_ | refine blockQ_ret ?_)
    refine RT ?_
    simp only [szAll, if_neg hb2, ← h4]; rw [h3, szFold, if_pos hb8]; rfl
   ·
    try simp only [bsimp] at hb8
    refine Ok.skip ?_
    refine Ok.region ?_
    iterate 3 (refine EV ?_)
    refine ON ?_
    refine ⟨(i + 1, _), ?_, rfl, rfl, ⟨by omega, by rw [← h4, h3, szFold, if_neg hb8]⟩, by show a.length - (i + 1) < a.length - i; omega⟩
    refine ⟨?_, ?_, ?_, ?_, ?_, ?_, ?_, ?_, ?_, ?_, ?_, ?_, ?_, ?_, ?_, ?_, ?_, ?_, ?_, ?_, ?_, ?_, ?_, ?_, ?_, ?_, ?_, trivial⟩ <;> first | exact le_any _ | with_reducible exact le_rfl' _ | ((rw [wrap_succ (by simp only [List.length_map] at ha; unfold maxLen at ha; omega)]; exact le_rfl' _)) | exact le_rfl' _
  ·
   try simp only [bsimp] at hb5
   refine Ok.exit ?_
   refine OQ ?_
   iterate 2 (refine EV ?_)
   refine ON ?_
   refine Ok.ret ?_
   with_reducible repeat (first | refine thenQ_ret ?_ | refine blockQ_ret ?_)
   refine RT ?_
   simp only [szAll, if_neg hb2, ← h4]; rw [List.drop_eq_nil_of_le (by omega)]; rfl
theorem w_laws_szBox (x : Box) (left : Int) : Weak Tryz.prog 116 [.agg (cBox x), .int .i64 left] (.int .i64 (szBox x left)) := by
 refine Weak.enter tab_ok Tryz.func116 rfl (.inr (by simp [V.labelsL, V.labels, V.labelsLL, zz, zf, zy, or_imp, forall_and])) (t := [.agg (cBox x), .int .i64 left, .any, .any, .any, .any, .any, .any, .any, .any, .any, .any, .any, .any, .any, .any, .any, .any, .any, .any, .any, .any, .any, .any, .any]) rfl ?_
 refine OQ ?_
 iterate 2 (refine EV ?_)
 refine ON ?_
 refine OQ ?_
 iterate 6 (refine EV ?_)
 refine ON ?_
 refine Ok.seq ?_
 refine OQ ?_
 iterate 2 (refine EV ?_)
 refine ON ?_
 refine Ok.cond (b := _) (by simp only [kE, kT, kL, kC] <;> rfl) (fun hb2 => ?_) (fun hb2 => ?_)
 ·
  try simp only [bsimp] at hb2
  refine OQ ?_
  refine EV ?_
  refine ON ?_
  refine Ok.ret ?_
  with_reducible repeat (first | refine thenQ_ret ?_ | refine blockQ_ret ?_)
  refine RT ?_
  first | (simp [szBox, szSeq, szCut, *, V.erase, V.trav, packV]; done) | (simp_all [szBox, szSeq, szCut, V.erase, V.trav, packV]; done)
 ·
  try simp only [bsimp] at hb2
  refine Ok.skip ?_
  refine OQ ?_
  iterate 3 (refine EV ?_)
  refine OkOps.S0 rfl (OpS.weak' rfl (by simp only [kE, kT, kL, kC] <;> rfl) (by simp only [kE, kT, kL, kC] <;> rfl) cl164 (w_laws_szMailS x.mails _)) (by simp only [kP] <;> rfl) ?_
  refine EV ?_
  refine ON ?_
  refine Ok.seq ?_
  refine OQ ?_
  iterate 2 (refine EV ?_)
  refine ON ?_
  refine Ok.cond (b := _) (by simp only [kE, kT, kL, kC] <;> rfl) (fun hb5 => ?_) (fun hb5 => ?_)
  ·
   try simp only [bsimp] at hb5
   refine OQ ?_
   refine EV ?_
   refine ON ?_
   refine Ok.ret ?_
   with_reducible repeat (first | refine thenQ_ret ?_ | refine blockQ_ret ?_)
   refine RT ?_
   first | (simp [szBox, szSeq, szCut, *, V.erase, V.trav, packV]; done) | (simp_all [szBox, szSeq, szCut, V.erase, V.trav, packV]; done)
  ·
   try simp only [bsimp] at hb5
   refine Ok.skip ?_
   refine OQ ?_
   iterate 3 (refine EV ?_)
   refine OkOps.S0 rfl (OpS.weak' rfl (by simp only [kE, kT, kL, kC] <;> rfl) (by simp only [kE, kT, kL, kC] <;> rfl) cl49 (w_laws_szIntS x.gone _)) (by simp only [kP] <;> rfl) ?_
   refine EV ?_
   refine ON ?_
   refine Ok.seq ?_
   refine OQ ?_
   iterate 2 (refine EV ?_)
   refine ON ?_
   refine Ok.cond (b := _) (by simp only [kE, kT, kL, kC] <;> rfl) (fun hb8 => ?_) (fun hb8 => ?_)
   ·
    try simp only [bsimp] at hb8
    refine OQ ?_
    refine EV ?_
    refine ON ?_
    refine Ok.ret ?_
    with_reducible repeat (first | refine thenQ_ret ?_ | refine blockQ_ret ?_)
    refine RT ?_
    first | (simp [szBox, szSeq, szCut, *, V.erase, V.trav, packV]; done) | (simp_all [szBox, szSeq, szCut, V.erase, V.trav, packV]; done)
   ·
    try simp only [bsimp] at hb8
    refine Ok.skip ?_
    refine OQ ?_
    iterate 2 (refine EV ?_)
    refine ON ?_
    refine Ok.ret ?_
    with_reducible repeat (first | refine thenQ_ret ?_ | refine blockQ_ret ?_)
    refine RT ?_
    first | (simp [szBox, szSeq, szCut, *, V.erase, V.trav, packV]; done) | (simp_all [szBox, szSeq, szCut, V.erase, V.trav, packV]; done)
theorem w_laws_szBoxS (a : List Box) (left : Int) : Weak Tryz.prog 48 [.sl 0 7 0 (a.map cBox), .int .i64 left] (.int .i64 (szAll szBox a left)) := by
 refine Weak.len 0 rfl fun ha => ?_
 refine Weak.enter tab_ok Tryz.func48 rfl (.inr (by simp [V.labelsL, V.labels, V.labelsLL, zz, zf, zy, or_imp, forall_and])) (t := [.sl 0 7 0 (a.map cBox), .int .i64 left, .any, .any, .any, .any, .any, .any, .any, .any, .any, .any, .any, .any, .any, .any, .any, .any, .any, .any, .any, .any, .any, .any, .any, .any, .any]) rfl ?_
 refine OQ ?_
 refine EV ?_
 refine ON ?_
 refine OQ ?_
 iterate 5 (refine EV ?_)
 refine ON ?_
 refine Ok.seq ?_
 refine OQ ?_
 iterate 2 (refine EV ?_)
 refine ON ?_
 refine Ok.cond (b := _) (by simp only [kE, kT, kL, kC] <;> rfl) (fun hb2 => ?_) (fun hb2 => ?_)
 ·
  try simp only [bsimp] at hb2
  refine OQ ?_
  refine EV ?_
  refine ON ?_
  refine Ok.ret ?_
  with_reducible repeat (first | refine thenQ_ret ?_ | refine blockQ_ret ?_)
  refine RT ?_
  simp only [szAll, if_pos hb2]; rfl
 ·
  try simp only [bsimp] at hb2
  refine Ok.skip ?_
  refine Ok.seq ?_
  refine OQ ?_
  refine EV ?_
  refine ON ?_
  refine Ok.block ?_
  refine Ok.loopW (τ := Nat × Int) (fun x => [(1, .int .i64 x.2), (5, .int .i64 (x.1 : Int))]) [4, 12, 13, 14, 15, 16, 17, 18, 19, 20, 21, 22, 23, 24, 25] (fun x => by simp only [kover] <;> rfl) (fun x => x.1 ≤ a.length ∧ szFold szBox (a.drop x.1) x.2 = szFold szBox a (IntKind.i64.wrap (left - a.length))) (fun x => a.length - x.1) (0, IntKind.i64.wrap (left - a.length)) (by refine ⟨?_, ?_, ?_, ?_, ?_, ?_, ?_, ?_, ?_, ?_, ?_, ?_, ?_, ?_, ?_, ?_, ?_, ?_, ?_, ?_, ?_, ?_, ?_, ?_, ?_, ?_, ?_, trivial⟩ <;> first | exact le_any _ | with_reducible exact le_rfl' _ | (exact le_rfl' _) | exact le_rfl' _) (⟨Nat.zero_le _, rfl⟩) ?_
  rintro ⟨i, l⟩ ⟨h1, h4⟩
  have h1 : i ≤ a.length := h1
  have h4 : szFold szBox (a.drop i) l = szFold szBox a (IntKind.i64.wrap (left - a.length)) := h4
  refine Ok.seq ?_
  refine OQ ?_
  iterate 4 (refine EV ?_)
  refine ON ?_
  refine Ok.cond (b := _) (by simp only [kE, kT, kL, kC] <;> rfl) (fun hb5 => ?_) (fun hb5 => ?_)
  ·
   try simp only [bsimp] at hb5
   have hi : i < a.length := by omega
   have h3 : a.drop i = a[i] :: a.drop (i + 1) := List.drop_eq_getElem_cons hi
   refine Ok.skip ?_
   refine Ok.seq ?_
   refine Ok.block ?_
   refine OQ ?_
   iterate 2 (refine EV ?_)
   refine OkOps.ev tab_ok rfl (ev_idx_map (by simp only [kE, kT, kL, kC] <;> rfl) (by simp only [kE, kT, kL, kC] <;> rfl) (by omega) (by simp only [kE, kT, kL, kC] <;> rfl)) (by simp only [kP] <;> rfl) ?_
   iterate 2 (refine EV ?_)
   refine OkOps.S0 rfl (OpS.weak' rfl (by simp only [kE, kT, kL, kC] <;> rfl) (by simp only [kE, kT, kL, kC] <;> rfl) cl116 (w_laws_szBox a[i] _)) (by simp only [kP] <;> rfl) ?_
   refine EV ?_
   refine ON ?_
   refine OQ ?_
   iterate 2 (refine EV ?_)
   refine ON ?_
   refine Ok.cond (b := _) (by simp only [kE, kT, kL, kC] <;> rfl) (fun hb8 => ?_) (fun hb8 => ?_)
   ·
    try simp only [bsimp] at hb8
    refine OQ ?_
    refine EV ?_
    refine ON ?_
    refine Ok.ret ?_
    with_reducible repeat (first | refine thenQ_ret ?_ | refine blockQ_ret ?_)
    refine RT ?_
    simp only [szAll, if_neg hb2, ← h4]; rw [h3, szFold, if_pos hb8]; rfl
   ·
    try simp only [bsimp] at hb8
    refine Ok.skip ?_
    refine Ok.region ?_
    iterate 3 (refine EV ?_)
    refine ON ?_
    refine ⟨(i + 1, _), ?_, rfl, rfl, ⟨by omega, by rw [← h4, h3, szFold, if_neg hb8]⟩, by show a.length - (i + 1) < a.length - i; omega⟩
    refine ⟨?_, ?_, ?_, ?_, ?_, ?_, ?_, ?_, ?_, ?_, ?_, ?_, ?_, ?_, ?_, ?_, ?_, ?_, ?_, ?_, ?_, ?_, ?_, ?_, ?_, ?_, ?_, trivial⟩ <;> first | exact le_any _ | with_reducible exact le_rfl' _ | ((rw [wrap_succ (by simp only [List.length_map] at ha; unfold maxLen at ha; omega)]; exact le_rfl' _)) | exact le_rfl' _
  ·
   try simp only [bsimp] at hb5
   refine Ok.exit ?_
   refine OQ ?_
   iterate 2 (refine EV ?_)
   refine ON ?_
   refine Ok.ret ?_
   with_reducible repeat (first | refine thenQ_ret ?_ | refine blockQ_ret ?_)
   refine RT ?_
   simp only [szAll, if_neg hb2, ← h4]; rw [List.drop_eq_nil_of_le (by omega)]; rfl
theorem w_laws_szStore (x : Store) (left : Int) : Weak Tryz.prog 8 [.agg (cStore x), .int .i64 left] (.int .i64 (szStore x left)) := by
 refine Weak.enter tab_ok Tryz.func8 rfl (.inr (by simp [V.labelsL, V.labels, V.labelsLL, zz, zf, zy, or_imp, forall_and])) (t := [.agg (cStore x), .int .i64 left, .any, .any, .any, .any, .any, .any, .any, .any, .any, .any, .any, .any, .any, .any, .any, .any]) rfl ?_
 refine OQ ?_
 iterate 2 (refine EV ?_)
 refine ON ?_
 refine OQ ?_
 iterate 3 (refine EV ?_)
 refine OkOps.S0 rfl (OpS.weak' rfl (by simp only [kE, kT, kL, kC] <;> rfl) (by simp only [kE, kT, kL, kC] <;> rfl) cl48 (w_laws_szBoxS x.boxes _)) (by simp only [kP] <;> rfl) ?_
 refine EV ?_
 refine ON ?_
 refine Ok.seq ?_
 refine OQ ?_
 iterate 2 (refine EV ?_)
 refine ON ?_
 refine Ok.cond (b := _) (by simp only [kE, kT, kL, kC] <;> rfl) (fun hb2 => ?_) (fun hb2 => ?_)
 ·
  try simp only [bsimp] at hb2
  refine OQ ?_
  refine EV ?_
  refine ON ?_
  refine Ok.ret ?_
  with_reducible repeat (first | refine thenQ_ret ?_ | refine blockQ_ret ?_)
  refine RT ?_
  first | (simp [szStore, szSeq, szCut, *, V.erase, V.trav, packV]; done) | (simp_all [szStore, szSeq, szCut, V.erase, V.trav, packV]; done)
 ·
  try simp only [bsimp] at hb2
  refine Ok.skip ?_
  refine OQ ?_
  iterate 3 (refine EV ?_)
  refine OkOps.S0 rfl (OpS.weak' rfl (by simp only [kE, kT, kL, kC] <;> rfl) (by simp only [kE, kT, kL, kC] <;> rfl) cl49 (w_laws_szIntS x.gone _)) (by simp only [kP] <;> rfl) ?_
  refine EV ?_
  refine ON ?_
  refine Ok.seq ?_
  refine OQ ?_
  iterate 2 (refine EV ?_)
  refine ON ?_
  refine Ok.cond (b := _) (by simp only [kE, kT, kL, kC] <;> rfl) (fun hb5 => ?_) (fun hb5 => ?_)
  ·
   try simp only [bsimp] at hb5
   refine OQ ?_
   refine EV ?_
   refine ON ?_
   refine Ok.ret ?_
   with_reducible repeat (first | refine thenQ_ret ?_ | refine blockQ_ret ?_)
   refine RT ?_
   first | (simp [szStore, szSeq, szCut, *, V.erase, V.trav, packV]; done) | (simp_all [szStore, szSeq, szCut, V.erase, V.trav, packV]; done)
  ·
   try simp only [bsimp] at hb5
   refine Ok.skip ?_
   refine OQ ?_
   iterate 2 (refine EV ?_)
   refine ON ?_
   refine Ok.ret ?_
   with_reducible repeat (first | refine thenQ_ret ?_ | refine blockQ_ret ?_)
   refine RT ?_
   first | (simp [szStore, szSeq, szCut, *, V.erase, V.trav, packV]; done) | (simp_all [szStore, szSeq, szCut, V.erase, V.trav, packV]; done)
theorem w_laws_toStamp (x : Stamp) : Weak Tryz.prog 165 [.agg (cStamp x)] (.agg (cStamp x)) := by
 refine Weak.enter tab_ok Tryz.func165 rfl (.inr (by simp [V.labelsL, V.labels, V.labelsLL, zz, zf, zy, or_imp, forall_and])) (t := [.agg (cStamp x), .any, .any, .any, .any, .any, .any, .any, .any, .any, .any]) rfl ?_
 refine OQ ?_
 iterate 2 (refine EV ?_)
 refine ON ?_
 refine OQ ?_
 refine EV ?_
 refine ON ?_
 refine OQ ?_
 iterate 3 (refine EV ?_)
 refine OkOps.storeE tab_ok rfl rfl (by simp only [kE, kT, kL, kC] <;> rfl) ⟨_, _, by simp only [kE]; rfl⟩ (by first | (simp [V.labelsL, V.labelsLL, V.labels, zz, zf, zy]; done) | (simp [-List.map_map, -List.map_set, -List.map_drop, -List.map_take, -List.map_tail, -List.drop_one, V.labelsL, V.labelsLL, V.labels, zz, zf, zy]; done)) (by simp only [eq_self, V.updL, V.travL, V.travLL, V.trav, updS, updP, and_self, true_and, and_true, false_and, and_false, Nat.reduceEqDiff, Nat.reduceSub, Nat.le_refl, Nat.zero_le, ↓reduceIte, if_true, if_false, kP, zz, zf, zy] <;> rfl) (rfl) ?_
 refine ON ?_
 refine OQ ?_
 iterate 3 (refine EV ?_)
 refine OkOps.storeE tab_ok rfl rfl (by simp only [kE, kT, kL, kC] <;> rfl) ⟨_, _, by simp only [kE]; rfl⟩ (by first | (simp [V.labelsL, V.labelsLL, V.labels, zz, zf, zy]; done) | (simp [-List.map_map, -List.map_set, -List.map_drop, -List.map_take, -List.map_tail, -List.drop_one, V.labelsL, V.labelsLL, V.labels, zz, zf, zy]; done)) (by simp only [eq_self, V.updL, V.travL, V.travLL, V.trav, updS, updP, and_self, true_and, and_true, false_and, and_false, Nat.reduceEqDiff, Nat.reduceSub, Nat.le_refl, Nat.zero_le, ↓reduceIte, if_true, if_false, kP, zz, zf, zy] <;> rfl) (rfl) ?_
 refine ON ?_
 refine OQ ?_
 refine EV ?_
 refine OkOps.storeE tab_ok rfl rfl (by simp only [kE, kT, kL, kC] <;> rfl) ⟨_, _, by simp only [kE]; rfl⟩ (by first | (simp [V.labelsL, V.labelsLL, V.labels, zz, zf, zy]; done) | (simp [-List.map_map, -List.map_set, -List.map_drop, -List.map_take, -List.map_tail, -List.drop_one, V.labelsL, V.labelsLL, V.labels, zz, zf, zy]; done)) (by simp only [eq_self, V.updL, V.travL, V.travLL, V.trav, updS, updP, and_self, true_and, and_true, false_and, and_false, Nat.reduceEqDiff, Nat.reduceSub, Nat.le_refl, Nat.zero_le, ↓reduceIte, if_true, if_false, kP, zz, zf, zy] <;> rfl) (rfl) ?_
 refine ON ?_
 refine Ok.ret ?_
 with_reducible repeat (first | refine thenQ_ret ?_ | refine blockQ_ret ?_)
 refine RT ?_
 first | rfl | (simp [V.erase, V.trav, V.travL, packV, zz, zf, zy]; done)
theorem w_laws_toReg (x : Reg) : Weak Tryz.prog 253 [.agg (cReg x)] (.agg (cReg x)) := by
 refine Weak.enter tab_ok Tryz.func253 rfl (.inr (by simp [V.labelsL, V.labels, V.labelsLL, zz, zf, zy, or_imp, forall_and])) (t := [.agg (cReg x), .any, .any, .any, .any, .any, .any, .any, .any, .any, .any, .any]) rfl ?_
 refine OQ ?_
 iterate 2 (refine EV ?_)
 refine ON ?_
 refine OQ ?_
 refine EV ?_
 refine ON ?_
 refine OQ ?_
 iterate 3 (refine EV ?_)
 refine OkOps.storeE tab_ok rfl rfl (by simp only [kE, kT, kL, kC] <;> rfl) ⟨_, _, by simp only [kE]; rfl⟩ (by first | (simp [V.labelsL, V.labelsLL, V.labels, zz, zf, zy]; done) | (simp [-List.map_map, -List.map_set, -List.map_drop, -List.map_take, -List.map_tail, -List.drop_one, V.labelsL, V.labelsLL, V.labels, zz, zf, zy]; done)) (by simp only [eq_self, V.updL, V.travL, V.travLL, V.trav, updS, updP, and_self, true_and, and_true, false_and, and_false, Nat.reduceEqDiff, Nat.reduceSub, Nat.le_refl, Nat.zero_le, ↓reduceIte, if_true, if_false, kP, zz, zf, zy] <;> rfl) (rfl) ?_
 refine ON ?_
 refine OQ ?_
 iterate 2 (refine EV ?_)
 refine OkOps.S0 rfl (OpS.weak' rfl (by simp only [kE, kT, kL, kC] <;> rfl) (by simp only [kE, kT, kL, kC] <;> rfl) cl165 (w_laws_toStamp x.stamp)) (by simp only [kP] <;> rfl) ?_
 refine EV ?_
 refine OkOps.storeE tab_ok rfl rfl (by simp only [kE, kT, kL, kC] <;> rfl) ⟨_, _, by simp only [kE]; rfl⟩ (by first | (simp [V.labelsL, V.labelsLL, V.labels, zz, zf, zy]; done) | (simp [-List.map_map, -List.map_set, -List.map_drop, -List.map_take, -List.map_tail, -List.drop_one, V.labelsL, V.labelsLL, V.labels, zz, zf, zy]; done)) (by simp only [eq_self, V.updL, V.travL, V.travLL, V.trav, updS, updP, and_self, true_and, and_true, false_and, and_false, Nat.reduceEqDiff, Nat.reduceSub, Nat.le_refl, Nat.zero_le, ↓reduceIte, if_true, if_false, kP, zz, zf, zy] <;> rfl) (rfl) ?_
 refine ON ?_
 refine OQ ?_
 refine EV ?_
 refine OkOps.storeE tab_ok rfl rfl (by simp only [kE, kT, kL, kC] <;> rfl) ⟨_, _, by simp only [kE]; rfl⟩ (by first | (simp [V.labelsL, V.labelsLL, V.labels, zz, zf, zy]; done) | (simp [-List.map_map, -List.map_set, -List.map_drop, -List.map_take, -List.map_tail, -List.drop_one, V.labelsL, V.labelsLL, V.labels, zz, zf, zy]; done)) (by simp only [eq_self, V.updL, V.travL, V.travLL, V.trav, updS, updP, and_self, true_and, and_true, false_and, and_false, Nat.reduceEqDiff, Nat.reduceSub, Nat.le_refl, Nat.zero_le, ↓reduceIte, if_true, if_false, kP, zz, zf, zy] <;> rfl) (rfl) ?_
 refine ON ?_
 refine Ok.ret ?_
 with_reducible repeat (first | refine thenQ_ret ?_ | refine blockQ_ret ?_)
 refine RT ?_
 first | rfl | (simp [V.erase, V.trav, V.travL, packV, zz, zf, zy]; done)
theorem w_laws_toRegS (a : List Reg) (ha : a.length ≤ 1048576) : Weak Tryz.prog 241 [.sl 0 3 0 (a.map cReg)] (.sl 0 3 0 (a.map cReg)) := by
 refine Weak.enter tab_ok Tryz.func241 rfl (.inr (by simp [V.labelsL, V.labels, V.labelsLL, zz, zf, zy, or_imp, forall_and])) (t := [.sl 0 3 0 (a.map cReg), .any, .any, .any, .any, .any, .any, .any, .any, .any, .any, .any, .any, .any, .any, .any, .any, .any, .any, .any, .any, .any, .any]) rfl ?_
 refine OQ ?_
 refine EV ?_
 refine ON ?_
 refine OQ ?_
 iterate 2 (refine EV ?_)
 refine OkOps.S' rfl (ok_makeSlice (a := a.length) (b := a.length) tab_ok (by simp only [kT] <;> rfl) (by simp only [kT] <;> rfl) (by decide) rfl rfl (by simp only [kE, kL] <;> rfl) (by simp only [kE, kL] <;> rfl) (by omega) (by omega) (by omega) (by show ((24 : Nat) : Int) * _ ≤ _; omega)) (by simp only [Nat.reduceAdd] <;> rfl) (by simp only [kP, Int.toNat_natCast] <;> rfl) ?_
 refine EV ?_
 refine ON ?_
 refine Ok.seq ?_
 refine OQ ?_
 refine EV ?_
 refine ON ?_
 refine Ok.block ?_
 refine Ok.loopW (τ := Nat) (fun x => [(3, .sl 1 3 0 ((a.take x).map cReg ++ List.replicate (a.length - x) zcReg)), (4, .int .i64 (x : Int)), (7, .any)]) [8, 9, 10, 11, 12, 13, 14, 15, 16, 17, 18, 19, 20, 21] (fun x => by simp only [kover] <;> rfl) (fun x => x ≤ a.length) (fun x => a.length - x) 0 (by refine ⟨?_, ?_, ?_, ?_, ?_, ?_, ?_, ?_, ?_, ?_, ?_, ?_, ?_, ?_, ?_, ?_, ?_, ?_, ?_, ?_, ?_, ?_, ?_, trivial⟩ <;> first | exact le_any _ | with_reducible exact le_rfl' _ | ((first | exact le_rfl' _ | (simp only [List.take_zero, List.map_nil, List.nil_append, Nat.sub_zero]; exact le_rfl' _))) | exact le_rfl' _) (Nat.zero_le _) ?_
 rintro i h1
 refine Ok.seq ?_
 refine OQ ?_
 iterate 4 (refine EV ?_)
 refine ON ?_
 refine Ok.cond (b := _) (by simp only [kE, kT, kL, kC] <;> rfl) (fun hb3 => ?_) (fun hb3 => ?_)
 ·
  try simp only [bsimp] at hb3
  have hi : i < a.length := by omega
  have hs := set_rep (f := cReg) (z := zcReg) hi
  have hg := get_rep (f := cReg) (z := zcReg) hi
  refine Ok.skip ?_
  refine Ok.seq ?_
  refine Ok.block ?_
  refine Ok.region ?_
  iterate 4 (refine EV ?_)
  refine OkOps.ev tab_ok rfl (ev_idx_map (by simp only [kE, kT, kL, kC] <;> rfl) (by simp only [kE, kT, kL, kC] <;> rfl) (by omega) (by simp only [kE, kT, kL, kC] <;> rfl)) (by simp only [kP] <;> rfl) ?_
  refine EV ?_
  refine OkOps.S0 rfl (OpS.weak' rfl (by simp only [kE, kT, kL, kC] <;> rfl) (by simp only [kE, kT, kL, kC] <;> rfl) cl253 (w_laws_toReg a[i])) (by simp only [kP] <;> rfl) ?_
  refine OkOps.ev tab_ok rfl (ev_idx (by simp only [kE, kT, kL, kC] <;> rfl) (by simp only [kE, kT, kL, kC] <;> rfl) (hg) (by simp only [kE, kT, kL, kC] <;> rfl)) (by simp only [kP] <;> rfl) ?_
  refine OkOps.storeE tab_ok rfl rfl (by simp only [kE, kT, kL, kC] <;> rfl) ⟨_, _, by simp only [kE]; rfl⟩ (by first | (simp [V.labelsL, V.labelsLL, V.labels, zz, zf, zy]; done) | (simp [-List.map_map, -List.map_set, -List.map_drop, -List.map_take, -List.map_tail, -List.drop_one, V.labelsL, V.labelsLL, V.labels, zz, zf, zy]; done)) (by simp only [eq_self, V.updL, V.travL, V.travLL, V.trav, updS, updP, and_self, true_and, and_true, false_and, and_false, Nat.reduceEqDiff, Nat.reduceSub, Nat.le_refl, Nat.zero_le, ↓reduceIte, if_true, if_false, kP, zz, zf, zy, trav_rep, hs, Nat.sub_zero] <;> rfl) (rfl) ?_
  refine ON ?_
  refine Ok.region ?_
  iterate 3 (refine EV ?_)
  refine ON ?_
  refine ⟨i + 1, ?_, rfl, rfl, by omega, by omega⟩
  refine ⟨?_, ?_, ?_, ?_, ?_, ?_, ?_, ?_, ?_, ?_, ?_, ?_, ?_, ?_, ?_, ?_, ?_, ?_, ?_, ?_, ?_, ?_, ?_, trivial⟩ <;> first | exact le_any _ | with_reducible exact le_rfl' _ | ((first | (rw [wrap_succ (by omega)]; exact le_rfl' _) | (simp only [zz, zf, zy, trav_rep]; first | exact le_rfl' _ | (rw [hs]; exact le_rfl' _)))) | exact le_rfl' _
 ·
  try simp only [bsimp] at hb3
  refine Ok.exit ?_
  refine OQ ?_
  iterate 2 (refine EV ?_)
  refine ON ?_
  refine Ok.ret ?_
  with_reducible repeat (first | refine thenQ_ret ?_ | refine blockQ_ret ?_)
  refine RT ?_
  rw [show i = a.length by omega]; simp [V.erase, V.trav, packV, zz, zf, zy]
theorem w_laws_toIntS (a : List Int) (ha : a.length ≤ 1048576) : Weak Tryz.prog 54 [.sl 0 1 0 (a.map cZ)] (.sl 0 1 0 (a.map cZ)) := by
 refine Weak.enter tab_ok Tryz.func54 rfl (.inr (by simp [V.labelsL, V.labels, V.labelsLL, zz, zf, zy, or_imp, forall_and])) (t := [.sl 0 1 0 (a.map cZ), .any, .any, .any, .any, .any, .any, .any, .any, .any, .any, .any, .any, .any, .any, .any, .any, .any, .any, .any, .any, .any]) rfl ?_
 refine OQ ?_
 refine EV ?_
 refine ON ?_
 refine OQ ?_
 iterate 2 (refine EV ?_)
 refine OkOps.S' rfl (ok_makeSlice (a := a.length) (b := a.length) tab_ok (by simp only [kT] <;> rfl) (by simp only [kT] <;> rfl) (by decide) rfl rfl (by simp only [kE, kL] <;> rfl) (by simp only [kE, kL] <;> rfl) (by omega) (by omega) (by omega) (by show ((8 : Nat) : Int) * _ ≤ _; omega)) (by simp only [Nat.reduceAdd] <;> rfl) (by simp only [kP, Int.toNat_natCast] <;> rfl) ?_
 refine EV ?_
 refine ON ?_
 refine Ok.seq ?_
 refine OQ ?_
 refine EV ?_
 refine ON ?_
 refine Ok.block ?_
 refine Ok.loopW (τ := Nat) (fun x => [(3, .sl 1 1 0 ((a.take x).map cZ ++ List.replicate (a.length - x) zcI)), (4, .int .i64 (x : Int)), (7, .any)]) [8, 9, 10, 11, 12, 13, 14, 15, 16, 17, 18, 19, 20] (fun x => by simp only [kover] <;> rfl) (fun x => x ≤ a.length) (fun x => a.length - x) 0 (by refine ⟨?_, ?_, ?_, ?_, ?_, ?_, ?_, ?_, ?_, ?_, ?_, ?_, ?_, ?_, ?_, ?_, ?_, ?_, ?_, ?_, ?_, ?_, trivial⟩ <;> first | exact le_any _ | with_reducible exact le_rfl' _ | ((first | exact le_rfl' _ | (simp only [List.take_zero, List.map_nil, List.nil_append, Nat.sub_zero]; exact le_rfl' _))) | exact le_rfl' _) (Nat.zero_le _) ?_
 rintro i h1
 refine Ok.seq ?_
 refine OQ ?_
 iterate 4 (refine EV ?_)
 refine ON ?_
 refine Ok.cond (b := _) (by simp only [kE, kT, kL, kC] <;> rfl) (fun hb3 => ?_) (fun hb3 => ?_)
 ·
  try simp only [bsimp] at hb3
  have hi : i < a.length := by omega
  have hs := set_rep (f := cZ) (z := zcI) hi
  have hg := get_rep (f := cZ) (z := zcI) hi
  refine Ok.skip ?_
  refine Ok.seq ?_
  refine Ok.block ?_
  refine Ok.region ?_
  iterate 4 (refine EV ?_)
  refine OkOps.ev tab_ok rfl (ev_idx_map (by simp only [kE, kT, kL, kC] <;> rfl) (by simp only [kE, kT, kL, kC] <;> rfl) (by omega) (by simp only [kE, kT, kL, kC] <;> rfl)) (by simp only [kP] <;> rfl) ?_
  refine EV ?_
  refine OkOps.ev tab_ok rfl (ev_idx (by simp only [kE, kT, kL, kC] <;> rfl) (by simp only [kE, kT, kL, kC] <;> rfl) (hg) (by simp only [kE, kT, kL, kC] <;> rfl)) (by simp only [kP] <;> rfl) ?_
  refine OkOps.storeE tab_ok rfl rfl (by simp only [kE, kT, kL, kC] <;> rfl) ⟨_, _, by simp only [kE]; rfl⟩ (by first | (simp [V.labelsL, V.labelsLL, V.labels, zz, zf, zy]; done) | (simp [-List.map_map, -List.map_set, -List.map_drop, -List.map_take, -List.map_tail, -List.drop_one, V.labelsL, V.labelsLL, V.labels, zz, zf, zy]; done)) (by simp only [eq_self, V.updL, V.travL, V.travLL, V.trav, updS, updP, and_self, true_and, and_true, false_and, and_false, Nat.reduceEqDiff, Nat.reduceSub, Nat.le_refl, Nat.zero_le, ↓reduceIte, if_true, if_false, kP, zz, zf, zy, trav_rep, hs, Nat.sub_zero] <;> rfl) (rfl) ?_
  refine ON ?_
  refine Ok.region ?_
  iterate 3 (refine EV ?_)
  refine ON ?_
  refine ⟨i + 1, ?_, rfl, rfl, by omega, by omega⟩
  refine ⟨?_, ?_, ?_, ?_, ?_, ?_, ?_, ?_, ?_, ?_, ?_, ?_, ?_, ?_, ?_, ?_, ?_, ?_, ?_, ?_, ?_, ?_, trivial⟩ <;> first | exact le_any _ | with_reducible exact le_rfl' _ | ((first | (rw [wrap_succ (by omega)]; exact le_rfl' _) | (simp only [zz, zf, zy, trav_rep]; first | exact le_rfl' _ | (rw [hs]; exact le_rfl' _)))) | exact le_rfl' _
 ·
  try simp only [bsimp] at hb3
  refine Ok.exit ?_
  refine OQ ?_
  iterate 2 (refine EV ?_)
  refine ON ?_
  refine Ok.ret ?_
  with_reducible repeat (first | refine thenQ_ret ?_ | refine blockQ_ret ?_)
  refine RT ?_
  rw [show i = a.length by omega]; simp [V.erase, V.trav, packV, zz, zf, zy]
theorem w_laws_toMail (x : Mail) (h : smMail x) : Weak Tryz.prog 213 [.agg (cMail x)] (.agg (cMail x)) := by
 refine Weak.enter tab_ok Tryz.func213 rfl (.inr (by simp [V.labelsL, V.labels, V.labelsLL, zz, zf, zy, or_imp, forall_and])) (t := [.agg (cMail x), .any, .any, .any, .any, .any, .any, .any, .any, .any, .any, .any, .any, .any, .any, .any, .any, .any]) rfl ?_
 refine OQ ?_
 iterate 2 (refine EV ?_)
 refine ON ?_
 refine OQ ?_
 refine EV ?_
 refine ON ?_
 refine OQ ?_
 iterate 3 (refine EV ?_)
 refine OkOps.storeE tab_ok rfl rfl (by simp only [kE, kT, kL, kC] <;> rfl) ⟨_, _, by simp only [kE]; rfl⟩ (by first | (simp [V.labelsL, V.labelsLL, V.labels, zz, zf, zy]; done) | (simp [-List.map_map, -List.map_set, -List.map_drop, -List.map_take, -List.map_tail, -List.drop_one, V.labelsL, V.labelsLL, V.labels, zz, zf, zy]; done)) (by simp only [eq_self, V.updL, V.travL, V.travLL, V.trav, updS, updP, and_self, true_and, and_true, false_and, and_false, Nat.reduceEqDiff, Nat.reduceSub, Nat.le_refl, Nat.zero_le, ↓reduceIte, if_true, if_false, kP, zz, zf, zy] <;> rfl) (rfl) ?_
 refine ON ?_
 refine OQ ?_
 iterate 3 (refine EV ?_)
 refine OkOps.storeE tab_ok rfl rfl (by simp only [kE, kT, kL, kC] <;> rfl) ⟨_, _, by simp only [kE]; rfl⟩ (by first | (simp [V.labelsL, V.labelsLL, V.labels, zz, zf, zy]; done) | (simp [-List.map_map, -List.map_set, -List.map_drop, -List.map_take, -List.map_tail, -List.drop_one, V.labelsL, V.labelsLL, V.labels, zz, zf, zy]; done)) (by simp only [eq_self, V.updL, V.travL, V.travLL, V.trav, updS, updP, and_self, true_and, and_true, false_and, and_false, Nat.reduceEqDiff, Nat.reduceSub, Nat.le_refl, Nat.zero_le, ↓reduceIte, if_true, if_false, kP, zz, zf, zy] <;> rfl) (rfl) ?_
 refine ON ?_
 refine OQ ?_
 iterate 2 (refine EV ?_)
 refine OkOps.S0 rfl (OpS.weak' rfl (by simp only [kE, kT, kL, kC] <;> rfl) (by simp only [kE, kT, kL, kC] <;> rfl) cl241 (w_laws_toRegS x.flags h.1)) (by simp only [kP] <;> rfl) ?_
 refine EV ?_
 refine OkOps.storeE tab_ok rfl rfl (by simp only [kE, kT, kL, kC] <;> rfl) ⟨_, _, by simp only [kE]; rfl⟩ (by first | (simp [V.labelsL, V.labelsLL, V.labels, zz, zf, zy]; done) | (simp [-List.map_map, -List.map_set, -List.map_drop, -List.map_take, -List.map_tail, -List.drop_one, V.labelsL, V.labelsLL, V.labels, zz, zf, zy]; done)) (by simp only [eq_self, V.updL, V.travL, V.travLL, V.trav, updS, updP, and_self, true_and, and_true, false_and, and_false, Nat.reduceEqDiff, Nat.reduceSub, Nat.le_refl, Nat.zero_le, ↓reduceIte, if_true, if_false, kP, zz, zf, zy] <;> rfl) (rfl) ?_
 refine ON ?_
 refine OQ ?_
 iterate 3 (refine EV ?_)
 refine OkOps.storeE tab_ok rfl rfl (by simp only [kE, kT, kL, kC] <;> rfl) ⟨_, _, by simp only [kE]; rfl⟩ (by first | (simp [V.labelsL, V.labelsLL, V.labels, zz, zf, zy]; done) | (simp [-List.map_map, -List.map_set, -List.map_drop, -List.map_take, -List.map_tail, -List.drop_one, V.labelsL, V.labelsLL, V.labels, zz, zf, zy]; done)) (by simp only [eq_self, V.updL, V.travL, V.travLL, V.trav, updS, updP, and_self, true_and, and_true, false_and, and_false, Nat.reduceEqDiff, Nat.reduceSub, Nat.le_refl, Nat.zero_le, ↓reduceIte, if_true, if_false, kP, zz, zf, zy] <;> rfl) (rfl) ?_
 refine ON ?_
 refine OQ ?_
 refine EV ?_
 refine OkOps.storeE tab_ok rfl rfl (by simp only [kE, kT, kL, kC] <;> rfl) ⟨_, _, by simp only [kE]; rfl⟩ (by first | (simp [V.labelsL, V.labelsLL, V.labels, zz, zf, zy]; done) | (simp [-List.map_map, -List.map_set, -List.map_drop, -List.map_take, -List.map_tail, -List.drop_one, V.labelsL, V.labelsLL, V.labels, zz, zf, zy]; done)) (by simp only [eq_self, V.updL, V.travL, V.travLL, V.trav, updS, updP, and_self, true_and, and_true, false_and, and_false, Nat.reduceEqDiff, Nat.reduceSub, Nat.le_refl, Nat.zero_le, ↓reduceIte, if_true, if_false, kP, zz, zf, zy] <;> rfl) (rfl) ?_
 refine ON ?_
 refine Ok.ret ?_
 with_reducible repeat (first | refine thenQ_ret ?_ | refine blockQ_ret ?_)
 refine RT ?_
 first | rfl | (simp [V.erase, V.trav, V.travL, packV, zz, zf, zy]; done)
theorem w_laws_toMailS (a : List Mail) (ha : a.length ≤ 1048576) (hz : ∀ z ∈ a, smMail z) : Weak Tryz.prog 166 [.sl 0 4 0 (a.map cMail)] (.sl 0 4 0 (a.map cMail)) := by
 refine Weak.enter tab_ok Tryz.func166 rfl (.inr (by simp [V.labelsL, V.labels, V.labelsLL, zz, zf, zy, or_imp, forall_and])) (t := [.sl 0 4 0 (a.map cMail), .any, .any, .any, .any, .any, .any, .any, .any, .any, .any, .any, .any, .any, .any, .any, .any, .any, .any, .any, .any, .any, .any]) rfl ?_
 refine OQ ?_
 refine EV ?_
 refine ON ?_
 refine OQ ?_
 iterate 2 (refine EV ?_)
 refine OkOps.S' rfl (ok_makeSlice (a := a.length) (b := a.length) tab_ok (by simp only [kT] <;> rfl) (by simp only [kT] <;> rfl) (by decide) rfl rfl (by simp only [kE, kL] <;> rfl) (by simp only [kE, kL] <;> rfl) (by omega) (by omega) (by omega) (by show ((56 : Nat) : Int) * _ ≤ _; omega)) (by simp only [Nat.reduceAdd] <;> rfl) (by simp only [kP, Int.toNat_natCast] <;> rfl) ?_
 refine EV ?_
 refine ON ?_
 refine Ok.seq ?_
 refine OQ ?_
 refine EV ?_
 refine ON ?_
 refine Ok.block ?_
 refine Ok.loopW (τ := Nat) (fun x => [(3, .sl 1 4 0 ((a.take x).map cMail ++ List.replicate (a.length - x) zcMail)), (4, .int .i64 (x : Int)), (7, .any)]) [8, 9, 10, 11, 12, 13, 14, 15, 16, 17, 18, 19, 20, 21] (fun x => by simp only [kover] <;> rfl) (fun x => x ≤ a.length) (fun x => a.length - x) 0 (by refine ⟨?_, ?_, ?_, ?_, ?_, ?_, ?_, ?_, ?_, ?_, ?_, ?_, ?_, ?_, ?_, ?_, ?_, ?_, ?_, ?_, ?_, ?_, ?_, trivial⟩ <;> first | exact le_any _ | with_reducible exact le_rfl' _ | ((first | exact le_rfl' _ | (simp only [List.take_zero, List.map_nil, List.nil_append, Nat.sub_zero]; exact le_rfl' _))) | exact le_rfl' _) (Nat.zero_le _) ?_
 rintro i h1
 refine Ok.seq ?_
 refine OQ ?_
 iterate 4 (refine EV ?_)
 refine ON ?_
 refine Ok.cond (b := _) (by simp only [kE, kT, kL, kC] <;> rfl) (fun hb3 => ?_) (fun hb3 => ?_)
 ·
  try simp only [bsimp] at hb3
  have hi : i < a.length := by omega
  have hs := set_rep (f := cMail) (z := zcMail) hi
  have hg := get_rep (f := cMail) (z := zcMail) hi
  refine Ok.skip ?_
  refine Ok.seq ?_
  refine Ok.block ?_
  refine Ok.region ?_
  iterate 4 (refine EV ?_)
  refine OkOps.ev tab_ok rfl (ev_idx_map (by simp only [kE, kT, kL, kC] <;> rfl) (by simp only [kE, kT, kL, kC] <;> rfl) (by omega) (by simp only [kE, kT, kL, kC] <;> rfl)) (by simp only [kP] <;> rfl) ?_
  refine EV ?_
  refine OkOps.S0 rfl (OpS.weak' rfl (by simp only [kE, kT, kL, kC] <;> rfl) (by simp only [kE, kT, kL, kC] <;> rfl) cl213 (w_laws_toMail a[i] (hz _ (List.getElem_mem hi)))) (by simp only [kP] <;> rfl) ?_
  refine OkOps.ev tab_ok rfl (ev_idx (by simp only [kE, kT, kL, kC] <;> rfl) (by simp only [kE, kT, kL, kC] <;> rfl) (hg) (by simp only [kE, kT, kL, kC] <;> rfl)) (by simp only [kP] <;> rfl) ?_
  refine OkOps.storeE tab_ok rfl rfl (by simp only [kE, kT, kL, kC] <;> rfl) ⟨_, _, by simp only [kE]; rfl⟩ (by first | (simp [V.labelsL, V.labelsLL, V.labels, zz, zf, zy]; done) | (simp [-List.map_map, -List.map_set, -List.map_drop, -List.map_take, -List.map_tail, -List.drop_one, V.labelsL, V.labelsLL, V.labels, zz, zf, zy]; done)) (by simp only [eq_self, V.updL, V.travL, V.travLL, V.trav, updS, updP, and_self, true_and, and_true, false_and, and_false, Nat.reduceEqDiff, Nat.reduceSub, Nat.le_refl, Nat.zero_le, ↓reduceIte, if_true, if_false, kP, zz, zf, zy, trav_rep, hs, Nat.sub_zero] <;> rfl) (rfl) ?_
  refine ON ?_
  refine Ok.region ?_
  iterate 3 (refine EV ?_)
  refine ON ?_
  refine ⟨i + 1, ?_, rfl, rfl, by omega, by omega⟩
  refine ⟨?_, ?_, ?_, ?_, ?_, ?_, ?_, ?_, ?_, ?_, ?_, ?_, ?_, ?_, ?_, ?_, ?_, ?_, ?_, ?_, ?_, ?_, ?_, trivial⟩ <;> first | exact le_any _ | with_reducible exact le_rfl' _ | ((first | (rw [wrap_succ (by omega)]; exact le_rfl' _) | (simp only [zz, zf, zy, trav_rep]; first | exact le_rfl' _ | (rw [hs]; exact le_rfl' _)))) | exact le_rfl' _
 ·
  try simp only [bsimp] at hb3
  refine Ok.exit ?_
  refine OQ ?_
  iterate 2 (refine EV ?_)
  refine ON ?_
  refine Ok.ret ?_
  with_reducible repeat (first | refine thenQ_ret ?_ | refine blockQ_ret ?_)
  refine RT ?_
  rw [show i = a.length by omega]; simp [V.erase, V.trav, packV, zz, zf, zy]
theorem w_laws_toBox (x : Box) (h : smBox x) : Weak Tryz.prog 119 [.agg (cBox x)] (.agg (cBox x)) := by
 refine Weak.enter tab_ok Tryz.func119 rfl (.inr (by simp [V.labelsL, V.labels, V.labelsLL, zz, zf, zy, or_imp, forall_and])) (t := [.agg (cBox x), .any, .any, .any, .any, .any, .any, .any, .any, .any, .any, .any, .any, .any, .any, .any, .any, .any, .any, .any, .any, .any, .any, .any, .any, .any]) rfl ?_
 refine OQ ?_
 iterate 2 (refine EV ?_)
 refine ON ?_
 refine OQ ?_
 refine EV ?_
 refine ON ?_
 refine OQ ?_
 iterate 3 (refine EV ?_)
 refine OkOps.storeE tab_ok rfl rfl (by simp only [kE, kT, kL, kC] <;> rfl) ⟨_, _, by simp only [kE]; rfl⟩ (by first | (simp [V.labelsL, V.labelsLL, V.labels, zz, zf, zy]; done) | (simp [-List.map_map, -List.map_set, -List.map_drop, -List.map_take, -List.map_tail, -List.drop_one, V.labelsL, V.labelsLL, V.labels, zz, zf, zy]; done)) (by simp only [eq_self, V.updL, V.travL, V.travLL, V.trav, updS, updP, and_self, true_and, and_true, false_and, and_false, Nat.reduceEqDiff, Nat.reduceSub, Nat.le_refl, Nat.zero_le, ↓reduceIte, if_true, if_false, kP, zz, zf, zy] <;> rfl) (rfl) ?_
 refine ON ?_
 refine OQ ?_
 iterate 3 (refine EV ?_)
 refine OkOps.storeE tab_ok rfl rfl (by simp only [kE, kT, kL, kC] <;> rfl) ⟨_, _, by simp only [kE]; rfl⟩ (by first | (simp [V.labelsL, V.labelsLL, V.labels, zz, zf, zy]; done) | (simp [-List.map_map, -List.map_set, -List.map_drop, -List.map_take, -List.map_tail, -List.drop_one, V.labelsL, V.labelsLL, V.labels, zz, zf, zy]; done)) (by simp only [eq_self, V.updL, V.travL, V.travLL, V.trav, updS, updP, and_self, true_and, and_true, false_and, and_false, Nat.reduceEqDiff, Nat.reduceSub, Nat.le_refl, Nat.zero_le, ↓reduceIte, if_true, if_false, kP, zz, zf, zy] <;> rfl) (rfl) ?_
 refine ON ?_
 refine OQ ?_
 iterate 2 (refine EV ?_)
 refine OkOps.S0 rfl (OpS.weak' rfl (by simp only [kE, kT, kL, kC] <;> rfl) (by simp only [kE, kT, kL, kC] <;> rfl) cl165 (w_laws_toStamp x.named)) (by simp only [kP] <;> rfl) ?_
 refine EV ?_
 refine OkOps.storeE tab_ok rfl rfl (by simp only [kE, kT, kL, kC] <;> rfl) ⟨_, _, by simp only [kE]; rfl⟩ (by first | (simp [V.labelsL, V.labelsLL, V.labels, zz, zf, zy]; done) | (simp [-List.map_map, -List.map_set, -List.map_drop, -List.map_take, -List.map_tail, -List.drop_one, V.labelsL, V.labelsLL, V.labels, zz, zf, zy]; done)) (by simp only [eq_self, V.updL, V.travL, V.travLL, V.trav, updS, updP, and_self, true_and, and_true, false_and, and_false, Nat.reduceEqDiff, Nat.reduceSub, Nat.le_refl, Nat.zero_le, ↓reduceIte, if_true, if_false, kP, zz, zf, zy] <;> rfl) (rfl) ?_
 refine ON ?_
 refine OQ ?_
 iterate 3 (refine EV ?_)
 refine OkOps.storeE tab_ok rfl rfl (by simp only [kE, kT, kL, kC] <;> rfl) ⟨_, _, by simp only [kE]; rfl⟩ (by first | (simp [V.labelsL, V.labelsLL, V.labels, zz, zf, zy]; done) | (simp [-List.map_map, -List.map_set, -List.map_drop, -List.map_take, -List.map_tail, -List.drop_one, V.labelsL, V.labelsLL, V.labels, zz, zf, zy]; done)) (by simp only [eq_self, V.updL, V.travL, V.travLL, V.trav, updS, updP, and_self, true_and, and_true, false_and, and_false, Nat.reduceEqDiff, Nat.reduceSub, Nat.le_refl, Nat.zero_le, ↓reduceIte, if_true, if_false, kP, zz, zf, zy] <;> rfl) (rfl) ?_
 refine ON ?_
 refine OQ ?_
 iterate 2 (refine EV ?_)
 refine OkOps.S0 rfl (OpS.weak' rfl (by simp only [kE, kT, kL, kC] <;> rfl) (by simp only [kE, kT, kL, kC] <;> rfl) cl166 (w_laws_toMailS x.mails (h.2.1).1 (h.2.1).2)) (by simp only [kP] <;> rfl) ?_
 refine EV ?_
 refine OkOps.storeE tab_ok rfl rfl (by simp only [kE, kT, kL, kC] <;> rfl) ⟨_, _, by simp only [kE]; rfl⟩ (by first | (simp [V.labelsL, V.labelsLL, V.labels, zz, zf, zy]; done) | (simp [-List.map_map, -List.map_set, -List.map_drop, -List.map_take, -List.map_tail, -List.drop_one, V.labelsL, V.labelsLL, V.labels, zz, zf, zy]; done)) (by simp only [eq_self, V.updL, V.travL, V.travLL, V.trav, updS, updP, and_self, true_and, and_true, false_and, and_false, Nat.reduceEqDiff, Nat.reduceSub, Nat.le_refl, Nat.zero_le, ↓reduceIte, if_true, if_false, kP, zz, zf, zy] <;> rfl) (rfl) ?_
 refine ON ?_
 refine OQ ?_
 iterate 2 (refine EV ?_)
 refine OkOps.S0 rfl (OpS.weak' rfl (by simp only [kE, kT, kL, kC] <;> rfl) (by simp only [kE, kT, kL, kC] <;> rfl) cl54 (w_laws_toIntS x.gone h.2.2)) (by simp only [kP] <;> rfl) ?_
 refine EV ?_
 refine OkOps.storeE tab_ok rfl rfl (by simp only [kE, kT, kL, kC] <;> rfl) ⟨_, _, by simp only [kE]; rfl⟩ (by first | (simp [V.labelsL, V.labelsLL, V.labels, zz, zf, zy]; done) | (simp [-List.map_map, -List.map_set, -List.map_drop, -List.map_take, -List.map_tail, -List.drop_one, V.labelsL, V.labelsLL, V.labels, zz, zf, zy]; done)) (by simp only [eq_self, V.updL, V.travL, V.travLL, V.trav, updS, updP, and_self, true_and, and_true, false_and, and_false, Nat.reduceEqDiff, Nat.reduceSub, Nat.le_refl, Nat.zero_le, ↓reduceIte, if_true, if_false, kP, zz, zf, zy] <;> rfl) (rfl) ?_
 refine ON ?_
 refine OQ ?_
 refine EV ?_
 refine OkOps.storeE tab_ok rfl rfl (by simp only [kE, kT, kL, kC] <;> rfl) ⟨_, _, by simp only [kE]; rfl⟩ (by first | (simp [V.labelsL, V.labelsLL, V.labels, zz, zf, zy]; done) | (simp [-List.map_map, -List.map_set, -List.map_drop, -List.map_take, -List.map_tail, -List.drop_one, V.labelsL, V.labelsLL, V.labels, zz, zf, zy]; done)) (by simp only [eq_self, V.updL, V.travL, V.travLL, V.trav, updS, updP, and_self, true_and, and_true, false_and, and_false, Nat.reduceEqDiff, Nat.reduceSub, Nat.le_refl, Nat.zero_le, ↓reduceIte, if_true, if_false, kP, zz, zf, zy] <;> rfl) (rfl) ?_
 refine ON ?_
 refine Ok.ret ?_
 with_reducible repeat (first | refine thenQ_ret ?_ | refine blockQ_ret ?_)
 refine RT ?_
 first | rfl | (simp [V.erase, V.trav, V.travL, packV, zz, zf, zy]; done)
theorem w_laws_toBoxS (a : List Box) (ha : a.length ≤ 1048576) (hz : ∀ z ∈ a, smBox z) : Weak Tryz.prog 53 [.sl 0 7 0 (a.map cBox)] (.sl 0 7 0 (a.map cBox)) := by
 refine Weak.enter tab_ok Tryz.func53 rfl (.inr (by simp [V.labelsL, V.labels, V.labelsLL, zz, zf, zy, or_imp, forall_and])) (t := [.sl 0 7 0 (a.map cBox), .any, .any, .any, .any, .any, .any, .any, .any, .any, .any, .any, .any, .any, .any, .any, .any, .any, .any, .any, .any, .any, .any]) rfl ?_
 refine OQ ?_
 refine EV ?_
 refine ON ?_
 refine OQ ?_
 iterate 2 (refine EV ?_)
 refine OkOps.S' rfl (ok_makeSlice (a := a.length) (b := a.length) tab_ok (by simp only [kT] <;> rfl) (by simp only [kT] <;> rfl) (by decide) rfl rfl (by simp only [kE, kL] <;> rfl) (by simp only [kE, kL] <;> rfl) (by omega) (by omega) (by omega) (by show ((96 : Nat) : Int) * _ ≤ _; omega)) (by simp only [Nat.reduceAdd] <;> rfl) (by simp only [kP, Int.toNat_natCast] <;> rfl) ?_
 refine EV ?_
 refine ON ?_
 refine Ok.seq ?_
 refine OQ ?_
 refine EV ?_
 refine ON ?_
 refine Ok.block ?_
 refine Ok.loopW (τ := Nat) (fun x => [(3, .sl 1 7 0 ((a.take x).map cBox ++ List.replicate (a.length - x) zcBox)), (4, .int .i64 (x : Int)), (7, .any)]) [8, 9, 10, 11, 12, 13, 14, 15, 16, 17, 18, 19, 20, 21] (fun x => by simp only [kover] <;> rfl) (fun x => x ≤ a.length) (fun x => a.length - x) 0 (by refine ⟨?_, ?_, ?_, ?_, ?_, ?_, ?_, ?_, ?_, ?_, ?_, ?_, ?_, ?_, ?_, ?_, ?_, ?_, ?_, ?_, ?_, ?_, ?_, trivial⟩ <;> first | exact le_any _ | with_reducible exact le_rfl' _ | ((first | exact le_rfl' _ | (simp only [List.take_zero, List.map_nil, List.nil_append, Nat.sub_zero]; exact le_rfl' _))) | exact le_rfl' _) (Nat.zero_le _) ?_
 rintro i h1
 refine Ok.seq ?_
 refine OQ ?_
 iterate 4 (refine EV ?_)
 refine ON ?_
 refine Ok.cond (b := _) (by simp only [kE, kT, kL, kC] <;> rfl) (fun hb3 => ?_) (fun hb3 => ?_)
 ·
  try simp only [bsimp] at hb3
  have hi : i < a.length := by omega
  have hs := set_rep (f := cBox) (z := zcBox) hi
  have hg := get_rep (f := cBox) (z := zcBox) hi
  refine Ok.skip ?_
  refine Ok.seq ?_
  refine Ok.block ?_
  refine Ok.region ?_
  iterate 4 (refine EV ?_)
  refine OkOps.ev tab_ok rfl (ev_idx_map (by simp only [kE, kT, kL, kC] <;> rfl) (by simp only [kE, kT, kL, kC] <;> rfl) (by omega) (by simp only [kE, kT, kL, kC] <;> rfl)) (by simp only [kP] <;> rfl) ?_
  refine EV ?_
  refine OkOps.S0 rfl (OpS.weak' rfl (by simp only [kE, kT, kL, kC] <;> rfl) (by simp only [kE, kT, kL, kC] <;> rfl) cl119 (w_laws_toBox a[i] (hz _ (List.getElem_mem hi)))) (by simp only [kP] <;> rfl) ?_
  refine OkOps.ev tab_ok rfl (ev_idx (by simp only [kE, kT, kL, kC] <;> rfl) (by simp only [kE, kT, kL, kC] <;> rfl) (hg) (by simp only [kE, kT, kL, kC] <;> rfl)) (by simp only [kP] <;> rfl) ?_
  refine OkOps.storeE tab_ok rfl rfl (by simp only [kE, kT, kL, kC] <;> rfl) ⟨_, _, by simp only [kE]; rfl⟩ (by first | (simp [V.labelsL, V.labelsLL, V.labels, zz, zf, zy]; done) | (simp [-List.map_map, -List.map_set, -List.map_drop, -List.map_take, -List.map_tail, -List.drop_one, V.labelsL, V.labelsLL, V.labels, zz, zf, zy]; done)) (by simp only [eq_self, V.updL, V.travL, V.travLL, V.trav, updS, updP, and_self, true_and, and_true, false_and, and_false, Nat.reduceEqDiff, Nat.reduceSub, Nat.le_refl, Nat.zero_le, ↓reduceIte, if_true, if_false, kP, zz, zf, zy, trav_rep, hs, Nat.sub_zero] <;> rfl) (rfl) ?_
  refine ON ?_
  refine Ok.region ?_
  iterate 3 (refine EV ?_)
  refine ON ?_
  refine ⟨i + 1, ?_, rfl, rfl, by omega, by omega⟩
  refine ⟨?_, ?_, ?_, ?_, ?_, ?_, ?_, ?_, ?_, ?_, ?_, ?_, ?_, ?_, ?_, ?_, ?_, ?_, ?_, ?_, ?_, ?_, ?_, trivial⟩ <;> first | exact le_any _ | with_reducible exact le_rfl' _ | ((first | (rw [wrap_succ (by omega)]; exact le_rfl' _) | (simp only [zz, zf, zy, trav_rep]; first | exact le_rfl' _ | (rw [hs]; exact le_rfl' _)))) | exact le_rfl' _
 ·
  try simp only [bsimp] at hb3
  refine Ok.exit ?_
  refine OQ ?_
  iterate 2 (refine EV ?_)
  refine ON ?_
  refine Ok.ret ?_
  with_reducible repeat (first | refine thenQ_ret ?_ | refine blockQ_ret ?_)
  refine RT ?_
  rw [show i = a.length by omega]; simp [V.erase, V.trav, packV, zz, zf, zy]
theorem w_laws_toStore (x : Store) (h : smStore x) : Weak Tryz.prog 10 [.agg (cStore x)] (.agg (cStore x)) := by
 refine Weak.enter tab_ok Tryz.func10 rfl (.inr (by simp [V.labelsL, V.labels, V.labelsLL, zz, zf, zy, or_imp, forall_and])) (t := [.agg (cStore x), .any, .any, .any, .any, .any, .any, .any, .any, .any, .any, .any, .any, .any, .any, .any, .any, .any, .any]) rfl ?_
 refine OQ ?_
 iterate 2 (refine EV ?_)
 refine ON ?_
 refine OQ ?_
 refine EV ?_
 refine ON ?_
 refine OQ ?_
 iterate 3 (refine EV ?_)
 refine OkOps.storeE tab_ok rfl rfl (by simp only [kE, kT, kL, kC] <;> rfl) ⟨_, _, by simp only [kE]; rfl⟩ (by first | (simp [V.labelsL, V.labelsLL, V.labels, zz, zf, zy]; done) | (simp [-List.map_map, -List.map_set, -List.map_drop, -List.map_take, -List.map_tail, -List.drop_one, V.labelsL, V.labelsLL, V.labels, zz, zf, zy]; done)) (by simp only [eq_self, V.updL, V.travL, V.travLL, V.trav, updS, updP, and_self, true_and, and_true, false_and, and_false, Nat.reduceEqDiff, Nat.reduceSub, Nat.le_refl, Nat.zero_le, ↓reduceIte, if_true, if_false, kP, zz, zf, zy] <;> rfl) (rfl) ?_
 refine ON ?_
 refine OQ ?_
 iterate 3 (refine EV ?_)
 refine OkOps.storeE tab_ok rfl rfl (by simp only [kE, kT, kL, kC] <;> rfl) ⟨_, _, by simp only [kE]; rfl⟩ (by first | (simp [V.labelsL, V.labelsLL, V.labels, zz, zf, zy]; done) | (simp [-List.map_map, -List.map_set, -List.map_drop, -List.map_take, -List.map_tail, -List.drop_one, V.labelsL, V.labelsLL, V.labels, zz, zf, zy]; done)) (by simp only [eq_self, V.updL, V.travL, V.travLL, V.trav, updS, updP, and_self, true_and, and_true, false_and, and_false, Nat.reduceEqDiff, Nat.reduceSub, Nat.le_refl, Nat.zero_le, ↓reduceIte, if_true, if_false, kP, zz, zf, zy] <;> rfl) (rfl) ?_
 refine ON ?_
 refine OQ ?_
 iterate 2 (refine EV ?_)
 refine OkOps.S0 rfl (OpS.weak' rfl (by simp only [kE, kT, kL, kC] <;> rfl) (by simp only [kE, kT, kL, kC] <;> rfl) cl53 (w_laws_toBoxS x.boxes (h.1).1 (h.1).2)) (by simp only [kP] <;> rfl) ?_
 refine EV ?_
 refine OkOps.storeE tab_ok rfl rfl (by simp only [kE, kT, kL, kC] <;> rfl) ⟨_, _, by simp only [kE]; rfl⟩ (by first | (simp [V.labelsL, V.labelsLL, V.labels, zz, zf, zy]; done) | (simp [-List.map_map, -List.map_set, -List.map_drop, -List.map_take, -List.map_tail, -List.drop_one, V.labelsL, V.labelsLL, V.labels, zz, zf, zy]; done)) (by simp only [eq_self, V.updL, V.travL, V.travLL, V.trav, updS, updP, and_self, true_and, and_true, false_and, and_false, Nat.reduceEqDiff, Nat.reduceSub, Nat.le_refl, Nat.zero_le, ↓reduceIte, if_true, if_false, kP, zz, zf, zy] <;> rfl) (rfl) ?_
 refine ON ?_
 refine OQ ?_
 iterate 2 (refine EV ?_)
 refine OkOps.S0 rfl (OpS.weak' rfl (by simp only [kE, kT, kL, kC] <;> rfl) (by simp only [kE, kT, kL, kC] <;> rfl) cl54 (w_laws_toIntS x.gone h.2)) (by simp only [kP] <;> rfl) ?_
 refine EV ?_
 refine OkOps.storeE tab_ok rfl rfl (by simp only [kE, kT, kL, kC] <;> rfl) ⟨_, _, by simp only [kE]; rfl⟩ (by first | (simp [V.labelsL, V.labelsLL, V.labels, zz, zf, zy]; done) | (simp [-List.map_map, -List.map_set, -List.map_drop, -List.map_take, -List.map_tail, -List.drop_one, V.labelsL, V.labelsLL, V.labels, zz, zf, zy]; done)) (by simp only [eq_self, V.updL, V.travL, V.travLL, V.trav, updS, updP, and_self, true_and, and_true, false_and, and_false, Nat.reduceEqDiff, Nat.reduceSub, Nat.le_refl, Nat.zero_le, ↓reduceIte, if_true, if_false, kP, zz, zf, zy] <;> rfl) (rfl) ?_
 refine ON ?_
 refine OQ ?_
 refine EV ?_
 refine OkOps.storeE tab_ok rfl rfl (by simp only [kE, kT, kL, kC] <;> rfl) ⟨_, _, by simp only [kE]; rfl⟩ (by first | (simp [V.labelsL, V.labelsLL, V.labels, zz, zf, zy]; done) | (simp [-List.map_map, -List.map_set, -List.map_drop, -List.map_take, -List.map_tail, -List.drop_one, V.labelsL, V.labelsLL, V.labels, zz, zf, zy]; done)) (by simp only [eq_self, V.updL, V.travL, V.travLL, V.trav, updS, updP, and_self, true_and, and_true, false_and, and_false, Nat.reduceEqDiff, Nat.reduceSub, Nat.le_refl, Nat.zero_le, ↓reduceIte, if_true, if_false, kP, zz, zf, zy] <;> rfl) (rfl) ?_
 refine ON ?_
 refine Ok.ret ?_
 with_reducible repeat (first | refine thenQ_ret ?_ | refine blockQ_ret ?_)
 refine RT ?_
 first | rfl | (simp [V.erase, V.trav, V.travL, packV, zz, zf, zy]; done)
end Go.Proofs.YtjhfabimacljhaaGreat.K

/- How many marks a server's data takes. -/
namespace Go.Proofs.YtjhfabimacljhaaGreat.K
open Go Go.RowKit
set_option linter.unusedVariables false
set_option linter.unusedSimpArgs false
end Go.Proofs.YtjhfabimacljhaaGreat.K

/- Pairs of servers: which place there is; who rises. -/
namespace Go.Proofs.YtjhfabimacljhaaGreat.K
open Go Go.RowKit
set_option linter.unusedVariables false
set_option linter.unusedSimpArgs false
def hasP (p : Pair) (i : Int) : Bool := decide (0 ≤ i ∧ i ≤ 1 ∧ i < (p.servers.length : Int) ∧ i < (p.syncs.length : Int))
def upAt (p : Pair) (i : Int) : Bool := match p.servers[i.toNat]? with | some s => s.up | none => false
def riseB (p : Pair) (i : Int) : Bool := hasP p i && !upAt p i
def riseS (p : Pair) (i : Int) : List Server := match p.servers[i.toNat]? with | some s => p.servers.set i.toNat ⟨s.kept, s.session, true⟩ | none => p.servers
def riseP (p : Pair) (i : Int) : Pair := if riseB p i = true then { p with servers := riseS p i } else p
theorem sum_zero {α : Type} (l : List α) : (l.map fun _ => 0).sum = 0 := by
  induction l with
  | nil => rfl
  | cons y l ih => rw [List.map_cons, List.sum_cons, ih]
def Took (f : Int → Int) (k : Nat) : Prop := ∀ left, 0 ≤ left → left ≤ 1048576 → ¬ f left < 0 → f left + (k : Int) ≤ left
theorem cut_took {n : Nat} (hn : n ≤ BB) : Took (szCut n) 0 := by
  intro left h0 h1 h
  have := (cut_cnt hn left h0 h1 h).1
  omega
theorem len_took {n : Nat} (hn : n ≤ BB) : Took (szLen n) n := by
  intro left h0 h1 h
  unfold szLen at *
  rw [wrap_sub h0 h1 hn] at *
  split at h
  · omega
  · rename_i hl
    rw [if_neg hl]; omega
theorem fold_took {α : Type} {f : α → Int → Int} {k : α → Nat} : ∀ {l : List α}, (∀ a ∈ l, Took (f a) (k a)) → Took (szFold f l) ((l.map k).sum)
  | [], _ => fun left _ _ _ => by simp [szFold]
  | a :: l, hp => by
    intro left h0 h1 h
    simp only [szFold] at *
    split at h
    · omega
    · rename_i hl
      rw [if_neg hl]
      have h2 := hp a (List.mem_cons_self ..) left h0 h1 hl
      have h3 := fold_took (fun b hb => hp b (List.mem_cons_of_mem _ hb)) (f a left) (by omega) (by omega) h
      rw [List.map_cons, List.sum_cons]
      omega
theorem all_took {α : Type} {f : α → Int → Int} {k : α → Nat} {l : List α} (hl : l.length ≤ BB) (hp : ∀ a ∈ l, Took (f a) (k a)) : Took (szAll f l) (l.length + (l.map k).sum) := by
  intro left h0 h1 h
  unfold szAll at *
  rw [wrap_sub h0 h1 hl] at *
  split at h
  · omega
  · rename_i hc
    rw [if_neg hc]
    have := fold_took hp (left - l.length) (by omega) (by omega) h
    omega
theorem seq_took {f : Int → Int} {fs : List (Int → Int)} {k m : Nat} (hp : Took f k) (hq : Took (szSeq fs) m) : Took (szSeq (f :: fs)) (k + m) := by
  intro left h0 h1 h
  simp only [szSeq] at *
  split at h
  · omega
  · rename_i hl
    rw [if_neg hl]
    have h2 := hp left h0 h1 hl
    have h3 := hq (f left) (by omega) (by omega) h
    omega
theorem nil_took : Took (szSeq []) 0 := fun left _ _ _ => by simp [szSeq]
theorem one_took {f : Int → Int} {k : Nat} (hp : Took f k) : Took (szSeq [f]) k := by
  have := seq_took hp nil_took; simpa using this
def kMail (x : Mail) : Nat := x.flags.length
def kBox (x : Box) : Nat := x.mails.length + (x.mails.map kMail).sum + x.gone.length
def kStore (x : Store) : Nat := x.boxes.length + (x.boxes.map kBox).sum + x.gone.length
def kServer (x : Server) : Nat := kStore x.kept.store + x.session.view.length
def kSync (x : Sync) : Nat := x.link.way.length + x.pieces.length
def kPair (x : Pair) : Nat := x.servers.length + (x.servers.map kServer).sum + (x.syncs.length + (x.syncs.map kSync).sum + x.net.length)
theorem mail_took {x : Mail} (h : okMail x) : Took (szMail x) (kMail x) := seq_took (len_took h.1.1) (one_took (cut_took h.2))
theorem box_took {x : Box} (h : okBox x) : Took (szBox x) (kBox x) := by
  have := seq_took (cut_took h.1) (seq_took (all_took h.2.2.1.1 fun z hz => mail_took (h.2.2.1.2 z hz)) (one_took (len_took h.2.2.2)))
  rw [show 0 + (x.mails.length + (x.mails.map kMail).sum + x.gone.length) = kBox x from Nat.zero_add _] at this
  exact this
theorem store_took {x : Store} (h : okStore x) : Took (szStore x) (kStore x) := seq_took (all_took h.1.1 fun z hz => box_took (h.1.2 z hz)) (one_took (len_took h.2))
theorem mn_rows {α : Type} {f : α → List V} {k : α → Nat} : ∀ {l : List α}, (∀ a ∈ l, V.mnL (f a) ≤ 13 * (1 + k a)) → V.mnLL (l.map f) ≤ 13 * (l.length + (l.map k).sum)
  | [], _ => by simp [V.mnLL]
  | a :: l, h => by
    have h1 := h a (List.mem_cons_self ..)
    have h2 := mn_rows (l := l) fun b hb => h b (List.mem_cons_of_mem _ hb)
    rw [List.map_cons, List.map_cons, List.sum_cons, List.length_cons]
    show V.mnL (f a) + V.mnLL _ ≤ _
    omega
theorem mn_flat {α : Type} {f : α → List V} {l : List α} (h : ∀ a ∈ l, V.mnL (f a) ≤ 13) : V.mnLL (l.map f) ≤ 13 * l.length := by
  have := mn_rows (k := fun _ => 0) (l := l) (f := f) fun a ha => by have := h a ha; omega
  rw [sum_zero] at this
  exact this
theorem mnq_mail (x : Mail) : V.mnL (cMail x) ≤ 13 * (1 + kMail x) := by
  have := mn_flat (f := cReg) (l := x.flags) fun a _ => by simp [cReg, V.mnL, V.mn]
  simp only [cMail, V.mnL, V.mn, kMail]; omega
theorem mnq_box (x : Box) : V.mnL (cBox x) ≤ 13 * (1 + kBox x) := by
  have h1 := mn_rows (f := cMail) (l := x.mails) fun a _ => mnq_mail a
  have h2 := mn_flat (f := cZ) (l := x.gone) fun a _ => by simp [cZ, V.mnL, V.mn]
  simp only [cBox, V.mnL, V.mn, kBox]; omega
theorem mnq_boxes (x : Store) : V.mnLL (x.boxes.map cBox) + V.mnLL (x.gone.map cZ) ≤ 13 * kStore x := by
  have h1 := mn_rows (f := cBox) (l := x.boxes) fun a _ => mnq_box a
  have h2 := mn_flat (f := cZ) (l := x.gone) fun a _ => by simp [cZ, V.mnL, V.mn]
  unfold kStore; omega
end Go.Proofs.YtjhfabimacljhaaGreat.K

/- Plain laws: how many marks a sync begun holds, and a store. -/
namespace Go.Proofs.YtjhfabimacljhaaGreat.K
open Go Go.RowKit
theorem mnq_beg (s : Store) (e : Int) : V.mnLL ((begY s e).link.way.map cS) + V.mnLL ((begY s e).pieces.map cS) ≤ 1000 := by
  have h1 := mn_flat (f := cS) (l := (begY s e).link.way) fun a _ => by simp [cS, V.mnL, V.mn]
  have h2 := mn_flat (f := cS) (l := (begY s e).pieces) fun a _ => by simp [cS, V.mnL, V.mn]
  have h3 := begY_way s e
  omega
theorem store_few {s : Store} (h : okStore s) (hs : ¬ szStore s 1048576 < 0) : kStore s ≤ 1048576 := by
  have := store_took h 1048576 (by omega) (by omega) hs
  omega
end Go.Proofs.YtjhfabimacljhaaGreat.K

/- The walk of FnExactSyncBegin. Printed by w2.py. -/
namespace Go.Proofs.YtjhfabimacljhaaGreat.K
open Go Go.RowKit
set_option linter.unusedVariables false
set_option linter.unusedSimpArgs false
set_option maxHeartbeats 4000000
set_option maxRecDepth 20000
theorem w_laws_FnExactSyncBegin (x : Store) (e : Int) (hb : okStore x) : Weak Tryz.prog 3 [.agg (cStore x), .int .i64 e] (.bool true) := by
 refine Weak.enter tab_ok Tryz.func3 rfl (.inr (by simp [V.labelsL, V.labels, V.labelsLL, zz, zf, zy, or_imp, forall_and])) (t := [.agg (cStore x), .int .i64 e, .any, .any, .any, .any, .any, .any, .any, .any, .any, .any, .any, .any, .any, .any, .any, .any, .any, .any, .any, .any, .any, .any, .any, .any, .any, .any, .any, .any, .any, .any, .any, .any, .any, .any, .any, .any, .any, .any, .any, .any, .any, .any, .any, .any, .any, .any, .any, .any, .any, .any, .any, .any, .any, .any, .any, .any, .any, .any, .any, .any, .any, .any, .any, .any, .any, .any, .any, .any, .any, .any, .any, .any, .any, .any, .any, .any, .any, .any, .any, .any, .any, .any, .any, .any, .any, .any, .any, .any, .any, .any, .any, .any, .any, .any, .any, .any, .any, .any, .any]) rfl ?_
 refine OQ ?_
 iterate 2 (refine EV ?_)
 refine ON ?_
 refine OQ ?_
 refine EV ?_
 refine ON ?_
 refine OQ ?_
 iterate 2 (refine EV ?_)
 refine OkOps.S0 rfl (OpS.weakE rfl (by simp only [kE, kT, kL, kC] <;> rfl) (by simp only [kE, kT, kL, kC, V.eraseL, V.erase, V.travL, V.trav, zz, zf, zy] <;> rfl) cl8 (by simp [V.labels, V.labelsL, V.labelsLL, zz, zf, zy]) (w_laws_szStore x _)) (by simp only [kP] <;> rfl) ?_
 refine EV ?_
 refine ON ?_
 refine Ok.seq ?_
 refine Ok.seq ?_
 refine Ok.drop [16, 17, 18] (by simp only [kover] <;> rfl) ?_
 refine Ok.region ?_
 iterate 2 (refine EV ?_)
 refine ON ?_
 refine Ok.cond (b := _) (by simp only [kE, kT, kL, kC] <;> rfl) (fun hb3 => ?_) (fun hb3 => ?_)
 ·
  try simp only [bsimp] at hb3
  refine Ok.seq ?_
  refine Ok.drop [19, 20] (by simp only [kover] <;> rfl) ?_
  refine Ok.region ?_
  refine EV ?_
  refine ON ?_
  refine Ok.ret ?_
  with_reducible repeat (first | refine thenQ_ret ?_ | refine blockQ_ret ?_)
  refine RT ?_
  rfl
 ·
  try simp only [bsimp] at hb3
  have hs := (szStore_cnt hb 1048576 (by omega) (by omega) hb3).2
  have hk := store_few hb hb3
  refine Ok.skip ?_
  refine Ok.seq ?_
  refine Ok.drop [19, 20] (by simp only [kover] <;> rfl) ?_
  refine Ok.region ?_
  refine EV ?_
  refine OkOps.S0 rfl (OpS.weak' rfl (by simp only [kE, kT, kL, kC] <;> rfl) (by simp only [kE, kT, kL, kC] <;> rfl) cl10 (w_laws_toStore x hs)) (by simp only [kP] <;> rfl) ?_
  refine EV ?_
  refine OkOps.S0 rfl (OpS.weak' rfl (by simp only [kE, kT, kL, kC] <;> rfl) (by simp only [kE, kT, kL, kC] <;> rfl) cl9 (w_spec_SyncBegin x hs e)) (by simp only [kP] <;> rfl) ?_
  iterate 4 (refine EV ?_)
  refine OkOps.drop [25, 21] (by simp only [kover] <;> rfl) ?_
  refine OkOps.storeN tab_ok rfl rfl (by simp only [kE, kT, kL, kC] <;> rfl) ⟨_, _, by simp only [kE]; rfl⟩ (by first | (simp [V.labelsL, V.labelsLL, V.labels, zz, zf, zy]; done) | (intro h; simp [V.labelsL, V.labels, V.labelsLL, zz, zf, zy] at h)) (fun W hW hF => by have f0 := far0 hW (fun h => by omega); have p0 := fun i o e => hW.ptr (1) i o e (by omega); simp only [List.map_cons, List.map_nil, hW.int, hW.str, hW.bool, hW.any, hW.tup0, hW.agg, hW.nilV, hF.ptr, f0, p0, kP] <;> rfl) ?_
  refine EV ?_
  refine ON ?_
  refine Ok.seq ?_
  refine Ok.drop [21, 22, 23, 24, 25, 26, 27] (by simp only [kover] <;> rfl) ?_
  obtain ⟨m0, hm0⟩ : ∃ m : Nat, m = 2 := ⟨_, rfl⟩
  refine Ok.bump (n' := m0 + 1) (by omega) ?_
  refine Ok.region ?_
  refine EV ?_
  obtain ⟨L2c, e2c, L3c, e3c, hXc, q2c, E2c, M2c, N2c, q3c, E3c, M3c, N3c, ndc, rgc⟩ := ownStore (m0) (x)
  obtain ⟨mc, hmc⟩ : ∃ m, m0 + 1 + V.cnt (.agg (cStore (x))) = m + 1 := ⟨m0 + V.cnt (.agg (cStore (x))), by omega⟩
  have r2c : ∀ z ∈ V.labels (.sl (L2c + 1) 7 0 e2c), m0 + 1 ≤ z ∧ z < mc + 1 := fun z hz => by have := rgc z (by first | exact hz | (simp only [V.labelsL, V.labels, List.mem_append] at hz ⊢; simp only [hz, true_or, or_true])); omega
  have r3c : ∀ z ∈ V.labels (.sl (L3c + 1) 1 0 e3c), m0 + 1 ≤ z ∧ z < mc + 1 := fun z hz => by have := rgc z (by first | exact hz | (simp only [V.labelsL, V.labels, List.mem_append] at hz ⊢; simp only [hz, true_or, or_true])); omega
  refine OkOps.S' rfl (OpS.pure' rfl (by simp only [kE, kT, kL, kC] <;> rfl) (by simp only [kE, kT, kL, kC, V.eraseL, V.erase, V.travL, V.trav, zz, zf, zy] <;> rfl) cl10 (by simp [V.dat, V.datL, V.datLL, zz, zf, zy]) (p_laws_toStore x hs)) hmc (by simp only [kP, hXc] <;> rfl) ?_
  refine EV ?_
  refine OkOps.storeN tab_ok rfl rfl (by simp only [kE, kT, kL, kC] <;> rfl) ⟨_, _, by simp only [kE]; rfl⟩ (by first | (simp [V.labelsL, V.labelsLL, V.labels, zz, zf, zy]; done) | (intro h; have := rgc _ h; omega)) (fun W hW hF => by obtain ⟨z2c, zz2c⟩ := farA hW r2c (fun y h1 h2 h => by omega); obtain ⟨z3c, zz3c⟩ := farA hW r3c (fun y h1 h2 h => by omega); have f0 := far0 hW (fun h => by omega); have p0 := fun i o e => hW.ptr (1) i o e (by omega);  have p1 := fun i o e => hW.ptr (2) i o e (by omega); simp only [List.map_cons, List.map_nil, hW.int, hW.str, hW.bool, hW.any, hW.tup0, hW.agg, hW.nilV, hF.ptr, z2c, zz2c, z3c, zz3c, f0, p0, p1, kP] <;> rfl) ?_
  refine ON ?_
  refine Ok.seq ?_
  refine Ok.drop [28, 29] (by simp only [kover] <;> rfl) ?_
  refine Ok.region ?_
  iterate 2 (refine EV ?_)
  obtain ⟨L2d, e2d, L6d, e6d, hXd, q2d, E2d, M2d, N2d, q6d, E6d, M6d, N6d, ndd, rgd⟩ := ownTSync (mc + 1) (begY x e) (begOk x)
  obtain ⟨md, hmd⟩ : ∃ m, mc + 1 + 1 + V.cnt (.tup [.agg (cSync (begY x e)), .bool (begOk x)]) = m + 1 := ⟨mc + 1 + V.cnt (.tup [.agg (cSync (begY x e)), .bool (begOk x)]), by omega⟩
  have r2d : ∀ z ∈ V.labels (.sl (L2d + 1) 1 0 e2d), mc + 1 + 1 ≤ z ∧ z < md + 1 := fun z hz => by have := rgd z (by first | exact hz | (simp only [V.labelsL, V.labels, List.mem_append] at hz ⊢; simp only [hz, true_or, or_true])); omega
  have r6d : ∀ z ∈ V.labels (.sl (L6d + 1) 1 0 e6d), mc + 1 + 1 ≤ z ∧ z < md + 1 := fun z hz => by have := rgd z (by first | exact hz | (simp only [V.labelsL, V.labels, List.mem_append] at hz ⊢; simp only [hz, true_or, or_true])); omega
  refine OkOps.S' rfl (OpS.pure' rfl (by simp only [kE, kT, kL, kC] <;> rfl) (by simp only [kE, kT, kL, kC, E2c, M2c, N2c, E3c, M3c, N3c, V.eraseL, V.erase, V.travL, V.trav, zz, zf, zy] <;> rfl) cl11 (by simp [V.dat, V.datL, V.datLL, zz, zf, zy]) (p_impl_SyncBegin x hs e)) hmd (by simp only [kP, hXd] <;> rfl) ?_
  iterate 4 (refine EV ?_)
  refine OkOps.drop [33, 30] (by simp only [kover] <;> rfl) ?_
  refine OkOps.storeN tab_ok rfl rfl (by simp only [kE, kT, kL, kC] <;> rfl) ⟨_, _, by simp only [kE]; rfl⟩ (by first | (simp [V.labelsL, V.labelsLL, V.labels, zz, zf, zy]; done) | (intro h; have := rgd _ h; omega)) (fun W hW hF => by obtain ⟨z2c, zz2c⟩ := farA hW r2c (fun y h1 h2 h => by omega); obtain ⟨z3c, zz3c⟩ := farA hW r3c (fun y h1 h2 h => by omega); obtain ⟨z2d, zz2d⟩ := farA hW r2d (fun y h1 h2 h => by omega); obtain ⟨z6d, zz6d⟩ := farA hW r6d (fun y h1 h2 h => by omega); have f0 := far0 hW (fun h => by omega); have p0 := fun i o e => hW.ptr (1) i o e (by omega);  have p1 := fun i o e => hW.ptr (2) i o e (by omega);  have p2 := fun i o e => hW.ptr (mc + 1) i o e (by omega); simp only [List.map_cons, List.map_nil, hW.int, hW.str, hW.bool, hW.any, hW.tup0, hW.agg, hW.nilV, hF.ptr, z2c, zz2c, z3c, zz3c, z2d, zz2d, z6d, zz6d, f0, p0, p1, p2, kP] <;> rfl) ?_
  refine EV ?_
  refine ON ?_
  refine Ok.seq ?_
  refine Ok.seq ?_
  refine Ok.drop [30, 31, 32, 33, 34, 35] (by simp only [kover] <;> rfl) ?_
  refine Ok.region ?_
  iterate 2 (refine EV ?_)
  refine OkOps.S0 rfl (OpS.weakE rfl (by simp only [kE, kT, kL, kC] <;> rfl) (by simp only [kE, kT, kL, kC, E2c, M2c, N2c, E3c, M3c, N3c, E2d, M2d, N2d, E6d, M6d, N6d, V.eraseL, V.erase, V.travL, V.trav, zz, zf, zy] <;> rfl) cl12 (by simp [V.labels, V.labelsL, V.labelsLL, zz, zf, zy]) (w_laws_eqSync (begY x e) (begY x e))) (by simp only [kP] <;> rfl) ?_
  iterate 2 (refine EV ?_)
  refine OkOps.split (d := 40) (by simp only [kE, kT, kL, kC] <;> rfl) (by simp only [kP] <;> rfl) (by simp only [kP] <;> rfl) (fun hg8_4 => ?_) (fun hg8_4 => ?_)
  ·
   try simp only [bsimp] at hg8_4
   simp at hg8_4
  ·
   try simp only [bsimp] at hg8_4
   refine OO ?_
   refine EV ?_
   refine OO ?_
   refine EV ?_
   refine OO ?_
   iterate 2 (refine EV ?_)
   refine ON ?_
   refine Ok.cond_false (by simp only [kE, kT, kL, kC] <;> first | rfl | (simp; done) | (simp; omega) | (simp [N2d, N6d]; done)) ?_
   refine Ok.skip ?_
   refine Ok.seq ?_
   refine Ok.seq ?_
   refine Ok.drop [36, 37, 38, 39, 40, 41, 42, 43, 44] (by simp only [kover] <;> rfl) ?_
   refine Ok.drawn 5 101 [] (by kernel_rfl) (by kernel_rfl) rfl ?_
   iterate 2 (refine SV ?_)
   refine SOps.S0 rfl (OpS.weakM rfl (by simp only [kE, kT, kL, kC] <;> rfl) (by simp only [kE, kT, kL, kC] <;> rfl) cl10 (w_laws_toStore x hs)) (by simp only [kP] <;> rfl) ?_
   refine SOps.S0 rfl (OpS.weakEM rfl (by simp only [kE, kT, kL, kC] <;> rfl) (by simp only [kE, kT, kL, kC, E2c, M2c, N2c, E3c, M3c, N3c, E2d, M2d, N2d, E6d, M6d, N6d, V.eraseL, V.erase, V.travL, V.trav, zz, zf, zy] <;> rfl) cl13 (by simp [V.labels, V.labelsL, V.labelsLL, zz, zf, zy]) (w_laws_eqStore x x)) (by simp only [kP] <;> rfl) ?_
   refine SV ?_
   refine SOps.nil ?_
   refine TOps.nil ?_
   refine Ok.cond_false (by simp only [kE, kT, kL, kC] <;> first | rfl | (simp; done) | (simp; omega) | (simp [N2d, N6d]; done)) ?_
   refine Ok.skip ?_
   refine Ok.seq ?_
   refine Ok.drop [45, 46, 47, 48, 49] (by simp only [kover] <;> rfl) ?_
   refine Ok.region ?_
   refine EV ?_
   refine ON ?_
   refine OQ ?_
   iterate 2 (refine EV ?_)
   refine OkOps.turnN 1 rfl rfl (by simp only [kE, kT, kL, kC] <;> rfl) (by simp only [kE, kT, kL, kC] <;> rfl) cl14 (fun h => c_laws_markStore _ _ L2c e2c L3c e3c _ q2c q3c ndc (by have q := mnq_boxes x; have q2 := mnq_beg x e; dsimp only at *; simp only [N2c, N3c, N2d, N6d]; omega) (fun y hy => by have := rgc y hy; omega)) (by first | rfl | (simp only [Nat.add_zero, Nat.reduceAdd] <;> rfl)) (fun W hW ha => by obtain ⟨z2d, zz2d⟩ := farA hW r2d (fun y h1 h2 h => by have := rgc y h; omega); obtain ⟨z6d, zz6d⟩ := farA hW r6d (fun y h1 h2 h => by have := rgc y h; omega); have f0 := far0 hW (fun h => by have := rgc _ h; omega); have p0 := fun i o e => hW.ptr (1) i o e (fun h => by have := rgc _ h; omega);  have p1 := fun i o e => hW.ptr (2) i o e (fun h => by have := rgc _ h; omega);  have p2 := fun i o e => hW.ptr (mc + 1) i o e (fun h => by have := rgc _ h; omega);  have p3 := fun i o e => hW.ptr (md + 1) i o e (fun h => by have := rgc _ h; omega); have ha2 := ha; simp only [hW.agg, List.map_cons, List.map_nil, hW.int, hW.str, hW.bool, V.agg.injEq, List.cons.injEq, and_true, true_and] at ha2; simp only [List.map_cons, List.map_nil, hW.int, hW.str, hW.bool, hW.any, hW.tup0, hW.agg, ha2, kP, z2d, zz2d, z6d, zz6d, f0, p0, p1, p2, p3] <;> rfl) ?_
   refine EV ?_
   refine ON ?_
   refine Ok.seq ?_
   refine Ok.seq ?_
   refine Ok.drop [50, 51, 52] (by simp only [kover] <;> rfl) ?_
   refine Ok.region ?_
   iterate 3 (refine EV ?_)
   refine OkOps.split (d := 55) (by simp only [kE, kT, kL, kC] <;> rfl) (by simp only [kP] <;> rfl) (by simp only [kP] <;> rfl) (fun hg14_2 => ?_) (fun hg14_2 => ?_)
   ·
    try simp only [bsimp] at hg14_2
    exfalso; omega
   ·
    try simp only [bsimp] at hg14_2
    refine OO ?_
    refine EV ?_
    refine OO ?_
    refine EV ?_
    refine OO ?_
    refine OkOps.S0 rfl (OpS.weakE rfl (by simp only [kE, kT, kL, kC] <;> rfl) (by simp only [kE, kT, kL, kC, E2c, M2c, N2c, E3c, M3c, N3c, E2d, M2d, N2d, E6d, M6d, N6d, V.eraseL, V.erase, V.travL, V.trav, zz, zf, zy] <;> rfl) cl12 (by simp [V.labels, V.labelsL, V.labelsLL, zz, zf, zy]) (w_laws_eqSync (begY x e) (begY x e))) (by simp only [kP] <;> rfl) ?_
    refine OO ?_
    iterate 3 (refine EV ?_)
    refine OkOps.split (d := 61) (by simp only [kE, kT, kL, kC] <;> rfl) (by simp only [kP] <;> rfl) (by simp only [kP] <;> rfl) (fun hg14_8 => ?_) (fun hg14_8 => ?_)
    ·
     try simp only [bsimp] at hg14_8
     simp at hg14_8
    ·
     try simp only [bsimp] at hg14_8
     refine OO ?_
     refine EV ?_
     refine OO ?_
     refine EV ?_
     refine OO ?_
     iterate 2 (refine EV ?_)
     refine ON ?_
     refine Ok.cond_false (by simp only [kE, kT, kL, kC] <;> first | rfl | (simp; done) | (simp; omega) | (simp [N2d, N6d]; done)) ?_
     refine Ok.skip ?_
     refine Ok.seq ?_
     refine Ok.drop [53, 54, 55, 56, 57, 58, 59, 60, 61, 62, 63, 64, 65] (by simp only [kover] <;> rfl) ?_
     refine Ok.region ?_
     refine EV ?_
     refine ON ?_
     refine OQ ?_
     iterate 2 (refine EV ?_)
     refine OkOps.turnN 2 rfl rfl (by simp only [kE, kT, kL, kC] <;> rfl) (by simp only [kE, kT, kL, kC] <;> rfl) cl15 (fun h => c_laws_markSync _ _ L2d e2d _ _ _ L6d e6d _ _ _ q2d q6d ndd (by have q := mnq_boxes x; have q2 := mnq_beg x e; dsimp only at *; simp only [N2c, N3c, N2d, N6d]; omega) (fun y hy => by have := rgd y hy; omega)) (by first | rfl | (simp only [Nat.add_zero, Nat.reduceAdd] <;> rfl)) (fun W hW ha => by obtain ⟨z2c, zz2c⟩ := farA hW r2c (fun y h1 h2 h => by have := rgd y h; omega); obtain ⟨z3c, zz3c⟩ := farA hW r3c (fun y h1 h2 h => by have := rgd y h; omega); have f0 := far0 hW (fun h => by have := rgd _ h; omega); have p0 := fun i o e => hW.ptr (1) i o e (fun h => by have := rgd _ h; omega);  have p1 := fun i o e => hW.ptr (2) i o e (fun h => by have := rgd _ h; omega);  have p2 := fun i o e => hW.ptr (mc + 1) i o e (fun h => by have := rgd _ h; omega);  have p3 := fun i o e => hW.ptr (md + 1) i o e (fun h => by have := rgd _ h; omega); have ha2 := ha; simp only [hW.agg, List.map_cons, List.map_nil, hW.int, hW.str, hW.bool, V.agg.injEq, List.cons.injEq, and_true, true_and] at ha2; simp only [List.map_cons, List.map_nil, hW.int, hW.str, hW.bool, hW.any, hW.tup0, hW.agg, ha2, kP, z2c, zz2c, z3c, zz3c, f0, p0, p1, p2, p3] <;> rfl) ?_
     refine EV ?_
     refine ON ?_
     refine Ok.seq ?_
     refine Ok.drop [66, 67, 68] (by simp only [kover] <;> rfl) ?_
     refine Ok.region ?_
     refine EV ?_
     refine ON ?_
     refine OQ ?_
     iterate 2 (refine EV ?_)
     refine OkOps.S0 rfl (OpS.weakE rfl (by simp only [kE, kT, kL, kC] <;> rfl) (by simp only [kE, kT, kL, kC, E2c, M2c, N2c, E3c, M3c, N3c, E2d, M2d, N2d, E6d, M6d, N6d, V.eraseL, V.erase, V.travL, V.trav, zz, zf, zy] <;> rfl) cl16 (by simp [V.labels, V.labelsL, V.labelsLL, zz, zf, zy]) (w_laws_heldSync (begY x e) 1 (by have q := mnq_boxes x; have q2 := mnq_beg x e; (try dsimp only); omega))) (by simp only [kP] <;> rfl) ?_
     refine EV ?_
     refine ON ?_
     refine Ok.seq ?_
     refine Ok.seq ?_
     refine Ok.drop [69, 70, 71] (by simp only [kover] <;> rfl) ?_
     refine Ok.region ?_
     iterate 2 (refine EV ?_)
     refine ON ?_
     refine Ok.cond_false (by simp only [kE, kT, kL, kC] <;> first | rfl | (simp; done) | (simp; omega) | (simp [N2d, N6d]; done)) ?_
     refine Ok.skip ?_
     refine Ok.seq ?_
     refine Ok.seq ?_
     refine Ok.drop [72, 73] (by simp only [kover] <;> rfl) ?_
     refine Ok.region ?_
     iterate 3 (refine EV ?_)
     refine ON ?_
     refine Ok.cond_false (by simp only [kE, kT, kL, kC] <;> first | rfl | (simp; done) | (simp; omega) | (simp [N2d, N6d]; done)) ?_
     refine Ok.skip ?_
     refine Ok.seq ?_
     refine Ok.drop [74, 75, 76] (by simp only [kover] <;> rfl) ?_
     refine Ok.bump (n' := md + 20 + 1) (by omega) ?_
     refine Ok.region ?_
     refine EV ?_
     refine OkOps.S0 rfl (OpS.weak' rfl (by simp only [kE, kT, kL, kC] <;> rfl) (by simp only [kE, kT, kL, kC] <;> rfl) cl10 (w_laws_toStore x hs)) (by simp only [kP] <;> rfl) ?_
     refine EV ?_
     obtain ⟨L2g, e2g, L6g, e6g, hXg, q2g, E2g, M2g, N2g, q6g, E6g, M6g, N6g, ndg, rgg⟩ := ownTSync (md + 20) (begY x e) (begOk x)
     obtain ⟨mg, hmg⟩ : ∃ m, md + 20 + 1 + V.cnt (.tup [.agg (cSync (begY x e)), .bool (begOk x)]) = m + 1 := ⟨md + 20 + V.cnt (.tup [.agg (cSync (begY x e)), .bool (begOk x)]), by omega⟩
     have r2g : ∀ z ∈ V.labels (.sl (L2g + 1) 1 0 e2g), md + 20 + 1 ≤ z ∧ z < mg + 1 := fun z hz => by have := rgg z (by first | exact hz | (simp only [V.labelsL, V.labels, List.mem_append] at hz ⊢; simp only [hz, true_or, or_true])); omega
     have r6g : ∀ z ∈ V.labels (.sl (L6g + 1) 1 0 e6g), md + 20 + 1 ≤ z ∧ z < mg + 1 := fun z hz => by have := rgg z (by first | exact hz | (simp only [V.labelsL, V.labels, List.mem_append] at hz ⊢; simp only [hz, true_or, or_true])); omega
     refine OkOps.S' rfl (OpS.pure' rfl (by simp only [kE, kT, kL, kC] <;> rfl) (by simp only [kE, kT, kL, kC, E2c, M2c, N2c, E3c, M3c, N3c, E2d, M2d, N2d, E6d, M6d, N6d, V.eraseL, V.erase, V.travL, V.trav, zz, zf, zy] <;> rfl) cl11 (by simp [V.dat, V.datL, V.datLL, zz, zf, zy]) (p_impl_SyncBegin x hs e)) hmg (by simp only [kP, hXg] <;> rfl) ?_
     iterate 4 (refine EV ?_)
     refine OkOps.drop [81, 77] (by simp only [kover] <;> rfl) ?_
     refine OkOps.storeN tab_ok rfl rfl (by simp only [kE, kT, kL, kC] <;> rfl) ⟨_, _, by simp only [kE]; rfl⟩ (by first | (simp [V.labelsL, V.labelsLL, V.labels, zz, zf, zy]; done) | (intro h; have := rgg _ h; omega)) (fun W hW hF => by obtain ⟨z2c, zz2c⟩ := farA hW r2c (fun y h1 h2 h => by omega); obtain ⟨z3c, zz3c⟩ := farA hW r3c (fun y h1 h2 h => by omega); obtain ⟨z2d, zz2d⟩ := farA hW r2d (fun y h1 h2 h => by omega); obtain ⟨z6d, zz6d⟩ := farA hW r6d (fun y h1 h2 h => by omega); obtain ⟨z2g, zz2g⟩ := farA hW r2g (fun y h1 h2 h => by omega); obtain ⟨z6g, zz6g⟩ := farA hW r6g (fun y h1 h2 h => by omega); have f0 := far0 hW (fun h => by omega); have p0 := fun i o e => hW.ptr (1) i o e (by omega);  have p1 := fun i o e => hW.ptr (2) i o e (by omega);  have p2 := fun i o e => hW.ptr (mc + 1) i o e (by omega);  have p3 := fun i o e => hW.ptr (md + 1) i o e (by omega); simp only [List.map_cons, List.map_nil, hW.int, hW.str, hW.bool, hW.any, hW.tup0, hW.agg, hW.nilV, hF.ptr, z2c, zz2c, z3c, zz3c, z2d, zz2d, z6d, zz6d, z2g, zz2g, z6g, zz6g, f0, p0, p1, p2, p3, kP] <;> rfl) ?_
     refine EV ?_
     refine ON ?_
     refine Ok.seq ?_
     refine Ok.seq ?_
     refine Ok.drop [77, 78, 79, 80, 81, 82, 83] (by simp only [kover] <;> rfl) ?_
     refine Ok.region ?_
     iterate 2 (refine EV ?_)
     refine OkOps.S0 rfl (OpS.weakE rfl (by simp only [kE, kT, kL, kC] <;> rfl) (by simp only [kE, kT, kL, kC, E2c, M2c, N2c, E3c, M3c, N3c, E2d, M2d, N2d, E6d, M6d, N6d, E2g, M2g, N2g, E6g, M6g, N6g, V.eraseL, V.erase, V.travL, V.trav, zz, zf, zy] <;> rfl) cl12 (by simp [V.labels, V.labelsL, V.labelsLL, zz, zf, zy]) (w_laws_eqSync (begY x e) (begY x e))) (by simp only [kP] <;> rfl) ?_
     iterate 2 (refine EV ?_)
     refine OkOps.split (d := 88) (by simp only [kE, kT, kL, kC] <;> rfl) (by simp only [kP] <;> rfl) (by simp only [kP] <;> rfl) (fun hg25_4 => ?_) (fun hg25_4 => ?_)
     ·
      try simp only [bsimp] at hg25_4
      simp at hg25_4
     ·
      try simp only [bsimp] at hg25_4
      refine OO ?_
      refine EV ?_
      refine OO ?_
      refine EV ?_
      refine OO ?_
      iterate 2 (refine EV ?_)
      refine ON ?_
      refine Ok.cond_false (by simp only [kE, kT, kL, kC] <;> first | rfl | (simp; done) | (simp; omega) | (simp [N2d, N6d]; done)) ?_
      refine Ok.skip ?_
      refine Ok.seq ?_
      refine Ok.drop [84, 85, 86, 87, 88, 89, 90, 91, 92] (by simp only [kover] <;> rfl) ?_
      refine Ok.region ?_
      refine EV ?_
      refine ON ?_
      refine OQ ?_
      iterate 2 (refine EV ?_)
      refine OkOps.S0 rfl (OpS.weakE rfl (by simp only [kE, kT, kL, kC] <;> rfl) (by simp only [kE, kT, kL, kC, E2c, M2c, N2c, E3c, M3c, N3c, E2d, M2d, N2d, E6d, M6d, N6d, E2g, M2g, N2g, E6g, M6g, N6g, V.eraseL, V.erase, V.travL, V.trav, zz, zf, zy] <;> rfl) cl16 (by simp [V.labels, V.labelsL, V.labelsLL, zz, zf, zy]) (w_laws_heldSync (begY x e) 1 (by have q := mnq_boxes x; have q2 := mnq_beg x e; (try dsimp only); omega))) (by simp only [kP] <;> rfl) ?_
      refine EV ?_
      refine ON ?_
      refine Ok.seq ?_
      refine Ok.seq ?_
      refine Ok.drop [93, 94, 95] (by simp only [kover] <;> rfl) ?_
      refine Ok.region ?_
      iterate 2 (refine EV ?_)
      refine ON ?_
      refine Ok.cond_false (by simp only [kE, kT, kL, kC] <;> first | rfl | (simp; done) | (simp; omega) | (simp [N2d, N6d]; done)) ?_
      refine Ok.skip ?_
      refine Ok.seq ?_
      refine Ok.seq ?_
      refine Ok.drop [96, 97] (by simp only [kover] <;> rfl) ?_
      refine Ok.region ?_
      iterate 3 (refine EV ?_)
      refine ON ?_
      refine Ok.cond_false (by simp only [kE, kT, kL, kC] <;> first | rfl | (simp; done) | (simp; omega) | (simp [N2d, N6d]; done)) ?_
      refine Ok.skip ?_
      refine Ok.seq ?_
      refine Ok.drop [98, 99, 100] (by simp only [kover] <;> rfl) ?_
      refine Ok.region ?_
      refine EV ?_
      refine ON ?_
      refine Ok.ret ?_
      with_reducible repeat (first | refine thenQ_ret ?_ | refine blockQ_ret ?_)
      refine RT ?_
      rfl
end Go.Proofs.YtjhfabimacljhaaGreat.K
