/- Walks: the copies of the program as data of the call's own, 3. Printed by w2.py. -/
import Derived.Test.YtjhfabimacljhaaGreatG5
import Derived.Test.YtjhfabimacljhaaGreatG4
import Derived.Test.YtjhfabimacljhaaGreatG2
namespace Go.Proofs.YtjhfabimacljhaaGreat.K
open Go Go.RowKit
set_option linter.unusedVariables false
set_option linter.unusedSimpArgs false
set_option maxHeartbeats 4000000
set_option maxRecDepth 20000
theorem p_spec_l07Copy (x : Store) (h : smStore x) : Pure Tryz.prog 162 [.agg (cStore x)] (.agg (cStore x)) := by
 refine Pure.of (by simp [V.dat, V.datL, V.datLL, zz, zf, zy]) (OkCall.enter' tab_ok Tryz.func162 rfl (t := [.agg (cStore x), .any, .any, .any, .any, .any, .any, .any, .any, .any, .any, .any, .any, .any, .any, .any, .any, .any, .any, .any, .any, .any, .any, .any, .any, .any, .any, .any, .any, .any, .any, .any]) rfl ?_)
 refine OQ ?_
 iterate 2 (refine EV ?_)
 refine ON ?_
 refine OQ ?_
 iterate 2 (refine EV ?_)
 refine OkOps.storeN tab_ok rfl rfl (by simp only [kE, kT, kL, kC] <;> rfl) ⟨_, _, by simp only [kE]; rfl⟩ (by first | (simp [V.labelsL, V.labelsLL, V.labels, zz, zf, zy]; done) | (intro h; (simp [V.labelsL, V.labels, zz, zf, zy] at h))) (fun W hW hF => by have f0 := far0 hW (fun h => by omega); have p0 := fun i o e => hW.ptr (1) i o e (by omega);  have p1 := fun i o e => hW.ptr (2) i o e (by omega); simp only [List.map_cons, List.map_nil, hW.int, hW.str, hW.bool, hW.any, hW.tup0, hW.agg, hW.nilV, hF.ptr, f0, p0, p1, kP] <;> rfl) ?_
 refine ON ?_
 refine Ok.seq ?_
 refine Ok.drop [5] (by simp only [kover] <;> rfl) ?_
 refine Ok.region ?_
 iterate 2 (refine EV ?_)
 refine OkOps.storeN tab_ok rfl rfl (by simp only [kE, kT, kL, kC] <;> rfl) ⟨_, _, by simp only [kE]; rfl⟩ (by first | (simp [V.labelsL, V.labelsLL, V.labels, zz, zf, zy]; done) | (intro h; (simp [V.labelsL, V.labels, V.labelsLL, zz, zf, zy] at h))) (fun W hW hF => by have f0 := far0 hW (fun h => by omega); have p0 := fun i o e => hW.ptr (1) i o e (by omega);  have p1 := fun i o e => hW.ptr (2) i o e (by omega); simp only [List.map_cons, List.map_nil, hW.int, hW.str, hW.bool, hW.any, hW.tup0, hW.agg, hW.nilV, hF.ptr, f0, p0, p1, kP] <;> rfl) ?_
 refine ON ?_
 refine Ok.seq ?_
 refine Ok.seq ?_
 refine Ok.drop [6, 7] (by simp only [kover] <;> rfl) ?_
 refine Ok.cell (d := 3) [.int .i64 x.by_, .int .i64 x.time, .sl 4 7 0 [], .sl 0 1 0 (x.gone.map cZ)] rfl ⟨le_rfl' _, le_rfl' _, le_nil 4 _, le_rfl' _, trivial⟩ (by simp only [List.set_cons_zero, List.set_cons_succ] <;> rfl) ?_
 refine Ok.region ?_
 refine EV ?_
 refine ON ?_
 refine Ok.block ?_
 refine Ok.loopN (τ := List (List V) × Nat) (fun r => [(3, .ptr 3 0 0 [.int .i64 x.by_, .int .i64 x.time, .sl 4 7 0 r.1, .sl 0 1 0 (x.gone.map cZ)]), (4, .int .i64 (r.1.length : Int))]) [8, 9, 10, 11, 12, 13, 14, 15, 16, 17, 18, 19, 20, 21, 22, 23, 24, 25] (fun r => by simp only [kover] <;> rfl) (fun r => r.2 + 1) (fun r => r.1.length ≤ x.boxes.length ∧ V.travLL (fun sz => V.sl 0 sz 0 []) (fun _ sz _ es => V.sl 0 sz 0 es) (fun _ _ o e => V.ptr 0 0 o e) r.1 = (x.boxes.take r.1.length).map cBox ∧ (V.labelsLL r.1).Nodup ∧ (∀ z ∈ V.labelsLL r.1, 5 ≤ z ∧ z < r.2 + 1) ∧ 4 ≤ r.2) (fun r => x.boxes.length - r.1.length) ([], 4) (by refine ⟨?_, ?_, ?_, ?_, ?_, ?_, ?_, ?_, ?_, ?_, ?_, ?_, ?_, ?_, ?_, ?_, ?_, ?_, ?_, ?_, ?_, ?_, ?_, ?_, ?_, ?_, ?_, ?_, ?_, ?_, ?_, ?_, trivial⟩ <;> first | exact le_any _ | with_reducible exact le_rfl' _ | (first | exact le_rfl' _ | exact le_nil 1 7) | exact le_rfl' _) (by decide) (⟨Nat.zero_le _, rfl, List.nodup_nil, (fun z hz => by cases hz), Nat.le_refl _⟩) ?_
 rintro ⟨d, k⟩ ⟨h1, h2, h3, h4, h5⟩
 have h1 : d.length ≤ x.boxes.length := h1
 have h2 : V.travLL (fun sz => V.sl 0 sz 0 []) (fun _ sz _ es => V.sl 0 sz 0 es) (fun _ _ o e => V.ptr 0 0 o e) d = (x.boxes.take d.length).map cBox := h2
 have h3 : (V.labelsLL d).Nodup := h3
 have h4 : ∀ z ∈ V.labelsLL d, 5 ≤ z ∧ z < k + 1 := h4
 have h5 : 4 ≤ k := h5
 refine Ok.seq ?_
 refine OQ ?_
 iterate 5 (refine EV ?_)
 refine ON ?_
 refine Ok.cond (b := _) (by simp only [kE, kT, kL, kC] <;> rfl) (fun hb4 => ?_) (fun hb4 => ?_)
 ·
  try simp only [bsimp] at hb4
  have hi : d.length < x.boxes.length := by omega
  refine Ok.skip ?_
  refine Ok.seq ?_
  refine Ok.block ?_
  refine Ok.drop [8, 9, 10, 11, 12] (by simp only [kover] <;> rfl) ?_
  refine Ok.drawn 9 32 [] (by kernel_rfl) (by kernel_rfl) rfl ?_
  iterate 5 (refine SV ?_)
  refine SOps.ev tab_ok rfl (ev_idx_map (by simp only [kE, kT, kL, kC] <;> rfl) (by simp only [kE, kT, kL, kC] <;> rfl) (by omega) (by simp only [kE, kT, kL, kC] <;> rfl)) (by simp only [kP] <;> rfl) ?_
  refine SV ?_
  obtain ⟨L5a, e5a, L6a, e6a, hXa, q5a, E5a, M5a, N5a, q6a, E6a, M6a, N6a, nda, rga⟩ := ownBox (k) (x.boxes[d.length])
  obtain ⟨ma, hma⟩ : ∃ m, k + 1 + V.cnt (.agg (cBox (x.boxes[d.length]))) = m + 1 := ⟨k + V.cnt (.agg (cBox (x.boxes[d.length]))), by omega⟩
  have r5a : ∀ z ∈ V.labels (.sl (L5a + 1) 4 0 e5a), k + 1 ≤ z ∧ z < ma + 1 := fun z hz => by have := rga z (by first | exact hz | (simp only [V.labelsL, V.labels, List.mem_append] at hz ⊢; simp only [hz, true_or, or_true])); omega
  have r6a : ∀ z ∈ V.labels (.sl (L6a + 1) 1 0 e6a), k + 1 ≤ z ∧ z < ma + 1 := fun z hz => by have := rga z (by first | exact hz | (simp only [V.labelsL, V.labels, List.mem_append] at hz ⊢; simp only [hz, true_or, or_true])); omega
  refine SOps.S' rfl (OpS.pureM rfl (by simp only [kE, kT, kL, kC] <;> rfl) (by simp only [kE, kT, kL, kC, V.eraseL, V.erase, V.travL, V.trav, zz, zf, zy] <;> rfl) cl208 (by simp [V.dat, V.datL, V.datLL, zz, zf, zy]) (p_spec_l06Copy x.boxes[d.length] (h.1.2 _ (List.getElem_mem hi)))) hma (by simp only [kP, hXa] <;> rfl) ?_
  refine SOps.ev tab_ok rfl (ev_bs (by simp only [kT] <;> rfl) (by simp only [kT] <;> rfl) (by decide) (by decide) (by simp only [kE, kT, kL, kC, List.map_cons, List.map_nil] <;> rfl) (by simp only [kfe, beq_self_eq_true, Bool.and_true, Bool.true_and, decide_true, Nat.zero_add, Nat.lt_add_one, Nat.reduceLT, Nat.reduceAdd, Nat.zero_lt_succ, if_true, ↓reduceIte] <;> rfl)) (by simp only [kP] <;> rfl) ?_
  refine SOps.nil ?_
  refine TOps.appendN tab_ok rfl rfl (by simp only [kT] <;> rfl) (by simp only [kT] <;> rfl) (by decide) rfl (by simp only [kE, kT, kL, kC] <;> rfl) (.inl ⟨_, _, by simp only [kE, kT, kL, kC] <;> rfl⟩) (by omega) (by omega) (by simp only [List.length_cons, List.length_nil]; have := h.1.1; omega) (by simp only [List.length_cons, List.length_nil]; have := h.1.1; omega) (by simp [V.one]) (by intro h; have u5a : ¬ (4 = L5a + 1) := (fun h => (by (have := r5a _ (List.mem_cons_self ..)); omega)); have v5a : ¬ (4 ∈ V.labelsLL e5a) := (fun h => (by (have := r5a _ (List.mem_cons_of_mem _ h)); omega)); have u6a : ¬ (4 = L6a + 1) := (fun h => (by (have := r6a _ (List.mem_cons_self ..)); omega)); have v6a : ¬ (4 ∈ V.labelsLL e6a) := (fun h => (by (have := r6a _ (List.mem_cons_of_mem _ h)); omega)); have ud : ¬ (4 ∈ V.labelsLL d) := (fun h => (by (have := h4 _ h); omega)); (revert h; show ¬ _; simp [labelsLL_app, V.labelsLL, V.labelsL, V.labels, zz, zf, zy, u5a, v5a, u6a, v6a, ud] <;> omega)) (fun W hW hF => by obtain ⟨z5a, zz5a⟩ := farA hW r5a (fun y h1 h2 h => by omega); obtain ⟨z6a, zz6a⟩ := farA hW r6a (fun y h1 h2 h => by omega); have f0 := far0 hW (fun h => by omega); have p9 := fun i o e => hW.ptr 0 i o e (by omega); have p8 := fun sz o e => hW.sl (ma + 1) sz o e (by omega); have w8_5 := hW.far (.sl 0 4 0 ((x.boxes[d.length]).mails.map cMail)) (fun z hz h => by have h0 : z = 0 := (show ∀ z ∈ V.labels (.sl 0 4 0 ((x.boxes[d.length]).mails.map cMail)), z = 0 by simp [V.labels, zz, zf, zy]) z hz; omega); have w8_6 := hW.far (.sl 0 1 0 ((x.boxes[d.length]).gone.map cZ)) (fun z hz h => by have h0 : z = 0 := (show ∀ z ∈ V.labels (.sl 0 1 0 ((x.boxes[d.length]).gone.map cZ)), z = 0 by simp [V.labels, zz, zf, zy]) z hz; omega); have p0 := fun i o e => hW.ptr (1) i o e (by omega);  have p1 := fun i o e => hW.ptr (2) i o e (by omega);  have p2 := fun i o e => hW.ptr (3) i o e (by omega); simp only [List.map_cons, List.map_nil, hW.int, hW.str, hW.bool, hW.any, hW.tup0, hW.agg, hW.nilV, hF.sl, hF.ptr, z5a, zz5a, z6a, zz6a, f0, p9, p8, cBox, w8_5, w8_6, p0, p1, p2, kP] <;> rfl) ?_
  refine TV ?_
  refine TOps.storeN tab_ok rfl rfl (by simp only [kE, kT, kL, kC] <;> rfl) ⟨_, _, by simp only [kE]; rfl⟩ (by first | (simp [V.labelsL, V.labelsLL, V.labels, zz, zf, zy]; done) | (intro h; have u5a : ¬ (3 = L5a + 1) := (fun h => (by (have := r5a _ (List.mem_cons_self ..)); omega)); have v5a : ¬ (3 ∈ V.labelsLL e5a) := (fun h => (by (have := r5a _ (List.mem_cons_of_mem _ h)); omega)); have u6a : ¬ (3 = L6a + 1) := (fun h => (by (have := r6a _ (List.mem_cons_self ..)); omega)); have v6a : ¬ (3 ∈ V.labelsLL e6a) := (fun h => (by (have := r6a _ (List.mem_cons_of_mem _ h)); omega)); have ud : ¬ (3 ∈ V.labelsLL d) := (fun h => (by (have := h4 _ h); omega)); (revert h; show ¬ _; simp [labelsLL_app, V.labelsLL, V.labelsL, V.labels, zz, zf, zy, u5a, v5a, u6a, v6a, ud] <;> omega))) (fun W hW hF => by obtain ⟨z5a, zz5a⟩ := farA hW r5a (fun y h1 h2 h => by omega); obtain ⟨z6a, zz6a⟩ := farA hW r6a (fun y h1 h2 h => by omega); have f0 := far0 hW (fun h => by omega); have p9 := fun i o e => hW.ptr 0 i o e (by omega); have p8 := fun sz o e => hW.sl (ma + 1) sz o e (by omega); have p7 := fun sz o e => hW.sl 4 sz o e (by omega); have wl := hW.farLL d (fun y hy h => by have := h4 y hy; omega); have w8_5 := hW.far (.sl 0 4 0 ((x.boxes[d.length]).mails.map cMail)) (fun z hz h => by have h0 : z = 0 := (show ∀ z ∈ V.labels (.sl 0 4 0 ((x.boxes[d.length]).mails.map cMail)), z = 0 by simp [V.labels, zz, zf, zy]) z hz; omega); have w8_6 := hW.far (.sl 0 1 0 ((x.boxes[d.length]).gone.map cZ)) (fun z hz h => by have h0 : z = 0 := (show ∀ z ∈ V.labels (.sl 0 1 0 ((x.boxes[d.length]).gone.map cZ)), z = 0 by simp [V.labels, zz, zf, zy]) z hz; omega); have p0 := fun i o e => hW.ptr (1) i o e (by omega);  have p1 := fun i o e => hW.ptr (2) i o e (by omega); simp only [List.map_cons, List.map_nil, hW.int, hW.str, hW.bool, hW.any, hW.tup0, hW.agg, hW.nilV, hF.ptr, z5a, zz5a, z6a, zz6a, f0, List.map_append, p9, p8, p7, wl, cBox, w8_5, w8_6, p0, p1, kP] <;> rfl) ?_
  refine TOps.nil ?_
  refine Ok.drop [15, 16, 17, 18, 19, 20, 21, 22, 23, 24, 25] (by simp only [kover] <;> rfl) ?_
  refine Ok.region ?_
  iterate 3 (refine EV ?_)
  refine ON ?_
  refine ⟨(d ++ [[.int .i64 (x.boxes[d.length]).gid, .str (x.boxes[d.length]).name, .int .i64 (x.boxes[d.length]).named.time, .int .i64 (x.boxes[d.length]).named.by_, .int .i64 (x.boxes[d.length]).next, .sl (L5a + 1) 4 0 e5a, .sl (L6a + 1) 1 0 e6a]], ma + 1), ?_, rfl, (by dsimp only; omega), (by obtain ⟨z1, z2, z3, z4, z5⟩ := rows_snocL (k := k) (m := ma + 1) (c := [.int .i64 (x.boxes[d.length]).gid, .str (x.boxes[d.length]).name, .int .i64 (x.boxes[d.length]).named.time, .int .i64 (x.boxes[d.length]).named.by_, .int .i64 (x.boxes[d.length]).next, .sl (L5a + 1) 4 0 e5a, .sl (L6a + 1) 1 0 e6a]) (show 5 ≤ k + 1 by omega) hi h2 h3 h4 (by omega) (by omega) (by simp only [V.travL, V.trav, E5a, E6a] <;> rfl) nda (fun z hz => by have := rga z hz; omega); exact ⟨z1, z2, z3, z4, by dsimp only; omega⟩), by show x.boxes.length - (d ++ [_]).length < x.boxes.length - d.length; rw [List.length_append]; simp only [List.length_cons, List.length_nil]; omega⟩
  refine ⟨?_, ?_, ?_, ?_, ?_, ?_, ?_, ?_, ?_, ?_, ?_, ?_, ?_, ?_, ?_, ?_, ?_, ?_, ?_, ?_, ?_, ?_, ?_, ?_, ?_, ?_, ?_, ?_, ?_, ?_, ?_, ?_, trivial⟩ <;> first | exact le_any _ | with_reducible exact le_rfl' _ | (dsimp only; first | exact le_rfl' _ | (rw [wrap_add_one (by have := h.1.1; omega)]; refine le_eqm ?_; simp only [List.length_append, List.length_cons, List.length_nil]; done) | (refine le_eqm ?_; simp only [List.length_append, List.length_cons, List.length_nil, Nat.zero_add]; done)) | exact le_rfl' _
 ·
  try simp only [bsimp] at hb4
  have hi : d.length = x.boxes.length := by omega
  rw [hi, List.take_length] at h2
  refine Ok.exit ?_
  refine Ok.seq ?_
  refine Ok.drop [8, 9, 10, 11, 12] (by simp only [kover] <;> rfl) ?_
  refine Ok.region ?_
  iterate 3 (refine EV ?_)
  refine OkOps.S rfl (ok_append_nil tab_ok (by simp only [kT] <;> rfl) (by simp only [kT] <;> rfl) (by decide) rfl rfl (by simp only [kE, kT, kL, kC] <;> rfl) (.inl ⟨_, _, by simp only [kE, kT, kL, kC] <;> rfl⟩) (by simp only [List.length_map]; have := h.2; omega) (by simp only [List.length_map]; have := h.2; omega)) (by simp only [kP, kL] <;> rfl) ?_
  refine EV ?_
  refine OkOps.storeN tab_ok rfl rfl (by simp only [kE, kT, kL, kC] <;> rfl) ⟨_, _, by simp only [kE]; rfl⟩ (by first | (simp [V.labelsL, V.labelsLL, V.labels, zz, zf, zy]; done) | (intro h; have ud : ¬ (3 ∈ V.labelsLL d) := (fun h => (by (have := h4 _ h); omega)); (revert h; show ¬ _; simp [labelsLL_app, V.labelsLL, V.labelsL, V.labels, zz, zf, zy, ud] <;> omega))) (fun W hW hF => by have f0 := far0 hW (fun h => by omega); have p9 := fun i o e => hW.ptr 0 i o e (by omega); have wd := hW.far (.sl 4 7 0 d) (fun y hy h => by simp only [V.labels, List.mem_cons] at hy; rcases hy with hy | hy <;> first | omega | (have := h4 y hy; omega)); have p6 := hW.far (.sl (k + 1) 1 0 (x.gone.map cZ)) (fun y hy h => by simp [V.labels, zz, zf] at hy; omega); have p0 := fun i o e => hW.ptr (1) i o e (by omega);  have p1 := fun i o e => hW.ptr (2) i o e (by omega); simp only [List.map_cons, List.map_nil, hW.int, hW.str, hW.bool, hW.any, hW.tup0, hW.agg, hW.nilV, hF.ptr, f0, p9, wd, p6, cBox, p0, p1, kP] <;> rfl) ?_
  refine ON ?_
  refine Ok.seq ?_
  refine Ok.drop [26, 27, 28, 29, 30] (by simp only [kover] <;> rfl) ?_
  refine Ok.region ?_
  refine EV ?_
  refine OkOps.storeN tab_ok rfl rfl (by simp only [kE, kT, kL, kC] <;> rfl) ⟨_, _, by simp only [kE]; rfl⟩ (by first | (simp [V.labelsL, V.labelsLL, V.labels, zz, zf, zy]; done) | (intro h; have ud : ¬ (2 ∈ V.labelsLL d) := (fun h => (by (have := h4 _ h); omega)); (revert h; show ¬ _; simp [labelsLL_app, V.labelsLL, V.labelsL, V.labels, zz, zf, zy, ud] <;> omega))) (fun W hW hF => by have f0 := far0 hW (fun h => by omega); have p9 := fun i o e => hW.ptr 0 i o e (by omega); have wd := hW.far (.sl 4 7 0 d) (fun y hy h => by simp only [V.labels, List.mem_cons] at hy; rcases hy with hy | hy <;> first | omega | (have := h4 y hy; omega)); have p6 := hW.far (.sl (k + 1) 1 0 (x.gone.map cZ)) (fun y hy h => by simp [V.labels, zz, zf] at hy; omega); have p0 := fun i o e => hW.ptr (1) i o e (by omega);  have p2 := fun i o e => hW.ptr (3) i o e (by omega); simp only [List.map_cons, List.map_nil, hW.int, hW.str, hW.bool, hW.any, hW.tup0, hW.agg, hW.nilV, hF.ptr, f0, p9, wd, p6, cBox, p0, p2, kP] <;> rfl) ?_
  refine ON ?_
  refine Ok.ret ?_
  with_reducible repeat (first | refine thenQ_ret ?_ | refine blockQ_ret ?_)
  refine RT ?_
  exact ⟨(by simp only [packV, V.erase, V.trav, V.travL, V.travLL, zz, zf, zy, h2] <;> rfl), (by intro L hL; simp [packV, V.labels, V.labelsL, zz, zf] at hL; rcases hL with hL | hL | hL <;> first | omega | (have := h4 L hL; omega)), (by simp only [packV, V.labels, V.labelsL, zz, zf, List.append_nil, List.nil_append]; rw [List.nodup_append]; exact ⟨List.nodup_cons.2 ⟨fun h => by (have := h4 4 h); omega, h3⟩, by simp, fun y hy z hz h => by (rcases List.mem_cons.1 hy with hy | hy) <;> simp at hz <;> first | omega | (have := h4 y hy; omega)⟩)⟩
theorem p_impl_copyStore (x : Store) (h : smStore x) : Pure Tryz.prog 224 [.agg (cStore x)] (.agg (cStore x)) := by
 refine Pure.of (by simp [V.dat, V.datL, V.datLL, zz, zf, zy]) (OkCall.enter' tab_ok Tryz.func224 rfl (t := [.agg (cStore x), .any, .any, .any, .any, .any, .any, .any, .any, .any, .any, .any, .any, .any]) rfl ?_)
 refine OQ ?_
 iterate 2 (refine EV ?_)
 refine ON ?_
 refine Ok.seq ?_
 refine Ok.drawn 11 14 [] (by kernel_rfl) (by kernel_rfl) rfl ?_
 iterate 6 (refine SV ?_)
 obtain ⟨L0a, e0a, hXa, q0a, E0a, M0a, N0a, nda, rga⟩ := ownSBox (2) (x.boxes)
 obtain ⟨ma, hma⟩ : ∃ m, 2 + 1 + V.cnt (.sl 0 7 0 ((x.boxes).map cBox)) = m + 1 := ⟨2 + V.cnt (.sl 0 7 0 ((x.boxes).map cBox)), by omega⟩
 have r0a : ∀ z ∈ V.labels (.sl (L0a + 1) 7 0 e0a), 2 + 1 ≤ z ∧ z < ma + 1 := fun z hz => by have := rga z (by first | exact hz | (simp only [V.labelsL, V.labels, List.mem_append] at hz ⊢; simp only [hz, true_or, or_true])); omega
 refine SOps.S' rfl (OpS.pureM rfl (by simp only [kE, kT, kL, kC] <;> rfl) (by simp only [kE, kT, kL, kC, V.eraseL, V.erase, V.travL, V.trav, zz, zf, zy] <;> rfl) cl246 (by simp [V.dat, V.datL, V.datLL, zz, zf, zy]) (p_impl_copyBoxes x.boxes h.1.1 h.1.2)) hma (by simp only [kP, hXa] <;> rfl) ?_
 iterate 2 (refine SV ?_)
 obtain ⟨L0b, e0b, hXb, q0b, E0b, M0b, N0b, ndb, rgb⟩ := ownSInt (ma) (x.gone)
 obtain ⟨mb, hmb⟩ : ∃ m, ma + 1 + V.cnt (.sl 0 1 0 ((x.gone).map cZ)) = m + 1 := ⟨ma + V.cnt (.sl 0 1 0 ((x.gone).map cZ)), by omega⟩
 have r0b : ∀ z ∈ V.labels (.sl (L0b + 1) 1 0 e0b), ma + 1 ≤ z ∧ z < mb + 1 := fun z hz => by have := rgb z (by first | exact hz | (simp only [V.labelsL, V.labels, List.mem_append] at hz ⊢; simp only [hz, true_or, or_true])); omega
 refine SOps.S' rfl (OpS.pureM rfl (by simp only [kE, kT, kL, kC] <;> rfl) (by simp only [kE, kT, kL, kC, E0a, M0a, N0a, V.eraseL, V.erase, V.travL, V.trav, zz, zf, zy] <;> rfl) cl225 (by simp [V.dat, V.datL, V.datLL, zz, zf, zy]) (p_impl_copyInts x.gone h.2)) hmb (by simp only [kP, hXb] <;> rfl) ?_
 refine SOps.ev tab_ok rfl (by simp [ev1, fillV, kE, kT, kL] <;> first | rfl | exact ⟨rfl, rfl⟩) (by simp only [kP] <;> rfl) ?_
 refine SOps.nil ?_
 refine TOps.storeN tab_ok rfl rfl (by simp only [kE, kT, kL, kC] <;> rfl) ⟨_, _, by simp only [kE]; rfl⟩ (by first | (simp [V.labelsL, V.labelsLL, V.labels, zz, zf, zy]; done) | (intro h; simp only [V.labelsL, V.labels, List.mem_append, List.append_nil, List.nil_append, List.not_mem_nil, or_false, false_or] at h; rcases h with h | h <;> first | (have := r0a _ h; omega) | (have := r0b _ h; omega))) (fun W hW hF => by obtain ⟨z0a, zz0a⟩ := farA hW r0a (fun y h1 h2 h => by omega); obtain ⟨z0b, zz0b⟩ := farA hW r0b (fun y h1 h2 h => by omega); have f0 := far0 hW (fun h => by omega); have p0 := fun i o e => hW.ptr (1) i o e (by omega); simp only [List.map_cons, List.map_nil, hW.int, hW.str, hW.bool, hW.any, hW.tup0, hW.agg, hW.nilV, hF.ptr, z0a, zz0a, z0b, zz0b, f0, p0, kP] <;> rfl) ?_
 refine TOps.nil ?_
 refine Ok.ret ?_
 with_reducible repeat (first | refine thenQ_ret ?_ | refine blockQ_ret ?_)
 refine RT ?_
 exact ⟨(by simp only [packV, V.erase, V.trav, V.travL, V.travLL, zz, zf, zy, E0a, E0b] <;> rfl), (by intro L hL; simp only [packV, V.labels, V.labelsL, List.append_nil, List.nil_append] at hL; (try rw [List.mem_append] at hL); (try rw [List.mem_append] at hL); rcases hL with hL | hL <;>  first | (have := r0a L hL; omega) | (have := r0b L hL; omega)), (by have n1 := nda; have n2 := ndb; simp only [V.labels, V.labelsL, List.append_nil, List.nil_append] at n1 n2; simp only [packV, V.labels, V.labelsL, List.append_nil, List.nil_append]; rw [List.nodup_append]; exact ⟨n1, n2, fun y hy z hz h => by (have q2 := r0b z hz; first | (have q1 := r0a y hy; omega))⟩)⟩
theorem p_impl_copyKept (x : Kept) (h : smKept x) : Pure Tryz.prog 188 [.agg (cKept x)] (.agg (cKept x)) := by
 refine Pure.of (by simp [V.dat, V.datL, V.datLL, zz, zf, zy]) (OkCall.enter' tab_ok Tryz.func188 rfl (t := [.agg (cKept x), .any, .any, .any, .any, .any, .any, .any]) rfl ?_)
 refine OQ ?_
 iterate 2 (refine EV ?_)
 refine ON ?_
 refine OQ ?_
 iterate 2 (refine EV ?_)
 obtain ⟨L2a, e2a, L3a, e3a, hXa, q2a, E2a, M2a, N2a, q3a, E3a, M3a, N3a, nda, rga⟩ := ownStore (2) (x.store)
 obtain ⟨ma, hma⟩ : ∃ m, 2 + 1 + V.cnt (.agg (cStore (x.store))) = m + 1 := ⟨2 + V.cnt (.agg (cStore (x.store))), by omega⟩
 have r2a : ∀ z ∈ V.labels (.sl (L2a + 1) 7 0 e2a), 2 + 1 ≤ z ∧ z < ma + 1 := fun z hz => by have := rga z (by first | exact hz | (simp only [V.labelsL, V.labels, List.mem_append] at hz ⊢; simp only [hz, true_or, or_true])); omega
 have r3a : ∀ z ∈ V.labels (.sl (L3a + 1) 1 0 e3a), 2 + 1 ≤ z ∧ z < ma + 1 := fun z hz => by have := rga z (by first | exact hz | (simp only [V.labelsL, V.labels, List.mem_append] at hz ⊢; simp only [hz, true_or, or_true])); omega
 refine OkOps.S' rfl (OpS.pure' rfl (by simp only [kE, kT, kL, kC] <;> rfl) (by simp only [kE, kT, kL, kC, V.eraseL, V.erase, V.travL, V.trav, zz, zf, zy] <;> rfl) cl224 (by simp [V.dat, V.datL, V.datLL, zz, zf, zy]) (p_impl_copyStore x.store h.1)) hma (by simp only [kP, hXa] <;> rfl) ?_
 refine EV ?_
 refine OkOps.storeN tab_ok rfl rfl (by simp only [kE, kT, kL, kC] <;> rfl) ⟨_, _, by simp only [kE]; rfl⟩ (by first | (simp [V.labelsL, V.labelsLL, V.labels, zz, zf, zy]; done) | (intro h; simp only [V.labelsL, V.labels, List.mem_append, List.append_nil, List.nil_append, List.not_mem_nil, or_false, false_or] at h; rcases h with h | h <;> first | (have := r2a _ h; omega) | (have := r3a _ h; omega))) (fun W hW hF => by obtain ⟨z2a, zz2a⟩ := farA hW r2a (fun y h1 h2 h => by omega); obtain ⟨z3a, zz3a⟩ := farA hW r3a (fun y h1 h2 h => by omega); have f0 := far0 hW (fun h => by omega); have p1 := fun i o e => hW.ptr (2) i o e (by omega); simp only [List.map_cons, List.map_nil, hW.int, hW.str, hW.bool, hW.any, hW.tup0, hW.agg, hW.nilV, hF.ptr, z2a, zz2a, z3a, zz3a, f0, p1, kP] <;> rfl) ?_
 refine ON ?_
 refine Ok.seq ?_
 refine Ok.drop [4, 5, 6] (by simp only [kover] <;> rfl) ?_
 refine Ok.region ?_
 refine EV ?_
 refine OkOps.storeN tab_ok rfl rfl (by simp only [kE, kT, kL, kC] <;> rfl) ⟨_, _, by simp only [kE]; rfl⟩ (by first | (simp [V.labelsL, V.labelsLL, V.labels, zz, zf, zy]; done) | (intro h; simp only [V.labelsL, V.labels, List.mem_append, List.append_nil, List.nil_append, List.not_mem_nil, or_false, false_or] at h; rcases h with h | h <;> first | (have := r2a _ h; omega) | (have := r3a _ h; omega))) (fun W hW hF => by obtain ⟨z2a, zz2a⟩ := farA hW r2a (fun y h1 h2 h => by omega); obtain ⟨z3a, zz3a⟩ := farA hW r3a (fun y h1 h2 h => by omega); have f0 := far0 hW (fun h => by omega); have p0 := fun i o e => hW.ptr (1) i o e (by omega); simp only [List.map_cons, List.map_nil, hW.int, hW.str, hW.bool, hW.any, hW.tup0, hW.agg, hW.nilV, hF.ptr, z2a, zz2a, z3a, zz3a, f0, p0, kP] <;> rfl) ?_
 refine ON ?_
 refine Ok.ret ?_
 with_reducible repeat (first | refine thenQ_ret ?_ | refine blockQ_ret ?_)
 refine RT ?_
 exact ⟨(by simp only [packV, V.erase, V.trav, V.travL, V.travLL, zz, zf, zy, E2a, E3a] <;> rfl), (by intro L hL; simp only [packV, V.labels, V.labelsL, List.append_nil, List.nil_append] at hL; (try rw [List.mem_append] at hL); (try rw [List.mem_append] at hL); rcases hL with hL | hL <;>  first | (have := r2a L hL; omega) | (have := r3a L hL; omega)), (by simp only [packV, V.labels, V.labelsL, List.append_nil, List.nil_append] at nda ⊢; exact nda)⟩
theorem p_spec_l12Copy (x : Kept) (h : smKept x) : Pure Tryz.prog 182 [.agg (cKept x)] (.agg (cKept x)) := by
 refine Pure.of (by simp [V.dat, V.datL, V.datLL, zz, zf, zy]) (OkCall.enter' tab_ok Tryz.func182 rfl (t := [.agg (cKept x), .any, .any, .any, .any, .any, .any, .any, .any, .any, .any]) rfl ?_)
 refine OQ ?_
 iterate 2 (refine EV ?_)
 refine ON ?_
 refine Ok.seq ?_
 refine Ok.drawn 8 11 [] (by kernel_rfl) (by kernel_rfl) rfl ?_
 iterate 2 (refine SV ?_)
 obtain ⟨L2a, e2a, L3a, e3a, hXa, q2a, E2a, M2a, N2a, q3a, E3a, M3a, N3a, nda, rga⟩ := ownStore (2) (x.store)
 obtain ⟨ma, hma⟩ : ∃ m, 2 + 1 + V.cnt (.agg (cStore (x.store))) = m + 1 := ⟨2 + V.cnt (.agg (cStore (x.store))), by omega⟩
 have r2a : ∀ z ∈ V.labels (.sl (L2a + 1) 7 0 e2a), 2 + 1 ≤ z ∧ z < ma + 1 := fun z hz => by have := rga z (by first | exact hz | (simp only [V.labelsL, V.labels, List.mem_append] at hz ⊢; simp only [hz, true_or, or_true])); omega
 have r3a : ∀ z ∈ V.labels (.sl (L3a + 1) 1 0 e3a), 2 + 1 ≤ z ∧ z < ma + 1 := fun z hz => by have := rga z (by first | exact hz | (simp only [V.labelsL, V.labels, List.mem_append] at hz ⊢; simp only [hz, true_or, or_true])); omega
 refine SOps.S' rfl (OpS.pureM rfl (by simp only [kE, kT, kL, kC] <;> rfl) (by simp only [kE, kT, kL, kC, V.eraseL, V.erase, V.travL, V.trav, zz, zf, zy] <;> rfl) cl162 (by simp [V.dat, V.datL, V.datLL, zz, zf, zy]) (p_spec_l07Copy x.store h.1)) hma (by simp only [kP, hXa] <;> rfl) ?_
 iterate 4 (refine SV ?_)
 refine SOps.ev tab_ok rfl (by simp [ev1, fillV, kE, kT, kL] <;> first | rfl | exact ⟨rfl, rfl⟩) (by simp only [kP] <;> rfl) ?_
 refine SOps.nil ?_
 refine TOps.storeN tab_ok rfl rfl (by simp only [kE, kT, kL, kC] <;> rfl) ⟨_, _, by simp only [kE]; rfl⟩ (by first | (simp [V.labelsL, V.labelsLL, V.labels, zz, zf, zy]; done) | (intro h; simp only [V.labelsL, V.labels, List.mem_append, List.append_nil, List.nil_append, List.not_mem_nil, or_false, false_or] at h; rcases h with h | h <;> first | (have := r2a _ h; omega) | (have := r3a _ h; omega))) (fun W hW hF => by obtain ⟨z2a, zz2a⟩ := farA hW r2a (fun y h1 h2 h => by omega); obtain ⟨z3a, zz3a⟩ := farA hW r3a (fun y h1 h2 h => by omega); have f0 := far0 hW (fun h => by omega); have p0 := fun i o e => hW.ptr (1) i o e (by omega); simp only [List.map_cons, List.map_nil, hW.int, hW.str, hW.bool, hW.any, hW.tup0, hW.agg, hW.nilV, hF.ptr, z2a, zz2a, z3a, zz3a, f0, p0, kP] <;> rfl) ?_
 refine TOps.nil ?_
 refine Ok.ret ?_
 with_reducible repeat (first | refine thenQ_ret ?_ | refine blockQ_ret ?_)
 refine RT ?_
 exact ⟨(by simp only [packV, V.erase, V.trav, V.travL, V.travLL, zz, zf, zy, E2a, E3a] <;> rfl), (by intro L hL; simp only [packV, V.labels, V.labelsL, List.append_nil, List.nil_append] at hL; (try rw [List.mem_append] at hL); (try rw [List.mem_append] at hL); rcases hL with hL | hL <;>  first | (have := r2a L hL; omega) | (have := r3a L hL; omega)), (by simp only [packV, V.labels, V.labelsL, List.append_nil, List.nil_append] at nda ⊢; exact nda)⟩
theorem p_impl_copySession (x : Session) (h : smSession x) : Pure Tryz.prog 189 [.agg (cSession x)] (.agg (cSession x)) := by
 refine Pure.of (by simp [V.dat, V.datL, V.datLL, zz, zf, zy]) (OkCall.enter' tab_ok Tryz.func189 rfl (t := [.agg (cSession x), .any, .any, .any, .any, .any, .any, .any]) rfl ?_)
 refine OQ ?_
 iterate 2 (refine EV ?_)
 refine ON ?_
 refine OQ ?_
 iterate 2 (refine EV ?_)
 obtain ⟨L0a, e0a, hXa, q0a, E0a, M0a, N0a, nda, rga⟩ := ownSInt (2) (x.view)
 obtain ⟨ma, hma⟩ : ∃ m, 2 + 1 + V.cnt (.sl 0 1 0 ((x.view).map cZ)) = m + 1 := ⟨2 + V.cnt (.sl 0 1 0 ((x.view).map cZ)), by omega⟩
 have r0a : ∀ z ∈ V.labels (.sl (L0a + 1) 1 0 e0a), 2 + 1 ≤ z ∧ z < ma + 1 := fun z hz => by have := rga z (by first | exact hz | (simp only [V.labelsL, V.labels, List.mem_append] at hz ⊢; simp only [hz, true_or, or_true])); omega
 refine OkOps.S' rfl (OpS.pure' rfl (by simp only [kE, kT, kL, kC] <;> rfl) (by simp only [kE, kT, kL, kC, V.eraseL, V.erase, V.travL, V.trav, zz, zf, zy] <;> rfl) cl225 (by simp [V.dat, V.datL, V.datLL, zz, zf, zy]) (p_impl_copyInts x.view h.2.2)) hma (by simp only [kP, hXa] <;> rfl) ?_
 refine EV ?_
 refine OkOps.storeN tab_ok rfl rfl (by simp only [kE, kT, kL, kC] <;> rfl) ⟨_, _, by simp only [kE]; rfl⟩ (by first | (simp [V.labelsL, V.labelsLL, V.labels, zz, zf, zy]; done) | (intro h; simp only [V.labelsL, V.labels, List.mem_append, List.append_nil, List.nil_append, List.not_mem_nil, or_false, false_or] at h; first | (have := r0a _ h; omega))) (fun W hW hF => by obtain ⟨z0a, zz0a⟩ := farA hW r0a (fun y h1 h2 h => by omega); have f0 := far0 hW (fun h => by omega); have p1 := fun i o e => hW.ptr (2) i o e (by omega); simp only [List.map_cons, List.map_nil, hW.int, hW.str, hW.bool, hW.any, hW.tup0, hW.agg, hW.nilV, hF.ptr, z0a, zz0a, f0, p1, kP] <;> rfl) ?_
 refine ON ?_
 refine Ok.seq ?_
 refine Ok.drop [4, 5, 6] (by simp only [kover] <;> rfl) ?_
 refine Ok.region ?_
 refine EV ?_
 refine OkOps.storeN tab_ok rfl rfl (by simp only [kE, kT, kL, kC] <;> rfl) ⟨_, _, by simp only [kE]; rfl⟩ (by first | (simp [V.labelsL, V.labelsLL, V.labels, zz, zf, zy]; done) | (intro h; simp only [V.labelsL, V.labels, List.mem_append, List.append_nil, List.nil_append, List.not_mem_nil, or_false, false_or] at h; first | (have := r0a _ h; omega))) (fun W hW hF => by obtain ⟨z0a, zz0a⟩ := farA hW r0a (fun y h1 h2 h => by omega); have f0 := far0 hW (fun h => by omega); have p0 := fun i o e => hW.ptr (1) i o e (by omega); simp only [List.map_cons, List.map_nil, hW.int, hW.str, hW.bool, hW.any, hW.tup0, hW.agg, hW.nilV, hF.ptr, z0a, zz0a, f0, p0, kP] <;> rfl) ?_
 refine ON ?_
 refine Ok.ret ?_
 with_reducible repeat (first | refine thenQ_ret ?_ | refine blockQ_ret ?_)
 refine RT ?_
 exact ⟨(by simp only [packV, V.erase, V.trav, V.travL, V.travLL, zz, zf, zy, E0a] <;> rfl), (by intro L hL; simp only [packV, V.labels, V.labelsL, List.append_nil, List.nil_append] at hL;  first | (have := r0a L hL; omega)), (by simp only [packV, V.labels, V.labelsL, List.append_nil, List.nil_append] at nda ⊢; exact nda)⟩
theorem p_spec_l15Copy (x : Session) (h : smSession x) : Pure Tryz.prog 183 [.agg (cSession x)] (.agg (cSession x)) := by
 refine Pure.of (by simp [V.dat, V.datL, V.datLL, zz, zf, zy]) (OkCall.enter' tab_ok Tryz.func183 rfl (t := [.agg (cSession x), .any, .any, .any, .any, .any, .any, .any, .any, .any, .any]) rfl ?_)
 refine OQ ?_
 iterate 2 (refine EV ?_)
 refine ON ?_
 refine OQ ?_
 iterate 2 (refine EV ?_)
 refine OkOps.storeE tab_ok rfl rfl (by simp only [kE, kT, kL, kC] <;> rfl) ⟨_, _, by simp only [kE]; rfl⟩ (by first | (simp [V.labelsL, V.labelsLL, V.labels, zz, zf, zy]; done) | (simp [-List.map_map, -List.map_set, -List.map_drop, -List.map_take, -List.map_tail, -List.drop_one, V.labelsL, V.labelsLL, V.labels, zz, zf, zy]; done)) (by simp only [eq_self, V.updL, V.travL, V.travLL, V.trav, updS, updP, and_self, true_and, and_true, false_and, and_false, Nat.reduceEqDiff, Nat.reduceSub, Nat.le_refl, Nat.zero_le, ↓reduceIte, if_true, if_false, kP, zz, zf, zy] <;> rfl) (rfl) ?_
 refine ON ?_
 refine OQ ?_
 iterate 3 (refine EV ?_)
 refine OkOps.S rfl (ok_append_nil tab_ok (by simp only [kT] <;> rfl) (by simp only [kT] <;> rfl) (by decide) rfl rfl (by simp only [kE, kT, kL, kC] <;> rfl) (.inl ⟨_, _, by simp only [kE, kT, kL, kC] <;> rfl⟩) (by simp only [List.length_map]; have := h.2.2; omega) (by simp only [List.length_map]; have := h.2.2; omega)) (by simp only [kP, kL] <;> rfl) ?_
 refine EV ?_
 refine OkOps.storeE tab_ok rfl rfl (by simp only [kE, kT, kL, kC] <;> rfl) ⟨_, _, by simp only [kE]; rfl⟩ (by first | (simp [V.labelsL, V.labelsLL, V.labels, zz, zf, zy]; done) | (simp [-List.map_map, -List.map_set, -List.map_drop, -List.map_take, -List.map_tail, -List.drop_one, V.labelsL, V.labelsLL, V.labels, zz, zf, zy]; done)) (by simp only [eq_self, V.updL, V.travL, V.travLL, V.trav, updS, updP, and_self, true_and, and_true, false_and, and_false, Nat.reduceEqDiff, Nat.reduceSub, Nat.le_refl, Nat.zero_le, ↓reduceIte, if_true, if_false, kP, zz, zf, zy] <;> rfl) (rfl) ?_
 refine ON ?_
 refine OQ ?_
 refine EV ?_
 refine OkOps.storeE tab_ok rfl rfl (by simp only [kE, kT, kL, kC] <;> rfl) ⟨_, _, by simp only [kE]; rfl⟩ (by first | (simp [V.labelsL, V.labelsLL, V.labels, zz, zf, zy]; done) | (simp [-List.map_map, -List.map_set, -List.map_drop, -List.map_take, -List.map_tail, -List.drop_one, V.labelsL, V.labelsLL, V.labels, zz, zf, zy]; done)) (by simp only [eq_self, V.updL, V.travL, V.travLL, V.trav, updS, updP, and_self, true_and, and_true, false_and, and_false, Nat.reduceEqDiff, Nat.reduceSub, Nat.le_refl, Nat.zero_le, ↓reduceIte, if_true, if_false, kP, zz, zf, zy] <;> rfl) (rfl) ?_
 refine ON ?_
 refine Ok.ret ?_
 with_reducible repeat (first | refine thenQ_ret ?_ | refine blockQ_ret ?_)
 refine RT ?_
 exact ⟨by simp [V.erase, V.trav, V.travL, V.travLL, packV, zz, zf], by simp [V.labels, V.labelsL, V.labelsLL, packV, zz, zf], by simp [V.labels, V.labelsL, V.labelsLL, packV, zz, zf]⟩
theorem p_impl_copyServer (x : Server) (h : smServer x) : Pure Tryz.prog 137 [.agg (cServer x)] (.agg (cServer x)) := by
 refine Pure.of (by simp [V.dat, V.datL, V.datLL, zz, zf, zy]) (OkCall.enter' tab_ok Tryz.func137 rfl (t := [.agg (cServer x), .any, .any, .any, .any, .any, .any, .any, .any, .any, .any, .any]) rfl ?_)
 refine OQ ?_
 iterate 2 (refine EV ?_)
 refine ON ?_
 refine Ok.seq ?_
 refine Ok.drawn 9 12 [] (by kernel_rfl) (by kernel_rfl) rfl ?_
 iterate 2 (refine SV ?_)
 obtain ⟨L2a, e2a, L3a, e3a, hXa, q2a, E2a, M2a, N2a, q3a, E3a, M3a, N3a, nda, rga⟩ := ownKept (2) (x.kept)
 obtain ⟨ma, hma⟩ : ∃ m, 2 + 1 + V.cnt (.agg (cKept (x.kept))) = m + 1 := ⟨2 + V.cnt (.agg (cKept (x.kept))), by omega⟩
 have r2a : ∀ z ∈ V.labels (.sl (L2a + 1) 7 0 e2a), 2 + 1 ≤ z ∧ z < ma + 1 := fun z hz => by have := rga z (by first | exact hz | (simp only [V.labelsL, V.labels, List.mem_append] at hz ⊢; simp only [hz, true_or, or_true])); omega
 have r3a : ∀ z ∈ V.labels (.sl (L3a + 1) 1 0 e3a), 2 + 1 ≤ z ∧ z < ma + 1 := fun z hz => by have := rga z (by first | exact hz | (simp only [V.labelsL, V.labels, List.mem_append] at hz ⊢; simp only [hz, true_or, or_true])); omega
 refine SOps.S' rfl (OpS.pureM rfl (by simp only [kE, kT, kL, kC] <;> rfl) (by simp only [kE, kT, kL, kC, V.eraseL, V.erase, V.travL, V.trav, zz, zf, zy] <;> rfl) cl188 (by simp [V.dat, V.datL, V.datLL, zz, zf, zy]) (p_impl_copyKept x.kept h.1)) hma (by simp only [kP, hXa] <;> rfl) ?_
 iterate 2 (refine SV ?_)
 obtain ⟨L5b, e5b, hXb, q5b, E5b, M5b, N5b, ndb, rgb⟩ := ownSession (ma) (x.session)
 obtain ⟨mb, hmb⟩ : ∃ m, ma + 1 + V.cnt (.agg (cSession (x.session))) = m + 1 := ⟨ma + V.cnt (.agg (cSession (x.session))), by omega⟩
 have r5b : ∀ z ∈ V.labels (.sl (L5b + 1) 1 0 e5b), ma + 1 ≤ z ∧ z < mb + 1 := fun z hz => by have := rgb z (by first | exact hz | (simp only [V.labelsL, V.labels, List.mem_append] at hz ⊢; simp only [hz, true_or, or_true])); omega
 refine SOps.S' rfl (OpS.pureM rfl (by simp only [kE, kT, kL, kC] <;> rfl) (by simp only [kE, kT, kL, kC, E2a, M2a, N2a, E3a, M3a, N3a, V.eraseL, V.erase, V.travL, V.trav, zz, zf, zy] <;> rfl) cl189 (by simp [V.dat, V.datL, V.datLL, zz, zf, zy]) (p_impl_copySession x.session h.2)) hmb (by simp only [kP, hXb] <;> rfl) ?_
 iterate 2 (refine SV ?_)
 refine SOps.ev tab_ok rfl (by simp [ev1, fillV, kE, kT, kL] <;> first | rfl | exact ⟨rfl, rfl⟩) (by simp only [kP] <;> rfl) ?_
 refine SOps.nil ?_
 refine TOps.storeN tab_ok rfl rfl (by simp only [kE, kT, kL, kC] <;> rfl) ⟨_, _, by simp only [kE]; rfl⟩ (by first | (simp [V.labelsL, V.labelsLL, V.labels, zz, zf, zy]; done) | (intro h; simp only [V.labelsL, V.labels, List.mem_append, List.append_nil, List.nil_append, List.not_mem_nil, or_false, false_or] at h; rcases h with h | h | h <;> first | (have := r2a _ h; omega) | (have := r3a _ h; omega) | (have := r5b _ h; omega))) (fun W hW hF => by obtain ⟨z2a, zz2a⟩ := farA hW r2a (fun y h1 h2 h => by omega); obtain ⟨z3a, zz3a⟩ := farA hW r3a (fun y h1 h2 h => by omega); obtain ⟨z5b, zz5b⟩ := farA hW r5b (fun y h1 h2 h => by omega); have f0 := far0 hW (fun h => by omega); have p0 := fun i o e => hW.ptr (1) i o e (by omega); simp only [List.map_cons, List.map_nil, hW.int, hW.str, hW.bool, hW.any, hW.tup0, hW.agg, hW.nilV, hF.ptr, z2a, zz2a, z3a, zz3a, z5b, zz5b, f0, p0, kP] <;> rfl) ?_
 refine TOps.nil ?_
 refine Ok.ret ?_
 with_reducible repeat (first | refine thenQ_ret ?_ | refine blockQ_ret ?_)
 refine RT ?_
 exact ⟨(by simp only [packV, V.erase, V.trav, V.travL, V.travLL, zz, zf, zy, E2a, E3a, E5b] <;> rfl), (by intro L hL; simp only [packV, V.labels, V.labelsL, List.append_nil, List.nil_append] at hL; (try rw [List.mem_append] at hL); (try rw [List.mem_append] at hL); rcases hL with hL | hL | hL <;>  first | (have := r2a L hL; omega) | (have := r3a L hL; omega) | (have := r5b L hL; omega)), (by have n1 := nda; have n2 := ndb; simp only [V.labels, V.labelsL, List.append_nil, List.nil_append] at n1 n2; simp only [packV, V.labels, V.labelsL, List.append_nil, List.nil_append]; rw [← List.append_assoc]; rw [List.nodup_append]; exact ⟨n1, n2, fun y hy z hz h => by rcases List.mem_append.1 hy with hy | hy <;> (have q2 := r5b z hz; first | (have q1 := r2a y hy; omega) | (have q1 := r3a y hy; omega))⟩)⟩
theorem p_spec_l16Copy (x : Server) (h : smServer x) : Pure Tryz.prog 132 [.agg (cServer x)] (.agg (cServer x)) := by
 refine Pure.of (by simp [V.dat, V.datL, V.datLL, zz, zf, zy]) (OkCall.enter' tab_ok Tryz.func132 rfl (t := [.agg (cServer x), .any, .any, .any, .any, .any, .any, .any, .any, .any, .any, .any]) rfl ?_)
 refine OQ ?_
 iterate 2 (refine EV ?_)
 refine ON ?_
 refine Ok.seq ?_
 refine Ok.drawn 9 12 [] (by kernel_rfl) (by kernel_rfl) rfl ?_
 iterate 2 (refine SV ?_)
 obtain ⟨L2a, e2a, L3a, e3a, hXa, q2a, E2a, M2a, N2a, q3a, E3a, M3a, N3a, nda, rga⟩ := ownKept (2) (x.kept)
 obtain ⟨ma, hma⟩ : ∃ m, 2 + 1 + V.cnt (.agg (cKept (x.kept))) = m + 1 := ⟨2 + V.cnt (.agg (cKept (x.kept))), by omega⟩
 have r2a : ∀ z ∈ V.labels (.sl (L2a + 1) 7 0 e2a), 2 + 1 ≤ z ∧ z < ma + 1 := fun z hz => by have := rga z (by first | exact hz | (simp only [V.labelsL, V.labels, List.mem_append] at hz ⊢; simp only [hz, true_or, or_true])); omega
 have r3a : ∀ z ∈ V.labels (.sl (L3a + 1) 1 0 e3a), 2 + 1 ≤ z ∧ z < ma + 1 := fun z hz => by have := rga z (by first | exact hz | (simp only [V.labelsL, V.labels, List.mem_append] at hz ⊢; simp only [hz, true_or, or_true])); omega
 refine SOps.S' rfl (OpS.pureM rfl (by simp only [kE, kT, kL, kC] <;> rfl) (by simp only [kE, kT, kL, kC, V.eraseL, V.erase, V.travL, V.trav, zz, zf, zy] <;> rfl) cl182 (by simp [V.dat, V.datL, V.datLL, zz, zf, zy]) (p_spec_l12Copy x.kept h.1)) hma (by simp only [kP, hXa] <;> rfl) ?_
 iterate 2 (refine SV ?_)
 obtain ⟨L5b, e5b, hXb, q5b, E5b, M5b, N5b, ndb, rgb⟩ := ownSession (ma) (x.session)
 obtain ⟨mb, hmb⟩ : ∃ m, ma + 1 + V.cnt (.agg (cSession (x.session))) = m + 1 := ⟨ma + V.cnt (.agg (cSession (x.session))), by omega⟩
 have r5b : ∀ z ∈ V.labels (.sl (L5b + 1) 1 0 e5b), ma + 1 ≤ z ∧ z < mb + 1 := fun z hz => by have := rgb z (by first | exact hz | (simp only [V.labelsL, V.labels, List.mem_append] at hz ⊢; simp only [hz, true_or, or_true])); omega
 refine SOps.S' rfl (OpS.pureM rfl (by simp only [kE, kT, kL, kC] <;> rfl) (by simp only [kE, kT, kL, kC, E2a, M2a, N2a, E3a, M3a, N3a, V.eraseL, V.erase, V.travL, V.trav, zz, zf, zy] <;> rfl) cl183 (by simp [V.dat, V.datL, V.datLL, zz, zf, zy]) (p_spec_l15Copy x.session h.2)) hmb (by simp only [kP, hXb] <;> rfl) ?_
 iterate 2 (refine SV ?_)
 refine SOps.ev tab_ok rfl (by simp [ev1, fillV, kE, kT, kL] <;> first | rfl | exact ⟨rfl, rfl⟩) (by simp only [kP] <;> rfl) ?_
 refine SOps.nil ?_
 refine TOps.storeN tab_ok rfl rfl (by simp only [kE, kT, kL, kC] <;> rfl) ⟨_, _, by simp only [kE]; rfl⟩ (by first | (simp [V.labelsL, V.labelsLL, V.labels, zz, zf, zy]; done) | (intro h; simp only [V.labelsL, V.labels, List.mem_append, List.append_nil, List.nil_append, List.not_mem_nil, or_false, false_or] at h; rcases h with h | h | h <;> first | (have := r2a _ h; omega) | (have := r3a _ h; omega) | (have := r5b _ h; omega))) (fun W hW hF => by obtain ⟨z2a, zz2a⟩ := farA hW r2a (fun y h1 h2 h => by omega); obtain ⟨z3a, zz3a⟩ := farA hW r3a (fun y h1 h2 h => by omega); obtain ⟨z5b, zz5b⟩ := farA hW r5b (fun y h1 h2 h => by omega); have f0 := far0 hW (fun h => by omega); have p0 := fun i o e => hW.ptr (1) i o e (by omega); simp only [List.map_cons, List.map_nil, hW.int, hW.str, hW.bool, hW.any, hW.tup0, hW.agg, hW.nilV, hF.ptr, z2a, zz2a, z3a, zz3a, z5b, zz5b, f0, p0, kP] <;> rfl) ?_
 refine TOps.nil ?_
 refine Ok.ret ?_
 with_reducible repeat (first | refine thenQ_ret ?_ | refine blockQ_ret ?_)
 refine RT ?_
 exact ⟨(by simp only [packV, V.erase, V.trav, V.travL, V.travLL, zz, zf, zy, E2a, E3a, E5b] <;> rfl), (by intro L hL; simp only [packV, V.labels, V.labelsL, List.append_nil, List.nil_append] at hL; (try rw [List.mem_append] at hL); (try rw [List.mem_append] at hL); rcases hL with hL | hL | hL <;>  first | (have := r2a L hL; omega) | (have := r3a L hL; omega) | (have := r5b L hL; omega)), (by have n1 := nda; have n2 := ndb; simp only [V.labels, V.labelsL, List.append_nil, List.nil_append] at n1 n2; simp only [packV, V.labels, V.labelsL, List.append_nil, List.nil_append]; rw [← List.append_assoc]; rw [List.nodup_append]; exact ⟨n1, n2, fun y hy z hz h => by rcases List.mem_append.1 hy with hy | hy <;> (have q2 := r5b z hz; first | (have q1 := r2a y hy; omega) | (have q1 := r3a y hy; omega))⟩)⟩
end Go.Proofs.YtjhfabimacljhaaGreat.K

/- A pure call's record looked at as the call's own only in its outer arrays: what is inside them is nobody's. -/
namespace Go.Proofs.YtjhfabimacljhaaGreat.K
open Go Go.RowKit
set_option linter.unusedVariables false
set_option linter.unusedSimpArgs false
mutual
def V.tops : V → Nat
  | .sl .. => 1
  | .agg cs => V.topsL cs
  | .tup vs => V.topsL vs
  | .ptr .. => 0
  | .fn .. => 0
  | .any => 0
  | .bool _ => 0
  | .int _ _ => 0
  | .str _ => 0
  | .nil _ => 0
  | .nilP => 0
def V.topsL : List V → Nat
  | [] => 0
  | x :: xs => V.tops x + V.topsL xs
end
mutual
def V.sem (r : Nat) : V → V
  | .sl _ sz off es => .sl r sz off es
  | .agg cs => .agg (V.semL r cs)
  | .tup vs => .tup (V.semL r vs)
  | .ptr L i o e => .ptr L i o e
  | .fn f cs => .fn f cs
  | .any => .any
  | .bool b => .bool b
  | .int k n => .int k n
  | .str s => .str s
  | .nil sz => .nil sz
  | .nilP => .nilP
def V.semL (r : Nat) : List V → List V
  | [] => []
  | x :: xs => V.sem r x :: V.semL (r + V.tops x) xs
end
mutual
def V.tg (r m : Nat) : V → V
  | .sl _ sz _ es => .sl r sz 0 (V.tagLL m es)
  | .agg cs => .agg (V.tgL r m cs)
  | .tup vs => .tup (V.tgL r m vs)
  | .ptr L i o e => .ptr L i o e
  | .fn f cs => .fn f cs
  | .any => .any
  | .bool b => .bool b
  | .int k n => .int k n
  | .str s => .str s
  | .nil sz => .nil sz
  | .nilP => .nilP
def V.tgL (r m : Nat) : List V → List V
  | [] => []
  | x :: xs => V.tg r m x :: V.tgL (r + V.tops x) (m + V.cnt x) xs
end
mutual
theorem tg_erase : ∀ (x : V) (r m : Nat), V.dat x = true → V.erase (V.tg r m x) = V.erase x
  | .sl _ sz _ es, r, m, h => by
    simp only [V.dat, Bool.and_eq_true] at h
    show V.sl 0 sz 0 (V.eraseLL (V.tagLL m es)) = .sl 0 sz 0 (V.eraseLL es)
    rw [tagLL_erase es _ h.2]
  | .agg cs, r, m, h => by
    simp only [V.dat] at h
    show V.agg (V.eraseL (V.tgL r m cs)) = .agg (V.eraseL cs)
    rw [tgL_erase cs r m h]
  | .tup cs, r, m, h => by
    simp only [V.dat] at h
    show V.tup (V.eraseL (V.tgL r m cs)) = .tup (V.eraseL cs)
    rw [tgL_erase cs r m h]
  | .ptr .., r, m, h => rfl
  | .fn .., r, m, h => rfl
  | .any, r, m, h => rfl
  | .bool _, r, m, h => rfl
  | .int _ _, r, m, h => rfl
  | .str _, r, m, h => rfl
  | .nil _, r, m, h => rfl
  | .nilP, r, m, h => rfl
theorem tgL_erase : ∀ (l : List V) (r m : Nat), V.datL l = true → V.eraseL (V.tgL r m l) = V.eraseL l
  | [], r, m, h => rfl
  | x :: xs, r, m, h => by
    simp only [V.datL, Bool.and_eq_true] at h
    show V.erase (V.tg r m x) :: V.eraseL (V.tgL (r + V.tops x) (m + V.cnt x) xs) = V.erase x :: V.eraseL xs
    rw [tg_erase x r m h.1, tgL_erase xs _ _ h.2]
end
mutual
theorem tg_dat : ∀ (x : V) (r m : Nat), V.dat x = true → V.dat (V.tg r m x) = true
  | .sl _ sz off es, r, m, h => by
    simp only [V.dat, Bool.and_eq_true] at h
    simp only [V.tg, V.dat, Bool.and_eq_true]
    exact ⟨rfl, tagLL_dat es _ h.2⟩
  | .agg cs, r, m, h => tgL_dat cs r m h
  | .tup cs, r, m, h => tgL_dat cs r m h
  | .ptr .., r, m, h => by simp [V.dat] at h
  | .fn .., r, m, h => by simp [V.dat] at h
  | .any, r, m, h => by simp [V.dat] at h
  | .bool _, r, m, h => rfl
  | .int _ _, r, m, h => rfl
  | .str _, r, m, h => rfl
  | .nil _, r, m, h => by simp [V.dat] at h
  | .nilP, r, m, h => by simp [V.dat] at h
theorem tgL_dat : ∀ (l : List V) (r m : Nat), V.datL l = true → V.datL (V.tgL r m l) = true
  | [], r, m, h => rfl
  | x :: xs, r, m, h => by
    simp only [V.datL, Bool.and_eq_true] at h
    simp only [V.tgL, V.datL, Bool.and_eq_true]
    exact ⟨tg_dat x r m h.1, tgL_dat xs _ _ h.2⟩
end
mutual
theorem tg_labels : ∀ (x : V) (r m : Nat), V.dat x = true → r + V.tops x ≤ m → (V.labels (V.tg r m x)).Nodup ∧ ∀ L ∈ V.labels (V.tg r m x), (r ≤ L ∧ L < r + V.tops x) ∨ (m ≤ L ∧ L < m + V.cnt x)
  | .sl _ sz off es, r, m, h, hm => by
    have ht : V.tops (.sl r sz off es) = 1 := rfl
    have hl : V.labels (V.tg r m (.sl r sz off es)) = r :: List.range' m (V.cntLL es) := by show r :: V.labelsLL (V.tagLL m es) = _; rw [tagLL_labels]
    have hc : V.cnt (.sl r sz off es) = 1 + V.cntLL es := rfl
    have hm' : r + 1 ≤ m := hm
    refine ⟨?_, fun L hL => ?_⟩
    · show (V.labels (V.tg r m (.sl r sz off es))).Nodup
      rw [hl, List.nodup_cons, List.mem_range'_1]
      exact ⟨by omega, List.nodup_range'⟩
    · have hL' : L ∈ V.labels (V.tg r m (.sl r sz off es)) := hL
      rw [hl, List.mem_cons, List.mem_range'_1] at hL'
      show (r ≤ L ∧ L < r + 1) ∨ (m ≤ L ∧ L < m + (1 + V.cntLL es))
      omega
  | .agg cs, r, m, h, hm => tgL_labels cs r m h hm
  | .tup cs, r, m, h, hm => tgL_labels cs r m h hm
  | .ptr .., r, m, h, hm => by simp [V.dat] at h
  | .fn .., r, m, h, hm => by simp [V.dat] at h
  | .any, r, m, h, hm => by simp [V.dat] at h
  | .bool _, r, m, h, hm => ⟨List.nodup_nil, fun L hL => by cases hL⟩
  | .int _ _, r, m, h, hm => ⟨List.nodup_nil, fun L hL => by cases hL⟩
  | .str _, r, m, h, hm => ⟨List.nodup_nil, fun L hL => by cases hL⟩
  | .nil _, r, m, h, hm => by simp [V.dat] at h
  | .nilP, r, m, h, hm => by simp [V.dat] at h
theorem tgL_labels : ∀ (l : List V) (r m : Nat), V.datL l = true → r + V.topsL l ≤ m → (V.labelsL (V.tgL r m l)).Nodup ∧ ∀ L ∈ V.labelsL (V.tgL r m l), (r ≤ L ∧ L < r + V.topsL l) ∨ (m ≤ L ∧ L < m + V.cntL l)
  | [], r, m, h, hm => ⟨List.nodup_nil, fun L hL => by cases hL⟩
  | x :: xs, r, m, h, hm => by
    simp only [V.datL, Bool.and_eq_true] at h
    simp only [V.topsL] at hm
    obtain ⟨n1, l1⟩ := tg_labels x r m h.1 (by omega)
    obtain ⟨n2, l2⟩ := tgL_labels xs (r + V.tops x) (m + V.cnt x) h.2 (by omega)
    simp only [V.tgL, V.labelsL, V.topsL, V.cntL]
    refine ⟨?_, fun L hL => ?_⟩
    · rw [List.nodup_append]
      refine ⟨n1, n2, fun y hy z hz e => ?_⟩
      have := l1 y hy
      have := l2 z hz
      omega
    · rcases List.mem_append.1 hL with hL | hL
      · have := l1 L hL; omega
      · have := l2 L hL; omega
end
mutual
theorem tag_ren : ∀ (x : V) (m : Nat) (g : Nat → Nat), V.dat x = true → (∀ L, m ≤ L → g L = 0) → V.ren g (V.tag m x) = V.erase x
  | .sl _ sz off es, m, g, h, hg => by
    simp only [V.dat, Bool.and_eq_true] at h
    show V.sl (g m) sz 0 (V.renLL g (V.tagLL (m + 1) es)) = .sl 0 sz 0 (V.eraseLL es)
    rw [hg m (Nat.le_refl _), tagLL_ren es (m + 1) g h.2 (fun L hL => hg L (by omega))]
  | .agg cs, m, g, h, hg => by
    show V.agg (V.renL g (V.tagL m cs)) = .agg (V.eraseL cs)
    rw [tagL_ren cs m g h hg]
  | .tup cs, m, g, h, hg => by
    show V.tup (V.renL g (V.tagL m cs)) = .tup (V.eraseL cs)
    rw [tagL_ren cs m g h hg]
  | .ptr .., m, g, h, hg => by simp [V.dat] at h
  | .fn .., m, g, h, hg => by simp [V.dat] at h
  | .any, m, g, h, hg => by simp [V.dat] at h
  | .bool _, m, g, h, hg => rfl
  | .int _ _, m, g, h, hg => rfl
  | .str _, m, g, h, hg => rfl
  | .nil _, m, g, h, hg => by simp [V.dat] at h
  | .nilP, m, g, h, hg => by simp [V.dat] at h
theorem tagL_ren : ∀ (l : List V) (m : Nat) (g : Nat → Nat), V.datL l = true → (∀ L, m ≤ L → g L = 0) → V.renL g (V.tagL m l) = V.eraseL l
  | [], m, g, h, hg => rfl
  | x :: xs, m, g, h, hg => by
    simp only [V.datL, Bool.and_eq_true] at h
    show V.ren g (V.tag m x) :: V.renL g (V.tagL (m + V.cnt x) xs) = V.erase x :: V.eraseL xs
    rw [tag_ren x m g h.1 hg, tagL_ren xs _ g h.2 (fun L hL => hg L (by omega))]
theorem tagLL_ren : ∀ (l : List (List V)) (m : Nat) (g : Nat → Nat), V.datLL l = true → (∀ L, m ≤ L → g L = 0) → V.renLL g (V.tagLL m l) = V.eraseLL l
  | [], m, g, h, hg => rfl
  | x :: xs, m, g, h, hg => by
    simp only [V.datLL, Bool.and_eq_true] at h
    show V.renL g (V.tagL m x) :: V.renLL g (V.tagLL (m + V.cntL x) xs) = V.eraseL x :: V.eraseLL xs
    rw [tagL_ren x m g h.1 hg, tagLL_ren xs _ g h.2 (fun L hL => hg L (by omega))]
end
mutual
theorem tg_ren : ∀ (x : V) (r m : Nat) (g : Nat → Nat), V.dat x = true → V.erase x = x → (∀ L, r ≤ L → L < r + V.tops x → g L = L) → (∀ L, m ≤ L → g L = 0) → V.ren g (V.tg r m x) = V.sem r x
  | .sl L0 sz off es, r, m, g, h, he, h1, h2 => by
    simp only [V.dat, Bool.and_eq_true] at h
    have he' : V.sl 0 sz 0 (V.eraseLL es) = .sl L0 sz off es := he
    simp only [V.sl.injEq, true_and] at he'
    show V.sl (g r) sz 0 (V.renLL g (V.tagLL m es)) = .sl r sz off es
    rw [h1 r (Nat.le_refl _) (by show r < r + 1; omega), tagLL_ren es m g h.2 h2, he'.2.2, ← he'.2.1]
  | .agg cs, r, m, g, h, he, h1, h2 => by
    show V.agg (V.renL g (V.tgL r m cs)) = .agg (V.semL r cs)
    rw [tgL_ren cs r m g h (V.agg.inj he) h1 h2]
  | .tup cs, r, m, g, h, he, h1, h2 => by
    show V.tup (V.renL g (V.tgL r m cs)) = .tup (V.semL r cs)
    rw [tgL_ren cs r m g h (V.tup.inj he) h1 h2]
  | .ptr .., r, m, g, h, he, h1, h2 => by simp [V.dat] at h
  | .fn .., r, m, g, h, he, h1, h2 => by simp [V.dat] at h
  | .any, r, m, g, h, he, h1, h2 => rfl
  | .bool _, r, m, g, h, he, h1, h2 => rfl
  | .int _ _, r, m, g, h, he, h1, h2 => rfl
  | .str _, r, m, g, h, he, h1, h2 => rfl
  | .nil _, r, m, g, h, he, h1, h2 => rfl
  | .nilP, r, m, g, h, he, h1, h2 => rfl
theorem tgL_ren : ∀ (l : List V) (r m : Nat) (g : Nat → Nat), V.datL l = true → V.eraseL l = l → (∀ L, r ≤ L → L < r + V.topsL l → g L = L) → (∀ L, m ≤ L → g L = 0) → V.renL g (V.tgL r m l) = V.semL r l
  | [], r, m, g, h, he, h1, h2 => rfl
  | x :: xs, r, m, g, h, he, h1, h2 => by
    simp only [V.datL, Bool.and_eq_true] at h
    have he' : V.erase x :: V.eraseL xs = x :: xs := he
    simp only [List.cons.injEq] at he'
    show V.ren g (V.tg r m x) :: V.renL g (V.tgL (r + V.tops x) (m + V.cnt x) xs) = V.sem r x :: V.semL (r + V.tops x) xs
    rw [tg_ren x r m g h.1 he'.1 (fun L ha hb => h1 L ha (by simp only [V.topsL]; omega)) h2,
      tgL_ren xs _ _ g h.2 he'.2 (fun L ha hb => h1 L (by omega) (by simp only [V.topsL]; omega)) (fun L hL => h2 L (by omega))]
end
section
variable {P : Program} {t : List V} {o : Oper}
theorem Pure.newS {f : FuncId} {args : List V} {x : V} (hd : V.dat x = true) (he : V.erase x = x) (hp : Pure P f (V.eraseL args) x) {base : Base} {σ : Sig} {w : World} {vs : List Value} {r : Nat} (hb : base.lim ≤ w.heap.size)
    (hσ : ∀ L b o s, σ L = some (b, o, s) → b < w.heap.size) (hr : 1 ≤ r) (hargs : Ms base σ w args vs) :
    Calls P f vs.toArray w fun e w' => ∃ u, e = .returned u ∧ New base σ w r (V.tops x) (V.sem r x) u w' := by
  refine (hp w vs (hargs.erase fun _ h => h)).mono ?_
  rintro e w' ⟨σ1, v, n1, rfl, hm, inv1, bel1⟩
  obtain ⟨nd, lab⟩ := tg_labels x r (r + V.tops x) hd (Nat.le_refl _)
  obtain ⟨σ2, hsub, hm2⟩ := relabel inv1.inj (V.tg r (r + V.tops x) x) (V.tag 1 x) v hm (by rw [tag_erase x 1 hd, tg_erase x _ _ hd]) (tg_dat x _ _ hd)
    (by rw [tag_labels, List.mem_range'_1]; omega) (fun h => by have := lab 0 h; omega) (by rw [tag_labels]; exact List.nodup_range') nd
  have hown : ∀ L b o s, σ2 L = some (b, o, s) → w.heap.size ≤ b ∧ b < w'.heap.size := by
    intro L b o s hL
    obtain ⟨_, L1, _, o1, s1, h1⟩ := hsub.dom L b o s hL
    exact inv1.own L1 b o1 s1 h1
  let σ' : Sig := fun L => if r ≤ L ∧ L < r + V.tops x then σ2 L else σ L
  have hin : ∀ L, r ≤ L → L < r + V.tops x → σ' L = σ2 L := fun L h1 h2 => if_pos ⟨h1, h2⟩
  refine ⟨v, rfl, σ', bel1, fun L h => if_neg h, ?_, ?_, ?_⟩
  · intro L b o s h1 h2 hL
    rw [hin L h1 h2] at hL
    exact hown L b o s hL
  · intro L L' b o s o' s' h1 h2 h3 h4 hL hL'
    rw [hin L h1 h2] at hL
    rw [hin L' h3 h4] at hL'
    exact hsub.inj L L' b o s o' s' hL hL'
  · rw [← tg_ren x r (r + V.tops x) (fun L => if r ≤ L ∧ L < r + V.tops x then L else 0) hd he (fun L h1 h2 => if_pos ⟨h1, h2⟩) (fun L h1 => if_neg (by omega))]
    refine hm2.ren _ (fun L hL sz pos room ad hat => ?_) (if_neg (by omega))
    rcases hat with ⟨rfl, _⟩ | ⟨b, o, cur, e, fr, hs, rfl, hh, rest⟩
    · have := lab 0 hL; omega
    · by_cases hc : r ≤ L ∧ L < r + V.tops x
      · rw [show (if r ≤ L ∧ L < r + V.tops x then L else 0) = L from if_pos hc]
        exact .inr ⟨b, o, cur, e, fr, (hin L hc.1 hc.2).trans hs, rfl, hh, rest⟩
      · rw [show (if r ≤ L ∧ L < r + V.tops x then L else 0) = 0 from if_neg hc]
        have hb2 := hown L b o sz hs
        refine .inl ⟨rfl, hb2.2, fun L2 b2 o2 s2 hs2 hbb => ?_, fun hbad => ?_⟩
        · have hbb' : b2 = b := hbb
          subst hbb'
          by_cases hc2 : r ≤ L2 ∧ L2 < r + V.tops x
          · have hs3 : σ2 L2 = some (b2, o2, s2) := (hin L2 hc2.1 hc2.2).symm.trans hs2
            exact hc (hsub.inj L2 L b2 _ _ _ _ hs3 hs ▸ hc2)
          · have hs3 : σ L2 = some (b2, o2, s2) := (show σ' L2 = σ L2 from if_neg hc2).symm.trans hs2
            have := hσ L2 b2 o2 s2 hs3
            omega
        · have hlt : b < base.lim := base.lt b hbad
          omega
theorem OpS.semi {fx : Operand} {args : Array Operand} {ts : Array TypeId} {f : FuncId} {caps ag : List V} {x : V} {r : Nat} (ho : o.op = .call ⟨.value fx, args, ts⟩) (hf : opnd t fx = .fn f caps) (ha : V.eraseL (args.toList.map (opnd t) ++ caps) = ag) (hcl : Callable P f) (hd : V.dat x = true)
    (he : V.erase x = x) (hp : Pure P f ag x) : OpS P o t r (V.sem r x) (V.tops x) := by
  subst ha
  intro base σ w ρ hb h0 hσ hρ hr _
  obtain ⟨fn, hfn, hbody, hname⟩ := hcl
  have hm := hρ fx
  rw [hf] at hm
  obtain ⟨cs, hcs, hfv⟩ : ∃ cs : List Value, Ms base σ w caps cs ∧ ρ fx = .func (.func f) #[] cs.toArray := by
    generalize ρ fx = fv at hm
    cases hm with
    | fn _ _ vs h1 h6 => exact ⟨vs, ⟨h1, h6⟩, rfl⟩
  have hargs : Ms base σ w (args.toList.map (opnd t)) (args.toList.map ρ) := by
    refine ⟨by simp, fun i x u hx hu => ?_⟩
    rw [List.getElem?_map] at hx hu
    obtain ⟨q, hq, rfl⟩ := Option.map_eq_some_iff.1 hx
    rw [hq] at hu
    obtain rfl := Option.some.inj hu
    exact hρ q
  refine .inr ⟨f, (args.toList.map ρ ++ cs).toArray, ?_, hp.newS hd he hb hσ hr (hargs.append hcs)⟩
  have hargs' : (#[] ++ args.map ρ ++ cs.toArray : Array Value) = (args.toList.map ρ ++ cs).toArray := by
    apply Array.ext'
    simp
  simp only [execOp, ho, resolve, hfv, Deferred.ofValue, Sem.run_bind, Sem.run_pure, Result.andThen_ok, invoke, callFunc, run_program, hfn, hname, hbody, Bool.false_eq_true, if_false, hargs']
end
theorem ksem : (∀ (r L sz off : Nat) (es : List (List V)), V.sem r (.sl L sz off es) = .sl r sz off es) ∧ (∀ (r : Nat) (cs : List V), V.sem r (.agg cs) = .agg (V.semL r cs)) ∧ (∀ (r : Nat) (cs : List V), V.sem r (.tup cs) = .tup (V.semL r cs)) ∧ (∀ (r : Nat) (b : Bool), V.sem r (.bool b) = .bool b) ∧ (∀ (r : Nat) (k : IntKind) (n : Int), V.sem r (.int k n) = .int k n) ∧ (∀ (r : Nat) (s : List UInt8), V.sem r (.str s) = .str s) ∧
    (∀ (r : Nat), V.semL r [] = []) ∧ (∀ (r : Nat) (x : V) (xs : List V), V.semL r (x :: xs) = V.sem r x :: V.semL (r + V.tops x) xs) ∧ (∀ (L sz off : Nat) (es : List (List V)), V.tops (.sl L sz off es) = 1) ∧ (∀ (cs : List V), V.tops (.agg cs) = V.topsL cs) ∧ (∀ (cs : List V), V.tops (.tup cs) = V.topsL cs) ∧ (∀ (b : Bool), V.tops (.bool b) = 0) ∧ (∀ (k : IntKind) (n : Int), V.tops (.int k n) = 0) ∧ (∀ (s : List UInt8), V.tops (.str s) = 0) ∧
    V.topsL [] = 0 ∧ (∀ (x : V) (xs : List V), V.topsL (x :: xs) = V.tops x + V.topsL xs) :=
  ⟨fun _ _ _ _ _ => rfl, fun _ _ => rfl, fun _ _ => rfl, fun _ _ => rfl, fun _ _ _ => rfl, fun _ _ => rfl, fun _ => rfl, fun _ _ _ => rfl, fun _ _ _ _ => rfl, fun _ => rfl, fun _ => rfl, fun _ => rfl, fun _ _ => rfl, fun _ => rfl, rfl, fun _ _ => rfl⟩
end Go.Proofs.YtjhfabimacljhaaGreat.K

/- Slots forgotten within a region; a record and a bool as data of the call's own; what is fed. -/
namespace Go.Proofs.YtjhfabimacljhaaGreat.K
open Go Go.RowKit
set_option linter.unusedVariables false
set_option linter.unusedSimpArgs false
section
variable {P : Program} {ti : Tab} {t t' h : List V} {n n' : Nat} {Q : Exit → List V → List V → Nat → Prop} {ops : Array Oper} {o : Oper} {l : List Oper}
theorem over_le : ∀ (dead : List Nat) (t : List V), (overD dead t).length = t.length ∧ ∀ (i : Nat) (x y : V), t[i]? = some x → (overD dead t)[i]? = some y → y = x ∨ y = .any
  | [], t => ⟨rfl, fun i x y hx hy => .inl (Option.some.inj (hy.symm.trans hx))⟩
  | d :: dead, t => by
    have ih := over_le dead (setN t d .any)
    refine ⟨by show (overD dead (setN t d .any)).length = _; rw [ih.1, setN_set, List.length_set], fun i x y hx hy => ?_⟩
    have hy' : (overD dead (setN t d .any))[i]? = some y := hy
    by_cases hdi : d = i
    · subst hdi
      have hs : (setN t d .any)[d]? = some .any := by
        have hi := (List.getElem?_eq_some_iff.1 hx).1
        rw [setN_set, List.getElem?_set_self hi]
      rcases ih.2 _ _ _ hs hy' with h | h <;> exact .inr h
    · exact ih.2 _ _ _ (by rw [setN_set, List.getElem?_set_ne hdi, hx]) hy'
theorem OkOps.drop (dead : List Nat) (ht : overD dead t = t') (hk : OkOps P ops l t' h n Q) : OkOps P ops l t h n Q := by
  subst ht
  intro base w0 hv σ a w g
  refine hk base w0 hv σ a w ⟨⟨by rw [(over_le dead t).1]; exact g.ts.1, fun i y u hy hu => ?_⟩, g.hs, g.dfr, g.bel, g.inv⟩
  have hi : i < t.length := by have := (List.getElem?_eq_some_iff.1 hy).1; rw [(over_le dead t).1] at this; exact this
  have h1 : t[i]? = some t[i] := List.getElem?_eq_getElem hi
  rcases (over_le dead t).2 i _ y h1 hy with rfl | rfl
  · exact g.ts.2 i _ u h1 hu
  · exact .any _
end
theorem nd_app2 {A B : List Nat} (hA : A.Nodup) (hB : B.Nodup) (h : ∀ y ∈ A, ¬ y ∈ B) : (A ++ B).Nodup := by
  rw [List.nodup_append]
  exact ⟨hA, hB, fun y hy z hz e => h y hy (e ▸ hz)⟩
theorem cnt_tup (c : List V) (b : Bool) : V.cnt (.tup [.agg c, .bool b]) = V.cnt (.agg c) := by
  show V.cntL c + (0 + 0) = V.cntL c; omega
theorem tag_tup (n : Nat) (c : List V) (b : Bool) : V.tag n (.tup [.agg c, .bool b]) = .tup [V.tag n (.agg c), .bool b] := rfl
def fits (x : Session) (t : Str) : Bool := !x.over && decide (x.inn.length + t.length ≤ 400)
def feedS (x : Session) (t : Str) : Session := if fits x t = true then { x with inn := x.inn ++ t } else x
def feedB (v : Server) (t : Str) : Bool := v.up && fits v.session t
def feedV (v : Server) (t : Str) : Server := if feedB v t = true then { v with session := feedS v.session t } else v
theorem ownTPair (n : Nat) (x : Pair) (b : Bool) : ∃ (L0 : Nat) (e0 : List (List V)) (L1 : Nat) (e1 : List (List V)) (L2 : Nat) (e2 : List (List V)), V.tag (n + 1) (.tup [.agg (cPair x), .bool b]) = .tup [.agg [.sl (L0 + 1) 13 0 e0, .sl (L1 + 1) 9 0 e1, .sl (L2 + 1) 2 0 e2, .int .i64 x.epoch], .bool b] ∧ (∀ r ∈ e0, isServer r) ∧ V.travLL (fun sz => V.sl 0 sz 0 []) (fun _ sz _ es => V.sl 0 sz 0 es) (fun _ _ o e => V.ptr 0 0 o e) e0 = x.servers.map cServer ∧ (∀ K, V.travLL (fun sz => V.sl 0 sz 0 []) (fun _ sz _ es => V.sl 0 sz 0 es) (fun _ _ o e => V.ptr 0 0 o e) (V.mkLL K e0) = V.mkLL K (x.servers.map cServer)) ∧ V.mnLL e0 = V.mnLL (x.servers.map cServer) ∧ (∀ r ∈ e1, isSync r) ∧ V.travLL (fun sz => V.sl 0 sz 0 []) (fun _ sz _ es => V.sl 0 sz 0 es) (fun _ _ o e => V.ptr 0 0 o e) e1 = x.syncs.map cSync ∧ (∀ K, V.travLL (fun sz => V.sl 0 sz 0 []) (fun _ sz _ es => V.sl 0 sz 0 es) (fun _ _ o e => V.ptr 0 0 o e) (V.mkLL K e1) = V.mkLL K (x.syncs.map cSync)) ∧ V.mnLL e1 = V.mnLL (x.syncs.map cSync) ∧ (∀ r ∈ e2, isLetter r) ∧ V.travLL (fun sz => V.sl 0 sz 0 []) (fun _ sz _ es => V.sl 0 sz 0 es) (fun _ _ o e => V.ptr 0 0 o e) e2 = x.net.map cLetter ∧ (∀ K, V.travLL (fun sz => V.sl 0 sz 0 []) (fun _ sz _ es => V.sl 0 sz 0 es) (fun _ _ o e => V.ptr 0 0 o e) (V.mkLL K e2) = V.mkLL K (x.net.map cLetter)) ∧ V.mnLL e2 = V.mnLL (x.net.map cLetter) ∧ (V.labelsL [.sl (L0 + 1) 13 0 e0, .sl (L1 + 1) 9 0 e1, .sl (L2 + 1) 2 0 e2, .int .i64 x.epoch]).Nodup ∧ (∀ z ∈ V.labelsL [.sl (L0 + 1) 13 0 e0, .sl (L1 + 1) 9 0 e1, .sl (L2 + 1) 2 0 e2, .int .i64 x.epoch], n + 1 ≤ z ∧ z < n + 1 + V.cnt (.tup [.agg (cPair x), .bool b])) := by
  obtain ⟨L0, e0, L1, e1, L2, e2, hX, q0, E0, M0, N0, q1, E1, M1, N1, q2, E2, M2, N2, nd, rg⟩ := ownPair n x
  exact ⟨L0, e0, L1, e1, L2, e2, by rw [tag_tup, hX], q0, E0, M0, N0, q1, E1, M1, N1, q2, E2, M2, N2, nd, fun z hz => by rw [cnt_tup]; exact rg z hz⟩
end Go.Proofs.YtjhfabimacljhaaGreat.K

/- Walks: links and syncs copied. Printed by w2.py. -/
namespace Go.Proofs.YtjhfabimacljhaaGreat.K
open Go Go.RowKit
set_option linter.unusedVariables false
set_option linter.unusedSimpArgs false
set_option maxHeartbeats 4000000
set_option maxRecDepth 20000
theorem p_impl_copyLink (l : Link) (h : l.way.length ≤ 2097152) : Pure Tryz.prog 123 [.agg (cLink l)] (.agg (cLink l)) := by
 refine Pure.of (by simp [V.dat, V.datL, V.datLL, zz, zf, zy]) (OkCall.enter' tab_ok Tryz.func123 rfl (t := [.agg (cLink l), .any, .any, .any, .any, .any, .any, .any, .any]) rfl ?_)
 refine OQ ?_
 iterate 2 (refine EV ?_)
 refine ON ?_
 refine OQ ?_
 iterate 3 (refine EV ?_)
 refine OkOps.S rfl (ok_append_nil tab_ok (by simp only [kT] <;> rfl) (by simp only [kT] <;> rfl) (by decide) rfl rfl (by simp only [kE, kT, kL, kC] <;> rfl) (.inl ⟨_, _, by simp only [kE, kT, kL, kC] <;> rfl⟩) (by simp only [List.length_map]; omega) (by simp only [List.length_map]; omega)) (by simp only [kP, kL] <;> rfl) ?_
 refine EV ?_
 refine OkOps.storeE tab_ok rfl rfl (by simp only [kE, kT, kL, kC] <;> rfl) ⟨_, _, by simp only [kE]; rfl⟩ (by first | (simp [V.labelsL, V.labelsLL, V.labels, zz, zf, zy]; done) | (simp [-List.map_map, -List.map_set, -List.map_drop, -List.map_take, -List.map_tail, -List.drop_one, V.labelsL, V.labelsLL, V.labels, zz, zf, zy]; done)) (by simp only [eq_self, V.updL, V.travL, V.travLL, V.trav, updS, updP, and_self, true_and, and_true, false_and, and_false, Nat.reduceEqDiff, Nat.reduceSub, Nat.le_refl, Nat.zero_le, ↓reduceIte, if_true, if_false, kP, zz, zf, zy] <;> rfl) (rfl) ?_
 refine ON ?_
 refine OQ ?_
 refine EV ?_
 refine OkOps.storeE tab_ok rfl rfl (by simp only [kE, kT, kL, kC] <;> rfl) ⟨_, _, by simp only [kE]; rfl⟩ (by first | (simp [V.labelsL, V.labelsLL, V.labels, zz, zf, zy]; done) | (simp [-List.map_map, -List.map_set, -List.map_drop, -List.map_take, -List.map_tail, -List.drop_one, V.labelsL, V.labelsLL, V.labels, zz, zf, zy]; done)) (by simp only [eq_self, V.updL, V.travL, V.travLL, V.trav, updS, updP, and_self, true_and, and_true, false_and, and_false, Nat.reduceEqDiff, Nat.reduceSub, Nat.le_refl, Nat.zero_le, ↓reduceIte, if_true, if_false, kP, zz, zf, zy] <;> rfl) (rfl) ?_
 refine ON ?_
 refine Ok.ret ?_
 with_reducible repeat (first | refine thenQ_ret ?_ | refine blockQ_ret ?_)
 refine RT ?_
 exact ⟨by simp [V.erase, V.trav, V.travL, V.travLL, packV, zz, zf], by simp [V.labels, V.labelsL, V.labelsLL, packV, zz, zf], by simp [V.labels, V.labelsL, V.labelsLL, packV, zz, zf]⟩
theorem p_spec_l17Copy (l : Link) (h : l.way.length ≤ 2097152) : Pure Tryz.prog 117 [.agg (cLink l)] (.agg (cLink l)) := by
 refine Pure.of (by simp [V.dat, V.datL, V.datLL, zz, zf, zy]) (OkCall.enter' tab_ok Tryz.func117 rfl (t := [.agg (cLink l), .any, .any, .any, .any, .any, .any, .any, .any, .any, .any, .any, .any, .any]) rfl ?_)
 refine OQ ?_
 iterate 2 (refine EV ?_)
 refine ON ?_
 refine Ok.seq ?_
 refine Ok.drawn 11 14 [] (by kernel_rfl) (by kernel_rfl) rfl ?_
 iterate 5 (refine SV ?_)
 refine SOps.S rfl (ok_append_nil tab_ok (by simp only [kT] <;> rfl) (by simp only [kT] <;> rfl) (by decide) rfl rfl (by simp only [kE, kT, kL, kC] <;> rfl) (.inl ⟨_, _, by simp only [kE, kT, kL, kC] <;> rfl⟩) (by simp only [List.length_map]; omega) (by simp only [List.length_map]; omega)) (by simp only [kP, kL] <;> rfl) ?_
 iterate 4 (refine SV ?_)
 refine SOps.ev tab_ok rfl (by simp [ev1, fillV, kE, kT, kL] <;> first | rfl | exact ⟨rfl, rfl⟩) (by simp only [kP] <;> rfl) ?_
 refine SOps.nil ?_
 refine TOps.storeE tab_ok rfl rfl (by simp only [kE, kT, kL, kC] <;> rfl) ⟨_, _, by simp only [kE]; rfl⟩ (by first | (simp [V.labelsL, V.labelsLL, V.labels, zz, zf, zy]; done) | (simp [-List.map_map, -List.map_set, -List.map_drop, -List.map_take, -List.map_tail, -List.drop_one, V.labelsL, V.labelsLL, V.labels, zz, zf, zy]; done)) (by simp only [eq_self, V.updL, V.travL, V.travLL, V.trav, updS, updP, and_self, true_and, and_true, false_and, and_false, Nat.reduceEqDiff, Nat.reduceSub, Nat.le_refl, Nat.zero_le, ↓reduceIte, if_true, if_false, kP, zz, zf, zy] <;> rfl) (rfl) ?_
 refine TOps.nil ?_
 refine Ok.ret ?_
 with_reducible repeat (first | refine thenQ_ret ?_ | refine blockQ_ret ?_)
 refine RT ?_
 exact ⟨by simp [V.erase, V.trav, V.travL, V.travLL, packV, zz, zf], by simp [V.labels, V.labelsL, V.labelsLL, packV, zz, zf], by simp [V.labels, V.labelsL, V.labelsLL, packV, zz, zf]⟩
theorem p_impl_copySync (y : Sync) (h : smSync y) : Pure Tryz.prog 94 [.agg (cSync y)] (.agg (cSync y)) := by
 refine Pure.of (by simp [V.dat, V.datL, V.datLL, zz, zf, zy]) (OkCall.enter' tab_ok Tryz.func94 rfl (t := [.agg (cSync y), .any, .any, .any, .any, .any, .any, .any, .any, .any, .any, .any, .any]) rfl ?_)
 refine OQ ?_
 iterate 2 (refine EV ?_)
 refine ON ?_
 refine OQ ?_
 iterate 2 (refine EV ?_)
 refine OkOps.S' rfl (OpS.pure' rfl (by simp only [kE, kT, kL, kC] <;> rfl) (by simp only [kE, kT, kL, kC, V.eraseL, V.erase, V.travL, V.trav, zz, zf, zy] <;> rfl) cl123 (by simp [V.dat, V.datL, V.datLL, zz, zf, zy]) (p_impl_copyLink y.link (by have := h.1.1; omega))) (by simp only [V.cnt, V.cntL, zz, zf, zy, Nat.add_zero, Nat.reduceAdd] <;> rfl) (by simp only [kP, V.tag, V.tagL, V.cnt, V.cntL, zz, zf, zy, Nat.add_zero, Nat.reduceAdd] <;> rfl) ?_
 refine EV ?_
 refine OkOps.storeE tab_ok rfl rfl (by simp only [kE, kT, kL, kC] <;> rfl) ⟨_, _, by simp only [kE]; rfl⟩ (by first | (simp [V.labelsL, V.labelsLL, V.labels, zz, zf, zy]; done) | (simp [-List.map_map, -List.map_set, -List.map_drop, -List.map_take, -List.map_tail, -List.drop_one, V.labelsL, V.labelsLL, V.labels, zz, zf, zy]; done)) (by simp only [eq_self, V.updL, V.travL, V.travLL, V.trav, updS, updP, and_self, true_and, and_true, false_and, and_false, Nat.reduceEqDiff, Nat.reduceSub, Nat.le_refl, Nat.zero_le, ↓reduceIte, if_true, if_false, kP, zz, zf, zy] <;> rfl) (rfl) ?_
 refine ON ?_
 refine OQ ?_
 iterate 3 (refine EV ?_)
 refine OkOps.S rfl (ok_append_nil tab_ok (by simp only [kT] <;> rfl) (by simp only [kT] <;> rfl) (by decide) rfl rfl (by simp only [kE, kT, kL, kC] <;> rfl) (.inl ⟨_, _, by simp only [kE, kT, kL, kC] <;> rfl⟩) (by simp only [List.length_map]; have := h.2.1; omega) (by simp only [List.length_map]; have := h.2.1; omega)) (by simp only [kP, kL] <;> rfl) ?_
 refine EV ?_
 refine OkOps.storeE tab_ok rfl rfl (by simp only [kE, kT, kL, kC] <;> rfl) ⟨_, _, by simp only [kE]; rfl⟩ (by first | (simp [V.labelsL, V.labelsLL, V.labels, zz, zf, zy]; done) | (simp [-List.map_map, -List.map_set, -List.map_drop, -List.map_take, -List.map_tail, -List.drop_one, V.labelsL, V.labelsLL, V.labels, zz, zf, zy]; done)) (by simp only [eq_self, V.updL, V.travL, V.travLL, V.trav, updS, updP, and_self, true_and, and_true, false_and, and_false, Nat.reduceEqDiff, Nat.reduceSub, Nat.le_refl, Nat.zero_le, ↓reduceIte, if_true, if_false, kP, zz, zf, zy] <;> rfl) (rfl) ?_
 refine ON ?_
 refine OQ ?_
 refine EV ?_
 refine OkOps.storeE tab_ok rfl rfl (by simp only [kE, kT, kL, kC] <;> rfl) ⟨_, _, by simp only [kE]; rfl⟩ (by first | (simp [V.labelsL, V.labelsLL, V.labels, zz, zf, zy]; done) | (simp [-List.map_map, -List.map_set, -List.map_drop, -List.map_take, -List.map_tail, -List.drop_one, V.labelsL, V.labelsLL, V.labels, zz, zf, zy]; done)) (by simp only [eq_self, V.updL, V.travL, V.travLL, V.trav, updS, updP, and_self, true_and, and_true, false_and, and_false, Nat.reduceEqDiff, Nat.reduceSub, Nat.le_refl, Nat.zero_le, ↓reduceIte, if_true, if_false, kP, zz, zf, zy] <;> rfl) (rfl) ?_
 refine ON ?_
 refine Ok.ret ?_
 with_reducible repeat (first | refine thenQ_ret ?_ | refine blockQ_ret ?_)
 refine RT ?_
 exact ⟨by simp [V.erase, V.trav, V.travL, V.travLL, packV, zz, zf], by simp [V.labels, V.labelsL, V.labelsLL, packV, zz, zf], by simp [V.labels, V.labelsL, V.labelsLL, packV, zz, zf]⟩
theorem p_spec_l18Copy (y : Sync) (h : smSync y) : Pure Tryz.prog 109 [.agg (cSync y)] (.agg (cSync y)) := by
 refine Pure.of (by simp [V.dat, V.datL, V.datLL, zz, zf, zy]) (OkCall.enter' tab_ok Tryz.func109 rfl (t := [.agg (cSync y), .any, .any, .any, .any, .any, .any, .any, .any, .any, .any, .any, .any, .any, .any]) rfl ?_)
 refine OQ ?_
 iterate 2 (refine EV ?_)
 refine ON ?_
 refine OQ ?_
 iterate 2 (refine EV ?_)
 refine OkOps.storeE tab_ok rfl rfl (by simp only [kE, kT, kL, kC] <;> rfl) ⟨_, _, by simp only [kE]; rfl⟩ (by first | (simp [V.labelsL, V.labelsLL, V.labels, zz, zf, zy]; done) | (simp [-List.map_map, -List.map_set, -List.map_drop, -List.map_take, -List.map_tail, -List.drop_one, V.labelsL, V.labelsLL, V.labels, zz, zf, zy]; done)) (by simp only [eq_self, V.updL, V.travL, V.travLL, V.trav, updS, updP, and_self, true_and, and_true, false_and, and_false, Nat.reduceEqDiff, Nat.reduceSub, Nat.le_refl, Nat.zero_le, ↓reduceIte, if_true, if_false, kP, zz, zf, zy] <;> rfl) (rfl) ?_
 refine ON ?_
 refine OQ ?_
 iterate 2 (refine EV ?_)
 refine OkOps.S' rfl (OpS.pure' rfl (by simp only [kE, kT, kL, kC] <;> rfl) (by simp only [kE, kT, kL, kC, V.eraseL, V.erase, V.travL, V.trav, zz, zf, zy] <;> rfl) cl117 (by simp [V.dat, V.datL, V.datLL, zz, zf, zy]) (p_spec_l17Copy y.link (by have := h.1.1; omega))) (by simp only [V.cnt, V.cntL, zz, zf, zy, Nat.add_zero, Nat.reduceAdd] <;> rfl) (by simp only [kP, V.tag, V.tagL, V.cnt, V.cntL, zz, zf, zy, Nat.add_zero, Nat.reduceAdd] <;> rfl) ?_
 refine EV ?_
 refine OkOps.storeE tab_ok rfl rfl (by simp only [kE, kT, kL, kC] <;> rfl) ⟨_, _, by simp only [kE]; rfl⟩ (by first | (simp [V.labelsL, V.labelsLL, V.labels, zz, zf, zy]; done) | (simp [-List.map_map, -List.map_set, -List.map_drop, -List.map_take, -List.map_tail, -List.drop_one, V.labelsL, V.labelsLL, V.labels, zz, zf, zy]; done)) (by simp only [eq_self, V.updL, V.travL, V.travLL, V.trav, updS, updP, and_self, true_and, and_true, false_and, and_false, Nat.reduceEqDiff, Nat.reduceSub, Nat.le_refl, Nat.zero_le, ↓reduceIte, if_true, if_false, kP, zz, zf, zy] <;> rfl) (rfl) ?_
 refine ON ?_
 refine OQ ?_
 iterate 3 (refine EV ?_)
 refine OkOps.S rfl (ok_append_nil tab_ok (by simp only [kT] <;> rfl) (by simp only [kT] <;> rfl) (by decide) rfl rfl (by simp only [kE, kT, kL, kC] <;> rfl) (.inl ⟨_, _, by simp only [kE, kT, kL, kC] <;> rfl⟩) (by simp only [List.length_map]; have := h.2.1; omega) (by simp only [List.length_map]; have := h.2.1; omega)) (by simp only [kP, kL] <;> rfl) ?_
 refine EV ?_
 refine OkOps.storeE tab_ok rfl rfl (by simp only [kE, kT, kL, kC] <;> rfl) ⟨_, _, by simp only [kE]; rfl⟩ (by first | (simp [V.labelsL, V.labelsLL, V.labels, zz, zf, zy]; done) | (simp [-List.map_map, -List.map_set, -List.map_drop, -List.map_take, -List.map_tail, -List.drop_one, V.labelsL, V.labelsLL, V.labels, zz, zf, zy]; done)) (by simp only [eq_self, V.updL, V.travL, V.travLL, V.trav, updS, updP, and_self, true_and, and_true, false_and, and_false, Nat.reduceEqDiff, Nat.reduceSub, Nat.le_refl, Nat.zero_le, ↓reduceIte, if_true, if_false, kP, zz, zf, zy] <;> rfl) (rfl) ?_
 refine ON ?_
 refine OQ ?_
 refine EV ?_
 refine OkOps.storeE tab_ok rfl rfl (by simp only [kE, kT, kL, kC] <;> rfl) ⟨_, _, by simp only [kE]; rfl⟩ (by first | (simp [V.labelsL, V.labelsLL, V.labels, zz, zf, zy]; done) | (simp [-List.map_map, -List.map_set, -List.map_drop, -List.map_take, -List.map_tail, -List.drop_one, V.labelsL, V.labelsLL, V.labels, zz, zf, zy]; done)) (by simp only [eq_self, V.updL, V.travL, V.travLL, V.trav, updS, updP, and_self, true_and, and_true, false_and, and_false, Nat.reduceEqDiff, Nat.reduceSub, Nat.le_refl, Nat.zero_le, ↓reduceIte, if_true, if_false, kP, zz, zf, zy] <;> rfl) (rfl) ?_
 refine ON ?_
 refine Ok.ret ?_
 with_reducible repeat (first | refine thenQ_ret ?_ | refine blockQ_ret ?_)
 refine RT ?_
 exact ⟨by simp [V.erase, V.trav, V.travL, V.travLL, packV, zz, zf], by simp [V.labels, V.labelsL, V.labelsLL, packV, zz, zf], by simp [V.labels, V.labelsL, V.labelsLL, packV, zz, zf]⟩
end Go.Proofs.YtjhfabimacljhaaGreat.K

/- Walks: pairs copied. Printed by w2.py. -/
namespace Go.Proofs.YtjhfabimacljhaaGreat.K
open Go Go.RowKit
set_option linter.unusedVariables false
set_option linter.unusedSimpArgs false
set_option maxHeartbeats 4000000
set_option maxRecDepth 20000
theorem p_impl_copyPair (p : Pair) (h : smPair p) : Pure Tryz.prog 77 [.agg (cPair p)] (.agg (cPair p)) := by
 refine Pure.of (by simp [V.dat, V.datL, V.datLL, zz, zf, zy]) (OkCall.enter' tab_ok Tryz.func77 rfl (t := [.agg (cPair p), .any, .any, .any, .any, .any, .any, .any, .any, .any, .any, .any, .any, .any, .any, .any, .any, .any, .any, .any, .any, .any, .any, .any, .any, .any, .any, .any, .any, .any, .any, .any, .any, .any, .any, .any, .any, .any, .any, .any, .any, .any, .any, .any, .any, .any]) rfl ?_)
 refine OQ ?_
 iterate 2 (refine EV ?_)
 refine ON ?_
 refine Ok.seq ?_
 refine Ok.drawn 8 46 [] (by kernel_rfl) (by kernel_rfl) rfl ?_
 iterate 3 (refine SV ?_)
 refine SOps.S rfl (ok_append_nil tab_ok (by simp only [kT] <;> rfl) (by simp only [kT] <;> rfl) (by decide) rfl rfl (by simp only [kE, kT, kL, kC] <;> rfl) (.inl ⟨_, _, by simp only [kE, kT, kL, kC] <;> rfl⟩) (by simp only [List.length_map]; have := h.2.2.1; omega) (by simp only [List.length_map]; have := h.2.2.1; omega)) (by simp only [kP, kL] <;> rfl) ?_
 iterate 2 (refine SV ?_)
 refine SOps.ev tab_ok rfl (by simp [ev1, fillV, kE, kT, kL] <;> first | rfl | exact ⟨rfl, rfl⟩) (by simp only [kP] <;> rfl) ?_
 refine SV ?_
 refine SOps.nil ?_
 refine TOps.storeN tab_ok rfl rfl (by simp only [kE, kT, kL, kC] <;> rfl) ⟨_, _, by simp only [kE]; rfl⟩ (by first | (simp [V.labelsL, V.labelsLL, V.labels, zz, zf, zy]; done) | (intro h; (simp [V.labelsL, V.labels, V.labelsLL, zz, zf, zy] at h))) (fun W hW hF => by have f0 := far0 hW (fun h => by omega); have p9 := fun i o e => hW.ptr 0 i o e (by omega); have wn := hW.far (.sl 3 2 0 (p.net.map cLetter)) (fun y hy h => by simp [V.labels, V.labelsLL, zz, zf, zy] at hy; omega); have p0 := fun i o e => hW.ptr (1) i o e (by omega);  have p1 := fun i o e => hW.ptr (2) i o e (by omega); simp only [List.map_cons, List.map_nil, hW.int, hW.str, hW.bool, hW.any, hW.tup0, hW.agg, hW.nilV, hF.ptr, f0, p9, wn, p0, p1, kP] <;> rfl) ?_
 refine TOps.nil ?_
 refine Ok.seq ?_
 refine Ok.seq ?_
 refine Ok.drop [8, 9, 10, 11, 12, 13, 14] (by simp only [kover] <;> rfl) ?_
 refine Ok.cell (d := 3) [.sl 5 13 0 [], .sl 6 9 0 [], .sl 3 2 0 (p.net.map cLetter), .int .i64 p.epoch] rfl ⟨le_nil 5 _, le_nil 6 _, le_rfl' _, le_rfl' _, trivial⟩ (by simp only [List.set_cons_zero, List.set_cons_succ] <;> rfl) ?_
 refine Ok.region ?_
 iterate 4 (refine EV ?_)
 refine ON ?_
 refine Ok.block ?_
 refine Ok.loopN (τ := List (List V) × Nat) (fun r => [(3, .ptr 4 0 0 [.sl 5 13 0 r.1, .sl 6 9 0 [], .sl 3 2 0 (p.net.map cLetter), .int .i64 p.epoch]), (18, .int .i64 (r.1.length : Int))]) [5, 15, 19, 20, 21, 22, 23, 24, 25, 26, 27, 28, 29] (fun r => by simp only [kover] <;> rfl) (fun r => r.2 + 1) (fun r => r.1.length ≤ p.servers.length ∧ V.travLL (fun sz => V.sl 0 sz 0 []) (fun _ sz _ es => V.sl 0 sz 0 es) (fun _ _ o e => V.ptr 0 0 o e) r.1 = (p.servers.take r.1.length).map cServer ∧ (V.labelsLL r.1).Nodup ∧ (∀ z ∈ V.labelsLL r.1, 7 ≤ z ∧ z < r.2 + 1) ∧ 6 ≤ r.2) (fun r => p.servers.length - r.1.length) ([], 6) (by refine ⟨?_, ?_, ?_, ?_, ?_, ?_, ?_, ?_, ?_, ?_, ?_, ?_, ?_, ?_, ?_, ?_, ?_, ?_, ?_, ?_, ?_, ?_, ?_, ?_, ?_, ?_, ?_, ?_, ?_, ?_, ?_, ?_, ?_, ?_, ?_, ?_, ?_, ?_, ?_, ?_, ?_, ?_, ?_, ?_, ?_, ?_, trivial⟩ <;> first | exact le_any _ | with_reducible exact le_rfl' _ | (first | exact le_rfl' _ | exact le_nil 1 13) | exact le_rfl' _) (by decide) (⟨Nat.zero_le _, rfl, List.nodup_nil, (fun z hz => by cases hz), Nat.le_refl _⟩) ?_
 rintro ⟨d, k⟩ ⟨h1, h2, h3, h4, h5⟩
 have h1 : d.length ≤ p.servers.length := h1
 have h2 : V.travLL (fun sz => V.sl 0 sz 0 []) (fun _ sz _ es => V.sl 0 sz 0 es) (fun _ _ o e => V.ptr 0 0 o e) d = (p.servers.take d.length).map cServer := h2
 have h3 : (V.labelsLL d).Nodup := h3
 have h4 : ∀ z ∈ V.labelsLL d, 7 ≤ z ∧ z < k + 1 := h4
 have h5 : 6 ≤ k := h5
 refine Ok.seq ?_
 refine Ok.drop [15] (by simp only [kover] <;> rfl) ?_
 refine Ok.region ?_
 refine EV ?_
 refine ON ?_
 refine Ok.seq ?_
 refine Ok.cond (b := _) (by simp only [kE, kT, kL, kC] <;> rfl) (fun hb3 => ?_) (fun hb3 => ?_)
 ·
  try simp only [bsimp] at hb3
  have hi : d.length < p.servers.length := by omega
  refine Ok.skip ?_
  refine Ok.seq ?_
  refine Ok.block ?_
  refine Ok.seq ?_
  refine Ok.drop [19] (by simp only [kover] <;> rfl) ?_
  refine Ok.region ?_
  refine OkOps.ev tab_ok rfl (ev_idx_map (by simp only [kE, kT, kL, kC] <;> rfl) (by simp only [kE, kT, kL, kC] <;> rfl) (by omega) (by simp only [kE, kT, kL, kC] <;> rfl)) (by simp only [kP] <;> rfl) ?_
  iterate 2 (refine EV ?_)
  refine OkOps.storeN tab_ok rfl rfl (by simp only [kE, kT, kL, kC] <;> rfl) ⟨_, _, by simp only [kE]; rfl⟩ (by first | (simp [V.labelsL, V.labelsLL, V.labels, zz, zf, zy]; done) | (intro h; (simp [V.labelsL, V.labels, V.labelsLL, zz, zf, zy] at h))) (fun W hW hF => by have f0 := far0 hW (fun h => by omega); have p9 := fun i o e => hW.ptr 0 i o e (by omega); have wd := hW.far (.sl 5 13 0 d) (fun y hy h => by (simp only [V.labels, List.mem_cons] at hy); (rcases hy with hy | hy); omega; (have := h4 y hy; omega)); have we := hW.far (.sl 6 9 0 []) (fun y hy h => by simp [V.labels, V.labelsLL, zz, zf, zy] at hy; omega); have wn := hW.far (.sl 3 2 0 (p.net.map cLetter)) (fun y hy h => by simp [V.labels, V.labelsLL, zz, zf, zy] at hy; omega); have w8_2 := hW.far (.sl 0 7 0 ((p.servers[d.length]).kept.store.boxes.map cBox)) (fun z hz h => by have h0 : z = 0 := (show ∀ z ∈ V.labels (.sl 0 7 0 ((p.servers[d.length]).kept.store.boxes.map cBox)), z = 0 by simp [V.labels, zz, zf, zy]) z hz; omega); have w8_3 := hW.far (.sl 0 1 0 ((p.servers[d.length]).kept.store.gone.map cZ)) (fun z hz h => by have h0 : z = 0 := (show ∀ z ∈ V.labels (.sl 0 1 0 ((p.servers[d.length]).kept.store.gone.map cZ)), z = 0 by simp [V.labels, zz, zf, zy]) z hz; omega); have w8_11 := hW.far (.sl 0 1 0 ((p.servers[d.length]).session.view.map cZ)) (fun z hz h => by have h0 : z = 0 := (show ∀ z ∈ V.labels (.sl 0 1 0 ((p.servers[d.length]).session.view.map cZ)), z = 0 by simp [V.labels, zz, zf, zy]) z hz; omega); have p0 := fun i o e => hW.ptr (1) i o e (by omega);  have p1 := fun i o e => hW.ptr (2) i o e (by omega);  have p2 := fun i o e => hW.ptr (4) i o e (by omega); simp only [List.map_cons, List.map_nil, hW.int, hW.str, hW.bool, hW.any, hW.tup0, hW.agg, hW.nilV, hF.ptr, f0, p9, cServer, wd, we, wn, w8_2, w8_3, w8_11, p0, p1, p2, kP] <;> rfl) ?_
  refine ON ?_
  refine Ok.drop [20, 21] (by simp only [kover] <;> rfl) ?_
  refine Ok.drawn 5 46 [] (by kernel_rfl) (by kernel_rfl) rfl ?_
  iterate 3 (refine SV ?_)
  obtain ⟨L2a, e2a, L3a, e3a, L11a, e11a, hXa, q2a, E2a, M2a, N2a, q3a, E3a, M3a, N3a, q11a, E11a, M11a, N11a, nda, rga⟩ := ownServer (k + 1) (p.servers[d.length])
  obtain ⟨ma, hma⟩ : ∃ m, k + 1 + 1 + V.cnt (.agg (cServer (p.servers[d.length]))) = m + 1 := ⟨k + 1 + V.cnt (.agg (cServer (p.servers[d.length]))), by omega⟩
  have r2a : ∀ z ∈ V.labels (.sl (L2a + 1) 7 0 e2a), k + 1 + 1 ≤ z ∧ z < ma + 1 := fun z hz => by have := rga z (by first | exact hz | (simp only [V.labelsL, V.labels, List.mem_append] at hz ⊢; simp only [hz, true_or, or_true])); omega
  have r3a : ∀ z ∈ V.labels (.sl (L3a + 1) 1 0 e3a), k + 1 + 1 ≤ z ∧ z < ma + 1 := fun z hz => by have := rga z (by first | exact hz | (simp only [V.labelsL, V.labels, List.mem_append] at hz ⊢; simp only [hz, true_or, or_true])); omega
  have r11a : ∀ z ∈ V.labels (.sl (L11a + 1) 1 0 e11a), k + 1 + 1 ≤ z ∧ z < ma + 1 := fun z hz => by have := rga z (by first | exact hz | (simp only [V.labelsL, V.labels, List.mem_append] at hz ⊢; simp only [hz, true_or, or_true])); omega
  refine SOps.S' rfl (OpS.pureM rfl (by simp only [kE, kT, kL, kC] <;> rfl) (by simp only [kE, kT, kL, kC, V.eraseL, V.erase, V.travL, V.trav, zz, zf, zy] <;> rfl) cl137 (by simp [V.dat, V.datL, V.datLL, zz, zf, zy]) (p_impl_copyServer p.servers[d.length] (h.1.2 _ (List.getElem_mem hi)))) hma (by simp only [kP, hXa] <;> rfl) ?_
  refine SOps.ev tab_ok rfl (ev_bs (by simp only [kT] <;> rfl) (by simp only [kT] <;> rfl) (by decide) (by decide) (by simp only [kE, kT, kL, kC, List.map_cons, List.map_nil] <;> rfl) (by simp only [kfe, beq_self_eq_true, Bool.and_true, Bool.true_and, decide_true, Nat.zero_add, Nat.lt_add_one, Nat.reduceLT, Nat.reduceAdd, Nat.zero_lt_succ, if_true, ↓reduceIte] <;> rfl)) (by simp only [kP] <;> rfl) ?_
  refine SOps.nil ?_
  refine TOps.appendN tab_ok rfl rfl (by simp only [kT] <;> rfl) (by simp only [kT] <;> rfl) (by decide) rfl (by simp only [kE, kT, kL, kC] <;> rfl) (.inl ⟨_, _, by simp only [kE, kT, kL, kC] <;> rfl⟩) (by omega) (by omega) (by simp only [List.length_cons, List.length_nil]; have := h.1.1; omega) (by simp only [List.length_cons, List.length_nil]; have := h.1.1; omega) (by simp [V.one]) (by intro h; have u2a : ¬ (5 = L2a + 1) := (fun h => (by (have := r2a _ (List.mem_cons_self ..)); omega)); have v2a : ¬ (5 ∈ V.labelsLL e2a) := (fun h => (by (have := r2a _ (List.mem_cons_of_mem _ h)); omega)); have u3a : ¬ (5 = L3a + 1) := (fun h => (by (have := r3a _ (List.mem_cons_self ..)); omega)); have v3a : ¬ (5 ∈ V.labelsLL e3a) := (fun h => (by (have := r3a _ (List.mem_cons_of_mem _ h)); omega)); have u11a : ¬ (5 = L11a + 1) := (fun h => (by (have := r11a _ (List.mem_cons_self ..)); omega)); have v11a : ¬ (5 ∈ V.labelsLL e11a) := (fun h => (by (have := r11a _ (List.mem_cons_of_mem _ h)); omega)); have und : ¬ (5 ∈ V.labelsLL d) := (fun h => (by (have := h4 _ h); omega)); (revert h; show ¬ _; simp [labelsLL_app, V.labelsLL, V.labelsL, V.labels, zz, zf, zy, u2a, v2a, u3a, v3a, u11a, v11a, und] <;> omega)) (fun W hW hF => by obtain ⟨z2a, zz2a⟩ := farA hW r2a (fun y h1 h2 h => by omega); obtain ⟨z3a, zz3a⟩ := farA hW r3a (fun y h1 h2 h => by omega); obtain ⟨z11a, zz11a⟩ := farA hW r11a (fun y h1 h2 h => by omega); have f0 := far0 hW (fun h => by omega); have p9 := fun i o e => hW.ptr 0 i o e (by omega); have p8 := fun sz o e => hW.sl (ma + 1) sz o e (by omega); have we := hW.far (.sl 6 9 0 []) (fun y hy h => by simp [V.labels, V.labelsLL, zz, zf, zy] at hy; omega); have wn := hW.far (.sl 3 2 0 (p.net.map cLetter)) (fun y hy h => by simp [V.labels, V.labelsLL, zz, zf, zy] at hy; omega); have w8_2 := hW.far (.sl 0 7 0 ((p.servers[d.length]).kept.store.boxes.map cBox)) (fun z hz h => by have h0 : z = 0 := (show ∀ z ∈ V.labels (.sl 0 7 0 ((p.servers[d.length]).kept.store.boxes.map cBox)), z = 0 by simp [V.labels, zz, zf, zy]) z hz; omega); have w8_3 := hW.far (.sl 0 1 0 ((p.servers[d.length]).kept.store.gone.map cZ)) (fun z hz h => by have h0 : z = 0 := (show ∀ z ∈ V.labels (.sl 0 1 0 ((p.servers[d.length]).kept.store.gone.map cZ)), z = 0 by simp [V.labels, zz, zf, zy]) z hz; omega); have w8_11 := hW.far (.sl 0 1 0 ((p.servers[d.length]).session.view.map cZ)) (fun z hz h => by have h0 : z = 0 := (show ∀ z ∈ V.labels (.sl 0 1 0 ((p.servers[d.length]).session.view.map cZ)), z = 0 by simp [V.labels, zz, zf, zy]) z hz; omega); have p0 := fun i o e => hW.ptr (1) i o e (by omega);  have p1 := fun i o e => hW.ptr (2) i o e (by omega);  have p2 := fun i o e => hW.ptr (4) i o e (by omega);  have p3 := fun i o e => hW.ptr (k + 1) i o e (by omega); simp only [List.map_cons, List.map_nil, hW.int, hW.str, hW.bool, hW.any, hW.tup0, hW.agg, hW.nilV, hF.sl, hF.ptr, z2a, zz2a, z3a, zz3a, z11a, zz11a, f0, p9, p8, cServer, we, wn, w8_2, w8_3, w8_11, p0, p1, p2, p3, kP] <;> rfl) ?_
  refine TV ?_
  refine TOps.storeN tab_ok rfl rfl (by simp only [kE, kT, kL, kC] <;> rfl) ⟨_, _, by simp only [kE]; rfl⟩ (by first | (simp [V.labelsL, V.labelsLL, V.labels, zz, zf, zy]; done) | (intro h; have u2a : ¬ (4 = L2a + 1) := (fun h => (by (have := r2a _ (List.mem_cons_self ..)); omega)); have v2a : ¬ (4 ∈ V.labelsLL e2a) := (fun h => (by (have := r2a _ (List.mem_cons_of_mem _ h)); omega)); have u3a : ¬ (4 = L3a + 1) := (fun h => (by (have := r3a _ (List.mem_cons_self ..)); omega)); have v3a : ¬ (4 ∈ V.labelsLL e3a) := (fun h => (by (have := r3a _ (List.mem_cons_of_mem _ h)); omega)); have u11a : ¬ (4 = L11a + 1) := (fun h => (by (have := r11a _ (List.mem_cons_self ..)); omega)); have v11a : ¬ (4 ∈ V.labelsLL e11a) := (fun h => (by (have := r11a _ (List.mem_cons_of_mem _ h)); omega)); have und : ¬ (4 ∈ V.labelsLL d) := (fun h => (by (have := h4 _ h); omega)); (revert h; show ¬ _; simp [labelsLL_app, V.labelsLL, V.labelsL, V.labels, zz, zf, zy, u2a, v2a, u3a, v3a, u11a, v11a, und] <;> omega))) (fun W hW hF => by obtain ⟨z2a, zz2a⟩ := farA hW r2a (fun y h1 h2 h => by omega); obtain ⟨z3a, zz3a⟩ := farA hW r3a (fun y h1 h2 h => by omega); obtain ⟨z11a, zz11a⟩ := farA hW r11a (fun y h1 h2 h => by omega); have f0 := far0 hW (fun h => by omega); have p9 := fun i o e => hW.ptr 0 i o e (by omega); have p8 := fun sz o e => hW.sl (ma + 1) sz o e (by omega); have p7 := fun sz o e => hW.sl 5 sz o e (by omega); have we := hW.far (.sl 6 9 0 []) (fun y hy h => by simp [V.labels, V.labelsLL, zz, zf, zy] at hy; omega); have wn := hW.far (.sl 3 2 0 (p.net.map cLetter)) (fun y hy h => by simp [V.labels, V.labelsLL, zz, zf, zy] at hy; omega); have wld := hW.farLL d (fun y hy h => by have := h4 y hy; omega); have w8_2 := hW.far (.sl 0 7 0 ((p.servers[d.length]).kept.store.boxes.map cBox)) (fun z hz h => by have h0 : z = 0 := (show ∀ z ∈ V.labels (.sl 0 7 0 ((p.servers[d.length]).kept.store.boxes.map cBox)), z = 0 by simp [V.labels, zz, zf, zy]) z hz; omega); have w8_3 := hW.far (.sl 0 1 0 ((p.servers[d.length]).kept.store.gone.map cZ)) (fun z hz h => by have h0 : z = 0 := (show ∀ z ∈ V.labels (.sl 0 1 0 ((p.servers[d.length]).kept.store.gone.map cZ)), z = 0 by simp [V.labels, zz, zf, zy]) z hz; omega); have w8_11 := hW.far (.sl 0 1 0 ((p.servers[d.length]).session.view.map cZ)) (fun z hz h => by have h0 : z = 0 := (show ∀ z ∈ V.labels (.sl 0 1 0 ((p.servers[d.length]).session.view.map cZ)), z = 0 by simp [V.labels, zz, zf, zy]) z hz; omega); have p0 := fun i o e => hW.ptr (1) i o e (by omega);  have p1 := fun i o e => hW.ptr (2) i o e (by omega);  have p3 := fun i o e => hW.ptr (k + 1) i o e (by omega); simp only [List.map_cons, List.map_nil, hW.int, hW.str, hW.bool, hW.any, hW.tup0, hW.agg, hW.nilV, hF.ptr, z2a, zz2a, z3a, zz3a, z11a, zz11a, f0, List.map_append, p9, p8, p7, cServer, we, wn, wld, w8_2, w8_3, w8_11, p0, p1, p3, kP] <;> rfl) ?_
  refine TOps.nil ?_
  refine Ok.drop [22, 23, 24, 25, 26, 27, 28] (by simp only [kover] <;> rfl) ?_
  refine Ok.region ?_
  iterate 2 (refine EV ?_)
  refine ON ?_
  refine ⟨(d ++ [[.int .i64 (p.servers[d.length]).kept.store.by_, .int .i64 (p.servers[d.length]).kept.store.time, .sl (L2a + 1) 7 0 e2a, .sl (L3a + 1) 1 0 e3a, .str (p.servers[d.length]).kept.journal, .int .i64 (p.servers[d.length]).kept.saved, .str (p.servers[d.length]).session.inn, .str (p.servers[d.length]).session.out, .bool (p.servers[d.length]).session.on, .bool (p.servers[d.length]).session.over, .int .i64 (p.servers[d.length]).session.box, .sl (L11a + 1) 1 0 e11a, .bool (p.servers[d.length]).up]], ma + 1), ?_, rfl, (by dsimp only; omega), (by obtain ⟨z1, z2, z3, z4, z5⟩ := rows_snocL (k := k) (m := ma + 1) (c := [.int .i64 (p.servers[d.length]).kept.store.by_, .int .i64 (p.servers[d.length]).kept.store.time, .sl (L2a + 1) 7 0 e2a, .sl (L3a + 1) 1 0 e3a, .str (p.servers[d.length]).kept.journal, .int .i64 (p.servers[d.length]).kept.saved, .str (p.servers[d.length]).session.inn, .str (p.servers[d.length]).session.out, .bool (p.servers[d.length]).session.on, .bool (p.servers[d.length]).session.over, .int .i64 (p.servers[d.length]).session.box, .sl (L11a + 1) 1 0 e11a, .bool (p.servers[d.length]).up]) (show 7 ≤ k + 1 by omega) hi h2 h3 h4 (by omega) (by omega) (by simp only [V.travL, V.trav, E2a, E3a, E11a] <;> rfl) nda (fun z hz => by have := rga z hz; omega); exact ⟨z1, z2, z3, z4, by dsimp only; omega⟩), by show p.servers.length - (d ++ [_]).length < p.servers.length - d.length; rw [List.length_append]; simp only [List.length_cons, List.length_nil]; omega⟩
  refine ⟨?_, ?_, ?_, ?_, ?_, ?_, ?_, ?_, ?_, ?_, ?_, ?_, ?_, ?_, ?_, ?_, ?_, ?_, ?_, ?_, ?_, ?_, ?_, ?_, ?_, ?_, ?_, ?_, ?_, ?_, ?_, ?_, ?_, ?_, ?_, ?_, ?_, ?_, ?_, ?_, ?_, ?_, ?_, ?_, ?_, ?_, trivial⟩ <;> first | exact le_any _ | with_reducible exact le_rfl' _ | (dsimp only; first | exact le_rfl' _ | (rw [wrap_add_one (by have := h.1.1; omega)]; refine le_eqm ?_; simp only [List.length_append, List.length_cons, List.length_nil]; done) | (refine le_eqm ?_; simp only [List.length_append, List.length_cons, List.length_nil, Nat.zero_add]; done)) | exact le_rfl' _
 ·
  try simp only [bsimp] at hb3
  have hi : d.length = p.servers.length := by omega
  rw [hi, List.take_length] at h2
  refine Ok.exit ?_
  refine Ok.seq ?_
  refine Ok.seq ?_
  refine Ok.drop [19] (by simp only [kover] <;> rfl) ?_
  refine Ok.region ?_
  iterate 4 (refine EV ?_)
  refine ON ?_
  refine Ok.block ?_
  refine Ok.loopN (τ := List (List V) × Nat) (fun r => [(3, .ptr 4 0 0 [.sl 5 13 0 d, .sl 6 9 0 r.1, .sl 3 2 0 (p.net.map cLetter), .int .i64 p.epoch]), (33, .int .i64 (r.1.length : Int))]) [7, 30, 34, 35, 36, 37, 38, 39, 40, 41, 42, 43, 44] (fun r => by simp only [kover] <;> rfl) (fun r => r.2 + 1) (fun r => r.1.length ≤ p.syncs.length ∧ V.travLL (fun sz => V.sl 0 sz 0 []) (fun _ sz _ es => V.sl 0 sz 0 es) (fun _ _ o e => V.ptr 0 0 o e) r.1 = (p.syncs.take r.1.length).map cSync ∧ (V.labelsLL r.1).Nodup ∧ (∀ z ∈ V.labelsLL r.1, k + 1 ≤ z ∧ z < r.2 + 1) ∧ k ≤ r.2) (fun r => p.syncs.length - r.1.length) ([], k) (by refine ⟨?_, ?_, ?_, ?_, ?_, ?_, ?_, ?_, ?_, ?_, ?_, ?_, ?_, ?_, ?_, ?_, ?_, ?_, ?_, ?_, ?_, ?_, ?_, ?_, ?_, ?_, ?_, ?_, ?_, ?_, ?_, ?_, ?_, ?_, ?_, ?_, ?_, ?_, ?_, ?_, ?_, ?_, ?_, ?_, ?_, ?_, trivial⟩ <;> first | exact le_any _ | with_reducible exact le_rfl' _ | (first | exact le_rfl' _ | exact le_nil 1 9) | exact le_rfl' _) (Nat.le_refl _) (⟨Nat.zero_le _, rfl, List.nodup_nil, (fun z hz => by cases hz), Nat.le_refl _⟩) ?_
  rintro ⟨e, kk⟩ ⟨g1, g2, g3, g4, g5⟩
  have g1 : e.length ≤ p.syncs.length := g1
  have g2 : V.travLL (fun sz => V.sl 0 sz 0 []) (fun _ sz _ es => V.sl 0 sz 0 es) (fun _ _ o e => V.ptr 0 0 o e) e = (p.syncs.take e.length).map cSync := g2
  have g3 : (V.labelsLL e).Nodup := g3
  have g4 : ∀ z ∈ V.labelsLL e, k + 1 ≤ z ∧ z < kk + 1 := g4
  have g5 : k ≤ kk := g5
  refine Ok.seq ?_
  refine Ok.drop [30] (by simp only [kover] <;> rfl) ?_
  refine Ok.region ?_
  refine EV ?_
  refine ON ?_
  refine Ok.seq ?_
  refine Ok.cond (b := _) (by simp only [kE, kT, kL, kC] <;> rfl) (fun hb8 => ?_) (fun hb8 => ?_)
  ·
   try simp only [bsimp] at hb8
   have hi : e.length < p.syncs.length := by omega
   refine Ok.skip ?_
   refine Ok.seq ?_
   refine Ok.block ?_
   refine Ok.seq ?_
   refine Ok.drop [34] (by simp only [kover] <;> rfl) ?_
   refine Ok.region ?_
   refine OkOps.ev tab_ok rfl (ev_idx_map (by simp only [kE, kT, kL, kC] <;> rfl) (by simp only [kE, kT, kL, kC] <;> rfl) (by omega) (by simp only [kE, kT, kL, kC] <;> rfl)) (by simp only [kP] <;> rfl) ?_
   iterate 2 (refine EV ?_)
   refine OkOps.storeN tab_ok rfl rfl (by simp only [kE, kT, kL, kC] <;> rfl) ⟨_, _, by simp only [kE]; rfl⟩ (by first | (simp [V.labelsL, V.labelsLL, V.labels, zz, zf, zy]; done) | (intro h; (simp [V.labelsL, V.labels, V.labelsLL, zz, zf, zy] at h))) (fun W hW hF => by have f0 := far0 hW (fun h => by omega); have p9 := fun i o e => hW.ptr 0 i o e (by omega); have wd := hW.far (.sl 5 13 0 d) (fun y hy h => by (simp only [V.labels, List.mem_cons] at hy); (rcases hy with hy | hy); omega; (have := h4 y hy; omega)); have we := hW.far (.sl 6 9 0 e) (fun y hy h => by (simp only [V.labels, List.mem_cons] at hy); (rcases hy with hy | hy); omega; (have := g4 y hy; omega)); have wn := hW.far (.sl 3 2 0 (p.net.map cLetter)) (fun y hy h => by simp [V.labels, V.labelsLL, zz, zf, zy] at hy; omega); have w8_2 := hW.far (.sl 0 1 0 ((p.syncs[e.length]).link.way.map cS)) (fun z hz h => by have h0 : z = 0 := (show ∀ z ∈ V.labels (.sl 0 1 0 ((p.syncs[e.length]).link.way.map cS)), z = 0 by simp [V.labels, zz, zf, zy]) z hz; omega); have w8_6 := hW.far (.sl 0 1 0 ((p.syncs[e.length]).pieces.map cS)) (fun z hz h => by have h0 : z = 0 := (show ∀ z ∈ V.labels (.sl 0 1 0 ((p.syncs[e.length]).pieces.map cS)), z = 0 by simp [V.labels, zz, zf, zy]) z hz; omega); have p0 := fun i o e => hW.ptr (1) i o e (by omega);  have p1 := fun i o e => hW.ptr (2) i o e (by omega);  have p2 := fun i o e => hW.ptr (4) i o e (by omega); simp only [List.map_cons, List.map_nil, hW.int, hW.str, hW.bool, hW.any, hW.tup0, hW.agg, hW.nilV, hF.ptr, f0, p9, cSync, wd, we, wn, w8_2, w8_6, p0, p1, p2, kP] <;> rfl) ?_
   refine ON ?_
   refine Ok.drop [35, 36] (by simp only [kover] <;> rfl) ?_
   refine Ok.drawn 5 46 [] (by kernel_rfl) (by kernel_rfl) rfl ?_
   iterate 3 (refine SV ?_)
   obtain ⟨L2b, e2b, L6b, e6b, hXb, q2b, E2b, M2b, N2b, q6b, E6b, M6b, N6b, ndb, rgb⟩ := ownSync (kk + 1) (p.syncs[e.length])
   obtain ⟨mb, hmb⟩ : ∃ m, kk + 1 + 1 + V.cnt (.agg (cSync (p.syncs[e.length]))) = m + 1 := ⟨kk + 1 + V.cnt (.agg (cSync (p.syncs[e.length]))), by omega⟩
   have r2b : ∀ z ∈ V.labels (.sl (L2b + 1) 1 0 e2b), kk + 1 + 1 ≤ z ∧ z < mb + 1 := fun z hz => by have := rgb z (by first | exact hz | (simp only [V.labelsL, V.labels, List.mem_append] at hz ⊢; simp only [hz, true_or, or_true])); omega
   have r6b : ∀ z ∈ V.labels (.sl (L6b + 1) 1 0 e6b), kk + 1 + 1 ≤ z ∧ z < mb + 1 := fun z hz => by have := rgb z (by first | exact hz | (simp only [V.labelsL, V.labels, List.mem_append] at hz ⊢; simp only [hz, true_or, or_true])); omega
   refine SOps.S' rfl (OpS.pureM rfl (by simp only [kE, kT, kL, kC] <;> rfl) (by simp only [kE, kT, kL, kC, V.eraseL, V.erase, V.travL, V.trav, zz, zf, zy] <;> rfl) cl94 (by simp [V.dat, V.datL, V.datLL, zz, zf, zy]) (p_impl_copySync p.syncs[e.length] (h.2.1.2 _ (List.getElem_mem hi)))) hmb (by simp only [kP, hXb] <;> rfl) ?_
   refine SOps.ev tab_ok rfl (ev_bs (by simp only [kT] <;> rfl) (by simp only [kT] <;> rfl) (by decide) (by decide) (by simp only [kE, kT, kL, kC, List.map_cons, List.map_nil] <;> rfl) (by simp only [kfe, beq_self_eq_true, Bool.and_true, Bool.true_and, decide_true, Nat.zero_add, Nat.lt_add_one, Nat.reduceLT, Nat.reduceAdd, Nat.zero_lt_succ, if_true, ↓reduceIte] <;> rfl)) (by simp only [kP] <;> rfl) ?_
   refine SOps.nil ?_
   refine TOps.appendN tab_ok rfl rfl (by simp only [kT] <;> rfl) (by simp only [kT] <;> rfl) (by decide) rfl (by simp only [kE, kT, kL, kC] <;> rfl) (.inl ⟨_, _, by simp only [kE, kT, kL, kC] <;> rfl⟩) (by omega) (by omega) (by simp only [List.length_cons, List.length_nil]; have := h.2.1.1; omega) (by simp only [List.length_cons, List.length_nil]; have := h.2.1.1; omega) (by simp [V.one]) (by intro h; have u2b : ¬ (6 = L2b + 1) := (fun h => (by (have := r2b _ (List.mem_cons_self ..)); omega)); have v2b : ¬ (6 ∈ V.labelsLL e2b) := (fun h => (by (have := r2b _ (List.mem_cons_of_mem _ h)); omega)); have u6b : ¬ (6 = L6b + 1) := (fun h => (by (have := r6b _ (List.mem_cons_self ..)); omega)); have v6b : ¬ (6 ∈ V.labelsLL e6b) := (fun h => (by (have := r6b _ (List.mem_cons_of_mem _ h)); omega)); have une : ¬ (6 ∈ V.labelsLL e) := (fun h => (by (have := g4 _ h); omega)); (revert h; show ¬ _; simp [labelsLL_app, V.labelsLL, V.labelsL, V.labels, zz, zf, zy, u2b, v2b, u6b, v6b, une] <;> omega)) (fun W hW hF => by obtain ⟨z2b, zz2b⟩ := farA hW r2b (fun y h1 h2 h => by omega); obtain ⟨z6b, zz6b⟩ := farA hW r6b (fun y h1 h2 h => by omega); have f0 := far0 hW (fun h => by omega); have p9 := fun i o e => hW.ptr 0 i o e (by omega); have p8 := fun sz o e => hW.sl (mb + 1) sz o e (by omega); have wd := hW.far (.sl 5 13 0 d) (fun y hy h => by (simp only [V.labels, List.mem_cons] at hy); (rcases hy with hy | hy); omega; (have := h4 y hy; omega)); have wn := hW.far (.sl 3 2 0 (p.net.map cLetter)) (fun y hy h => by simp [V.labels, V.labelsLL, zz, zf, zy] at hy; omega); have w8_2 := hW.far (.sl 0 1 0 ((p.syncs[e.length]).link.way.map cS)) (fun z hz h => by have h0 : z = 0 := (show ∀ z ∈ V.labels (.sl 0 1 0 ((p.syncs[e.length]).link.way.map cS)), z = 0 by simp [V.labels, zz, zf, zy]) z hz; omega); have w8_6 := hW.far (.sl 0 1 0 ((p.syncs[e.length]).pieces.map cS)) (fun z hz h => by have h0 : z = 0 := (show ∀ z ∈ V.labels (.sl 0 1 0 ((p.syncs[e.length]).pieces.map cS)), z = 0 by simp [V.labels, zz, zf, zy]) z hz; omega); have p0 := fun i o e => hW.ptr (1) i o e (by omega);  have p1 := fun i o e => hW.ptr (2) i o e (by omega);  have p2 := fun i o e => hW.ptr (4) i o e (by omega);  have p3 := fun i o e => hW.ptr (kk + 1) i o e (by omega); simp only [List.map_cons, List.map_nil, hW.int, hW.str, hW.bool, hW.any, hW.tup0, hW.agg, hW.nilV, hF.sl, hF.ptr, z2b, zz2b, z6b, zz6b, f0, p9, p8, cSync, wd, wn, w8_2, w8_6, p0, p1, p2, p3, kP] <;> rfl) ?_
   refine TV ?_
   refine TOps.storeN tab_ok rfl rfl (by simp only [kE, kT, kL, kC] <;> rfl) ⟨_, _, by simp only [kE]; rfl⟩ (by first | (simp [V.labelsL, V.labelsLL, V.labels, zz, zf, zy]; done) | (intro h; have u2b : ¬ (4 = L2b + 1) := (fun h => (by (have := r2b _ (List.mem_cons_self ..)); omega)); have v2b : ¬ (4 ∈ V.labelsLL e2b) := (fun h => (by (have := r2b _ (List.mem_cons_of_mem _ h)); omega)); have u6b : ¬ (4 = L6b + 1) := (fun h => (by (have := r6b _ (List.mem_cons_self ..)); omega)); have v6b : ¬ (4 ∈ V.labelsLL e6b) := (fun h => (by (have := r6b _ (List.mem_cons_of_mem _ h)); omega)); have und : ¬ (4 ∈ V.labelsLL d) := (fun h => (by (have := h4 _ h); omega)); have une : ¬ (4 ∈ V.labelsLL e) := (fun h => (by (have := g4 _ h); omega)); (revert h; show ¬ _; simp [labelsLL_app, V.labelsLL, V.labelsL, V.labels, zz, zf, zy, u2b, v2b, u6b, v6b, und, une] <;> omega))) (fun W hW hF => by obtain ⟨z2b, zz2b⟩ := farA hW r2b (fun y h1 h2 h => by omega); obtain ⟨z6b, zz6b⟩ := farA hW r6b (fun y h1 h2 h => by omega); have f0 := far0 hW (fun h => by omega); have p9 := fun i o e => hW.ptr 0 i o e (by omega); have p8 := fun sz o e => hW.sl (mb + 1) sz o e (by omega); have p7 := fun sz o e => hW.sl 6 sz o e (by omega); have wd := hW.far (.sl 5 13 0 d) (fun y hy h => by (simp only [V.labels, List.mem_cons] at hy); (rcases hy with hy | hy); omega; (have := h4 y hy; omega)); have wn := hW.far (.sl 3 2 0 (p.net.map cLetter)) (fun y hy h => by simp [V.labels, V.labelsLL, zz, zf, zy] at hy; omega); have wle := hW.farLL e (fun y hy h => by have := g4 y hy; omega); have w8_2 := hW.far (.sl 0 1 0 ((p.syncs[e.length]).link.way.map cS)) (fun z hz h => by have h0 : z = 0 := (show ∀ z ∈ V.labels (.sl 0 1 0 ((p.syncs[e.length]).link.way.map cS)), z = 0 by simp [V.labels, zz, zf, zy]) z hz; omega); have w8_6 := hW.far (.sl 0 1 0 ((p.syncs[e.length]).pieces.map cS)) (fun z hz h => by have h0 : z = 0 := (show ∀ z ∈ V.labels (.sl 0 1 0 ((p.syncs[e.length]).pieces.map cS)), z = 0 by simp [V.labels, zz, zf, zy]) z hz; omega); have p0 := fun i o e => hW.ptr (1) i o e (by omega);  have p1 := fun i o e => hW.ptr (2) i o e (by omega);  have p3 := fun i o e => hW.ptr (kk + 1) i o e (by omega); simp only [List.map_cons, List.map_nil, hW.int, hW.str, hW.bool, hW.any, hW.tup0, hW.agg, hW.nilV, hF.ptr, z2b, zz2b, z6b, zz6b, f0, List.map_append, p9, p8, p7, cSync, wd, wn, wle, w8_2, w8_6, p0, p1, p3, kP] <;> rfl) ?_
   refine TOps.nil ?_
   refine Ok.drop [37, 38, 39, 40, 41, 42, 43] (by simp only [kover] <;> rfl) ?_
   refine Ok.region ?_
   iterate 2 (refine EV ?_)
   refine ON ?_
   refine ⟨(e ++ [[.int .i64 (p.syncs[e.length]).epoch, .int .i64 (p.syncs[e.length]).link.epoch, .sl (L2b + 1) 1 0 e2b, .int .i64 (p.syncs[e.length]).link.next, .int .i64 (p.syncs[e.length]).link.want, .int .i64 (p.syncs[e.length]).total, .sl (L6b + 1) 1 0 e6b, .bool (p.syncs[e.length]).done, .bool (p.syncs[e.length]).failed]], mb + 1), ?_, rfl, (by dsimp only; omega), (by obtain ⟨z1, z2, z3, z4, z5⟩ := rows_snocL (k := kk) (m := mb + 1) (c := [.int .i64 (p.syncs[e.length]).epoch, .int .i64 (p.syncs[e.length]).link.epoch, .sl (L2b + 1) 1 0 e2b, .int .i64 (p.syncs[e.length]).link.next, .int .i64 (p.syncs[e.length]).link.want, .int .i64 (p.syncs[e.length]).total, .sl (L6b + 1) 1 0 e6b, .bool (p.syncs[e.length]).done, .bool (p.syncs[e.length]).failed]) (show k + 1 ≤ kk + 1 by omega) hi g2 g3 g4 (by omega) (by omega) (by simp only [V.travL, V.trav, E2b, E6b] <;> rfl) ndb (fun z hz => by have := rgb z hz; omega); exact ⟨z1, z2, z3, z4, by dsimp only; omega⟩), by show p.syncs.length - (e ++ [_]).length < p.syncs.length - e.length; rw [List.length_append]; simp only [List.length_cons, List.length_nil]; omega⟩
   refine ⟨?_, ?_, ?_, ?_, ?_, ?_, ?_, ?_, ?_, ?_, ?_, ?_, ?_, ?_, ?_, ?_, ?_, ?_, ?_, ?_, ?_, ?_, ?_, ?_, ?_, ?_, ?_, ?_, ?_, ?_, ?_, ?_, ?_, ?_, ?_, ?_, ?_, ?_, ?_, ?_, ?_, ?_, ?_, ?_, ?_, ?_, trivial⟩ <;> first | exact le_any _ | with_reducible exact le_rfl' _ | (dsimp only; first | exact le_rfl' _ | (rw [wrap_add_one (by have := h.2.1.1; omega)]; refine le_eqm ?_; simp only [List.length_append, List.length_cons, List.length_nil]; done) | (refine le_eqm ?_; simp only [List.length_append, List.length_cons, List.length_nil, Nat.zero_add]; done)) | exact le_rfl' _
  ·
   try simp only [bsimp] at hb8
   have hi : e.length = p.syncs.length := by omega
   rw [hi, List.take_length] at g2
   refine Ok.exit ?_
   refine Ok.seq ?_
   refine Ok.drop [34] (by simp only [kover] <;> rfl) ?_
   refine Ok.region ?_
   refine EV ?_
   refine OkOps.storeN tab_ok rfl rfl (by simp only [kE, kT, kL, kC] <;> rfl) ⟨_, _, by simp only [kE]; rfl⟩ (by first | (simp [V.labelsL, V.labelsLL, V.labels, zz, zf, zy]; done) | (intro h; have und : ¬ (2 ∈ V.labelsLL d) := (fun h => (by (have := h4 _ h); omega)); have une : ¬ (2 ∈ V.labelsLL e) := (fun h => (by (have := g4 _ h); omega)); (revert h; show ¬ _; simp [labelsLL_app, V.labelsLL, V.labelsL, V.labels, zz, zf, zy, und, une] <;> omega))) (fun W hW hF => by have f0 := far0 hW (fun h => by omega); have p9 := fun i o e => hW.ptr 0 i o e (by omega); have wd := hW.far (.sl 5 13 0 d) (fun y hy h => by (simp only [V.labels, List.mem_cons] at hy); (rcases hy with hy | hy); omega; (have := h4 y hy; omega)); have we := hW.far (.sl 6 9 0 e) (fun y hy h => by (simp only [V.labels, List.mem_cons] at hy); (rcases hy with hy | hy); omega; (have := g4 y hy; omega)); have wn := hW.far (.sl 3 2 0 (p.net.map cLetter)) (fun y hy h => by simp [V.labels, V.labelsLL, zz, zf, zy] at hy; omega); have p0 := fun i o e => hW.ptr (1) i o e (by omega);  have p2 := fun i o e => hW.ptr (4) i o e (by omega); simp only [List.map_cons, List.map_nil, hW.int, hW.str, hW.bool, hW.any, hW.tup0, hW.agg, hW.nilV, hF.ptr, f0, p9, wd, we, wn, p0, p2, kP] <;> rfl) ?_
   refine ON ?_
   refine Ok.ret ?_
   with_reducible repeat (first | refine thenQ_ret ?_ | refine blockQ_ret ?_)
   refine RT ?_
   exact ⟨(by simp only [packV, V.erase, V.trav, V.travL, V.travLL, zz, zf, zy, h2, g2] <;> rfl), (by intro L hL; simp [packV, V.labels, V.labelsL, zz, zf, zy] at hL; rcases hL with hL | hL | hL | hL | hL <;> first | omega | (have := h4 L hL; omega) | (have := g4 L hL; omega)), (by simp only [packV, V.labels, V.labelsL, zz, zf, zy, List.append_nil, List.nil_append]; exact nd_app2 (List.nodup_cons.2 ⟨fun h => by (have := h4 5 h); omega, h3⟩) (nd_app2 (List.nodup_cons.2 ⟨fun h => by (have := g4 6 h); omega, g3⟩) (by simp) (fun y hy h => by simp at h; rcases List.mem_cons.1 hy with hy | hy <;> first | omega | (have := g4 y hy; omega))) (fun y hy h => by have hyy : y = 5 ∨ (7 ≤ y ∧ y < k + 1) := (List.mem_cons.1 hy).imp id (h4 y); simp only [List.mem_append, List.mem_cons, List.not_mem_nil, or_false] at h; rcases h with (h | h) | h <;> first | omega | (have := g4 y h; omega)))⟩
theorem p_spec_l19Copy (p : Pair) (h : smPair p) : Pure Tryz.prog 72 [.agg (cPair p)] (.agg (cPair p)) := by
 refine Pure.of (by simp [V.dat, V.datL, V.datLL, zz, zf, zy]) (OkCall.enter' tab_ok Tryz.func72 rfl (t := [.agg (cPair p), .any, .any, .any, .any, .any, .any, .any, .any, .any, .any, .any, .any, .any, .any, .any, .any, .any, .any, .any, .any, .any, .any, .any, .any, .any, .any, .any, .any, .any, .any, .any, .any, .any, .any, .any, .any, .any, .any, .any, .any, .any, .any, .any, .any, .any, .any, .any, .any, .any]) rfl ?_)
 refine OQ ?_
 iterate 2 (refine EV ?_)
 refine ON ?_
 refine Ok.seq ?_
 refine Ok.drawn 8 50 [] (by kernel_rfl) (by kernel_rfl) rfl ?_
 iterate 5 (refine SV ?_)
 refine SOps.S rfl (ok_append_nil tab_ok (by simp only [kT] <;> rfl) (by simp only [kT] <;> rfl) (by decide) rfl rfl (by simp only [kE, kT, kL, kC] <;> rfl) (.inl ⟨_, _, by simp only [kE, kT, kL, kC] <;> rfl⟩) (by simp only [List.length_map]; have := h.2.2.1; omega) (by simp only [List.length_map]; have := h.2.2.1; omega)) (by simp only [kP, kL] <;> rfl) ?_
 refine SOps.ev tab_ok rfl (by simp [ev1, fillV, kE, kT, kL] <;> first | rfl | exact ⟨rfl, rfl⟩) (by simp only [kP] <;> rfl) ?_
 refine SV ?_
 refine SOps.nil ?_
 refine TOps.storeN tab_ok rfl rfl (by simp only [kE, kT, kL, kC] <;> rfl) ⟨_, _, by simp only [kE]; rfl⟩ (by first | (simp [V.labelsL, V.labelsLL, V.labels, zz, zf, zy]; done) | (intro h; (simp [V.labelsL, V.labels, V.labelsLL, zz, zf, zy] at h))) (fun W hW hF => by have f0 := far0 hW (fun h => by omega); have p9 := fun i o e => hW.ptr 0 i o e (by omega); have wn := hW.far (.sl 3 2 0 (p.net.map cLetter)) (fun y hy h => by simp [V.labels, V.labelsLL, zz, zf, zy] at hy; omega); have p0 := fun i o e => hW.ptr (1) i o e (by omega);  have p1 := fun i o e => hW.ptr (2) i o e (by omega); simp only [List.map_cons, List.map_nil, hW.int, hW.str, hW.bool, hW.any, hW.tup0, hW.agg, hW.nilV, hF.ptr, f0, p9, wn, p0, p1, kP] <;> rfl) ?_
 refine TOps.nil ?_
 refine Ok.seq ?_
 refine Ok.seq ?_
 refine Ok.drop [6, 7, 8, 9, 10, 11, 12] (by simp only [kover] <;> rfl) ?_
 refine Ok.cell (d := 3) [.sl 5 13 0 [], .sl 6 9 0 [], .sl 3 2 0 (p.net.map cLetter), .int .i64 p.epoch] rfl ⟨le_nil 5 _, le_nil 6 _, le_rfl' _, le_rfl' _, trivial⟩ (by simp only [List.set_cons_zero, List.set_cons_succ] <;> rfl) ?_
 refine Ok.region ?_
 refine EV ?_
 refine ON ?_
 refine Ok.block ?_
 refine Ok.loopN (τ := List (List V) × Nat) (fun r => [(3, .ptr 4 0 0 [.sl 5 13 0 r.1, .sl 6 9 0 [], .sl 3 2 0 (p.net.map cLetter), .int .i64 p.epoch]), (4, .int .i64 (r.1.length : Int))]) [13, 14, 15, 16, 17, 18, 19, 20, 21, 22, 23, 24, 25, 26, 27, 28, 29, 30] (fun r => by simp only [kover] <;> rfl) (fun r => r.2 + 1) (fun r => r.1.length ≤ p.servers.length ∧ V.travLL (fun sz => V.sl 0 sz 0 []) (fun _ sz _ es => V.sl 0 sz 0 es) (fun _ _ o e => V.ptr 0 0 o e) r.1 = (p.servers.take r.1.length).map cServer ∧ (V.labelsLL r.1).Nodup ∧ (∀ z ∈ V.labelsLL r.1, 7 ≤ z ∧ z < r.2 + 1) ∧ 6 ≤ r.2) (fun r => p.servers.length - r.1.length) ([], 6) (by refine ⟨?_, ?_, ?_, ?_, ?_, ?_, ?_, ?_, ?_, ?_, ?_, ?_, ?_, ?_, ?_, ?_, ?_, ?_, ?_, ?_, ?_, ?_, ?_, ?_, ?_, ?_, ?_, ?_, ?_, ?_, ?_, ?_, ?_, ?_, ?_, ?_, ?_, ?_, ?_, ?_, ?_, ?_, ?_, ?_, ?_, ?_, ?_, ?_, ?_, ?_, trivial⟩ <;> first | exact le_any _ | with_reducible exact le_rfl' _ | (first | exact le_rfl' _ | exact le_nil 1 13) | exact le_rfl' _) (by decide) (⟨Nat.zero_le _, rfl, List.nodup_nil, (fun z hz => by cases hz), Nat.le_refl _⟩) ?_
 rintro ⟨d, k⟩ ⟨h1, h2, h3, h4, h5⟩
 have h1 : d.length ≤ p.servers.length := h1
 have h2 : V.travLL (fun sz => V.sl 0 sz 0 []) (fun _ sz _ es => V.sl 0 sz 0 es) (fun _ _ o e => V.ptr 0 0 o e) d = (p.servers.take d.length).map cServer := h2
 have h3 : (V.labelsLL d).Nodup := h3
 have h4 : ∀ z ∈ V.labelsLL d, 7 ≤ z ∧ z < k + 1 := h4
 have h5 : 6 ≤ k := h5
 refine Ok.seq ?_
 refine OQ ?_
 iterate 5 (refine EV ?_)
 refine ON ?_
 refine Ok.cond (b := _) (by simp only [kE, kT, kL, kC] <;> rfl) (fun hb3 => ?_) (fun hb3 => ?_)
 ·
  try simp only [bsimp] at hb3
  have hi : d.length < p.servers.length := by omega
  refine Ok.skip ?_
  refine Ok.seq ?_
  refine Ok.block ?_
  refine Ok.drop [13, 14, 15, 16, 17] (by simp only [kover] <;> rfl) ?_
  refine Ok.drawn 9 50 [] (by kernel_rfl) (by kernel_rfl) rfl ?_
  iterate 5 (refine SV ?_)
  refine SOps.ev tab_ok rfl (ev_idx_map (by simp only [kE, kT, kL, kC] <;> rfl) (by simp only [kE, kT, kL, kC] <;> rfl) (by omega) (by simp only [kE, kT, kL, kC] <;> rfl)) (by simp only [kP] <;> rfl) ?_
  refine SV ?_
  obtain ⟨L2a, e2a, L3a, e3a, L11a, e11a, hXa, q2a, E2a, M2a, N2a, q3a, E3a, M3a, N3a, q11a, E11a, M11a, N11a, nda, rga⟩ := ownServer (k) (p.servers[d.length])
  obtain ⟨ma, hma⟩ : ∃ m, k + 1 + V.cnt (.agg (cServer (p.servers[d.length]))) = m + 1 := ⟨k + V.cnt (.agg (cServer (p.servers[d.length]))), by omega⟩
  have r2a : ∀ z ∈ V.labels (.sl (L2a + 1) 7 0 e2a), k + 1 ≤ z ∧ z < ma + 1 := fun z hz => by have := rga z (by first | exact hz | (simp only [V.labelsL, V.labels, List.mem_append] at hz ⊢; simp only [hz, true_or, or_true])); omega
  have r3a : ∀ z ∈ V.labels (.sl (L3a + 1) 1 0 e3a), k + 1 ≤ z ∧ z < ma + 1 := fun z hz => by have := rga z (by first | exact hz | (simp only [V.labelsL, V.labels, List.mem_append] at hz ⊢; simp only [hz, true_or, or_true])); omega
  have r11a : ∀ z ∈ V.labels (.sl (L11a + 1) 1 0 e11a), k + 1 ≤ z ∧ z < ma + 1 := fun z hz => by have := rga z (by first | exact hz | (simp only [V.labelsL, V.labels, List.mem_append] at hz ⊢; simp only [hz, true_or, or_true])); omega
  refine SOps.S' rfl (OpS.pureM rfl (by simp only [kE, kT, kL, kC] <;> rfl) (by simp only [kE, kT, kL, kC, V.eraseL, V.erase, V.travL, V.trav, zz, zf, zy] <;> rfl) cl132 (by simp [V.dat, V.datL, V.datLL, zz, zf, zy]) (p_spec_l16Copy p.servers[d.length] (h.1.2 _ (List.getElem_mem hi)))) hma (by simp only [kP, hXa] <;> rfl) ?_
  refine SOps.ev tab_ok rfl (ev_bs (by simp only [kT] <;> rfl) (by simp only [kT] <;> rfl) (by decide) (by decide) (by simp only [kE, kT, kL, kC, List.map_cons, List.map_nil] <;> rfl) (by simp only [kfe, beq_self_eq_true, Bool.and_true, Bool.true_and, decide_true, Nat.zero_add, Nat.lt_add_one, Nat.reduceLT, Nat.reduceAdd, Nat.zero_lt_succ, if_true, ↓reduceIte] <;> rfl)) (by simp only [kP] <;> rfl) ?_
  refine SOps.nil ?_
  refine TOps.appendN tab_ok rfl rfl (by simp only [kT] <;> rfl) (by simp only [kT] <;> rfl) (by decide) rfl (by simp only [kE, kT, kL, kC] <;> rfl) (.inl ⟨_, _, by simp only [kE, kT, kL, kC] <;> rfl⟩) (by omega) (by omega) (by simp only [List.length_cons, List.length_nil]; have := h.1.1; omega) (by simp only [List.length_cons, List.length_nil]; have := h.1.1; omega) (by simp [V.one]) (by intro h; have u2a : ¬ (5 = L2a + 1) := (fun h => (by (have := r2a _ (List.mem_cons_self ..)); omega)); have v2a : ¬ (5 ∈ V.labelsLL e2a) := (fun h => (by (have := r2a _ (List.mem_cons_of_mem _ h)); omega)); have u3a : ¬ (5 = L3a + 1) := (fun h => (by (have := r3a _ (List.mem_cons_self ..)); omega)); have v3a : ¬ (5 ∈ V.labelsLL e3a) := (fun h => (by (have := r3a _ (List.mem_cons_of_mem _ h)); omega)); have u11a : ¬ (5 = L11a + 1) := (fun h => (by (have := r11a _ (List.mem_cons_self ..)); omega)); have v11a : ¬ (5 ∈ V.labelsLL e11a) := (fun h => (by (have := r11a _ (List.mem_cons_of_mem _ h)); omega)); have und : ¬ (5 ∈ V.labelsLL d) := (fun h => (by (have := h4 _ h); omega)); (revert h; show ¬ _; simp [labelsLL_app, V.labelsLL, V.labelsL, V.labels, zz, zf, zy, u2a, v2a, u3a, v3a, u11a, v11a, und] <;> omega)) (fun W hW hF => by obtain ⟨z2a, zz2a⟩ := farA hW r2a (fun y h1 h2 h => by omega); obtain ⟨z3a, zz3a⟩ := farA hW r3a (fun y h1 h2 h => by omega); obtain ⟨z11a, zz11a⟩ := farA hW r11a (fun y h1 h2 h => by omega); have f0 := far0 hW (fun h => by omega); have p9 := fun i o e => hW.ptr 0 i o e (by omega); have p8 := fun sz o e => hW.sl (ma + 1) sz o e (by omega); have we := hW.far (.sl 6 9 0 []) (fun y hy h => by simp [V.labels, V.labelsLL, zz, zf, zy] at hy; omega); have wn := hW.far (.sl 3 2 0 (p.net.map cLetter)) (fun y hy h => by simp [V.labels, V.labelsLL, zz, zf, zy] at hy; omega); have w8_2 := hW.far (.sl 0 7 0 ((p.servers[d.length]).kept.store.boxes.map cBox)) (fun z hz h => by have h0 : z = 0 := (show ∀ z ∈ V.labels (.sl 0 7 0 ((p.servers[d.length]).kept.store.boxes.map cBox)), z = 0 by simp [V.labels, zz, zf, zy]) z hz; omega); have w8_3 := hW.far (.sl 0 1 0 ((p.servers[d.length]).kept.store.gone.map cZ)) (fun z hz h => by have h0 : z = 0 := (show ∀ z ∈ V.labels (.sl 0 1 0 ((p.servers[d.length]).kept.store.gone.map cZ)), z = 0 by simp [V.labels, zz, zf, zy]) z hz; omega); have w8_11 := hW.far (.sl 0 1 0 ((p.servers[d.length]).session.view.map cZ)) (fun z hz h => by have h0 : z = 0 := (show ∀ z ∈ V.labels (.sl 0 1 0 ((p.servers[d.length]).session.view.map cZ)), z = 0 by simp [V.labels, zz, zf, zy]) z hz; omega); have p0 := fun i o e => hW.ptr (1) i o e (by omega);  have p1 := fun i o e => hW.ptr (2) i o e (by omega);  have p2 := fun i o e => hW.ptr (4) i o e (by omega); simp only [List.map_cons, List.map_nil, hW.int, hW.str, hW.bool, hW.any, hW.tup0, hW.agg, hW.nilV, hF.sl, hF.ptr, z2a, zz2a, z3a, zz3a, z11a, zz11a, f0, p9, p8, cServer, we, wn, w8_2, w8_3, w8_11, p0, p1, p2, kP] <;> rfl) ?_
  refine TV ?_
  refine TOps.storeN tab_ok rfl rfl (by simp only [kE, kT, kL, kC] <;> rfl) ⟨_, _, by simp only [kE]; rfl⟩ (by first | (simp [V.labelsL, V.labelsLL, V.labels, zz, zf, zy]; done) | (intro h; have u2a : ¬ (4 = L2a + 1) := (fun h => (by (have := r2a _ (List.mem_cons_self ..)); omega)); have v2a : ¬ (4 ∈ V.labelsLL e2a) := (fun h => (by (have := r2a _ (List.mem_cons_of_mem _ h)); omega)); have u3a : ¬ (4 = L3a + 1) := (fun h => (by (have := r3a _ (List.mem_cons_self ..)); omega)); have v3a : ¬ (4 ∈ V.labelsLL e3a) := (fun h => (by (have := r3a _ (List.mem_cons_of_mem _ h)); omega)); have u11a : ¬ (4 = L11a + 1) := (fun h => (by (have := r11a _ (List.mem_cons_self ..)); omega)); have v11a : ¬ (4 ∈ V.labelsLL e11a) := (fun h => (by (have := r11a _ (List.mem_cons_of_mem _ h)); omega)); have und : ¬ (4 ∈ V.labelsLL d) := (fun h => (by (have := h4 _ h); omega)); (revert h; show ¬ _; simp [labelsLL_app, V.labelsLL, V.labelsL, V.labels, zz, zf, zy, u2a, v2a, u3a, v3a, u11a, v11a, und] <;> omega))) (fun W hW hF => by obtain ⟨z2a, zz2a⟩ := farA hW r2a (fun y h1 h2 h => by omega); obtain ⟨z3a, zz3a⟩ := farA hW r3a (fun y h1 h2 h => by omega); obtain ⟨z11a, zz11a⟩ := farA hW r11a (fun y h1 h2 h => by omega); have f0 := far0 hW (fun h => by omega); have p9 := fun i o e => hW.ptr 0 i o e (by omega); have p8 := fun sz o e => hW.sl (ma + 1) sz o e (by omega); have p7 := fun sz o e => hW.sl 5 sz o e (by omega); have we := hW.far (.sl 6 9 0 []) (fun y hy h => by simp [V.labels, V.labelsLL, zz, zf, zy] at hy; omega); have wn := hW.far (.sl 3 2 0 (p.net.map cLetter)) (fun y hy h => by simp [V.labels, V.labelsLL, zz, zf, zy] at hy; omega); have wld := hW.farLL d (fun y hy h => by have := h4 y hy; omega); have w8_2 := hW.far (.sl 0 7 0 ((p.servers[d.length]).kept.store.boxes.map cBox)) (fun z hz h => by have h0 : z = 0 := (show ∀ z ∈ V.labels (.sl 0 7 0 ((p.servers[d.length]).kept.store.boxes.map cBox)), z = 0 by simp [V.labels, zz, zf, zy]) z hz; omega); have w8_3 := hW.far (.sl 0 1 0 ((p.servers[d.length]).kept.store.gone.map cZ)) (fun z hz h => by have h0 : z = 0 := (show ∀ z ∈ V.labels (.sl 0 1 0 ((p.servers[d.length]).kept.store.gone.map cZ)), z = 0 by simp [V.labels, zz, zf, zy]) z hz; omega); have w8_11 := hW.far (.sl 0 1 0 ((p.servers[d.length]).session.view.map cZ)) (fun z hz h => by have h0 : z = 0 := (show ∀ z ∈ V.labels (.sl 0 1 0 ((p.servers[d.length]).session.view.map cZ)), z = 0 by simp [V.labels, zz, zf, zy]) z hz; omega); have p0 := fun i o e => hW.ptr (1) i o e (by omega);  have p1 := fun i o e => hW.ptr (2) i o e (by omega); simp only [List.map_cons, List.map_nil, hW.int, hW.str, hW.bool, hW.any, hW.tup0, hW.agg, hW.nilV, hF.ptr, z2a, zz2a, z3a, zz3a, z11a, zz11a, f0, List.map_append, p9, p8, p7, cServer, we, wn, wld, w8_2, w8_3, w8_11, p0, p1, kP] <;> rfl) ?_
  refine TOps.nil ?_
  refine Ok.drop [20, 21, 22, 23, 24, 25, 26, 27, 28, 29, 30] (by simp only [kover] <;> rfl) ?_
  refine Ok.region ?_
  iterate 3 (refine EV ?_)
  refine ON ?_
  refine ⟨(d ++ [[.int .i64 (p.servers[d.length]).kept.store.by_, .int .i64 (p.servers[d.length]).kept.store.time, .sl (L2a + 1) 7 0 e2a, .sl (L3a + 1) 1 0 e3a, .str (p.servers[d.length]).kept.journal, .int .i64 (p.servers[d.length]).kept.saved, .str (p.servers[d.length]).session.inn, .str (p.servers[d.length]).session.out, .bool (p.servers[d.length]).session.on, .bool (p.servers[d.length]).session.over, .int .i64 (p.servers[d.length]).session.box, .sl (L11a + 1) 1 0 e11a, .bool (p.servers[d.length]).up]], ma + 1), ?_, rfl, (by dsimp only; omega), (by obtain ⟨z1, z2, z3, z4, z5⟩ := rows_snocL (k := k) (m := ma + 1) (c := [.int .i64 (p.servers[d.length]).kept.store.by_, .int .i64 (p.servers[d.length]).kept.store.time, .sl (L2a + 1) 7 0 e2a, .sl (L3a + 1) 1 0 e3a, .str (p.servers[d.length]).kept.journal, .int .i64 (p.servers[d.length]).kept.saved, .str (p.servers[d.length]).session.inn, .str (p.servers[d.length]).session.out, .bool (p.servers[d.length]).session.on, .bool (p.servers[d.length]).session.over, .int .i64 (p.servers[d.length]).session.box, .sl (L11a + 1) 1 0 e11a, .bool (p.servers[d.length]).up]) (show 7 ≤ k + 1 by omega) hi h2 h3 h4 (by omega) (by omega) (by simp only [V.travL, V.trav, E2a, E3a, E11a] <;> rfl) nda (fun z hz => by have := rga z hz; omega); exact ⟨z1, z2, z3, z4, by dsimp only; omega⟩), by show p.servers.length - (d ++ [_]).length < p.servers.length - d.length; rw [List.length_append]; simp only [List.length_cons, List.length_nil]; omega⟩
  refine ⟨?_, ?_, ?_, ?_, ?_, ?_, ?_, ?_, ?_, ?_, ?_, ?_, ?_, ?_, ?_, ?_, ?_, ?_, ?_, ?_, ?_, ?_, ?_, ?_, ?_, ?_, ?_, ?_, ?_, ?_, ?_, ?_, ?_, ?_, ?_, ?_, ?_, ?_, ?_, ?_, ?_, ?_, ?_, ?_, ?_, ?_, ?_, ?_, ?_, ?_, trivial⟩ <;> first | exact le_any _ | with_reducible exact le_rfl' _ | (dsimp only; first | exact le_rfl' _ | (rw [wrap_add_one (by have := h.1.1; omega)]; refine le_eqm ?_; simp only [List.length_append, List.length_cons, List.length_nil]; done) | (refine le_eqm ?_; simp only [List.length_append, List.length_cons, List.length_nil, Nat.zero_add]; done)) | exact le_rfl' _
 ·
  try simp only [bsimp] at hb3
  have hi : d.length = p.servers.length := by omega
  rw [hi, List.take_length] at h2
  refine Ok.exit ?_
  refine Ok.seq ?_
  refine Ok.seq ?_
  refine Ok.drop [13, 14, 15, 16, 17] (by simp only [kover] <;> rfl) ?_
  refine Ok.region ?_
  refine EV ?_
  refine ON ?_
  refine Ok.block ?_
  refine Ok.loopN (τ := List (List V) × Nat) (fun r => [(3, .ptr 4 0 0 [.sl 5 13 0 d, .sl 6 9 0 r.1, .sl 3 2 0 (p.net.map cLetter), .int .i64 p.epoch]), (5, .int .i64 (r.1.length : Int))]) [31, 32, 33, 34, 35, 36, 37, 38, 39, 40, 41, 42, 43, 44, 45, 46, 47, 48] (fun r => by simp only [kover] <;> rfl) (fun r => r.2 + 1) (fun r => r.1.length ≤ p.syncs.length ∧ V.travLL (fun sz => V.sl 0 sz 0 []) (fun _ sz _ es => V.sl 0 sz 0 es) (fun _ _ o e => V.ptr 0 0 o e) r.1 = (p.syncs.take r.1.length).map cSync ∧ (V.labelsLL r.1).Nodup ∧ (∀ z ∈ V.labelsLL r.1, k + 1 ≤ z ∧ z < r.2 + 1) ∧ k ≤ r.2) (fun r => p.syncs.length - r.1.length) ([], k) (by refine ⟨?_, ?_, ?_, ?_, ?_, ?_, ?_, ?_, ?_, ?_, ?_, ?_, ?_, ?_, ?_, ?_, ?_, ?_, ?_, ?_, ?_, ?_, ?_, ?_, ?_, ?_, ?_, ?_, ?_, ?_, ?_, ?_, ?_, ?_, ?_, ?_, ?_, ?_, ?_, ?_, ?_, ?_, ?_, ?_, ?_, ?_, ?_, ?_, ?_, ?_, trivial⟩ <;> first | exact le_any _ | with_reducible exact le_rfl' _ | (first | exact le_rfl' _ | exact le_nil 1 9) | exact le_rfl' _) (Nat.le_refl _) (⟨Nat.zero_le _, rfl, List.nodup_nil, (fun z hz => by cases hz), Nat.le_refl _⟩) ?_
  rintro ⟨e, kk⟩ ⟨g1, g2, g3, g4, g5⟩
  have g1 : e.length ≤ p.syncs.length := g1
  have g2 : V.travLL (fun sz => V.sl 0 sz 0 []) (fun _ sz _ es => V.sl 0 sz 0 es) (fun _ _ o e => V.ptr 0 0 o e) e = (p.syncs.take e.length).map cSync := g2
  have g3 : (V.labelsLL e).Nodup := g3
  have g4 : ∀ z ∈ V.labelsLL e, k + 1 ≤ z ∧ z < kk + 1 := g4
  have g5 : k ≤ kk := g5
  refine Ok.seq ?_
  refine OQ ?_
  iterate 5 (refine EV ?_)
  refine ON ?_
  refine Ok.cond (b := _) (by simp only [kE, kT, kL, kC] <;> rfl) (fun hb7 => ?_) (fun hb7 => ?_)
  ·
   try simp only [bsimp] at hb7
   have hi : e.length < p.syncs.length := by omega
   refine Ok.skip ?_
   refine Ok.seq ?_
   refine Ok.block ?_
   refine Ok.drop [31, 32, 33, 34, 35] (by simp only [kover] <;> rfl) ?_
   refine Ok.drawn 9 50 [] (by kernel_rfl) (by kernel_rfl) rfl ?_
   iterate 5 (refine SV ?_)
   refine SOps.ev tab_ok rfl (ev_idx_map (by simp only [kE, kT, kL, kC] <;> rfl) (by simp only [kE, kT, kL, kC] <;> rfl) (by omega) (by simp only [kE, kT, kL, kC] <;> rfl)) (by simp only [kP] <;> rfl) ?_
   refine SV ?_
   obtain ⟨L2b, e2b, L6b, e6b, hXb, q2b, E2b, M2b, N2b, q6b, E6b, M6b, N6b, ndb, rgb⟩ := ownSync (kk) (p.syncs[e.length])
   obtain ⟨mb, hmb⟩ : ∃ m, kk + 1 + V.cnt (.agg (cSync (p.syncs[e.length]))) = m + 1 := ⟨kk + V.cnt (.agg (cSync (p.syncs[e.length]))), by omega⟩
   have r2b : ∀ z ∈ V.labels (.sl (L2b + 1) 1 0 e2b), kk + 1 ≤ z ∧ z < mb + 1 := fun z hz => by have := rgb z (by first | exact hz | (simp only [V.labelsL, V.labels, List.mem_append] at hz ⊢; simp only [hz, true_or, or_true])); omega
   have r6b : ∀ z ∈ V.labels (.sl (L6b + 1) 1 0 e6b), kk + 1 ≤ z ∧ z < mb + 1 := fun z hz => by have := rgb z (by first | exact hz | (simp only [V.labelsL, V.labels, List.mem_append] at hz ⊢; simp only [hz, true_or, or_true])); omega
   refine SOps.S' rfl (OpS.pureM rfl (by simp only [kE, kT, kL, kC] <;> rfl) (by simp only [kE, kT, kL, kC, V.eraseL, V.erase, V.travL, V.trav, zz, zf, zy] <;> rfl) cl109 (by simp [V.dat, V.datL, V.datLL, zz, zf, zy]) (p_spec_l18Copy p.syncs[e.length] (h.2.1.2 _ (List.getElem_mem hi)))) hmb (by simp only [kP, hXb] <;> rfl) ?_
   refine SOps.ev tab_ok rfl (ev_bs (by simp only [kT] <;> rfl) (by simp only [kT] <;> rfl) (by decide) (by decide) (by simp only [kE, kT, kL, kC, List.map_cons, List.map_nil] <;> rfl) (by simp only [kfe, beq_self_eq_true, Bool.and_true, Bool.true_and, decide_true, Nat.zero_add, Nat.lt_add_one, Nat.reduceLT, Nat.reduceAdd, Nat.zero_lt_succ, if_true, ↓reduceIte] <;> rfl)) (by simp only [kP] <;> rfl) ?_
   refine SOps.nil ?_
   refine TOps.appendN tab_ok rfl rfl (by simp only [kT] <;> rfl) (by simp only [kT] <;> rfl) (by decide) rfl (by simp only [kE, kT, kL, kC] <;> rfl) (.inl ⟨_, _, by simp only [kE, kT, kL, kC] <;> rfl⟩) (by omega) (by omega) (by simp only [List.length_cons, List.length_nil]; have := h.2.1.1; omega) (by simp only [List.length_cons, List.length_nil]; have := h.2.1.1; omega) (by simp [V.one]) (by intro h; have u2b : ¬ (6 = L2b + 1) := (fun h => (by (have := r2b _ (List.mem_cons_self ..)); omega)); have v2b : ¬ (6 ∈ V.labelsLL e2b) := (fun h => (by (have := r2b _ (List.mem_cons_of_mem _ h)); omega)); have u6b : ¬ (6 = L6b + 1) := (fun h => (by (have := r6b _ (List.mem_cons_self ..)); omega)); have v6b : ¬ (6 ∈ V.labelsLL e6b) := (fun h => (by (have := r6b _ (List.mem_cons_of_mem _ h)); omega)); have une : ¬ (6 ∈ V.labelsLL e) := (fun h => (by (have := g4 _ h); omega)); (revert h; show ¬ _; simp [labelsLL_app, V.labelsLL, V.labelsL, V.labels, zz, zf, zy, u2b, v2b, u6b, v6b, une] <;> omega)) (fun W hW hF => by obtain ⟨z2b, zz2b⟩ := farA hW r2b (fun y h1 h2 h => by omega); obtain ⟨z6b, zz6b⟩ := farA hW r6b (fun y h1 h2 h => by omega); have f0 := far0 hW (fun h => by omega); have p9 := fun i o e => hW.ptr 0 i o e (by omega); have p8 := fun sz o e => hW.sl (mb + 1) sz o e (by omega); have wd := hW.far (.sl 5 13 0 d) (fun y hy h => by (simp only [V.labels, List.mem_cons] at hy); (rcases hy with hy | hy); omega; (have := h4 y hy; omega)); have wn := hW.far (.sl 3 2 0 (p.net.map cLetter)) (fun y hy h => by simp [V.labels, V.labelsLL, zz, zf, zy] at hy; omega); have w8_2 := hW.far (.sl 0 1 0 ((p.syncs[e.length]).link.way.map cS)) (fun z hz h => by have h0 : z = 0 := (show ∀ z ∈ V.labels (.sl 0 1 0 ((p.syncs[e.length]).link.way.map cS)), z = 0 by simp [V.labels, zz, zf, zy]) z hz; omega); have w8_6 := hW.far (.sl 0 1 0 ((p.syncs[e.length]).pieces.map cS)) (fun z hz h => by have h0 : z = 0 := (show ∀ z ∈ V.labels (.sl 0 1 0 ((p.syncs[e.length]).pieces.map cS)), z = 0 by simp [V.labels, zz, zf, zy]) z hz; omega); have p0 := fun i o e => hW.ptr (1) i o e (by omega);  have p1 := fun i o e => hW.ptr (2) i o e (by omega);  have p2 := fun i o e => hW.ptr (4) i o e (by omega); simp only [List.map_cons, List.map_nil, hW.int, hW.str, hW.bool, hW.any, hW.tup0, hW.agg, hW.nilV, hF.sl, hF.ptr, z2b, zz2b, z6b, zz6b, f0, p9, p8, cSync, wd, wn, w8_2, w8_6, p0, p1, p2, kP] <;> rfl) ?_
   refine TV ?_
   refine TOps.storeN tab_ok rfl rfl (by simp only [kE, kT, kL, kC] <;> rfl) ⟨_, _, by simp only [kE]; rfl⟩ (by first | (simp [V.labelsL, V.labelsLL, V.labels, zz, zf, zy]; done) | (intro h; have u2b : ¬ (4 = L2b + 1) := (fun h => (by (have := r2b _ (List.mem_cons_self ..)); omega)); have v2b : ¬ (4 ∈ V.labelsLL e2b) := (fun h => (by (have := r2b _ (List.mem_cons_of_mem _ h)); omega)); have u6b : ¬ (4 = L6b + 1) := (fun h => (by (have := r6b _ (List.mem_cons_self ..)); omega)); have v6b : ¬ (4 ∈ V.labelsLL e6b) := (fun h => (by (have := r6b _ (List.mem_cons_of_mem _ h)); omega)); have und : ¬ (4 ∈ V.labelsLL d) := (fun h => (by (have := h4 _ h); omega)); have une : ¬ (4 ∈ V.labelsLL e) := (fun h => (by (have := g4 _ h); omega)); (revert h; show ¬ _; simp [labelsLL_app, V.labelsLL, V.labelsL, V.labels, zz, zf, zy, u2b, v2b, u6b, v6b, und, une] <;> omega))) (fun W hW hF => by obtain ⟨z2b, zz2b⟩ := farA hW r2b (fun y h1 h2 h => by omega); obtain ⟨z6b, zz6b⟩ := farA hW r6b (fun y h1 h2 h => by omega); have f0 := far0 hW (fun h => by omega); have p9 := fun i o e => hW.ptr 0 i o e (by omega); have p8 := fun sz o e => hW.sl (mb + 1) sz o e (by omega); have p7 := fun sz o e => hW.sl 6 sz o e (by omega); have wd := hW.far (.sl 5 13 0 d) (fun y hy h => by (simp only [V.labels, List.mem_cons] at hy); (rcases hy with hy | hy); omega; (have := h4 y hy; omega)); have wn := hW.far (.sl 3 2 0 (p.net.map cLetter)) (fun y hy h => by simp [V.labels, V.labelsLL, zz, zf, zy] at hy; omega); have wle := hW.farLL e (fun y hy h => by have := g4 y hy; omega); have w8_2 := hW.far (.sl 0 1 0 ((p.syncs[e.length]).link.way.map cS)) (fun z hz h => by have h0 : z = 0 := (show ∀ z ∈ V.labels (.sl 0 1 0 ((p.syncs[e.length]).link.way.map cS)), z = 0 by simp [V.labels, zz, zf, zy]) z hz; omega); have w8_6 := hW.far (.sl 0 1 0 ((p.syncs[e.length]).pieces.map cS)) (fun z hz h => by have h0 : z = 0 := (show ∀ z ∈ V.labels (.sl 0 1 0 ((p.syncs[e.length]).pieces.map cS)), z = 0 by simp [V.labels, zz, zf, zy]) z hz; omega); have p0 := fun i o e => hW.ptr (1) i o e (by omega);  have p1 := fun i o e => hW.ptr (2) i o e (by omega); simp only [List.map_cons, List.map_nil, hW.int, hW.str, hW.bool, hW.any, hW.tup0, hW.agg, hW.nilV, hF.ptr, z2b, zz2b, z6b, zz6b, f0, List.map_append, p9, p8, p7, cSync, wd, wn, wle, w8_2, w8_6, p0, p1, kP] <;> rfl) ?_
   refine TOps.nil ?_
   refine Ok.drop [38, 39, 40, 41, 42, 43, 44, 45, 46, 47, 48] (by simp only [kover] <;> rfl) ?_
   refine Ok.region ?_
   iterate 3 (refine EV ?_)
   refine ON ?_
   refine ⟨(e ++ [[.int .i64 (p.syncs[e.length]).epoch, .int .i64 (p.syncs[e.length]).link.epoch, .sl (L2b + 1) 1 0 e2b, .int .i64 (p.syncs[e.length]).link.next, .int .i64 (p.syncs[e.length]).link.want, .int .i64 (p.syncs[e.length]).total, .sl (L6b + 1) 1 0 e6b, .bool (p.syncs[e.length]).done, .bool (p.syncs[e.length]).failed]], mb + 1), ?_, rfl, (by dsimp only; omega), (by obtain ⟨z1, z2, z3, z4, z5⟩ := rows_snocL (k := kk) (m := mb + 1) (c := [.int .i64 (p.syncs[e.length]).epoch, .int .i64 (p.syncs[e.length]).link.epoch, .sl (L2b + 1) 1 0 e2b, .int .i64 (p.syncs[e.length]).link.next, .int .i64 (p.syncs[e.length]).link.want, .int .i64 (p.syncs[e.length]).total, .sl (L6b + 1) 1 0 e6b, .bool (p.syncs[e.length]).done, .bool (p.syncs[e.length]).failed]) (show k + 1 ≤ kk + 1 by omega) hi g2 g3 g4 (by omega) (by omega) (by simp only [V.travL, V.trav, E2b, E6b] <;> rfl) ndb (fun z hz => by have := rgb z hz; omega); exact ⟨z1, z2, z3, z4, by dsimp only; omega⟩), by show p.syncs.length - (e ++ [_]).length < p.syncs.length - e.length; rw [List.length_append]; simp only [List.length_cons, List.length_nil]; omega⟩
   refine ⟨?_, ?_, ?_, ?_, ?_, ?_, ?_, ?_, ?_, ?_, ?_, ?_, ?_, ?_, ?_, ?_, ?_, ?_, ?_, ?_, ?_, ?_, ?_, ?_, ?_, ?_, ?_, ?_, ?_, ?_, ?_, ?_, ?_, ?_, ?_, ?_, ?_, ?_, ?_, ?_, ?_, ?_, ?_, ?_, ?_, ?_, ?_, ?_, ?_, ?_, trivial⟩ <;> first | exact le_any _ | with_reducible exact le_rfl' _ | (dsimp only; first | exact le_rfl' _ | (rw [wrap_add_one (by have := h.2.1.1; omega)]; refine le_eqm ?_; simp only [List.length_append, List.length_cons, List.length_nil]; done) | (refine le_eqm ?_; simp only [List.length_append, List.length_cons, List.length_nil, Nat.zero_add]; done)) | exact le_rfl' _
  ·
   try simp only [bsimp] at hb7
   have hi : e.length = p.syncs.length := by omega
   rw [hi, List.take_length] at g2
   refine Ok.exit ?_
   refine Ok.seq ?_
   refine Ok.drop [31, 32, 33, 34, 35] (by simp only [kover] <;> rfl) ?_
   refine Ok.region ?_
   refine EV ?_
   refine OkOps.storeN tab_ok rfl rfl (by simp only [kE, kT, kL, kC] <;> rfl) ⟨_, _, by simp only [kE]; rfl⟩ (by first | (simp [V.labelsL, V.labelsLL, V.labels, zz, zf, zy]; done) | (intro h; have und : ¬ (2 ∈ V.labelsLL d) := (fun h => (by (have := h4 _ h); omega)); have une : ¬ (2 ∈ V.labelsLL e) := (fun h => (by (have := g4 _ h); omega)); (revert h; show ¬ _; simp [labelsLL_app, V.labelsLL, V.labelsL, V.labels, zz, zf, zy, und, une] <;> omega))) (fun W hW hF => by have f0 := far0 hW (fun h => by omega); have p9 := fun i o e => hW.ptr 0 i o e (by omega); have wd := hW.far (.sl 5 13 0 d) (fun y hy h => by (simp only [V.labels, List.mem_cons] at hy); (rcases hy with hy | hy); omega; (have := h4 y hy; omega)); have we := hW.far (.sl 6 9 0 e) (fun y hy h => by (simp only [V.labels, List.mem_cons] at hy); (rcases hy with hy | hy); omega; (have := g4 y hy; omega)); have wn := hW.far (.sl 3 2 0 (p.net.map cLetter)) (fun y hy h => by simp [V.labels, V.labelsLL, zz, zf, zy] at hy; omega); have p0 := fun i o e => hW.ptr (1) i o e (by omega);  have p2 := fun i o e => hW.ptr (4) i o e (by omega); simp only [List.map_cons, List.map_nil, hW.int, hW.str, hW.bool, hW.any, hW.tup0, hW.agg, hW.nilV, hF.ptr, f0, p9, wd, we, wn, p0, p2, kP] <;> rfl) ?_
   refine ON ?_
   refine Ok.ret ?_
   with_reducible repeat (first | refine thenQ_ret ?_ | refine blockQ_ret ?_)
   refine RT ?_
   exact ⟨(by simp only [packV, V.erase, V.trav, V.travL, V.travLL, zz, zf, zy, h2, g2] <;> rfl), (by intro L hL; simp [packV, V.labels, V.labelsL, zz, zf, zy] at hL; rcases hL with hL | hL | hL | hL | hL <;> first | omega | (have := h4 L hL; omega) | (have := g4 L hL; omega)), (by simp only [packV, V.labels, V.labelsL, zz, zf, zy, List.append_nil, List.nil_append]; exact nd_app2 (List.nodup_cons.2 ⟨fun h => by (have := h4 5 h); omega, h3⟩) (nd_app2 (List.nodup_cons.2 ⟨fun h => by (have := g4 6 h); omega, g3⟩) (by simp) (fun y hy h => by simp at h; rcases List.mem_cons.1 hy with hy | hy <;> first | omega | (have := g4 y hy; omega))) (fun y hy h => by have hyy : y = 5 ∨ (7 ≤ y ∧ y < k + 1) := (List.mem_cons.1 hy).imp id (h4 y); simp only [List.mem_append, List.mem_cons, List.not_mem_nil, or_false] at h; rcases h with (h | h) | h <;> first | omega | (have := g4 y h; omega)))⟩
end Go.Proofs.YtjhfabimacljhaaGreat.K

/- Walks: events. Printed by w2.py. -/
namespace Go.Proofs.YtjhfabimacljhaaGreat.K
open Go Go.RowKit
set_option linter.unusedVariables false
set_option linter.unusedSimpArgs false
set_option maxHeartbeats 4000000
set_option maxRecDepth 20000
theorem w_impl_within (x lo hi : Int) : Weak Tryz.prog 124 [.int .i64 x, .int .i64 lo, .int .i64 hi] (.bool (inR x lo hi)) := by
 refine Weak.enter tab_ok Tryz.func124 rfl (.inr (by simp [V.labelsL, V.labels, zz])) (t := [.int .i64 x, .int .i64 lo, .int .i64 hi, .any, .any, .any, .any, .any, .any, .any, .any, .any, .any, .any, .any]) rfl ?_
 refine OQ ?_
 refine EV ?_
 refine ON ?_
 refine OQ ?_
 iterate 4 (refine EV ?_)
 refine OkOps.split (d := 10) (by simp only [kE, kT, kL, kC] <;> rfl) (by simp only [kP] <;> rfl) (by simp only [kP] <;> rfl) (fun hg1_3 => ?_) (fun hg1_3 => ?_)
 ·
  try simp only [bsimp] at hg1_3
  refine OO ?_
  refine EV ?_
  refine OO ?_
  refine EV ?_
  refine OO ?_
  iterate 3 (refine EV ?_)
  refine ON ?_
  refine Ok.ret ?_
  with_reducible repeat (first | refine thenQ_ret ?_ | refine blockQ_ret ?_)
  refine RT ?_
  first | (simp_all [inR, V.erase, V.trav, packV]; done) | (simp_all [inR, V.erase, V.trav, packV] <;> omega)
 ·
  try simp only [bsimp] at hg1_3
  refine OkOps.offU rfl rfl (.inl (by simp only [kE, kT, kL, kC, Bool.not_true, Bool.not_false])) (by simp only [kP] <;> rfl) ?_
  refine OkOps.offU rfl rfl (.inl (by simp only [kE, kT, kL, kC, Bool.not_true, Bool.not_false])) (by simp only [kP] <;> rfl) ?_
  refine OkOps.offU rfl rfl (.inl (by simp only [kE, kT, kL, kC, Bool.not_true, Bool.not_false])) (by simp only [kP] <;> rfl) ?_
  iterate 2 (refine EV ?_)
  refine ON ?_
  refine Ok.ret ?_
  with_reducible repeat (first | refine thenQ_ret ?_ | refine blockQ_ret ?_)
  refine RT ?_
  first | (simp_all [inR, V.erase, V.trav, packV]; done) | (simp_all [inR, V.erase, V.trav, packV] <;> omega)
theorem w_spec_l01In (x lo hi : Int) : Weak Tryz.prog 118 [.int .i64 x, .int .i64 lo, .int .i64 hi] (.bool (inR x lo hi)) := by
 refine Weak.enter tab_ok Tryz.func118 rfl (.inr (by simp [V.labelsL, V.labels, zz])) (t := [.int .i64 x, .int .i64 lo, .int .i64 hi, .any, .any, .any, .any, .any, .any, .any, .any, .any, .any, .any, .any]) rfl ?_
 refine OQ ?_
 refine EV ?_
 refine ON ?_
 refine OQ ?_
 iterate 4 (refine EV ?_)
 refine OkOps.split (d := 10) (by simp only [kE, kT, kL, kC] <;> rfl) (by simp only [kP] <;> rfl) (by simp only [kP] <;> rfl) (fun hg1_3 => ?_) (fun hg1_3 => ?_)
 ·
  try simp only [bsimp] at hg1_3
  refine OO ?_
  refine EV ?_
  refine OO ?_
  refine EV ?_
  refine OO ?_
  iterate 3 (refine EV ?_)
  refine ON ?_
  refine Ok.ret ?_
  with_reducible repeat (first | refine thenQ_ret ?_ | refine blockQ_ret ?_)
  refine RT ?_
  first | (simp_all [inR, V.erase, V.trav, packV]; done) | (simp_all [inR, V.erase, V.trav, packV] <;> omega)
 ·
  try simp only [bsimp] at hg1_3
  refine OkOps.offU rfl rfl (.inl (by simp only [kE, kT, kL, kC, Bool.not_true, Bool.not_false])) (by simp only [kP] <;> rfl) ?_
  refine OkOps.offU rfl rfl (.inl (by simp only [kE, kT, kL, kC, Bool.not_true, Bool.not_false])) (by simp only [kP] <;> rfl) ?_
  refine OkOps.offU rfl rfl (.inl (by simp only [kE, kT, kL, kC, Bool.not_true, Bool.not_false])) (by simp only [kP] <;> rfl) ?_
  iterate 2 (refine EV ?_)
  refine ON ?_
  refine Ok.ret ?_
  with_reducible repeat (first | refine thenQ_ret ?_ | refine blockQ_ret ?_)
  refine RT ?_
  first | (simp_all [inR, V.erase, V.trav, packV]; done) | (simp_all [inR, V.erase, V.trav, packV] <;> omega)
end Go.Proofs.YtjhfabimacljhaaGreat.K
