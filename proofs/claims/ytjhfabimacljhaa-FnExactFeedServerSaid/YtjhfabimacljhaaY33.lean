/- Walks: the copies of the program as data of the call's own, 3. Printed by w2.py. -/
import Derived.Test.YtjhfabimacljhaaY32
namespace Go.Proofs.Ytjhfabimacljhaa.K
open Go Go.RowKit
set_option linter.unusedVariables false
set_option linter.unusedSimpArgs false
set_option maxHeartbeats 4000000
set_option maxRecDepth 20000
theorem p_spec_l07Copy (x : Store) (h : smStore x) : Pure Try.prog 113 [.agg (cStore x)] (.agg (cStore x)) := by
  refine Pure.of (by simp [V.dat, V.datL, V.datLL, zz, zf, zy]) (OkCall.enter' tab_ok Try.func113 rfl (t := [.agg (cStore x), .any, .any, .any, .any, .any, .any, .any, .any, .any, .any, .any, .any, .any, .any, .any, .any, .any, .any, .any, .any, .any, .any, .any, .any, .any, .any, .any, .any, .any, .any, .any]) rfl ?_)
  refine Ok.seq ?_
  refine Ok.region ?_
  iterate 2 (refine OkOps.ev tab_ok rfl (by simp only [kev, ktab, klen, kcv] <;> rfl) (by simp only [kput] <;> rfl) ?_)
  refine OkOps.nil ?_
  refine Ok.seq ?_
  refine Ok.region ?_
  iterate 2 (refine OkOps.ev tab_ok rfl (by simp only [kev, ktab, klen, kcv] <;> rfl) (by simp only [kput] <;> rfl) ?_)
  refine OkOps.storeN tab_ok rfl rfl (by simp only [kev, ktab, klen, kcv] <;> rfl) ⟨_, _, by simp only [kev]; rfl⟩ (by first | (simp [V.labelsL, V.labelsLL, V.labels, zz, zf, zy]; done) | (intro h; (simp [V.labelsL, V.labels, zz, zf, zy] at h))) (fun W hW hF => by have w0_2 := hW.far (.sl 0 7 0 ((x).boxes.map cBox)) (fun y hy h => by have h0 : y = 0 := (show ∀ y ∈ V.labels (.sl 0 7 0 ((x).boxes.map cBox)), y = 0 by simp [V.labels, zz, zf, zy]) y hy; skip; omega); have w0_3 := hW.far (.sl 0 1 0 ((x).gone.map cZ)) (fun y hy h => by have h0 : y = 0 := (show ∀ y ∈ V.labels (.sl 0 1 0 ((x).gone.map cZ)), y = 0 by simp [V.labels, zz, zf, zy]) y hy; skip; omega); have w1_0 := hW.far (.sl 0 7 0 (x.boxes.map cBox)) (fun y hy h => by have h0 : y = 0 := (show ∀ y ∈ V.labels (.sl 0 7 0 (x.boxes.map cBox)), y = 0 by simp [V.labels, zz, zf, zy]) y hy; skip; omega); have p0 := fun i o e => hW.ptr (1) i o e (by omega);  have p1 := fun i o e => hW.ptr (2) i o e (by omega); simp only [List.map_cons, List.map_nil, hW.int, hW.str, hW.bool, hW.any, hW.tup0, hW.agg, hW.nilV, hF.ptr, w0_2, w0_3, w1_0, p0, p1, kput] <;> rfl) ?_
  refine OkOps.nil ?_
  refine Ok.seq ?_
  refine Ok.drop [5] (by simp only [kover] <;> rfl) ?_
  refine Ok.region ?_
  iterate 2 (refine OkOps.ev tab_ok rfl (by simp only [kev, ktab, klen, kcv] <;> rfl) (by simp only [kput] <;> rfl) ?_)
  refine OkOps.storeN tab_ok rfl rfl (by simp only [kev, ktab, klen, kcv] <;> rfl) ⟨_, _, by simp only [kev]; rfl⟩ (by first | (simp [V.labelsL, V.labelsLL, V.labels, zz, zf, zy]; done) | (intro h; (simp [V.labelsL, V.labels, V.labelsLL, zz, zf, zy] at h))) (fun W hW hF => by have w0_2 := hW.far (.sl 0 7 0 ((x).boxes.map cBox)) (fun y hy h => by have h0 : y = 0 := (show ∀ y ∈ V.labels (.sl 0 7 0 ((x).boxes.map cBox)), y = 0 by simp [V.labels, zz, zf, zy]) y hy; skip; omega); have w0_3 := hW.far (.sl 0 1 0 ((x).gone.map cZ)) (fun y hy h => by have h0 : y = 0 := (show ∀ y ∈ V.labels (.sl 0 1 0 ((x).gone.map cZ)), y = 0 by simp [V.labels, zz, zf, zy]) y hy; skip; omega); have w1_0 := hW.far (.sl 0 7 0 (x.boxes.map cBox)) (fun y hy h => by have h0 : y = 0 := (show ∀ y ∈ V.labels (.sl 0 7 0 (x.boxes.map cBox)), y = 0 by simp [V.labels, zz, zf, zy]) y hy; skip; omega); have p0 := fun i o e => hW.ptr (1) i o e (by omega);  have p1 := fun i o e => hW.ptr (2) i o e (by omega); simp only [List.map_cons, List.map_nil, hW.int, hW.str, hW.bool, hW.any, hW.tup0, hW.agg, hW.nilV, hF.ptr, w0_2, w0_3, w1_0, p0, p1, kput] <;> rfl) ?_
  refine OkOps.nil ?_
  refine Ok.seq ?_
  refine Ok.seq ?_
  refine Ok.drop [6, 7] (by simp only [kover] <;> rfl) ?_
  refine Ok.cell (d := 3) [.int .i64 x.by_, .int .i64 x.time, .sl 4 7 0 [], .sl 0 1 0 (x.gone.map cZ)] rfl ⟨le_rfl' _, le_rfl' _, le_nil 4 _, le_rfl' _, trivial⟩ (by simp only [List.set_cons_zero, List.set_cons_succ] <;> rfl) ?_
  refine Ok.region ?_
  refine OkOps.ev tab_ok rfl (by simp only [kev, ktab, klen, kcv] <;> rfl) (by simp only [kput] <;> rfl) ?_
  refine OkOps.nil ?_
  refine Ok.block ?_
  refine Ok.loopN (τ := List (List V) × Nat) (fun r => [(3, .ptr 3 0 0 [.int .i64 x.by_, .int .i64 x.time, .sl 4 7 0 r.1, .sl 0 1 0 (x.gone.map cZ)]), (4, .int .i64 (r.1.length : Int))]) [8, 9, 10, 11, 12, 13, 14, 15, 16, 17, 18, 19, 20, 21, 22, 23, 24, 25] (fun r => by simp only [kover] <;> rfl) (fun r => r.2 + 1) (fun r => r.1.length ≤ x.boxes.length ∧ V.travLL (fun sz => V.sl 0 sz 0 []) (fun _ sz _ es => V.sl 0 sz 0 es) (fun _ _ o e => V.ptr 0 0 o e) r.1 = (x.boxes.take r.1.length).map cBox ∧ (V.labelsLL r.1).Nodup ∧ (∀ z ∈ V.labelsLL r.1, 5 ≤ z ∧ z < r.2 + 1) ∧ 4 ≤ r.2) (fun r => x.boxes.length - r.1.length) ([], 4) (by refine ⟨?_, ?_, ?_, ?_, ?_, ?_, ?_, ?_, ?_, ?_, ?_, ?_, ?_, ?_, ?_, ?_, ?_, ?_, ?_, ?_, ?_, ?_, ?_, ?_, ?_, ?_, ?_, ?_, ?_, ?_, ?_, ?_, trivial⟩ <;> first | exact le_any _ | with_reducible exact le_rfl' _ | (first | exact le_rfl' _ | exact le_nil 1 7) | exact le_rfl' _) (by decide) (⟨Nat.zero_le _, rfl, List.nodup_nil, (fun z hz => by cases hz), Nat.le_refl _⟩) ?_
  rintro ⟨d, k⟩ ⟨h1, h2, h3, h4, h5⟩
  have h1 : d.length ≤ x.boxes.length := h1
  have h2 : V.travLL (fun sz => V.sl 0 sz 0 []) (fun _ sz _ es => V.sl 0 sz 0 es) (fun _ _ o e => V.ptr 0 0 o e) d = (x.boxes.take d.length).map cBox := h2
  have h3 : (V.labelsLL d).Nodup := h3
  have h4 : ∀ z ∈ V.labelsLL d, 5 ≤ z ∧ z < k + 1 := h4
  have h5 : 4 ≤ k := h5
  refine Ok.seq ?_
  refine Ok.seq ?_
  refine Ok.region ?_
  iterate 5 (refine OkOps.ev tab_ok rfl (by simp only [kev, ktab, klen, kcv] <;> rfl) (by simp only [kput] <;> rfl) ?_)
  refine OkOps.nil ?_
  refine Ok.cond (b := _) (by simp only [kev, ktab, klen, kcv] <;> rfl) (fun hb4 => ?_) (fun hb4 => ?_)
  · try simp only [bsimp] at hb4
    have hi : d.length < x.boxes.length := by omega
    refine Ok.skip ?_
    refine Ok.seq ?_
    refine Ok.block ?_
    refine Ok.drop [8, 9, 10, 11, 12] (by simp only [kover] <;> rfl) ?_
    refine Ok.drawn 9 32 [] (by kernel_rfl) (by kernel_rfl) rfl ?_
    refine SOps.ev tab_ok rfl (by simp only [kev, ktab, klen, kcv] <;> rfl) (by simp only [kput] <;> rfl) ?_
    refine SOps.ev tab_ok rfl (by simp only [kev, ktab, klen, kcv] <;> rfl) (by simp only [kput] <;> rfl) ?_
    refine SOps.ev tab_ok rfl (by simp only [kev, ktab, klen, kcv] <;> rfl) (by simp only [kput] <;> rfl) ?_
    refine SOps.ev tab_ok rfl (by simp only [kev, ktab, klen, kcv] <;> rfl) (by simp only [kput] <;> rfl) ?_
    refine SOps.ev tab_ok rfl (by simp only [kev, ktab, klen, kcv] <;> rfl) (by simp only [kput] <;> rfl) ?_
    refine SOps.ev tab_ok rfl (ev_idx_map (by simp only [kev, ktab, klen, kcv] <;> rfl) (by simp only [kev, ktab, klen, kcv] <;> rfl) (by omega) (by simp only [kev, ktab, klen, kcv] <;> rfl)) (by simp only [kput] <;> rfl) ?_
    refine SOps.ev tab_ok rfl (by simp only [kev, ktab, klen, kcv] <;> rfl) (by simp only [kput] <;> rfl) ?_
    obtain ⟨L5a, e5a, L6a, e6a, hXa, q5a, E5a, M5a, N5a, q6a, E6a, M6a, N6a, nda, rga⟩ := ownBox (k) (x.boxes[d.length])
    obtain ⟨ma, hma⟩ : ∃ m, k + 1 + V.cnt (.agg (cBox (x.boxes[d.length]))) = m + 1 := ⟨k + V.cnt (.agg (cBox (x.boxes[d.length]))), by omega⟩
    have r5a : ∀ z ∈ V.labels (.sl (L5a + 1) 4 0 e5a), k + 1 ≤ z ∧ z < ma + 1 := fun z hz => by have := rga z (by first | exact hz | (simp only [V.labelsL, V.labels, List.mem_append] at hz ⊢; simp only [hz, true_or, or_true])); omega
    have r6a : ∀ z ∈ V.labels (.sl (L6a + 1) 1 0 e6a), k + 1 ≤ z ∧ z < ma + 1 := fun z hz => by have := rga z (by first | exact hz | (simp only [V.labelsL, V.labels, List.mem_append] at hz ⊢; simp only [hz, true_or, or_true])); omega
    refine SOps.S' rfl (OpS.pureM rfl (by simp only [kev, ktab, klen, kcv] <;> rfl) (by simp only [kev, ktab, klen, kcv, V.eraseL, V.erase, V.travL, V.trav, zz, zf, zy] <;> rfl) cl134 (by simp [V.dat, V.datL, V.datLL, zz, zf, zy]) (p_spec_l06Copy x.boxes[d.length] (h.1.2 _ (List.getElem_mem hi)))) hma (by simp only [kput, hXa] <;> rfl) ?_
    refine SOps.ev tab_ok rfl (ev_bs (by simp only [ktab] <;> rfl) (by simp only [ktab] <;> rfl) (by decide) (by decide) (by simp only [kev, ktab, klen, kcv, List.map_cons, List.map_nil] <;> rfl) (by simp only [kfe, beq_self_eq_true, Bool.and_true, Bool.true_and, decide_true, Nat.zero_add, Nat.lt_add_one, Nat.reduceLT, Nat.reduceAdd, Nat.zero_lt_succ, if_true, ↓reduceIte] <;> rfl)) (by simp only [kput] <;> rfl) ?_
    refine SOps.nil ?_
    refine TOps.appendN tab_ok rfl rfl (by simp only [ktab] <;> rfl) (by simp only [ktab] <;> rfl) (by decide) rfl (by simp only [kev, ktab, klen, kcv] <;> rfl) (.inl ⟨_, _, by simp only [kev, ktab, klen, kcv] <;> rfl⟩) (by omega) (by omega) (by simp only [List.length_cons, List.length_nil]; have := h.1.1; omega) (by simp only [List.length_cons, List.length_nil]; have := h.1.1; omega) (by simp [V.one]) (by intro h; have u5a : ¬ (4 = L5a + 1) := (fun h => (by (have := r5a _ (List.mem_cons_self ..)); omega)); have v5a : ¬ (4 ∈ V.labelsLL e5a) := (fun h => (by (have := r5a _ (List.mem_cons_of_mem _ h)); omega)); have u6a : ¬ (4 = L6a + 1) := (fun h => (by (have := r6a _ (List.mem_cons_self ..)); omega)); have v6a : ¬ (4 ∈ V.labelsLL e6a) := (fun h => (by (have := r6a _ (List.mem_cons_of_mem _ h)); omega)); have ud : ¬ (4 ∈ V.labelsLL d) := (fun h => (by (have := h4 _ h); omega)); (revert h; show ¬ _; simp [labelsLL_app, V.labelsLL, V.labelsL, V.labels, zz, zf, zy, u5a, v5a, u6a, v6a, ud] <;> omega)) (fun W hW hF => by have z5a := hW.far (.sl (L5a + 1) 4 0 e5a) (fun y hy h => by have := r5a y hy; skip; omega); have zz5a := fun K => hW.far (.sl (L5a + 1) 4 0 (V.mkLL K e5a)) (fun y hy h => by have := r5a y (by simp only [V.labels, mkLL_labels] at hy; exact hy); skip; omega); have z6a := hW.far (.sl (L6a + 1) 1 0 e6a) (fun y hy h => by have := r6a y hy; skip; omega); have zz6a := fun K => hW.far (.sl (L6a + 1) 1 0 (V.mkLL K e6a)) (fun y hy h => by have := r6a y (by simp only [V.labels, mkLL_labels] at hy; exact hy); skip; omega); have w0_2 := hW.far (.sl 0 7 0 ((x).boxes.map cBox)) (fun y hy h => by have h0 : y = 0 := (show ∀ y ∈ V.labels (.sl 0 7 0 ((x).boxes.map cBox)), y = 0 by simp [V.labels, zz, zf, zy]) y hy; skip; omega); have w0_3 := hW.far (.sl 0 1 0 ((x).gone.map cZ)) (fun y hy h => by have h0 : y = 0 := (show ∀ y ∈ V.labels (.sl 0 1 0 ((x).gone.map cZ)), y = 0 by simp [V.labels, zz, zf, zy]) y hy; skip; omega); have w1_0 := hW.far (.sl 0 7 0 (x.boxes.map cBox)) (fun y hy h => by have h0 : y = 0 := (show ∀ y ∈ V.labels (.sl 0 7 0 (x.boxes.map cBox)), y = 0 by simp [V.labels, zz, zf, zy]) y hy; skip; omega); have p9 := fun i o e => hW.ptr 0 i o e (by omega); have p8 := fun sz o e => hW.sl (ma + 1) sz o e (by omega); have w8_5 := hW.far (.sl 0 4 0 ((x.boxes[d.length]).mails.map cMail)) (fun z hz h => by have h0 : z = 0 := (show ∀ z ∈ V.labels (.sl 0 4 0 ((x.boxes[d.length]).mails.map cMail)), z = 0 by simp [V.labels, zz, zf, zy]) z hz; omega); have w8_6 := hW.far (.sl 0 1 0 ((x.boxes[d.length]).gone.map cZ)) (fun z hz h => by have h0 : z = 0 := (show ∀ z ∈ V.labels (.sl 0 1 0 ((x.boxes[d.length]).gone.map cZ)), z = 0 by simp [V.labels, zz, zf, zy]) z hz; omega); have p0 := fun i o e => hW.ptr (1) i o e (by omega);  have p1 := fun i o e => hW.ptr (2) i o e (by omega);  have p2 := fun i o e => hW.ptr (3) i o e (by omega); simp only [List.map_cons, List.map_nil, hW.int, hW.str, hW.bool, hW.any, hW.tup0, hW.agg, hW.nilV, hF.sl, hF.ptr, z5a, zz5a, z6a, zz6a, w0_2, w0_3, w1_0, p9, p8, cBox, w8_5, w8_6, p0, p1, p2, kput] <;> rfl) ?_
    refine TOps.ev tab_ok rfl (by simp only [kev, ktab, klen, kcv] <;> rfl) (by simp only [kput] <;> rfl) ?_
    refine TOps.storeN tab_ok rfl rfl (by simp only [kev, ktab, klen, kcv] <;> rfl) ⟨_, _, by simp only [kev]; rfl⟩ (by first | (simp [V.labelsL, V.labelsLL, V.labels, zz, zf, zy]; done) | (intro h; have u5a : ¬ (3 = L5a + 1) := (fun h => (by (have := r5a _ (List.mem_cons_self ..)); omega)); have v5a : ¬ (3 ∈ V.labelsLL e5a) := (fun h => (by (have := r5a _ (List.mem_cons_of_mem _ h)); omega)); have u6a : ¬ (3 = L6a + 1) := (fun h => (by (have := r6a _ (List.mem_cons_self ..)); omega)); have v6a : ¬ (3 ∈ V.labelsLL e6a) := (fun h => (by (have := r6a _ (List.mem_cons_of_mem _ h)); omega)); have ud : ¬ (3 ∈ V.labelsLL d) := (fun h => (by (have := h4 _ h); omega)); (revert h; show ¬ _; simp [labelsLL_app, V.labelsLL, V.labelsL, V.labels, zz, zf, zy, u5a, v5a, u6a, v6a, ud] <;> omega))) (fun W hW hF => by have z5a := hW.far (.sl (L5a + 1) 4 0 e5a) (fun y hy h => by have := r5a y hy; skip; omega); have zz5a := fun K => hW.far (.sl (L5a + 1) 4 0 (V.mkLL K e5a)) (fun y hy h => by have := r5a y (by simp only [V.labels, mkLL_labels] at hy; exact hy); skip; omega); have z6a := hW.far (.sl (L6a + 1) 1 0 e6a) (fun y hy h => by have := r6a y hy; skip; omega); have zz6a := fun K => hW.far (.sl (L6a + 1) 1 0 (V.mkLL K e6a)) (fun y hy h => by have := r6a y (by simp only [V.labels, mkLL_labels] at hy; exact hy); skip; omega); have w0_2 := hW.far (.sl 0 7 0 ((x).boxes.map cBox)) (fun y hy h => by have h0 : y = 0 := (show ∀ y ∈ V.labels (.sl 0 7 0 ((x).boxes.map cBox)), y = 0 by simp [V.labels, zz, zf, zy]) y hy; skip; omega); have w0_3 := hW.far (.sl 0 1 0 ((x).gone.map cZ)) (fun y hy h => by have h0 : y = 0 := (show ∀ y ∈ V.labels (.sl 0 1 0 ((x).gone.map cZ)), y = 0 by simp [V.labels, zz, zf, zy]) y hy; skip; omega); have w1_0 := hW.far (.sl 0 7 0 (x.boxes.map cBox)) (fun y hy h => by have h0 : y = 0 := (show ∀ y ∈ V.labels (.sl 0 7 0 (x.boxes.map cBox)), y = 0 by simp [V.labels, zz, zf, zy]) y hy; skip; omega); have p9 := fun i o e => hW.ptr 0 i o e (by omega); have p8 := fun sz o e => hW.sl (ma + 1) sz o e (by omega); have p7 := fun sz o e => hW.sl 4 sz o e (by omega); have wl := hW.farLL d (fun y hy h => by have := h4 y hy; omega); have w8_5 := hW.far (.sl 0 4 0 ((x.boxes[d.length]).mails.map cMail)) (fun z hz h => by have h0 : z = 0 := (show ∀ z ∈ V.labels (.sl 0 4 0 ((x.boxes[d.length]).mails.map cMail)), z = 0 by simp [V.labels, zz, zf, zy]) z hz; omega); have w8_6 := hW.far (.sl 0 1 0 ((x.boxes[d.length]).gone.map cZ)) (fun z hz h => by have h0 : z = 0 := (show ∀ z ∈ V.labels (.sl 0 1 0 ((x.boxes[d.length]).gone.map cZ)), z = 0 by simp [V.labels, zz, zf, zy]) z hz; omega); have p0 := fun i o e => hW.ptr (1) i o e (by omega);  have p1 := fun i o e => hW.ptr (2) i o e (by omega); simp only [List.map_cons, List.map_nil, hW.int, hW.str, hW.bool, hW.any, hW.tup0, hW.agg, hW.nilV, hF.ptr, z5a, zz5a, z6a, zz6a, w0_2, w0_3, w1_0, List.map_append, p9, p8, p7, wl, cBox, w8_5, w8_6, p0, p1, kput] <;> rfl) ?_
    refine TOps.nil ?_
    refine Ok.drop [15, 16, 17, 18, 19, 20, 21, 22, 23, 24, 25] (by simp only [kover] <;> rfl) ?_
    refine Ok.region ?_
    iterate 3 (refine OkOps.ev tab_ok rfl (by simp only [kev, ktab, klen, kcv] <;> rfl) (by simp only [kput] <;> rfl) ?_)
    refine OkOps.nil ?_
    refine ⟨(d ++ [[.int .i64 (x.boxes[d.length]).gid, .str (x.boxes[d.length]).name, .int .i64 (x.boxes[d.length]).named.time, .int .i64 (x.boxes[d.length]).named.by_, .int .i64 (x.boxes[d.length]).next, .sl (L5a + 1) 4 0 e5a, .sl (L6a + 1) 1 0 e6a]], ma + 1), ?_, rfl, (by dsimp only; omega), (by obtain ⟨z1, z2, z3, z4, z5⟩ := rows_snocL (k := k) (m := ma + 1) (c := [.int .i64 (x.boxes[d.length]).gid, .str (x.boxes[d.length]).name, .int .i64 (x.boxes[d.length]).named.time, .int .i64 (x.boxes[d.length]).named.by_, .int .i64 (x.boxes[d.length]).next, .sl (L5a + 1) 4 0 e5a, .sl (L6a + 1) 1 0 e6a]) (show 5 ≤ k + 1 by omega) hi h2 h3 h4 (by omega) (by omega) (by simp only [V.travL, V.trav, E5a, E6a] <;> rfl) nda (fun z hz => by have := rga z hz; omega); exact ⟨z1, z2, z3, z4, by dsimp only; omega⟩), by show x.boxes.length - (d ++ [_]).length < x.boxes.length - d.length; rw [List.length_append]; simp only [List.length_cons, List.length_nil]; omega⟩
    refine ⟨?_, ?_, ?_, ?_, ?_, ?_, ?_, ?_, ?_, ?_, ?_, ?_, ?_, ?_, ?_, ?_, ?_, ?_, ?_, ?_, ?_, ?_, ?_, ?_, ?_, ?_, ?_, ?_, ?_, ?_, ?_, ?_, trivial⟩ <;> first | exact le_any _ | with_reducible exact le_rfl' _ | (dsimp only; first | exact le_rfl' _ | (rw [wrap_add_one (by have := h.1.1; omega)]; refine le_eqm ?_; simp only [List.length_append, List.length_cons, List.length_nil]; done) | (refine le_eqm ?_; simp only [List.length_append, List.length_cons, List.length_nil, Nat.zero_add]; done)) | exact le_rfl' _
  · try simp only [bsimp] at hb4
    have hi : d.length = x.boxes.length := by omega
    rw [hi, List.take_length] at h2
    refine Ok.exit ?_
    refine Ok.seq ?_
    refine Ok.drop [8, 9, 10, 11, 12] (by simp only [kover] <;> rfl) ?_
    refine Ok.region ?_
    iterate 3 (refine OkOps.ev tab_ok rfl (by simp only [kev, ktab, klen, kcv] <;> rfl) (by simp only [kput] <;> rfl) ?_)
    refine OkOps.S rfl (ok_append_nil tab_ok (by simp only [ktab] <;> rfl) (by simp only [ktab] <;> rfl) (by decide) rfl rfl (by simp only [kev, ktab, klen, kcv] <;> rfl) (.inl ⟨_, _, by simp only [kev, ktab, klen, kcv] <;> rfl⟩) (by simp only [List.length_map]; have := h.2; omega) (by simp only [List.length_map]; have := h.2; omega)) (by simp only [kput, klen] <;> rfl) ?_
    refine OkOps.ev tab_ok rfl (by simp only [kev, ktab, klen, kcv] <;> rfl) (by simp only [kput] <;> rfl) ?_
    refine OkOps.storeN tab_ok rfl rfl (by simp only [kev, ktab, klen, kcv] <;> rfl) ⟨_, _, by simp only [kev]; rfl⟩ (by first | (simp [V.labelsL, V.labelsLL, V.labels, zz, zf, zy]; done) | (intro h; have ud : ¬ (3 ∈ V.labelsLL d) := (fun h => (by (have := h4 _ h); omega)); (revert h; show ¬ _; simp [labelsLL_app, V.labelsLL, V.labelsL, V.labels, zz, zf, zy, ud] <;> omega))) (fun W hW hF => by have w0_2 := hW.far (.sl 0 7 0 ((x).boxes.map cBox)) (fun y hy h => by have h0 : y = 0 := (show ∀ y ∈ V.labels (.sl 0 7 0 ((x).boxes.map cBox)), y = 0 by simp [V.labels, zz, zf, zy]) y hy; skip; omega); have w0_3 := hW.far (.sl 0 1 0 ((x).gone.map cZ)) (fun y hy h => by have h0 : y = 0 := (show ∀ y ∈ V.labels (.sl 0 1 0 ((x).gone.map cZ)), y = 0 by simp [V.labels, zz, zf, zy]) y hy; skip; omega); have w1_0 := hW.far (.sl 0 7 0 (x.boxes.map cBox)) (fun y hy h => by have h0 : y = 0 := (show ∀ y ∈ V.labels (.sl 0 7 0 (x.boxes.map cBox)), y = 0 by simp [V.labels, zz, zf, zy]) y hy; skip; omega); have p9 := fun i o e => hW.ptr 0 i o e (by omega); have wd := hW.far (.sl 4 7 0 d) (fun y hy h => by simp only [V.labels, List.mem_cons] at hy; rcases hy with hy | hy <;> first | omega | (have := h4 y hy; omega)); have p6 := hW.far (.sl (k + 1) 1 0 (x.gone.map cZ)) (fun y hy h => by simp [V.labels, zz, zf] at hy; omega); have p0 := fun i o e => hW.ptr (1) i o e (by omega);  have p1 := fun i o e => hW.ptr (2) i o e (by omega); simp only [List.map_cons, List.map_nil, hW.int, hW.str, hW.bool, hW.any, hW.tup0, hW.agg, hW.nilV, hF.ptr, w0_2, w0_3, w1_0, p9, wd, p6, cBox, p0, p1, kput] <;> rfl) ?_
    refine OkOps.nil ?_
    refine Ok.seq ?_
    refine Ok.drop [26, 27, 28, 29, 30] (by simp only [kover] <;> rfl) ?_
    refine Ok.region ?_
    refine OkOps.ev tab_ok rfl (by simp only [kev, ktab, klen, kcv] <;> rfl) (by simp only [kput] <;> rfl) ?_
    refine OkOps.storeN tab_ok rfl rfl (by simp only [kev, ktab, klen, kcv] <;> rfl) ⟨_, _, by simp only [kev]; rfl⟩ (by first | (simp [V.labelsL, V.labelsLL, V.labels, zz, zf, zy]; done) | (intro h; have ud : ¬ (2 ∈ V.labelsLL d) := (fun h => (by (have := h4 _ h); omega)); (revert h; show ¬ _; simp [labelsLL_app, V.labelsLL, V.labelsL, V.labels, zz, zf, zy, ud] <;> omega))) (fun W hW hF => by have w0_2 := hW.far (.sl 0 7 0 ((x).boxes.map cBox)) (fun y hy h => by have h0 : y = 0 := (show ∀ y ∈ V.labels (.sl 0 7 0 ((x).boxes.map cBox)), y = 0 by simp [V.labels, zz, zf, zy]) y hy; skip; omega); have w0_3 := hW.far (.sl 0 1 0 ((x).gone.map cZ)) (fun y hy h => by have h0 : y = 0 := (show ∀ y ∈ V.labels (.sl 0 1 0 ((x).gone.map cZ)), y = 0 by simp [V.labels, zz, zf, zy]) y hy; skip; omega); have w1_0 := hW.far (.sl 0 7 0 (x.boxes.map cBox)) (fun y hy h => by have h0 : y = 0 := (show ∀ y ∈ V.labels (.sl 0 7 0 (x.boxes.map cBox)), y = 0 by simp [V.labels, zz, zf, zy]) y hy; skip; omega); have p9 := fun i o e => hW.ptr 0 i o e (by omega); have wd := hW.far (.sl 4 7 0 d) (fun y hy h => by simp only [V.labels, List.mem_cons] at hy; rcases hy with hy | hy <;> first | omega | (have := h4 y hy; omega)); have p6 := hW.far (.sl (k + 1) 1 0 (x.gone.map cZ)) (fun y hy h => by simp [V.labels, zz, zf] at hy; omega); have p0 := fun i o e => hW.ptr (1) i o e (by omega);  have p2 := fun i o e => hW.ptr (3) i o e (by omega); simp only [List.map_cons, List.map_nil, hW.int, hW.str, hW.bool, hW.any, hW.tup0, hW.agg, hW.nilV, hF.ptr, w0_2, w0_3, w1_0, p9, wd, p6, cBox, p0, p2, kput] <;> rfl) ?_
    refine OkOps.nil ?_
    refine Ok.ret ?_
    repeat (first | with_reducible refine thenQ_ret ?_ | with_reducible refine blockQ_ret ?_)
    refine retQ.end (by show resVs tab _ [.cell 2 44] = _; simp only [kev, ktab, klen, kcv] <;> rfl) rfl ?_
    exact ⟨(by simp only [packV, V.erase, V.trav, V.travL, V.travLL, zz, zf, zy, h2] <;> rfl), (by intro L hL; simp [packV, V.labels, V.labelsL, zz, zf] at hL; rcases hL with hL | hL | hL <;> first | omega | (have := h4 L hL; omega)), (by simp only [packV, V.labels, V.labelsL, zz, zf, List.append_nil, List.nil_append]; rw [List.nodup_append]; exact ⟨List.nodup_cons.2 ⟨fun h => by (have := h4 4 h); omega, h3⟩, by simp, fun y hy z hz h => by (rcases List.mem_cons.1 hy with hy | hy) <;> simp at hz <;> first | omega | (have := h4 y hy; omega)⟩)⟩
theorem p_impl_copyStore (x : Store) (h : smStore x) : Pure Try.prog 115 [.agg (cStore x)] (.agg (cStore x)) := by
  refine Pure.of (by simp [V.dat, V.datL, V.datLL, zz, zf, zy]) (OkCall.enter' tab_ok Try.func115 rfl (t := [.agg (cStore x), .any, .any, .any, .any, .any, .any, .any, .any, .any, .any, .any, .any, .any]) rfl ?_)
  refine Ok.seq ?_
  refine Ok.region ?_
  iterate 2 (refine OkOps.ev tab_ok rfl (by simp only [kev, ktab, klen, kcv] <;> rfl) (by simp only [kput] <;> rfl) ?_)
  refine OkOps.nil ?_
  refine Ok.seq ?_
  refine Ok.drawn 11 14 [] (by kernel_rfl) (by kernel_rfl) rfl ?_
  refine SOps.ev tab_ok rfl (by simp only [kev, ktab, klen, kcv] <;> rfl) (by simp only [kput] <;> rfl) ?_
  refine SOps.ev tab_ok rfl (by simp only [kev, ktab, klen, kcv] <;> rfl) (by simp only [kput] <;> rfl) ?_
  refine SOps.ev tab_ok rfl (by simp only [kev, ktab, klen, kcv] <;> rfl) (by simp only [kput] <;> rfl) ?_
  refine SOps.ev tab_ok rfl (by simp only [kev, ktab, klen, kcv] <;> rfl) (by simp only [kput] <;> rfl) ?_
  refine SOps.ev tab_ok rfl (by simp only [kev, ktab, klen, kcv] <;> rfl) (by simp only [kput] <;> rfl) ?_
  refine SOps.ev tab_ok rfl (by simp only [kev, ktab, klen, kcv] <;> rfl) (by simp only [kput] <;> rfl) ?_
  obtain ⟨L0a, e0a, hXa, q0a, E0a, M0a, N0a, nda, rga⟩ := ownSBox (2) (x.boxes)
  obtain ⟨ma, hma⟩ : ∃ m, 2 + 1 + V.cnt (.sl 0 7 0 ((x.boxes).map cBox)) = m + 1 := ⟨2 + V.cnt (.sl 0 7 0 ((x.boxes).map cBox)), by omega⟩
  have r0a : ∀ z ∈ V.labels (.sl (L0a + 1) 7 0 e0a), 2 + 1 ≤ z ∧ z < ma + 1 := fun z hz => by have := rga z (by first | exact hz | (simp only [V.labelsL, V.labels, List.mem_append] at hz ⊢; simp only [hz, true_or, or_true])); omega
  refine SOps.S' rfl (OpS.pureM rfl (by simp only [kev, ktab, klen, kcv] <;> rfl) (by simp only [kev, ktab, klen, kcv, V.eraseL, V.erase, V.travL, V.trav, zz, zf, zy] <;> rfl) cl136 (by simp [V.dat, V.datL, V.datLL, zz, zf, zy]) (p_impl_copyBoxes x.boxes h.1.1 h.1.2)) hma (by simp only [kput, hXa] <;> rfl) ?_
  refine SOps.ev tab_ok rfl (by simp only [kev, ktab, klen, kcv] <;> rfl) (by simp only [kput] <;> rfl) ?_
  refine SOps.ev tab_ok rfl (by simp only [kev, ktab, klen, kcv] <;> rfl) (by simp only [kput] <;> rfl) ?_
  obtain ⟨L0b, e0b, hXb, q0b, E0b, M0b, N0b, ndb, rgb⟩ := ownSInt (ma) (x.gone)
  obtain ⟨mb, hmb⟩ : ∃ m, ma + 1 + V.cnt (.sl 0 1 0 ((x.gone).map cZ)) = m + 1 := ⟨ma + V.cnt (.sl 0 1 0 ((x.gone).map cZ)), by omega⟩
  have r0b : ∀ z ∈ V.labels (.sl (L0b + 1) 1 0 e0b), ma + 1 ≤ z ∧ z < mb + 1 := fun z hz => by have := rgb z (by first | exact hz | (simp only [V.labelsL, V.labels, List.mem_append] at hz ⊢; simp only [hz, true_or, or_true])); omega
  refine SOps.S' rfl (OpS.pureM rfl (by simp only [kev, ktab, klen, kcv] <;> rfl) (by simp only [kev, ktab, klen, kcv, E0a, M0a, N0a, V.eraseL, V.erase, V.travL, V.trav, zz, zf, zy] <;> rfl) cl116 (by simp [V.dat, V.datL, V.datLL, zz, zf, zy]) (p_impl_copyInts x.gone h.2)) hmb (by simp only [kput, hXb] <;> rfl) ?_
  refine SOps.ev tab_ok rfl (by simp [ev1, fillV, kev, ktab, klen] <;> first | rfl | exact ⟨rfl, rfl⟩) (by simp only [kput] <;> rfl) ?_
  refine SOps.nil ?_
  refine TOps.storeN tab_ok rfl rfl (by simp only [kev, ktab, klen, kcv] <;> rfl) ⟨_, _, by simp only [kev]; rfl⟩ (by first | (simp [V.labelsL, V.labelsLL, V.labels, zz, zf, zy]; done) | (intro h; simp only [V.labelsL, V.labels, List.mem_append, List.append_nil, List.nil_append, List.not_mem_nil, or_false, false_or] at h; rcases h with h | h <;> first | (have := r0a _ h; omega) | (have := r0b _ h; omega))) (fun W hW hF => by have z0a := hW.far (.sl (L0a + 1) 7 0 e0a) (fun y hy h => by have := r0a y hy; skip; omega); have zz0a := fun K => hW.far (.sl (L0a + 1) 7 0 (V.mkLL K e0a)) (fun y hy h => by have := r0a y (by simp only [V.labels, mkLL_labels] at hy; exact hy); skip; omega); have z0b := hW.far (.sl (L0b + 1) 1 0 e0b) (fun y hy h => by have := r0b y hy; skip; omega); have zz0b := fun K => hW.far (.sl (L0b + 1) 1 0 (V.mkLL K e0b)) (fun y hy h => by have := r0b y (by simp only [V.labels, mkLL_labels] at hy; exact hy); skip; omega); have w0_2 := hW.far (.sl 0 7 0 ((x).boxes.map cBox)) (fun y hy h => by have h0 : y = 0 := (show ∀ y ∈ V.labels (.sl 0 7 0 ((x).boxes.map cBox)), y = 0 by simp [V.labels, zz, zf, zy]) y hy; skip; omega); have w0_3 := hW.far (.sl 0 1 0 ((x).gone.map cZ)) (fun y hy h => by have h0 : y = 0 := (show ∀ y ∈ V.labels (.sl 0 1 0 ((x).gone.map cZ)), y = 0 by simp [V.labels, zz, zf, zy]) y hy; skip; omega); have p0 := fun i o e => hW.ptr (1) i o e (by omega); simp only [List.map_cons, List.map_nil, hW.int, hW.str, hW.bool, hW.any, hW.tup0, hW.agg, hW.nilV, hF.ptr, z0a, zz0a, z0b, zz0b, w0_2, w0_3, p0, kput] <;> rfl) ?_
  refine TOps.nil ?_
  refine Ok.ret ?_
  repeat (first | with_reducible refine thenQ_ret ?_ | with_reducible refine blockQ_ret ?_)
  refine retQ.end (by show resVs tab _ [.cell 2 44] = _; simp only [kev, ktab, klen, kcv] <;> rfl) rfl ?_
  exact ⟨(by simp only [packV, V.erase, V.trav, V.travL, V.travLL, zz, zf, zy, E0a, E0b] <;> rfl), (by intro L hL; simp only [packV, V.labels, V.labelsL, List.append_nil, List.nil_append] at hL; (try rw [List.mem_append] at hL); (try rw [List.mem_append] at hL); rcases hL with hL | hL <;>  first | (have := r0a L hL; omega) | (have := r0b L hL; omega)), (by have n1 := nda; have n2 := ndb; simp only [V.labels, V.labelsL, List.append_nil, List.nil_append] at n1 n2; simp only [packV, V.labels, V.labelsL, List.append_nil, List.nil_append]; rw [List.nodup_append]; exact ⟨n1, n2, fun y hy z hz h => by (have q2 := r0b z hz; first | (have q1 := r0a y hy; omega))⟩)⟩
theorem p_impl_copyKept (x : Kept) (h : smKept x) : Pure Try.prog 89 [.agg (cKept x)] (.agg (cKept x)) := by
  refine Pure.of (by simp [V.dat, V.datL, V.datLL, zz, zf, zy]) (OkCall.enter' tab_ok Try.func89 rfl (t := [.agg (cKept x), .any, .any, .any, .any, .any, .any, .any]) rfl ?_)
  refine Ok.seq ?_
  refine Ok.region ?_
  iterate 2 (refine OkOps.ev tab_ok rfl (by simp only [kev, ktab, klen, kcv] <;> rfl) (by simp only [kput] <;> rfl) ?_)
  refine OkOps.nil ?_
  refine Ok.seq ?_
  refine Ok.region ?_
  iterate 2 (refine OkOps.ev tab_ok rfl (by simp only [kev, ktab, klen, kcv] <;> rfl) (by simp only [kput] <;> rfl) ?_)
  obtain ⟨L2a, e2a, L3a, e3a, hXa, q2a, E2a, M2a, N2a, q3a, E3a, M3a, N3a, nda, rga⟩ := ownStore (2) (x.store)
  obtain ⟨ma, hma⟩ : ∃ m, 2 + 1 + V.cnt (.agg (cStore (x.store))) = m + 1 := ⟨2 + V.cnt (.agg (cStore (x.store))), by omega⟩
  have r2a : ∀ z ∈ V.labels (.sl (L2a + 1) 7 0 e2a), 2 + 1 ≤ z ∧ z < ma + 1 := fun z hz => by have := rga z (by first | exact hz | (simp only [V.labelsL, V.labels, List.mem_append] at hz ⊢; simp only [hz, true_or, or_true])); omega
  have r3a : ∀ z ∈ V.labels (.sl (L3a + 1) 1 0 e3a), 2 + 1 ≤ z ∧ z < ma + 1 := fun z hz => by have := rga z (by first | exact hz | (simp only [V.labelsL, V.labels, List.mem_append] at hz ⊢; simp only [hz, true_or, or_true])); omega
  refine OkOps.S' rfl (OpS.pure' rfl (by simp only [kev, ktab, klen, kcv] <;> rfl) (by simp only [kev, ktab, klen, kcv, V.eraseL, V.erase, V.travL, V.trav, zz, zf, zy] <;> rfl) cl115 (by simp [V.dat, V.datL, V.datLL, zz, zf, zy]) (p_impl_copyStore x.store h.1)) hma (by simp only [kput, hXa] <;> rfl) ?_
  refine OkOps.ev tab_ok rfl (by simp only [kev, ktab, klen, kcv] <;> rfl) (by simp only [kput] <;> rfl) ?_
  refine OkOps.storeN tab_ok rfl rfl (by simp only [kev, ktab, klen, kcv] <;> rfl) ⟨_, _, by simp only [kev]; rfl⟩ (by first | (simp [V.labelsL, V.labelsLL, V.labels, zz, zf, zy]; done) | (intro h; simp only [V.labelsL, V.labels, List.mem_append, List.append_nil, List.nil_append, List.not_mem_nil, or_false, false_or] at h; rcases h with h | h <;> first | (have := r2a _ h; omega) | (have := r3a _ h; omega))) (fun W hW hF => by have z2a := hW.far (.sl (L2a + 1) 7 0 e2a) (fun y hy h => by have := r2a y hy; skip; omega); have zz2a := fun K => hW.far (.sl (L2a + 1) 7 0 (V.mkLL K e2a)) (fun y hy h => by have := r2a y (by simp only [V.labels, mkLL_labels] at hy; exact hy); skip; omega); have z3a := hW.far (.sl (L3a + 1) 1 0 e3a) (fun y hy h => by have := r3a y hy; skip; omega); have zz3a := fun K => hW.far (.sl (L3a + 1) 1 0 (V.mkLL K e3a)) (fun y hy h => by have := r3a y (by simp only [V.labels, mkLL_labels] at hy; exact hy); skip; omega); have w0_2 := hW.far (.sl 0 7 0 ((x).store.boxes.map cBox)) (fun y hy h => by have h0 : y = 0 := (show ∀ y ∈ V.labels (.sl 0 7 0 ((x).store.boxes.map cBox)), y = 0 by simp [V.labels, zz, zf, zy]) y hy; skip; omega); have w0_3 := hW.far (.sl 0 1 0 ((x).store.gone.map cZ)) (fun y hy h => by have h0 : y = 0 := (show ∀ y ∈ V.labels (.sl 0 1 0 ((x).store.gone.map cZ)), y = 0 by simp [V.labels, zz, zf, zy]) y hy; skip; omega); have p1 := fun i o e => hW.ptr (2) i o e (by omega); simp only [List.map_cons, List.map_nil, hW.int, hW.str, hW.bool, hW.any, hW.tup0, hW.agg, hW.nilV, hF.ptr, z2a, zz2a, z3a, zz3a, w0_2, w0_3, p1, kput] <;> rfl) ?_
  refine OkOps.nil ?_
  refine Ok.seq ?_
  refine Ok.drop [4, 5, 6] (by simp only [kover] <;> rfl) ?_
  refine Ok.region ?_
  refine OkOps.ev tab_ok rfl (by simp only [kev, ktab, klen, kcv] <;> rfl) (by simp only [kput] <;> rfl) ?_
  refine OkOps.storeN tab_ok rfl rfl (by simp only [kev, ktab, klen, kcv] <;> rfl) ⟨_, _, by simp only [kev]; rfl⟩ (by first | (simp [V.labelsL, V.labelsLL, V.labels, zz, zf, zy]; done) | (intro h; simp only [V.labelsL, V.labels, List.mem_append, List.append_nil, List.nil_append, List.not_mem_nil, or_false, false_or] at h; rcases h with h | h <;> first | (have := r2a _ h; omega) | (have := r3a _ h; omega))) (fun W hW hF => by have z2a := hW.far (.sl (L2a + 1) 7 0 e2a) (fun y hy h => by have := r2a y hy; skip; omega); have zz2a := fun K => hW.far (.sl (L2a + 1) 7 0 (V.mkLL K e2a)) (fun y hy h => by have := r2a y (by simp only [V.labels, mkLL_labels] at hy; exact hy); skip; omega); have z3a := hW.far (.sl (L3a + 1) 1 0 e3a) (fun y hy h => by have := r3a y hy; skip; omega); have zz3a := fun K => hW.far (.sl (L3a + 1) 1 0 (V.mkLL K e3a)) (fun y hy h => by have := r3a y (by simp only [V.labels, mkLL_labels] at hy; exact hy); skip; omega); have w0_2 := hW.far (.sl 0 7 0 ((x).store.boxes.map cBox)) (fun y hy h => by have h0 : y = 0 := (show ∀ y ∈ V.labels (.sl 0 7 0 ((x).store.boxes.map cBox)), y = 0 by simp [V.labels, zz, zf, zy]) y hy; skip; omega); have w0_3 := hW.far (.sl 0 1 0 ((x).store.gone.map cZ)) (fun y hy h => by have h0 : y = 0 := (show ∀ y ∈ V.labels (.sl 0 1 0 ((x).store.gone.map cZ)), y = 0 by simp [V.labels, zz, zf, zy]) y hy; skip; omega); have p0 := fun i o e => hW.ptr (1) i o e (by omega); simp only [List.map_cons, List.map_nil, hW.int, hW.str, hW.bool, hW.any, hW.tup0, hW.agg, hW.nilV, hF.ptr, z2a, zz2a, z3a, zz3a, w0_2, w0_3, p0, kput] <;> rfl) ?_
  refine OkOps.nil ?_
  refine Ok.ret ?_
  repeat (first | with_reducible refine thenQ_ret ?_ | with_reducible refine blockQ_ret ?_)
  refine retQ.end (by show resVs tab _ [.cell 2 46] = _; simp only [kev, ktab, klen, kcv] <;> rfl) rfl ?_
  exact ⟨(by simp only [packV, V.erase, V.trav, V.travL, V.travLL, zz, zf, zy, E2a, E3a] <;> rfl), (by intro L hL; simp only [packV, V.labels, V.labelsL, List.append_nil, List.nil_append] at hL; (try rw [List.mem_append] at hL); (try rw [List.mem_append] at hL); rcases hL with hL | hL <;>  first | (have := r2a L hL; omega) | (have := r3a L hL; omega)), (by simp only [packV, V.labels, V.labelsL, List.append_nil, List.nil_append] at nda ⊢; exact nda)⟩
theorem p_spec_l12Copy (x : Kept) (h : smKept x) : Pure Try.prog 85 [.agg (cKept x)] (.agg (cKept x)) := by
  refine Pure.of (by simp [V.dat, V.datL, V.datLL, zz, zf, zy]) (OkCall.enter' tab_ok Try.func85 rfl (t := [.agg (cKept x), .any, .any, .any, .any, .any, .any, .any, .any, .any, .any]) rfl ?_)
  refine Ok.seq ?_
  refine Ok.region ?_
  iterate 2 (refine OkOps.ev tab_ok rfl (by simp only [kev, ktab, klen, kcv] <;> rfl) (by simp only [kput] <;> rfl) ?_)
  refine OkOps.nil ?_
  refine Ok.seq ?_
  refine Ok.drawn 8 11 [] (by kernel_rfl) (by kernel_rfl) rfl ?_
  refine SOps.ev tab_ok rfl (by simp only [kev, ktab, klen, kcv] <;> rfl) (by simp only [kput] <;> rfl) ?_
  refine SOps.ev tab_ok rfl (by simp only [kev, ktab, klen, kcv] <;> rfl) (by simp only [kput] <;> rfl) ?_
  obtain ⟨L2a, e2a, L3a, e3a, hXa, q2a, E2a, M2a, N2a, q3a, E3a, M3a, N3a, nda, rga⟩ := ownStore (2) (x.store)
  obtain ⟨ma, hma⟩ : ∃ m, 2 + 1 + V.cnt (.agg (cStore (x.store))) = m + 1 := ⟨2 + V.cnt (.agg (cStore (x.store))), by omega⟩
  have r2a : ∀ z ∈ V.labels (.sl (L2a + 1) 7 0 e2a), 2 + 1 ≤ z ∧ z < ma + 1 := fun z hz => by have := rga z (by first | exact hz | (simp only [V.labelsL, V.labels, List.mem_append] at hz ⊢; simp only [hz, true_or, or_true])); omega
  have r3a : ∀ z ∈ V.labels (.sl (L3a + 1) 1 0 e3a), 2 + 1 ≤ z ∧ z < ma + 1 := fun z hz => by have := rga z (by first | exact hz | (simp only [V.labelsL, V.labels, List.mem_append] at hz ⊢; simp only [hz, true_or, or_true])); omega
  refine SOps.S' rfl (OpS.pureM rfl (by simp only [kev, ktab, klen, kcv] <;> rfl) (by simp only [kev, ktab, klen, kcv, V.eraseL, V.erase, V.travL, V.trav, zz, zf, zy] <;> rfl) cl113 (by simp [V.dat, V.datL, V.datLL, zz, zf, zy]) (p_spec_l07Copy x.store h.1)) hma (by simp only [kput, hXa] <;> rfl) ?_
  refine SOps.ev tab_ok rfl (by simp only [kev, ktab, klen, kcv] <;> rfl) (by simp only [kput] <;> rfl) ?_
  refine SOps.ev tab_ok rfl (by simp only [kev, ktab, klen, kcv] <;> rfl) (by simp only [kput] <;> rfl) ?_
  refine SOps.ev tab_ok rfl (by simp only [kev, ktab, klen, kcv] <;> rfl) (by simp only [kput] <;> rfl) ?_
  refine SOps.ev tab_ok rfl (by simp only [kev, ktab, klen, kcv] <;> rfl) (by simp only [kput] <;> rfl) ?_
  refine SOps.ev tab_ok rfl (by simp [ev1, fillV, kev, ktab, klen] <;> first | rfl | exact ⟨rfl, rfl⟩) (by simp only [kput] <;> rfl) ?_
  refine SOps.nil ?_
  refine TOps.storeN tab_ok rfl rfl (by simp only [kev, ktab, klen, kcv] <;> rfl) ⟨_, _, by simp only [kev]; rfl⟩ (by first | (simp [V.labelsL, V.labelsLL, V.labels, zz, zf, zy]; done) | (intro h; simp only [V.labelsL, V.labels, List.mem_append, List.append_nil, List.nil_append, List.not_mem_nil, or_false, false_or] at h; rcases h with h | h <;> first | (have := r2a _ h; omega) | (have := r3a _ h; omega))) (fun W hW hF => by have z2a := hW.far (.sl (L2a + 1) 7 0 e2a) (fun y hy h => by have := r2a y hy; skip; omega); have zz2a := fun K => hW.far (.sl (L2a + 1) 7 0 (V.mkLL K e2a)) (fun y hy h => by have := r2a y (by simp only [V.labels, mkLL_labels] at hy; exact hy); skip; omega); have z3a := hW.far (.sl (L3a + 1) 1 0 e3a) (fun y hy h => by have := r3a y hy; skip; omega); have zz3a := fun K => hW.far (.sl (L3a + 1) 1 0 (V.mkLL K e3a)) (fun y hy h => by have := r3a y (by simp only [V.labels, mkLL_labels] at hy; exact hy); skip; omega); have w0_2 := hW.far (.sl 0 7 0 ((x).store.boxes.map cBox)) (fun y hy h => by have h0 : y = 0 := (show ∀ y ∈ V.labels (.sl 0 7 0 ((x).store.boxes.map cBox)), y = 0 by simp [V.labels, zz, zf, zy]) y hy; skip; omega); have w0_3 := hW.far (.sl 0 1 0 ((x).store.gone.map cZ)) (fun y hy h => by have h0 : y = 0 := (show ∀ y ∈ V.labels (.sl 0 1 0 ((x).store.gone.map cZ)), y = 0 by simp [V.labels, zz, zf, zy]) y hy; skip; omega); have p0 := fun i o e => hW.ptr (1) i o e (by omega); simp only [List.map_cons, List.map_nil, hW.int, hW.str, hW.bool, hW.any, hW.tup0, hW.agg, hW.nilV, hF.ptr, z2a, zz2a, z3a, zz3a, w0_2, w0_3, p0, kput] <;> rfl) ?_
  refine TOps.nil ?_
  refine Ok.ret ?_
  repeat (first | with_reducible refine thenQ_ret ?_ | with_reducible refine blockQ_ret ?_)
  refine retQ.end (by show resVs tab _ [.cell 2 46] = _; simp only [kev, ktab, klen, kcv] <;> rfl) rfl ?_
  exact ⟨(by simp only [packV, V.erase, V.trav, V.travL, V.travLL, zz, zf, zy, E2a, E3a] <;> rfl), (by intro L hL; simp only [packV, V.labels, V.labelsL, List.append_nil, List.nil_append] at hL; (try rw [List.mem_append] at hL); (try rw [List.mem_append] at hL); rcases hL with hL | hL <;>  first | (have := r2a L hL; omega) | (have := r3a L hL; omega)), (by simp only [packV, V.labels, V.labelsL, List.append_nil, List.nil_append] at nda ⊢; exact nda)⟩
theorem p_impl_copySession (x : Session) (h : smSession x) : Pure Try.prog 90 [.agg (cSession x)] (.agg (cSession x)) := by
  refine Pure.of (by simp [V.dat, V.datL, V.datLL, zz, zf, zy]) (OkCall.enter' tab_ok Try.func90 rfl (t := [.agg (cSession x), .any, .any, .any, .any, .any, .any, .any]) rfl ?_)
  refine Ok.seq ?_
  refine Ok.region ?_
  iterate 2 (refine OkOps.ev tab_ok rfl (by simp only [kev, ktab, klen, kcv] <;> rfl) (by simp only [kput] <;> rfl) ?_)
  refine OkOps.nil ?_
  refine Ok.seq ?_
  refine Ok.region ?_
  iterate 2 (refine OkOps.ev tab_ok rfl (by simp only [kev, ktab, klen, kcv] <;> rfl) (by simp only [kput] <;> rfl) ?_)
  obtain ⟨L0a, e0a, hXa, q0a, E0a, M0a, N0a, nda, rga⟩ := ownSInt (2) (x.view)
  obtain ⟨ma, hma⟩ : ∃ m, 2 + 1 + V.cnt (.sl 0 1 0 ((x.view).map cZ)) = m + 1 := ⟨2 + V.cnt (.sl 0 1 0 ((x.view).map cZ)), by omega⟩
  have r0a : ∀ z ∈ V.labels (.sl (L0a + 1) 1 0 e0a), 2 + 1 ≤ z ∧ z < ma + 1 := fun z hz => by have := rga z (by first | exact hz | (simp only [V.labelsL, V.labels, List.mem_append] at hz ⊢; simp only [hz, true_or, or_true])); omega
  refine OkOps.S' rfl (OpS.pure' rfl (by simp only [kev, ktab, klen, kcv] <;> rfl) (by simp only [kev, ktab, klen, kcv, V.eraseL, V.erase, V.travL, V.trav, zz, zf, zy] <;> rfl) cl116 (by simp [V.dat, V.datL, V.datLL, zz, zf, zy]) (p_impl_copyInts x.view h.2.2)) hma (by simp only [kput, hXa] <;> rfl) ?_
  refine OkOps.ev tab_ok rfl (by simp only [kev, ktab, klen, kcv] <;> rfl) (by simp only [kput] <;> rfl) ?_
  refine OkOps.storeN tab_ok rfl rfl (by simp only [kev, ktab, klen, kcv] <;> rfl) ⟨_, _, by simp only [kev]; rfl⟩ (by first | (simp [V.labelsL, V.labelsLL, V.labels, zz, zf, zy]; done) | (intro h; simp only [V.labelsL, V.labels, List.mem_append, List.append_nil, List.nil_append, List.not_mem_nil, or_false, false_or] at h; first | (have := r0a _ h; omega))) (fun W hW hF => by have z0a := hW.far (.sl (L0a + 1) 1 0 e0a) (fun y hy h => by have := r0a y hy; skip; omega); have zz0a := fun K => hW.far (.sl (L0a + 1) 1 0 (V.mkLL K e0a)) (fun y hy h => by have := r0a y (by simp only [V.labels, mkLL_labels] at hy; exact hy); skip; omega); have w0_5 := hW.far (.sl 0 1 0 ((x).view.map cZ)) (fun y hy h => by have h0 : y = 0 := (show ∀ y ∈ V.labels (.sl 0 1 0 ((x).view.map cZ)), y = 0 by simp [V.labels, zz, zf, zy]) y hy; skip; omega); have p1 := fun i o e => hW.ptr (2) i o e (by omega); simp only [List.map_cons, List.map_nil, hW.int, hW.str, hW.bool, hW.any, hW.tup0, hW.agg, hW.nilV, hF.ptr, z0a, zz0a, w0_5, p1, kput] <;> rfl) ?_
  refine OkOps.nil ?_
  refine Ok.seq ?_
  refine Ok.drop [4, 5, 6] (by simp only [kover] <;> rfl) ?_
  refine Ok.region ?_
  refine OkOps.ev tab_ok rfl (by simp only [kev, ktab, klen, kcv] <;> rfl) (by simp only [kput] <;> rfl) ?_
  refine OkOps.storeN tab_ok rfl rfl (by simp only [kev, ktab, klen, kcv] <;> rfl) ⟨_, _, by simp only [kev]; rfl⟩ (by first | (simp [V.labelsL, V.labelsLL, V.labels, zz, zf, zy]; done) | (intro h; simp only [V.labelsL, V.labels, List.mem_append, List.append_nil, List.nil_append, List.not_mem_nil, or_false, false_or] at h; first | (have := r0a _ h; omega))) (fun W hW hF => by have z0a := hW.far (.sl (L0a + 1) 1 0 e0a) (fun y hy h => by have := r0a y hy; skip; omega); have zz0a := fun K => hW.far (.sl (L0a + 1) 1 0 (V.mkLL K e0a)) (fun y hy h => by have := r0a y (by simp only [V.labels, mkLL_labels] at hy; exact hy); skip; omega); have w0_5 := hW.far (.sl 0 1 0 ((x).view.map cZ)) (fun y hy h => by have h0 : y = 0 := (show ∀ y ∈ V.labels (.sl 0 1 0 ((x).view.map cZ)), y = 0 by simp [V.labels, zz, zf, zy]) y hy; skip; omega); have p0 := fun i o e => hW.ptr (1) i o e (by omega); simp only [List.map_cons, List.map_nil, hW.int, hW.str, hW.bool, hW.any, hW.tup0, hW.agg, hW.nilV, hF.ptr, z0a, zz0a, w0_5, p0, kput] <;> rfl) ?_
  refine OkOps.nil ?_
  refine Ok.ret ?_
  repeat (first | with_reducible refine thenQ_ret ?_ | with_reducible refine blockQ_ret ?_)
  refine retQ.end (by show resVs tab _ [.cell 2 47] = _; simp only [kev, ktab, klen, kcv] <;> rfl) rfl ?_
  exact ⟨(by simp only [packV, V.erase, V.trav, V.travL, V.travLL, zz, zf, zy, E0a] <;> rfl), (by intro L hL; simp only [packV, V.labels, V.labelsL, List.append_nil, List.nil_append] at hL;  first | (have := r0a L hL; omega)), (by simp only [packV, V.labels, V.labelsL, List.append_nil, List.nil_append] at nda ⊢; exact nda)⟩
theorem p_spec_l15Copy (x : Session) (h : smSession x) : Pure Try.prog 86 [.agg (cSession x)] (.agg (cSession x)) := by
  refine Pure.of (by simp [V.dat, V.datL, V.datLL, zz, zf, zy]) (OkCall.enter' tab_ok Try.func86 rfl (t := [.agg (cSession x), .any, .any, .any, .any, .any, .any, .any, .any, .any, .any]) rfl ?_)
  refine Ok.seq ?_
  refine Ok.region ?_
  iterate 2 (refine OkOps.ev tab_ok rfl (by simp only [kev, ktab, klen, kcv] <;> rfl) (by simp only [kput] <;> rfl) ?_)
  refine OkOps.nil ?_
  refine Ok.seq ?_
  refine Ok.region ?_
  iterate 2 (refine OkOps.ev tab_ok rfl (by simp only [kev, ktab, klen, kcv] <;> rfl) (by simp only [kput] <;> rfl) ?_)
  refine OkOps.storeE tab_ok rfl rfl (by simp only [kev, ktab, klen, kcv] <;> rfl) ⟨_, _, by simp only [kev]; rfl⟩ (by first | (simp [V.labelsL, V.labelsLL, V.labels, zz, zf, zy]; done) | (simp [-List.map_map, -List.map_drop, -List.map_take, -List.map_tail, -List.drop_one, V.labelsL, V.labelsLL, V.labels, zz, zf, zy]; done)) (by simp only [eq_self, V.updL, V.travL, V.travLL, V.trav, updS, updP, and_self, true_and, and_true, false_and, and_false, Nat.reduceEqDiff, Nat.reduceSub, Nat.le_refl, Nat.zero_le, ↓reduceIte, if_true, if_false, kput, zz, zf, zy] <;> rfl) (rfl) ?_
  refine OkOps.nil ?_
  refine Ok.seq ?_
  refine Ok.region ?_
  iterate 3 (refine OkOps.ev tab_ok rfl (by simp only [kev, ktab, klen, kcv] <;> rfl) (by simp only [kput] <;> rfl) ?_)
  refine OkOps.S rfl (ok_append_nil tab_ok (by simp only [ktab] <;> rfl) (by simp only [ktab] <;> rfl) (by decide) rfl rfl (by simp only [kev, ktab, klen, kcv] <;> rfl) (.inl ⟨_, _, by simp only [kev, ktab, klen, kcv] <;> rfl⟩) (by simp only [List.length_map]; have := h.2.2; omega) (by simp only [List.length_map]; have := h.2.2; omega)) (by simp only [kput, klen] <;> rfl) ?_
  refine OkOps.ev tab_ok rfl (by simp only [kev, ktab, klen, kcv] <;> rfl) (by simp only [kput] <;> rfl) ?_
  refine OkOps.storeE tab_ok rfl rfl (by simp only [kev, ktab, klen, kcv] <;> rfl) ⟨_, _, by simp only [kev]; rfl⟩ (by first | (simp [V.labelsL, V.labelsLL, V.labels, zz, zf, zy]; done) | (simp [-List.map_map, -List.map_drop, -List.map_take, -List.map_tail, -List.drop_one, V.labelsL, V.labelsLL, V.labels, zz, zf, zy]; done)) (by simp only [eq_self, V.updL, V.travL, V.travLL, V.trav, updS, updP, and_self, true_and, and_true, false_and, and_false, Nat.reduceEqDiff, Nat.reduceSub, Nat.le_refl, Nat.zero_le, ↓reduceIte, if_true, if_false, kput, zz, zf, zy] <;> rfl) (rfl) ?_
  refine OkOps.nil ?_
  refine Ok.seq ?_
  refine Ok.region ?_
  refine OkOps.ev tab_ok rfl (by simp only [kev, ktab, klen, kcv] <;> rfl) (by simp only [kput] <;> rfl) ?_
  refine OkOps.storeE tab_ok rfl rfl (by simp only [kev, ktab, klen, kcv] <;> rfl) ⟨_, _, by simp only [kev]; rfl⟩ (by first | (simp [V.labelsL, V.labelsLL, V.labels, zz, zf, zy]; done) | (simp [-List.map_map, -List.map_drop, -List.map_take, -List.map_tail, -List.drop_one, V.labelsL, V.labelsLL, V.labels, zz, zf, zy]; done)) (by simp only [eq_self, V.updL, V.travL, V.travLL, V.trav, updS, updP, and_self, true_and, and_true, false_and, and_false, Nat.reduceEqDiff, Nat.reduceSub, Nat.le_refl, Nat.zero_le, ↓reduceIte, if_true, if_false, kput, zz, zf, zy] <;> rfl) (rfl) ?_
  refine OkOps.nil ?_
  refine Ok.ret ?_
  repeat (first | with_reducible refine thenQ_ret ?_ | with_reducible refine blockQ_ret ?_)
  refine retQ.end (by show resVs tab _ [.cell 2 47] = _; simp only [kev, ktab, klen, kcv] <;> rfl) rfl ?_
  exact ⟨by simp [V.erase, V.trav, V.travL, V.travLL, packV, zz, zf], by simp [V.labels, V.labelsL, V.labelsLL, packV, zz, zf], by simp [V.labels, V.labelsL, V.labelsLL, packV, zz, zf]⟩
theorem p_impl_copyServer (x : Server) (h : smServer x) : Pure Try.prog 50 [.agg (cServer x)] (.agg (cServer x)) := by
  refine Pure.of (by simp [V.dat, V.datL, V.datLL, zz, zf, zy]) (OkCall.enter' tab_ok Try.func50 rfl (t := [.agg (cServer x), .any, .any, .any, .any, .any, .any, .any, .any, .any, .any, .any]) rfl ?_)
  refine Ok.seq ?_
  refine Ok.region ?_
  iterate 2 (refine OkOps.ev tab_ok rfl (by simp only [kev, ktab, klen, kcv] <;> rfl) (by simp only [kput] <;> rfl) ?_)
  refine OkOps.nil ?_
  refine Ok.seq ?_
  refine Ok.drawn 9 12 [] (by kernel_rfl) (by kernel_rfl) rfl ?_
  refine SOps.ev tab_ok rfl (by simp only [kev, ktab, klen, kcv] <;> rfl) (by simp only [kput] <;> rfl) ?_
  refine SOps.ev tab_ok rfl (by simp only [kev, ktab, klen, kcv] <;> rfl) (by simp only [kput] <;> rfl) ?_
  obtain ⟨L2a, e2a, L3a, e3a, hXa, q2a, E2a, M2a, N2a, q3a, E3a, M3a, N3a, nda, rga⟩ := ownKept (2) (x.kept)
  obtain ⟨ma, hma⟩ : ∃ m, 2 + 1 + V.cnt (.agg (cKept (x.kept))) = m + 1 := ⟨2 + V.cnt (.agg (cKept (x.kept))), by omega⟩
  have r2a : ∀ z ∈ V.labels (.sl (L2a + 1) 7 0 e2a), 2 + 1 ≤ z ∧ z < ma + 1 := fun z hz => by have := rga z (by first | exact hz | (simp only [V.labelsL, V.labels, List.mem_append] at hz ⊢; simp only [hz, true_or, or_true])); omega
  have r3a : ∀ z ∈ V.labels (.sl (L3a + 1) 1 0 e3a), 2 + 1 ≤ z ∧ z < ma + 1 := fun z hz => by have := rga z (by first | exact hz | (simp only [V.labelsL, V.labels, List.mem_append] at hz ⊢; simp only [hz, true_or, or_true])); omega
  refine SOps.S' rfl (OpS.pureM rfl (by simp only [kev, ktab, klen, kcv] <;> rfl) (by simp only [kev, ktab, klen, kcv, V.eraseL, V.erase, V.travL, V.trav, zz, zf, zy] <;> rfl) cl89 (by simp [V.dat, V.datL, V.datLL, zz, zf, zy]) (p_impl_copyKept x.kept h.1)) hma (by simp only [kput, hXa] <;> rfl) ?_
  refine SOps.ev tab_ok rfl (by simp only [kev, ktab, klen, kcv] <;> rfl) (by simp only [kput] <;> rfl) ?_
  refine SOps.ev tab_ok rfl (by simp only [kev, ktab, klen, kcv] <;> rfl) (by simp only [kput] <;> rfl) ?_
  obtain ⟨L5b, e5b, hXb, q5b, E5b, M5b, N5b, ndb, rgb⟩ := ownSession (ma) (x.session)
  obtain ⟨mb, hmb⟩ : ∃ m, ma + 1 + V.cnt (.agg (cSession (x.session))) = m + 1 := ⟨ma + V.cnt (.agg (cSession (x.session))), by omega⟩
  have r5b : ∀ z ∈ V.labels (.sl (L5b + 1) 1 0 e5b), ma + 1 ≤ z ∧ z < mb + 1 := fun z hz => by have := rgb z (by first | exact hz | (simp only [V.labelsL, V.labels, List.mem_append] at hz ⊢; simp only [hz, true_or, or_true])); omega
  refine SOps.S' rfl (OpS.pureM rfl (by simp only [kev, ktab, klen, kcv] <;> rfl) (by simp only [kev, ktab, klen, kcv, E2a, M2a, N2a, E3a, M3a, N3a, V.eraseL, V.erase, V.travL, V.trav, zz, zf, zy] <;> rfl) cl90 (by simp [V.dat, V.datL, V.datLL, zz, zf, zy]) (p_impl_copySession x.session h.2)) hmb (by simp only [kput, hXb] <;> rfl) ?_
  refine SOps.ev tab_ok rfl (by simp only [kev, ktab, klen, kcv] <;> rfl) (by simp only [kput] <;> rfl) ?_
  refine SOps.ev tab_ok rfl (by simp only [kev, ktab, klen, kcv] <;> rfl) (by simp only [kput] <;> rfl) ?_
  refine SOps.ev tab_ok rfl (by simp [ev1, fillV, kev, ktab, klen] <;> first | rfl | exact ⟨rfl, rfl⟩) (by simp only [kput] <;> rfl) ?_
  refine SOps.nil ?_
  refine TOps.storeN tab_ok rfl rfl (by simp only [kev, ktab, klen, kcv] <;> rfl) ⟨_, _, by simp only [kev]; rfl⟩ (by first | (simp [V.labelsL, V.labelsLL, V.labels, zz, zf, zy]; done) | (intro h; simp only [V.labelsL, V.labels, List.mem_append, List.append_nil, List.nil_append, List.not_mem_nil, or_false, false_or] at h; rcases h with h | h | h <;> first | (have := r2a _ h; omega) | (have := r3a _ h; omega) | (have := r5b _ h; omega))) (fun W hW hF => by have z2a := hW.far (.sl (L2a + 1) 7 0 e2a) (fun y hy h => by have := r2a y hy; skip; omega); have zz2a := fun K => hW.far (.sl (L2a + 1) 7 0 (V.mkLL K e2a)) (fun y hy h => by have := r2a y (by simp only [V.labels, mkLL_labels] at hy; exact hy); skip; omega); have z3a := hW.far (.sl (L3a + 1) 1 0 e3a) (fun y hy h => by have := r3a y hy; skip; omega); have zz3a := fun K => hW.far (.sl (L3a + 1) 1 0 (V.mkLL K e3a)) (fun y hy h => by have := r3a y (by simp only [V.labels, mkLL_labels] at hy; exact hy); skip; omega); have z5b := hW.far (.sl (L5b + 1) 1 0 e5b) (fun y hy h => by have := r5b y hy; skip; omega); have zz5b := fun K => hW.far (.sl (L5b + 1) 1 0 (V.mkLL K e5b)) (fun y hy h => by have := r5b y (by simp only [V.labels, mkLL_labels] at hy; exact hy); skip; omega); have w0_2 := hW.far (.sl 0 7 0 ((x).kept.store.boxes.map cBox)) (fun y hy h => by have h0 : y = 0 := (show ∀ y ∈ V.labels (.sl 0 7 0 ((x).kept.store.boxes.map cBox)), y = 0 by simp [V.labels, zz, zf, zy]) y hy; skip; omega); have w0_3 := hW.far (.sl 0 1 0 ((x).kept.store.gone.map cZ)) (fun y hy h => by have h0 : y = 0 := (show ∀ y ∈ V.labels (.sl 0 1 0 ((x).kept.store.gone.map cZ)), y = 0 by simp [V.labels, zz, zf, zy]) y hy; skip; omega); have w0_11 := hW.far (.sl 0 1 0 ((x).session.view.map cZ)) (fun y hy h => by have h0 : y = 0 := (show ∀ y ∈ V.labels (.sl 0 1 0 ((x).session.view.map cZ)), y = 0 by simp [V.labels, zz, zf, zy]) y hy; skip; omega); have p0 := fun i o e => hW.ptr (1) i o e (by omega); simp only [List.map_cons, List.map_nil, hW.int, hW.str, hW.bool, hW.any, hW.tup0, hW.agg, hW.nilV, hF.ptr, z2a, zz2a, z3a, zz3a, z5b, zz5b, w0_2, w0_3, w0_11, p0, kput] <;> rfl) ?_
  refine TOps.nil ?_
  refine Ok.ret ?_
  repeat (first | with_reducible refine thenQ_ret ?_ | with_reducible refine blockQ_ret ?_)
  refine retQ.end (by show resVs tab _ [.cell 2 49] = _; simp only [kev, ktab, klen, kcv] <;> rfl) rfl ?_
  exact ⟨(by simp only [packV, V.erase, V.trav, V.travL, V.travLL, zz, zf, zy, E2a, E3a, E5b] <;> rfl), (by intro L hL; simp only [packV, V.labels, V.labelsL, List.append_nil, List.nil_append] at hL; (try rw [List.mem_append] at hL); (try rw [List.mem_append] at hL); rcases hL with hL | hL | hL <;>  first | (have := r2a L hL; omega) | (have := r3a L hL; omega) | (have := r5b L hL; omega)), (by have n1 := nda; have n2 := ndb; simp only [V.labels, V.labelsL, List.append_nil, List.nil_append] at n1 n2; simp only [packV, V.labels, V.labelsL, List.append_nil, List.nil_append]; rw [← List.append_assoc]; rw [List.nodup_append]; exact ⟨n1, n2, fun y hy z hz h => by rcases List.mem_append.1 hy with hy | hy <;> (have q2 := r5b z hz; first | (have q1 := r2a y hy; omega) | (have q1 := r3a y hy; omega))⟩)⟩
theorem p_spec_l16Copy (x : Server) (h : smServer x) : Pure Try.prog 47 [.agg (cServer x)] (.agg (cServer x)) := by
  refine Pure.of (by simp [V.dat, V.datL, V.datLL, zz, zf, zy]) (OkCall.enter' tab_ok Try.func47 rfl (t := [.agg (cServer x), .any, .any, .any, .any, .any, .any, .any, .any, .any, .any, .any]) rfl ?_)
  refine Ok.seq ?_
  refine Ok.region ?_
  iterate 2 (refine OkOps.ev tab_ok rfl (by simp only [kev, ktab, klen, kcv] <;> rfl) (by simp only [kput] <;> rfl) ?_)
  refine OkOps.nil ?_
  refine Ok.seq ?_
  refine Ok.drawn 9 12 [] (by kernel_rfl) (by kernel_rfl) rfl ?_
  refine SOps.ev tab_ok rfl (by simp only [kev, ktab, klen, kcv] <;> rfl) (by simp only [kput] <;> rfl) ?_
  refine SOps.ev tab_ok rfl (by simp only [kev, ktab, klen, kcv] <;> rfl) (by simp only [kput] <;> rfl) ?_
  obtain ⟨L2a, e2a, L3a, e3a, hXa, q2a, E2a, M2a, N2a, q3a, E3a, M3a, N3a, nda, rga⟩ := ownKept (2) (x.kept)
  obtain ⟨ma, hma⟩ : ∃ m, 2 + 1 + V.cnt (.agg (cKept (x.kept))) = m + 1 := ⟨2 + V.cnt (.agg (cKept (x.kept))), by omega⟩
  have r2a : ∀ z ∈ V.labels (.sl (L2a + 1) 7 0 e2a), 2 + 1 ≤ z ∧ z < ma + 1 := fun z hz => by have := rga z (by first | exact hz | (simp only [V.labelsL, V.labels, List.mem_append] at hz ⊢; simp only [hz, true_or, or_true])); omega
  have r3a : ∀ z ∈ V.labels (.sl (L3a + 1) 1 0 e3a), 2 + 1 ≤ z ∧ z < ma + 1 := fun z hz => by have := rga z (by first | exact hz | (simp only [V.labelsL, V.labels, List.mem_append] at hz ⊢; simp only [hz, true_or, or_true])); omega
  refine SOps.S' rfl (OpS.pureM rfl (by simp only [kev, ktab, klen, kcv] <;> rfl) (by simp only [kev, ktab, klen, kcv, V.eraseL, V.erase, V.travL, V.trav, zz, zf, zy] <;> rfl) cl85 (by simp [V.dat, V.datL, V.datLL, zz, zf, zy]) (p_spec_l12Copy x.kept h.1)) hma (by simp only [kput, hXa] <;> rfl) ?_
  refine SOps.ev tab_ok rfl (by simp only [kev, ktab, klen, kcv] <;> rfl) (by simp only [kput] <;> rfl) ?_
  refine SOps.ev tab_ok rfl (by simp only [kev, ktab, klen, kcv] <;> rfl) (by simp only [kput] <;> rfl) ?_
  obtain ⟨L5b, e5b, hXb, q5b, E5b, M5b, N5b, ndb, rgb⟩ := ownSession (ma) (x.session)
  obtain ⟨mb, hmb⟩ : ∃ m, ma + 1 + V.cnt (.agg (cSession (x.session))) = m + 1 := ⟨ma + V.cnt (.agg (cSession (x.session))), by omega⟩
  have r5b : ∀ z ∈ V.labels (.sl (L5b + 1) 1 0 e5b), ma + 1 ≤ z ∧ z < mb + 1 := fun z hz => by have := rgb z (by first | exact hz | (simp only [V.labelsL, V.labels, List.mem_append] at hz ⊢; simp only [hz, true_or, or_true])); omega
  refine SOps.S' rfl (OpS.pureM rfl (by simp only [kev, ktab, klen, kcv] <;> rfl) (by simp only [kev, ktab, klen, kcv, E2a, M2a, N2a, E3a, M3a, N3a, V.eraseL, V.erase, V.travL, V.trav, zz, zf, zy] <;> rfl) cl86 (by simp [V.dat, V.datL, V.datLL, zz, zf, zy]) (p_spec_l15Copy x.session h.2)) hmb (by simp only [kput, hXb] <;> rfl) ?_
  refine SOps.ev tab_ok rfl (by simp only [kev, ktab, klen, kcv] <;> rfl) (by simp only [kput] <;> rfl) ?_
  refine SOps.ev tab_ok rfl (by simp only [kev, ktab, klen, kcv] <;> rfl) (by simp only [kput] <;> rfl) ?_
  refine SOps.ev tab_ok rfl (by simp [ev1, fillV, kev, ktab, klen] <;> first | rfl | exact ⟨rfl, rfl⟩) (by simp only [kput] <;> rfl) ?_
  refine SOps.nil ?_
  refine TOps.storeN tab_ok rfl rfl (by simp only [kev, ktab, klen, kcv] <;> rfl) ⟨_, _, by simp only [kev]; rfl⟩ (by first | (simp [V.labelsL, V.labelsLL, V.labels, zz, zf, zy]; done) | (intro h; simp only [V.labelsL, V.labels, List.mem_append, List.append_nil, List.nil_append, List.not_mem_nil, or_false, false_or] at h; rcases h with h | h | h <;> first | (have := r2a _ h; omega) | (have := r3a _ h; omega) | (have := r5b _ h; omega))) (fun W hW hF => by have z2a := hW.far (.sl (L2a + 1) 7 0 e2a) (fun y hy h => by have := r2a y hy; skip; omega); have zz2a := fun K => hW.far (.sl (L2a + 1) 7 0 (V.mkLL K e2a)) (fun y hy h => by have := r2a y (by simp only [V.labels, mkLL_labels] at hy; exact hy); skip; omega); have z3a := hW.far (.sl (L3a + 1) 1 0 e3a) (fun y hy h => by have := r3a y hy; skip; omega); have zz3a := fun K => hW.far (.sl (L3a + 1) 1 0 (V.mkLL K e3a)) (fun y hy h => by have := r3a y (by simp only [V.labels, mkLL_labels] at hy; exact hy); skip; omega); have z5b := hW.far (.sl (L5b + 1) 1 0 e5b) (fun y hy h => by have := r5b y hy; skip; omega); have zz5b := fun K => hW.far (.sl (L5b + 1) 1 0 (V.mkLL K e5b)) (fun y hy h => by have := r5b y (by simp only [V.labels, mkLL_labels] at hy; exact hy); skip; omega); have w0_2 := hW.far (.sl 0 7 0 ((x).kept.store.boxes.map cBox)) (fun y hy h => by have h0 : y = 0 := (show ∀ y ∈ V.labels (.sl 0 7 0 ((x).kept.store.boxes.map cBox)), y = 0 by simp [V.labels, zz, zf, zy]) y hy; skip; omega); have w0_3 := hW.far (.sl 0 1 0 ((x).kept.store.gone.map cZ)) (fun y hy h => by have h0 : y = 0 := (show ∀ y ∈ V.labels (.sl 0 1 0 ((x).kept.store.gone.map cZ)), y = 0 by simp [V.labels, zz, zf, zy]) y hy; skip; omega); have w0_11 := hW.far (.sl 0 1 0 ((x).session.view.map cZ)) (fun y hy h => by have h0 : y = 0 := (show ∀ y ∈ V.labels (.sl 0 1 0 ((x).session.view.map cZ)), y = 0 by simp [V.labels, zz, zf, zy]) y hy; skip; omega); have p0 := fun i o e => hW.ptr (1) i o e (by omega); simp only [List.map_cons, List.map_nil, hW.int, hW.str, hW.bool, hW.any, hW.tup0, hW.agg, hW.nilV, hF.ptr, z2a, zz2a, z3a, zz3a, z5b, zz5b, w0_2, w0_3, w0_11, p0, kput] <;> rfl) ?_
  refine TOps.nil ?_
  refine Ok.ret ?_
  repeat (first | with_reducible refine thenQ_ret ?_ | with_reducible refine blockQ_ret ?_)
  refine retQ.end (by show resVs tab _ [.cell 2 49] = _; simp only [kev, ktab, klen, kcv] <;> rfl) rfl ?_
  exact ⟨(by simp only [packV, V.erase, V.trav, V.travL, V.travLL, zz, zf, zy, E2a, E3a, E5b] <;> rfl), (by intro L hL; simp only [packV, V.labels, V.labelsL, List.append_nil, List.nil_append] at hL; (try rw [List.mem_append] at hL); (try rw [List.mem_append] at hL); rcases hL with hL | hL | hL <;>  first | (have := r2a L hL; omega) | (have := r3a L hL; omega) | (have := r5b L hL; omega)), (by have n1 := nda; have n2 := ndb; simp only [V.labels, V.labelsL, List.append_nil, List.nil_append] at n1 n2; simp only [packV, V.labels, V.labelsL, List.append_nil, List.nil_append]; rw [← List.append_assoc]; rw [List.nodup_append]; exact ⟨n1, n2, fun y hy z hz h => by rcases List.mem_append.1 hy with hy | hy <;> (have q2 := r5b z hz; first | (have q1 := r2a y hy; omega) | (have q1 := r3a y hy; omega))⟩)⟩
end Go.Proofs.Ytjhfabimacljhaa.K
