/- Walks: the copies of the program as data of the call's own, 2. Printed by w2.py. -/
import Derived.Test.YtjhfabimacljhaaY31
namespace Go.Proofs.Ytjhfabimacljhaa.K
open Go Go.RowKit
set_option linter.unusedVariables false
set_option linter.unusedSimpArgs false
set_option maxHeartbeats 4000000
set_option maxRecDepth 20000
theorem p_impl_copyBox (x : Box) (h : smBox x) : Pure Try.prog 144 [.agg (cBox x)] (.agg (cBox x)) := by
  refine Pure.of (by simp [V.dat, V.datL, V.datLL, zz, zf, zy]) (OkCall.enter' tab_ok Try.func144 rfl (t := [.agg (cBox x), .any, .any, .any, .any, .any, .any, .any, .any, .any, .any, .any, .any, .any, .any, .any, .any, .any, .any, .any, .any, .any, .any, .any, .any, .any, .any, .any, .any]) rfl ?_)
  refine Ok.seq ?_
  refine Ok.region ?_
  iterate 2 (refine OkOps.ev tab_ok rfl (by simp only [kev, ktab, klen, kcv] <;> rfl) (by simp only [kput] <;> rfl) ?_)
  refine OkOps.nil ?_
  refine Ok.seq ?_
  refine Ok.region ?_
  iterate 2 (refine OkOps.ev tab_ok rfl (by simp only [kev, ktab, klen, kcv] <;> rfl) (by simp only [kput] <;> rfl) ?_)
  refine OkOps.storeN tab_ok rfl rfl (by simp only [kev, ktab, klen, kcv] <;> rfl) ⟨_, _, by simp only [kev]; rfl⟩ (by first | (simp [V.labelsL, V.labelsLL, V.labels, zz, zf, zy]; done) | (intro h; (simp [V.labelsL, V.labels, zz, zf, zy] at h))) (fun W hW hF => by have w0_5 := hW.far (.sl 0 4 0 ((x).mails.map cMail)) (fun y hy h => by have h0 : y = 0 := (show ∀ y ∈ V.labels (.sl 0 4 0 ((x).mails.map cMail)), y = 0 by simp [V.labels, zz, zf, zy]) y hy; skip; omega); have w0_6 := hW.far (.sl 0 1 0 ((x).gone.map cZ)) (fun y hy h => by have h0 : y = 0 := (show ∀ y ∈ V.labels (.sl 0 1 0 ((x).gone.map cZ)), y = 0 by simp [V.labels, zz, zf, zy]) y hy; skip; omega); have w1_0 := hW.far (.sl 0 4 0 (x.mails.map cMail)) (fun y hy h => by have h0 : y = 0 := (show ∀ y ∈ V.labels (.sl 0 4 0 (x.mails.map cMail)), y = 0 by simp [V.labels, zz, zf, zy]) y hy; skip; omega); have p0 := fun i o e => hW.ptr (1) i o e (by omega);  have p1 := fun i o e => hW.ptr (2) i o e (by omega); simp only [List.map_cons, List.map_nil, hW.int, hW.str, hW.bool, hW.any, hW.tup0, hW.agg, hW.nilV, hF.ptr, w0_5, w0_6, w1_0, p0, p1, kput] <;> rfl) ?_
  refine OkOps.nil ?_
  refine Ok.seq ?_
  refine Ok.drop [6] (by simp only [kover] <;> rfl) ?_
  refine Ok.region ?_
  iterate 2 (refine OkOps.ev tab_ok rfl (by simp only [kev, ktab, klen, kcv] <;> rfl) (by simp only [kput] <;> rfl) ?_)
  refine OkOps.storeN tab_ok rfl rfl (by simp only [kev, ktab, klen, kcv] <;> rfl) ⟨_, _, by simp only [kev]; rfl⟩ (by first | (simp [V.labelsL, V.labelsLL, V.labels, zz, zf, zy]; done) | (intro h; (simp [V.labelsL, V.labels, V.labelsLL, zz, zf, zy] at h))) (fun W hW hF => by have w0_5 := hW.far (.sl 0 4 0 ((x).mails.map cMail)) (fun y hy h => by have h0 : y = 0 := (show ∀ y ∈ V.labels (.sl 0 4 0 ((x).mails.map cMail)), y = 0 by simp [V.labels, zz, zf, zy]) y hy; skip; omega); have w0_6 := hW.far (.sl 0 1 0 ((x).gone.map cZ)) (fun y hy h => by have h0 : y = 0 := (show ∀ y ∈ V.labels (.sl 0 1 0 ((x).gone.map cZ)), y = 0 by simp [V.labels, zz, zf, zy]) y hy; skip; omega); have w1_0 := hW.far (.sl 0 4 0 (x.mails.map cMail)) (fun y hy h => by have h0 : y = 0 := (show ∀ y ∈ V.labels (.sl 0 4 0 (x.mails.map cMail)), y = 0 by simp [V.labels, zz, zf, zy]) y hy; skip; omega); have p0 := fun i o e => hW.ptr (1) i o e (by omega);  have p1 := fun i o e => hW.ptr (2) i o e (by omega); simp only [List.map_cons, List.map_nil, hW.int, hW.str, hW.bool, hW.any, hW.tup0, hW.agg, hW.nilV, hF.ptr, w0_5, w0_6, w1_0, p0, p1, kput] <;> rfl) ?_
  refine OkOps.nil ?_
  refine Ok.seq ?_
  refine Ok.seq ?_
  refine Ok.drop [7, 8] (by simp only [kover] <;> rfl) ?_
  refine Ok.cell (d := 3) [.int .i64 x.gid, .str x.name, .int .i64 x.named.time, .int .i64 x.named.by_, .int .i64 x.next, .sl 4 4 0 [], .sl 0 1 0 (x.gone.map cZ)] rfl ⟨le_rfl' _, le_rfl' _, le_rfl' _, le_rfl' _, le_rfl' _, le_nil 4 _, le_rfl' _, trivial⟩ (by simp only [List.set_cons_zero, List.set_cons_succ] <;> rfl) ?_
  refine Ok.region ?_
  iterate 4 (refine OkOps.ev tab_ok rfl (by simp only [kev, ktab, klen, kcv] <;> rfl) (by simp only [kput] <;> rfl) ?_)
  refine OkOps.nil ?_
  refine Ok.block ?_
  refine Ok.loopN (τ := List (List V) × Nat) (fun r => [(3, .ptr 3 0 0 [.int .i64 x.gid, .str x.name, .int .i64 x.named.time, .int .i64 x.named.by_, .int .i64 x.next, .sl 4 4 0 r.1, .sl 0 1 0 (x.gone.map cZ)]), (12, .int .i64 (r.1.length : Int))]) [5, 9, 13, 14, 15, 16, 17, 18, 19, 20, 21, 22, 23] (fun r => by simp only [kover] <;> rfl) (fun r => r.2 + 1) (fun r => r.1.length ≤ x.mails.length ∧ V.travLL (fun sz => V.sl 0 sz 0 []) (fun _ sz _ es => V.sl 0 sz 0 es) (fun _ _ o e => V.ptr 0 0 o e) r.1 = (x.mails.take r.1.length).map cMail ∧ (V.labelsLL r.1).Nodup ∧ (∀ z ∈ V.labelsLL r.1, 5 ≤ z ∧ z < r.2 + 1) ∧ 4 ≤ r.2) (fun r => x.mails.length - r.1.length) ([], 4) (by refine ⟨?_, ?_, ?_, ?_, ?_, ?_, ?_, ?_, ?_, ?_, ?_, ?_, ?_, ?_, ?_, ?_, ?_, ?_, ?_, ?_, ?_, ?_, ?_, ?_, ?_, ?_, ?_, ?_, ?_, trivial⟩ <;> first | exact le_any _ | with_reducible exact le_rfl' _ | (first | exact le_rfl' _ | exact le_nil 1 4) | exact le_rfl' _) (by decide) (⟨Nat.zero_le _, rfl, List.nodup_nil, (fun z hz => by cases hz), Nat.le_refl _⟩) ?_
  rintro ⟨d, k⟩ ⟨h1, h2, h3, h4, h5⟩
  have h1 : d.length ≤ x.mails.length := h1
  have h2 : V.travLL (fun sz => V.sl 0 sz 0 []) (fun _ sz _ es => V.sl 0 sz 0 es) (fun _ _ o e => V.ptr 0 0 o e) d = (x.mails.take d.length).map cMail := h2
  have h3 : (V.labelsLL d).Nodup := h3
  have h4 : ∀ z ∈ V.labelsLL d, 5 ≤ z ∧ z < k + 1 := h4
  have h5 : 4 ≤ k := h5
  refine Ok.seq ?_
  refine Ok.drop [9] (by simp only [kover] <;> rfl) ?_
  refine Ok.region ?_
  refine OkOps.ev tab_ok rfl (by simp only [kev, ktab, klen, kcv] <;> rfl) (by simp only [kput] <;> rfl) ?_
  refine OkOps.nil ?_
  refine Ok.seq ?_
  refine Ok.cond (b := _) (by simp only [kev, ktab, klen, kcv] <;> rfl) (fun hb4 => ?_) (fun hb4 => ?_)
  · try simp only [bsimp] at hb4
    have hi : d.length < x.mails.length := by omega
    refine Ok.skip ?_
    refine Ok.seq ?_
    refine Ok.block ?_
    refine Ok.seq ?_
    refine Ok.drop [13] (by simp only [kover] <;> rfl) ?_
    refine Ok.region ?_
    refine OkOps.ev tab_ok rfl (ev_idx_map (by simp only [kev, ktab, klen, kcv] <;> rfl) (by simp only [kev, ktab, klen, kcv] <;> rfl) (by omega) (by simp only [kev, ktab, klen, kcv] <;> rfl)) (by simp only [kput] <;> rfl) ?_
    iterate 2 (refine OkOps.ev tab_ok rfl (by simp only [kev, ktab, klen, kcv] <;> rfl) (by simp only [kput] <;> rfl) ?_)
    refine OkOps.storeN tab_ok rfl rfl (by simp only [kev, ktab, klen, kcv] <;> rfl) ⟨_, _, by simp only [kev]; rfl⟩ (by first | (simp [V.labelsL, V.labelsLL, V.labels, zz, zf, zy]; done) | (intro h; (simp [V.labelsL, V.labels, V.labelsLL, zz, zf, zy] at h))) (fun W hW hF => by have w0_5 := hW.far (.sl 0 4 0 ((x).mails.map cMail)) (fun y hy h => by have h0 : y = 0 := (show ∀ y ∈ V.labels (.sl 0 4 0 ((x).mails.map cMail)), y = 0 by simp [V.labels, zz, zf, zy]) y hy; skip; omega); have w0_6 := hW.far (.sl 0 1 0 ((x).gone.map cZ)) (fun y hy h => by have h0 : y = 0 := (show ∀ y ∈ V.labels (.sl 0 1 0 ((x).gone.map cZ)), y = 0 by simp [V.labels, zz, zf, zy]) y hy; skip; omega); have w1_0 := hW.far (.sl 0 4 0 (x.mails.map cMail)) (fun y hy h => by have h0 : y = 0 := (show ∀ y ∈ V.labels (.sl 0 4 0 (x.mails.map cMail)), y = 0 by simp [V.labels, zz, zf, zy]) y hy; skip; omega); have p9 := fun i o e => hW.ptr 0 i o e (by omega); have wd := hW.far (.sl 4 4 0 d) (fun y hy h => by simp only [V.labels, List.mem_cons] at hy; rcases hy with hy | hy <;> first | omega | (have := h4 y hy; omega)); have w8_2 := hW.far (.sl 0 3 0 ((x.mails[d.length]).flags.map cReg)) (fun z hz h => by have h0 : z = 0 := (show ∀ z ∈ V.labels (.sl 0 3 0 ((x.mails[d.length]).flags.map cReg)), z = 0 by simp [V.labels, zz, zf, zy]) z hz; omega); have p0 := fun i o e => hW.ptr (1) i o e (by omega);  have p1 := fun i o e => hW.ptr (2) i o e (by omega);  have p2 := fun i o e => hW.ptr (3) i o e (by omega); simp only [List.map_cons, List.map_nil, hW.int, hW.str, hW.bool, hW.any, hW.tup0, hW.agg, hW.nilV, hF.ptr, w0_5, w0_6, w1_0, p9, wd, cMail, w8_2, p0, p1, p2, kput] <;> rfl) ?_
    refine OkOps.nil ?_
    refine Ok.drop [14, 15] (by simp only [kover] <;> rfl) ?_
    refine Ok.drawn 5 29 [] (by kernel_rfl) (by kernel_rfl) rfl ?_
    refine SOps.ev tab_ok rfl (by simp only [kev, ktab, klen, kcv] <;> rfl) (by simp only [kput] <;> rfl) ?_
    refine SOps.ev tab_ok rfl (by simp only [kev, ktab, klen, kcv] <;> rfl) (by simp only [kput] <;> rfl) ?_
    refine SOps.ev tab_ok rfl (by simp only [kev, ktab, klen, kcv] <;> rfl) (by simp only [kput] <;> rfl) ?_
    obtain ⟨L2a, e2a, hXa, q2a, E2a, M2a, N2a, nda, rga⟩ := ownMail (k + 1) (x.mails[d.length])
    obtain ⟨ma, hma⟩ : ∃ m, k + 1 + 1 + V.cnt (.agg (cMail (x.mails[d.length]))) = m + 1 := ⟨k + 1 + V.cnt (.agg (cMail (x.mails[d.length]))), by omega⟩
    have r2a : ∀ z ∈ V.labels (.sl (L2a + 1) 3 0 e2a), k + 1 + 1 ≤ z ∧ z < ma + 1 := fun z hz => by have := rga z (by first | exact hz | (simp only [V.labelsL, V.labels, List.mem_append] at hz ⊢; simp only [hz, true_or, or_true])); omega
    refine SOps.S' rfl (OpS.pureM rfl (by simp only [kev, ktab, klen, kcv] <;> rfl) (by simp only [kev, ktab, klen, kcv, V.eraseL, V.erase, V.travL, V.trav, zz, zf, zy] <;> rfl) cl150 (by simp [V.dat, V.datL, V.datLL, zz, zf, zy]) (p_impl_copyMail x.mails[d.length] (h.2.1.2 _ (List.getElem_mem hi)))) hma (by simp only [kput, hXa] <;> rfl) ?_
    refine SOps.ev tab_ok rfl (ev_bs (by simp only [ktab] <;> rfl) (by simp only [ktab] <;> rfl) (by decide) (by decide) (by simp only [kev, ktab, klen, kcv, List.map_cons, List.map_nil] <;> rfl) (by simp only [kfe, beq_self_eq_true, Bool.and_true, Bool.true_and, decide_true, Nat.zero_add, Nat.lt_add_one, Nat.reduceLT, Nat.reduceAdd, Nat.zero_lt_succ, if_true, ↓reduceIte] <;> rfl)) (by simp only [kput] <;> rfl) ?_
    refine SOps.nil ?_
    refine TOps.appendN tab_ok rfl rfl (by simp only [ktab] <;> rfl) (by simp only [ktab] <;> rfl) (by decide) rfl (by simp only [kev, ktab, klen, kcv] <;> rfl) (.inl ⟨_, _, by simp only [kev, ktab, klen, kcv] <;> rfl⟩) (by omega) (by omega) (by simp only [List.length_cons, List.length_nil]; have := h.2.1.1; omega) (by simp only [List.length_cons, List.length_nil]; have := h.2.1.1; omega) (by simp [V.one]) (by intro h; have u2a : ¬ (4 = L2a + 1) := (fun h => (by (have := r2a _ (List.mem_cons_self ..)); omega)); have v2a : ¬ (4 ∈ V.labelsLL e2a) := (fun h => (by (have := r2a _ (List.mem_cons_of_mem _ h)); omega)); have ud : ¬ (4 ∈ V.labelsLL d) := (fun h => (by (have := h4 _ h); omega)); (revert h; show ¬ _; simp [labelsLL_app, V.labelsLL, V.labelsL, V.labels, zz, zf, zy, u2a, v2a, ud] <;> omega)) (fun W hW hF => by have z2a := hW.far (.sl (L2a + 1) 3 0 e2a) (fun y hy h => by have := r2a y hy; skip; omega); have zz2a := fun K => hW.far (.sl (L2a + 1) 3 0 (V.mkLL K e2a)) (fun y hy h => by have := r2a y (by simp only [V.labels, mkLL_labels] at hy; exact hy); skip; omega); have w0_5 := hW.far (.sl 0 4 0 ((x).mails.map cMail)) (fun y hy h => by have h0 : y = 0 := (show ∀ y ∈ V.labels (.sl 0 4 0 ((x).mails.map cMail)), y = 0 by simp [V.labels, zz, zf, zy]) y hy; skip; omega); have w0_6 := hW.far (.sl 0 1 0 ((x).gone.map cZ)) (fun y hy h => by have h0 : y = 0 := (show ∀ y ∈ V.labels (.sl 0 1 0 ((x).gone.map cZ)), y = 0 by simp [V.labels, zz, zf, zy]) y hy; skip; omega); have w1_0 := hW.far (.sl 0 4 0 (x.mails.map cMail)) (fun y hy h => by have h0 : y = 0 := (show ∀ y ∈ V.labels (.sl 0 4 0 (x.mails.map cMail)), y = 0 by simp [V.labels, zz, zf, zy]) y hy; skip; omega); have p9 := fun i o e => hW.ptr 0 i o e (by omega); have p8 := fun sz o e => hW.sl (ma + 1) sz o e (by omega); have w8_2 := hW.far (.sl 0 3 0 ((x.mails[d.length]).flags.map cReg)) (fun z hz h => by have h0 : z = 0 := (show ∀ z ∈ V.labels (.sl 0 3 0 ((x.mails[d.length]).flags.map cReg)), z = 0 by simp [V.labels, zz, zf, zy]) z hz; omega); have p0 := fun i o e => hW.ptr (1) i o e (by omega);  have p1 := fun i o e => hW.ptr (2) i o e (by omega);  have p2 := fun i o e => hW.ptr (3) i o e (by omega);  have p3 := fun i o e => hW.ptr (k + 1) i o e (by omega); simp only [List.map_cons, List.map_nil, hW.int, hW.str, hW.bool, hW.any, hW.tup0, hW.agg, hW.nilV, hF.sl, hF.ptr, z2a, zz2a, w0_5, w0_6, w1_0, p9, p8, cMail, w8_2, p0, p1, p2, p3, kput] <;> rfl) ?_
    refine TOps.ev tab_ok rfl (by simp only [kev, ktab, klen, kcv] <;> rfl) (by simp only [kput] <;> rfl) ?_
    refine TOps.storeN tab_ok rfl rfl (by simp only [kev, ktab, klen, kcv] <;> rfl) ⟨_, _, by simp only [kev]; rfl⟩ (by first | (simp [V.labelsL, V.labelsLL, V.labels, zz, zf, zy]; done) | (intro h; have u2a : ¬ (3 = L2a + 1) := (fun h => (by (have := r2a _ (List.mem_cons_self ..)); omega)); have v2a : ¬ (3 ∈ V.labelsLL e2a) := (fun h => (by (have := r2a _ (List.mem_cons_of_mem _ h)); omega)); have ud : ¬ (3 ∈ V.labelsLL d) := (fun h => (by (have := h4 _ h); omega)); (revert h; show ¬ _; simp [labelsLL_app, V.labelsLL, V.labelsL, V.labels, zz, zf, zy, u2a, v2a, ud] <;> omega))) (fun W hW hF => by have z2a := hW.far (.sl (L2a + 1) 3 0 e2a) (fun y hy h => by have := r2a y hy; skip; omega); have zz2a := fun K => hW.far (.sl (L2a + 1) 3 0 (V.mkLL K e2a)) (fun y hy h => by have := r2a y (by simp only [V.labels, mkLL_labels] at hy; exact hy); skip; omega); have w0_5 := hW.far (.sl 0 4 0 ((x).mails.map cMail)) (fun y hy h => by have h0 : y = 0 := (show ∀ y ∈ V.labels (.sl 0 4 0 ((x).mails.map cMail)), y = 0 by simp [V.labels, zz, zf, zy]) y hy; skip; omega); have w0_6 := hW.far (.sl 0 1 0 ((x).gone.map cZ)) (fun y hy h => by have h0 : y = 0 := (show ∀ y ∈ V.labels (.sl 0 1 0 ((x).gone.map cZ)), y = 0 by simp [V.labels, zz, zf, zy]) y hy; skip; omega); have w1_0 := hW.far (.sl 0 4 0 (x.mails.map cMail)) (fun y hy h => by have h0 : y = 0 := (show ∀ y ∈ V.labels (.sl 0 4 0 (x.mails.map cMail)), y = 0 by simp [V.labels, zz, zf, zy]) y hy; skip; omega); have p9 := fun i o e => hW.ptr 0 i o e (by omega); have p8 := fun sz o e => hW.sl (ma + 1) sz o e (by omega); have p7 := fun sz o e => hW.sl 4 sz o e (by omega); have wl := hW.farLL d (fun y hy h => by have := h4 y hy; omega); have w8_2 := hW.far (.sl 0 3 0 ((x.mails[d.length]).flags.map cReg)) (fun z hz h => by have h0 : z = 0 := (show ∀ z ∈ V.labels (.sl 0 3 0 ((x.mails[d.length]).flags.map cReg)), z = 0 by simp [V.labels, zz, zf, zy]) z hz; omega); have p0 := fun i o e => hW.ptr (1) i o e (by omega);  have p1 := fun i o e => hW.ptr (2) i o e (by omega);  have p3 := fun i o e => hW.ptr (k + 1) i o e (by omega); simp only [List.map_cons, List.map_nil, hW.int, hW.str, hW.bool, hW.any, hW.tup0, hW.agg, hW.nilV, hF.ptr, z2a, zz2a, w0_5, w0_6, w1_0, List.map_append, p9, p8, p7, wl, cMail, w8_2, p0, p1, p3, kput] <;> rfl) ?_
    refine TOps.nil ?_
    refine Ok.drop [16, 17, 18, 19, 20, 21, 22] (by simp only [kover] <;> rfl) ?_
    refine Ok.region ?_
    iterate 2 (refine OkOps.ev tab_ok rfl (by simp only [kev, ktab, klen, kcv] <;> rfl) (by simp only [kput] <;> rfl) ?_)
    refine OkOps.nil ?_
    refine ⟨(d ++ [[.int .i64 (x.mails[d.length]).gid, .int .i64 (x.mails[d.length]).uid, .sl (L2a + 1) 3 0 e2a, .str (x.mails[d.length]).text]], ma + 1), ?_, rfl, (by dsimp only; omega), (by obtain ⟨z1, z2, z3, z4, z5⟩ := rows_snocL (k := k) (m := ma + 1) (c := [.int .i64 (x.mails[d.length]).gid, .int .i64 (x.mails[d.length]).uid, .sl (L2a + 1) 3 0 e2a, .str (x.mails[d.length]).text]) (show 5 ≤ k + 1 by omega) hi h2 h3 h4 (by omega) (by omega) (by simp only [V.travL, V.trav, E2a] <;> rfl) nda (fun z hz => by have := rga z hz; omega); exact ⟨z1, z2, z3, z4, by dsimp only; omega⟩), by show x.mails.length - (d ++ [_]).length < x.mails.length - d.length; rw [List.length_append]; simp only [List.length_cons, List.length_nil]; omega⟩
    refine ⟨?_, ?_, ?_, ?_, ?_, ?_, ?_, ?_, ?_, ?_, ?_, ?_, ?_, ?_, ?_, ?_, ?_, ?_, ?_, ?_, ?_, ?_, ?_, ?_, ?_, ?_, ?_, ?_, ?_, trivial⟩ <;> first | exact le_any _ | with_reducible exact le_rfl' _ | (dsimp only; first | exact le_rfl' _ | (rw [wrap_add_one (by have := h.2.1.1; omega)]; refine le_eqm ?_; simp only [List.length_append, List.length_cons, List.length_nil]; done) | (refine le_eqm ?_; simp only [List.length_append, List.length_cons, List.length_nil, Nat.zero_add]; done)) | exact le_rfl' _
  · try simp only [bsimp] at hb4
    have hi : d.length = x.mails.length := by omega
    rw [hi, List.take_length] at h2
    refine Ok.exit ?_
    refine Ok.seq ?_
    refine Ok.drop [13] (by simp only [kover] <;> rfl) ?_
    refine Ok.region ?_
    iterate 2 (refine OkOps.ev tab_ok rfl (by simp only [kev, ktab, klen, kcv] <;> rfl) (by simp only [kput] <;> rfl) ?_)
    obtain ⟨L0b, e0b, hXb, q0b, E0b, M0b, N0b, ndb, rgb⟩ := ownSInt (k) (x.gone)
    obtain ⟨mb, hmb⟩ : ∃ m, k + 1 + V.cnt (.sl 0 1 0 ((x.gone).map cZ)) = m + 1 := ⟨k + V.cnt (.sl 0 1 0 ((x.gone).map cZ)), by omega⟩
    have r0b : ∀ z ∈ V.labels (.sl (L0b + 1) 1 0 e0b), k + 1 ≤ z ∧ z < mb + 1 := fun z hz => by have := rgb z (by first | exact hz | (simp only [V.labelsL, V.labels, List.mem_append] at hz ⊢; simp only [hz, true_or, or_true])); omega
    refine OkOps.S' rfl (OpS.pure' rfl (by simp only [kev, ktab, klen, kcv] <;> rfl) (by simp only [kev, ktab, klen, kcv, V.eraseL, V.erase, V.travL, V.trav, zz, zf, zy] <;> rfl) cl116 (by simp [V.dat, V.datL, V.datLL, zz, zf, zy]) (p_impl_copyInts x.gone h.2.2)) hmb (by simp only [kput, hXb] <;> rfl) ?_
    refine OkOps.ev tab_ok rfl (by simp only [kev, ktab, klen, kcv] <;> rfl) (by simp only [kput] <;> rfl) ?_
    refine OkOps.storeN tab_ok rfl rfl (by simp only [kev, ktab, klen, kcv] <;> rfl) ⟨_, _, by simp only [kev]; rfl⟩ (by first | (simp [V.labelsL, V.labelsLL, V.labels, zz, zf, zy]; done) | (intro h; have u0b : ¬ (3 = L0b + 1) := (fun h => (by (have := r0b _ (List.mem_cons_self ..)); omega)); have v0b : ¬ (3 ∈ V.labelsLL e0b) := (fun h => (by (have := r0b _ (List.mem_cons_of_mem _ h)); omega)); have ud : ¬ (3 ∈ V.labelsLL d) := (fun h => (by (have := h4 _ h); omega)); (revert h; show ¬ _; simp [labelsLL_app, V.labelsLL, V.labelsL, V.labels, zz, zf, zy, u0b, v0b, ud] <;> omega))) (fun W hW hF => by have z0b := hW.far (.sl (L0b + 1) 1 0 e0b) (fun y hy h => by have := r0b y hy; skip; omega); have zz0b := fun K => hW.far (.sl (L0b + 1) 1 0 (V.mkLL K e0b)) (fun y hy h => by have := r0b y (by simp only [V.labels, mkLL_labels] at hy; exact hy); skip; omega); have w0_5 := hW.far (.sl 0 4 0 ((x).mails.map cMail)) (fun y hy h => by have h0 : y = 0 := (show ∀ y ∈ V.labels (.sl 0 4 0 ((x).mails.map cMail)), y = 0 by simp [V.labels, zz, zf, zy]) y hy; skip; omega); have w0_6 := hW.far (.sl 0 1 0 ((x).gone.map cZ)) (fun y hy h => by have h0 : y = 0 := (show ∀ y ∈ V.labels (.sl 0 1 0 ((x).gone.map cZ)), y = 0 by simp [V.labels, zz, zf, zy]) y hy; skip; omega); have w1_0 := hW.far (.sl 0 4 0 (x.mails.map cMail)) (fun y hy h => by have h0 : y = 0 := (show ∀ y ∈ V.labels (.sl 0 4 0 (x.mails.map cMail)), y = 0 by simp [V.labels, zz, zf, zy]) y hy; skip; omega); have p9 := fun i o e => hW.ptr 0 i o e (by omega); have wd := hW.far (.sl 4 4 0 d) (fun y hy h => by simp only [V.labels, List.mem_cons] at hy; rcases hy with hy | hy <;> first | omega | (have := h4 y hy; omega)); have p0 := fun i o e => hW.ptr (1) i o e (by omega);  have p1 := fun i o e => hW.ptr (2) i o e (by omega); simp only [List.map_cons, List.map_nil, hW.int, hW.str, hW.bool, hW.any, hW.tup0, hW.agg, hW.nilV, hF.ptr, z0b, zz0b, w0_5, w0_6, w1_0, p9, wd, cMail, p0, p1, kput] <;> rfl) ?_
    refine OkOps.nil ?_
    refine Ok.seq ?_
    refine Ok.drop [24, 25, 26, 27] (by simp only [kover] <;> rfl) ?_
    refine Ok.region ?_
    refine OkOps.ev tab_ok rfl (by simp only [kev, ktab, klen, kcv] <;> rfl) (by simp only [kput] <;> rfl) ?_
    refine OkOps.storeN tab_ok rfl rfl (by simp only [kev, ktab, klen, kcv] <;> rfl) ⟨_, _, by simp only [kev]; rfl⟩ (by first | (simp [V.labelsL, V.labelsLL, V.labels, zz, zf, zy]; done) | (intro h; have u0b : ¬ (2 = L0b + 1) := (fun h => (by (have := r0b _ (List.mem_cons_self ..)); omega)); have v0b : ¬ (2 ∈ V.labelsLL e0b) := (fun h => (by (have := r0b _ (List.mem_cons_of_mem _ h)); omega)); have ud : ¬ (2 ∈ V.labelsLL d) := (fun h => (by (have := h4 _ h); omega)); (revert h; show ¬ _; simp [labelsLL_app, V.labelsLL, V.labelsL, V.labels, zz, zf, zy, u0b, v0b, ud] <;> omega))) (fun W hW hF => by have z0b := hW.far (.sl (L0b + 1) 1 0 e0b) (fun y hy h => by have := r0b y hy; skip; omega); have zz0b := fun K => hW.far (.sl (L0b + 1) 1 0 (V.mkLL K e0b)) (fun y hy h => by have := r0b y (by simp only [V.labels, mkLL_labels] at hy; exact hy); skip; omega); have w0_5 := hW.far (.sl 0 4 0 ((x).mails.map cMail)) (fun y hy h => by have h0 : y = 0 := (show ∀ y ∈ V.labels (.sl 0 4 0 ((x).mails.map cMail)), y = 0 by simp [V.labels, zz, zf, zy]) y hy; skip; omega); have w0_6 := hW.far (.sl 0 1 0 ((x).gone.map cZ)) (fun y hy h => by have h0 : y = 0 := (show ∀ y ∈ V.labels (.sl 0 1 0 ((x).gone.map cZ)), y = 0 by simp [V.labels, zz, zf, zy]) y hy; skip; omega); have w1_0 := hW.far (.sl 0 4 0 (x.mails.map cMail)) (fun y hy h => by have h0 : y = 0 := (show ∀ y ∈ V.labels (.sl 0 4 0 (x.mails.map cMail)), y = 0 by simp [V.labels, zz, zf, zy]) y hy; skip; omega); have p9 := fun i o e => hW.ptr 0 i o e (by omega); have wd := hW.far (.sl 4 4 0 d) (fun y hy h => by simp only [V.labels, List.mem_cons] at hy; rcases hy with hy | hy <;> first | omega | (have := h4 y hy; omega)); have p0 := fun i o e => hW.ptr (1) i o e (by omega);  have p2 := fun i o e => hW.ptr (3) i o e (by omega); simp only [List.map_cons, List.map_nil, hW.int, hW.str, hW.bool, hW.any, hW.tup0, hW.agg, hW.nilV, hF.ptr, z0b, zz0b, w0_5, w0_6, w1_0, p9, wd, cMail, p0, p2, kput] <;> rfl) ?_
    refine OkOps.nil ?_
    refine Ok.ret ?_
    repeat (first | with_reducible refine thenQ_ret ?_ | with_reducible refine blockQ_ret ?_)
    refine retQ.end (by show resVs tab _ [.cell 2 131] = _; simp only [kev, ktab, klen, kcv] <;> rfl) rfl ?_
    exact ⟨(by simp only [packV, V.erase, V.trav, V.travL, V.travLL, zz, zf, zy, h2, E0b] <;> rfl), (by intro L hL; simp only [packV, V.labels, V.labelsL, List.append_nil, List.nil_append, List.mem_append, List.mem_cons] at hL; rcases hL with (hL | hL) | hL <;> first | omega | (have := h4 L hL; omega) | (have := r0b L (by simpa only [V.labels, List.mem_cons] using hL); omega)), (by simp only [packV, V.labels, V.labelsL, List.append_nil, List.nil_append]; rw [List.nodup_append]; exact ⟨List.nodup_cons.2 ⟨fun h => by (have := h4 4 h); omega, h3⟩, ndb, fun y hy z hz h => by (have q2 := r0b z hz); (rcases List.mem_cons.1 hy with hy | hy); omega; (have := h4 y hy; omega)⟩)⟩
theorem p_impl_copyBoxes (a : List Box) (ha : a.length ≤ 1048576) (hz : ∀ z ∈ a, smBox z) : Pure Try.prog 136 [.sl 0 7 0 (a.map cBox)] (.sl 0 7 0 (a.map cBox)) := by
  refine Pure.of (by simp [V.dat, V.datL, V.datLL, zz, zf, zy]) (OkCall.enter' tab_ok Try.func136 rfl (t := [.sl 0 7 0 (a.map cBox), .any, .any, .any, .any, .any, .any, .any, .any, .any, .any, .any, .any, .any, .any, .any, .any, .any, .any, .any]) rfl ?_)
  refine Ok.seq ?_
  refine Ok.region ?_
  refine OkOps.ev tab_ok rfl (by simp only [kev, ktab, klen, kcv] <;> rfl) (by simp only [kput] <;> rfl) ?_
  refine OkOps.nil ?_
  refine Ok.seq ?_
  refine Ok.region ?_
  iterate 2 (refine OkOps.ev tab_ok rfl (by simp only [kev, ktab, klen, kcv] <;> rfl) (by simp only [kput] <;> rfl) ?_)
  refine OkOps.nil ?_
  refine Ok.seq ?_
  refine Ok.seq ?_
  refine Ok.drop [6] (by simp only [kover] <;> rfl) ?_
  refine Ok.region ?_
  iterate 3 (refine OkOps.ev tab_ok rfl (by simp only [kev, ktab, klen, kcv] <;> rfl) (by simp only [kput] <;> rfl) ?_)
  refine OkOps.nil ?_
  refine Ok.block ?_
  refine Ok.loopN (τ := List (List V) × Nat) (fun x => [(3, .sl 1 7 0 x.1), (9, .int .i64 (x.1.length : Int))]) [5, 10, 11, 12, 13, 14, 15, 16, 17, 18] (fun x => by simp only [kover] <;> rfl) (fun x => x.2 + 1) (fun x => x.1.length ≤ a.length ∧ V.travLL (fun sz => V.sl 0 sz 0 []) (fun _ sz _ es => V.sl 0 sz 0 es) (fun _ _ o e => V.ptr 0 0 o e) x.1 = (a.take x.1.length).map cBox ∧ (V.labelsLL x.1).Nodup ∧ (∀ z ∈ V.labelsLL x.1, 2 ≤ z ∧ z < x.2 + 1) ∧ 1 ≤ x.2) (fun x => a.length - x.1.length) ([], 1) (by refine ⟨?_, ?_, ?_, ?_, ?_, ?_, ?_, ?_, ?_, ?_, ?_, ?_, ?_, ?_, ?_, ?_, ?_, ?_, ?_, ?_, trivial⟩ <;> first | exact le_any _ | with_reducible exact le_rfl' _ | (first | exact le_rfl' _ | exact le_nil 1 7) | exact le_rfl' _) (by decide) (⟨Nat.zero_le _, rfl, List.nodup_nil, (fun z hz => by cases hz), Nat.le_refl _⟩) ?_
  rintro ⟨d, k⟩ ⟨h1, h2, h3, h4, h5⟩
  have h1 : d.length ≤ a.length := h1
  have h2 : V.travLL (fun sz => V.sl 0 sz 0 []) (fun _ sz _ es => V.sl 0 sz 0 es) (fun _ _ o e => V.ptr 0 0 o e) d = (a.take d.length).map cBox := h2
  have h3 : (V.labelsLL d).Nodup := h3
  have h4 : ∀ z ∈ V.labelsLL d, 2 ≤ z ∧ z < k + 1 := h4
  have h5 : 1 ≤ k := h5
  refine Ok.seq ?_
  refine Ok.region ?_
  refine OkOps.ev tab_ok rfl (by simp only [kev, ktab, klen, kcv] <;> rfl) (by simp only [kput] <;> rfl) ?_
  refine OkOps.nil ?_
  refine Ok.seq ?_
  refine Ok.cond (b := _) (by simp only [kev, ktab, klen, kcv] <;> rfl) (fun hb3 => ?_) (fun hb3 => ?_)
  · try simp only [bsimp] at hb3
    have hi : d.length < a.length := by omega
    refine Ok.skip ?_
    refine Ok.seq ?_
    refine Ok.block ?_
    refine Ok.seq ?_
    refine Ok.drop [10] (by simp only [kover] <;> rfl) ?_
    refine Ok.region ?_
    refine OkOps.ev tab_ok rfl (ev_idx_map (by simp only [kev, ktab, klen, kcv] <;> rfl) (by simp only [kev, ktab, klen, kcv] <;> rfl) (by omega) (by simp only [kev, ktab, klen, kcv] <;> rfl)) (by simp only [kput] <;> rfl) ?_
    iterate 2 (refine OkOps.ev tab_ok rfl (by simp only [kev, ktab, klen, kcv] <;> rfl) (by simp only [kput] <;> rfl) ?_)
    refine OkOps.storeN tab_ok rfl rfl (by simp only [kev, ktab, klen, kcv] <;> rfl) ⟨_, _, by simp only [kev]; rfl⟩ (by first | (simp [V.labelsL, V.labelsLL, V.labels, zz, zf, zy]; done) | (intro h; have := (show ∀ y ∈ V.labelsL (cBox a[d.length]), y = 0 by simp [V.labelsL, V.labels, zz, zf, zy, or_imp, forall_and]) _ h; omega)) (fun W hW hF => by have w0_0 := hW.far (.sl 0 7 0 (a.map cBox)) (fun y hy h => by have h0 : y = 0 := (show ∀ y ∈ V.labels (.sl 0 7 0 (a.map cBox)), y = 0 by simp [V.labels, zz, zf, zy]) y hy; skip; omega); have w1_5 := hW.far (.sl 0 4 0 ((a[d.length]).mails.map cMail)) (fun y hy h => by have h0 : y = 0 := (show ∀ y ∈ V.labels (.sl 0 4 0 ((a[d.length]).mails.map cMail)), y = 0 by simp [V.labels, zz, zf, zy]) y hy; skip; omega); have w1_6 := hW.far (.sl 0 1 0 ((a[d.length]).gone.map cZ)) (fun y hy h => by have h0 : y = 0 := (show ∀ y ∈ V.labels (.sl 0 1 0 ((a[d.length]).gone.map cZ)), y = 0 by simp [V.labels, zz, zf, zy]) y hy; skip; omega); have wd := hW.far (.sl 1 7 0 d) (fun y hy h => by simp only [V.labels, List.mem_cons] at hy; rcases hy with hy | hy <;> first | omega | (have := h4 y hy; omega)); have p9 := fun i o e => hW.ptr 0 i o e (by omega); simp only [List.map_cons, List.map_nil, hW.int, hW.str, hW.bool, hW.any, hW.tup0, hW.agg, hW.nilV, hF.ptr, w0_0, w1_5, w1_6, wd, p9, cBox, kput] <;> rfl) ?_
    refine OkOps.nil ?_
    refine Ok.drop [11, 12] (by simp only [kover] <;> rfl) ?_
    refine Ok.region ?_
    iterate 2 (refine OkOps.ev tab_ok rfl (by simp only [kev, ktab, klen, kcv] <;> rfl) (by simp only [kput] <;> rfl) ?_)
    obtain ⟨L5a, e5a, L6a, e6a, hXa, q5a, E5a, M5a, N5a, q6a, E6a, M6a, N6a, nda, rga⟩ := ownBox (k + 1) (a[d.length])
    obtain ⟨ma, hma⟩ : ∃ m, k + 1 + 1 + V.cnt (.agg (cBox (a[d.length]))) = m + 1 := ⟨k + 1 + V.cnt (.agg (cBox (a[d.length]))), by omega⟩
    have r5a : ∀ z ∈ V.labels (.sl (L5a + 1) 4 0 e5a), k + 1 + 1 ≤ z ∧ z < ma + 1 := fun z hz => by have := rga z (by first | exact hz | (simp only [V.labelsL, V.labels, List.mem_append] at hz ⊢; simp only [hz, true_or, or_true])); omega
    have r6a : ∀ z ∈ V.labels (.sl (L6a + 1) 1 0 e6a), k + 1 + 1 ≤ z ∧ z < ma + 1 := fun z hz => by have := rga z (by first | exact hz | (simp only [V.labelsL, V.labels, List.mem_append] at hz ⊢; simp only [hz, true_or, or_true])); omega
    refine OkOps.S' rfl (OpS.pure' rfl (by simp only [kev, ktab, klen, kcv] <;> rfl) (by simp only [kev, ktab, klen, kcv, V.eraseL, V.erase, V.travL, V.trav, zz, zf, zy] <;> rfl) cl144 (by simp [V.dat, V.datL, V.datLL, zz, zf, zy]) (p_impl_copyBox a[d.length] (hz _ (List.getElem_mem hi)))) hma (by simp only [kput, hXa] <;> rfl) ?_
    refine OkOps.ev tab_ok rfl (ev_bs (by simp only [ktab] <;> rfl) (by simp only [ktab] <;> rfl) (by decide) (by decide) (by simp only [kev, ktab, klen, kcv, List.map_cons, List.map_nil] <;> rfl) (by simp only [kfe, beq_self_eq_true, Bool.and_true, Bool.true_and, decide_true, Nat.zero_add, Nat.lt_add_one, Nat.reduceLT, Nat.reduceAdd, Nat.zero_lt_succ, if_true, ↓reduceIte] <;> rfl)) (by simp only [kput] <;> rfl) ?_
    refine OkOps.appendN tab_ok rfl rfl (by simp only [ktab] <;> rfl) (by simp only [ktab] <;> rfl) (by decide) rfl (by simp only [kev, ktab, klen, kcv] <;> rfl) (.inl ⟨_, _, by simp only [kev, ktab, klen, kcv] <;> rfl⟩) (by omega) (by omega) (by simp only [List.length_cons, List.length_nil]; omega) (by simp only [List.length_cons, List.length_nil]; omega) (by simp [V.one]) (by intro h; simp only [labelsLL_app, V.labelsLL, V.labelsL, V.labels, List.mem_append, List.append_nil, List.nil_append, List.not_mem_nil, or_false, false_or] at h; rcases h with h | h | h <;> first | (have := h4 1 h; omega) | (have := r5a 1 h; omega) | (have := r6a 1 h; omega)) (fun W hW hF => by have z5a := hW.far (.sl (L5a + 1) 4 0 e5a) (fun y hy h => by have := r5a y hy; skip; omega); have zz5a := fun K => hW.far (.sl (L5a + 1) 4 0 (V.mkLL K e5a)) (fun y hy h => by have := r5a y (by simp only [V.labels, mkLL_labels] at hy; exact hy); skip; omega); have z6a := hW.far (.sl (L6a + 1) 1 0 e6a) (fun y hy h => by have := r6a y hy; skip; omega); have zz6a := fun K => hW.far (.sl (L6a + 1) 1 0 (V.mkLL K e6a)) (fun y hy h => by have := r6a y (by simp only [V.labels, mkLL_labels] at hy; exact hy); skip; omega); have w0_0 := hW.far (.sl 0 7 0 (a.map cBox)) (fun y hy h => by have h0 : y = 0 := (show ∀ y ∈ V.labels (.sl 0 7 0 (a.map cBox)), y = 0 by simp [V.labels, zz, zf, zy]) y hy; skip; omega); have w1_5 := hW.far (.sl 0 4 0 ((a[d.length]).mails.map cMail)) (fun y hy h => by have h0 : y = 0 := (show ∀ y ∈ V.labels (.sl 0 4 0 ((a[d.length]).mails.map cMail)), y = 0 by simp [V.labels, zz, zf, zy]) y hy; skip; omega); have w1_6 := hW.far (.sl 0 1 0 ((a[d.length]).gone.map cZ)) (fun y hy h => by have h0 : y = 0 := (show ∀ y ∈ V.labels (.sl 0 1 0 ((a[d.length]).gone.map cZ)), y = 0 by simp [V.labels, zz, zf, zy]) y hy; skip; omega); have p9 := fun i o e => hW.ptr 0 i o e (by omega); have p8 := fun sz o e => hW.sl (ma + 1) sz o e (by omega); have p0 := fun i o e => hW.ptr (k + 1) i o e (by omega); simp only [List.map_cons, List.map_nil, hW.int, hW.str, hW.bool, hW.any, hW.tup0, hW.agg, hW.nilV, hF.sl, hF.ptr, z5a, zz5a, z6a, zz6a, w0_0, w1_5, w1_6, p9, p8, cBox, p0, kput] <;> rfl) ?_
    refine OkOps.ev tab_ok rfl (by simp only [kev, ktab, klen, kcv] <;> rfl) (by simp only [kput] <;> rfl) ?_
    refine OkOps.nil ?_
    refine Ok.drop [13, 14, 15, 16, 17] (by simp only [kover] <;> rfl) ?_
    refine Ok.region ?_
    iterate 2 (refine OkOps.ev tab_ok rfl (by simp only [kev, ktab, klen, kcv] <;> rfl) (by simp only [kput] <;> rfl) ?_)
    refine OkOps.nil ?_
    refine ⟨(d ++ [[.int .i64 (a[d.length]).gid, .str (a[d.length]).name, .int .i64 (a[d.length]).named.time, .int .i64 (a[d.length]).named.by_, .int .i64 (a[d.length]).next, .sl (L5a + 1) 4 0 e5a, .sl (L6a + 1) 1 0 e6a]], ma + 1), ?_, rfl, (by dsimp only; omega), rows_snoc hi h2 h3 h4 h5 (by omega) (by simp only [V.travL, V.trav, E5a, E6a] <;> rfl) nda (fun z hz => by have := rga z hz; omega), by show a.length - (d ++ [_]).length < a.length - d.length; rw [List.length_append]; simp only [List.length_cons, List.length_nil]; omega⟩
    refine ⟨?_, ?_, ?_, ?_, ?_, ?_, ?_, ?_, ?_, ?_, ?_, ?_, ?_, ?_, ?_, ?_, ?_, ?_, ?_, ?_, trivial⟩ <;> first | exact le_any _ | with_reducible exact le_rfl' _ | (dsimp only; first | exact le_rfl' _ | (rw [wrap_add_one (by omega)]; refine le_eqm ?_; simp only [List.length_append, List.length_cons, List.length_nil]; done) | (refine le_eqm ?_; simp only [List.length_append, List.length_cons, List.length_nil, Nat.zero_add]; done)) | exact le_rfl' _
  · try simp only [bsimp] at hb3
    have hi : d.length = a.length := by omega
    rw [hi, List.take_length] at h2
    refine Ok.exit ?_
    refine Ok.seq ?_
    refine Ok.drop [10] (by simp only [kover] <;> rfl) ?_
    refine Ok.region ?_
    iterate 2 (refine OkOps.ev tab_ok rfl (by simp only [kev, ktab, klen, kcv] <;> rfl) (by simp only [kput] <;> rfl) ?_)
    refine OkOps.nil ?_
    refine Ok.ret ?_
    repeat (first | with_reducible refine thenQ_ret ?_ | with_reducible refine blockQ_ret ?_)
    refine retQ.end (by show resVs tab _ [.tmp 2] = _; simp only [kev, ktab, klen, kcv] <;> rfl) rfl ?_
    exact ⟨(by simp only [packV, V.erase, V.trav, V.travLL, zz, zf, zy, h2] <;> rfl), (by intro L hL; simp only [packV, V.labels, List.mem_cons] at hL; rcases hL with hL | hL <;> first | omega | (have := h4 L hL; omega)), (by simp only [packV, V.labels, List.nodup_cons]; exact ⟨fun h => by have := h4 1 h; omega, h3⟩)⟩
theorem p_spec_l06Copy (x : Box) (h : smBox x) : Pure Try.prog 134 [.agg (cBox x)] (.agg (cBox x)) := by
  refine Pure.of (by simp [V.dat, V.datL, V.datLL, zz, zf, zy]) (OkCall.enter' tab_ok Try.func134 rfl (t := [.agg (cBox x), .any, .any, .any, .any, .any, .any, .any, .any, .any, .any, .any, .any, .any, .any, .any, .any, .any, .any, .any, .any, .any, .any, .any, .any, .any, .any, .any, .any, .any, .any, .any]) rfl ?_)
  refine Ok.seq ?_
  refine Ok.region ?_
  iterate 2 (refine OkOps.ev tab_ok rfl (by simp only [kev, ktab, klen, kcv] <;> rfl) (by simp only [kput] <;> rfl) ?_)
  refine OkOps.nil ?_
  refine Ok.seq ?_
  refine Ok.region ?_
  iterate 2 (refine OkOps.ev tab_ok rfl (by simp only [kev, ktab, klen, kcv] <;> rfl) (by simp only [kput] <;> rfl) ?_)
  refine OkOps.storeN tab_ok rfl rfl (by simp only [kev, ktab, klen, kcv] <;> rfl) ⟨_, _, by simp only [kev]; rfl⟩ (by first | (simp [V.labelsL, V.labelsLL, V.labels, zz, zf, zy]; done) | (intro h; (simp [V.labelsL, V.labels, zz, zf, zy] at h))) (fun W hW hF => by have w0_5 := hW.far (.sl 0 4 0 ((x).mails.map cMail)) (fun y hy h => by have h0 : y = 0 := (show ∀ y ∈ V.labels (.sl 0 4 0 ((x).mails.map cMail)), y = 0 by simp [V.labels, zz, zf, zy]) y hy; skip; omega); have w0_6 := hW.far (.sl 0 1 0 ((x).gone.map cZ)) (fun y hy h => by have h0 : y = 0 := (show ∀ y ∈ V.labels (.sl 0 1 0 ((x).gone.map cZ)), y = 0 by simp [V.labels, zz, zf, zy]) y hy; skip; omega); have w1_0 := hW.far (.sl 0 4 0 (x.mails.map cMail)) (fun y hy h => by have h0 : y = 0 := (show ∀ y ∈ V.labels (.sl 0 4 0 (x.mails.map cMail)), y = 0 by simp [V.labels, zz, zf, zy]) y hy; skip; omega); have p0 := fun i o e => hW.ptr (1) i o e (by omega);  have p1 := fun i o e => hW.ptr (2) i o e (by omega); simp only [List.map_cons, List.map_nil, hW.int, hW.str, hW.bool, hW.any, hW.tup0, hW.agg, hW.nilV, hF.ptr, w0_5, w0_6, w1_0, p0, p1, kput] <;> rfl) ?_
  refine OkOps.nil ?_
  refine Ok.seq ?_
  refine Ok.drop [5] (by simp only [kover] <;> rfl) ?_
  refine Ok.region ?_
  iterate 2 (refine OkOps.ev tab_ok rfl (by simp only [kev, ktab, klen, kcv] <;> rfl) (by simp only [kput] <;> rfl) ?_)
  refine OkOps.storeN tab_ok rfl rfl (by simp only [kev, ktab, klen, kcv] <;> rfl) ⟨_, _, by simp only [kev]; rfl⟩ (by first | (simp [V.labelsL, V.labelsLL, V.labels, zz, zf, zy]; done) | (intro h; (simp [V.labelsL, V.labels, V.labelsLL, zz, zf, zy] at h))) (fun W hW hF => by have w0_5 := hW.far (.sl 0 4 0 ((x).mails.map cMail)) (fun y hy h => by have h0 : y = 0 := (show ∀ y ∈ V.labels (.sl 0 4 0 ((x).mails.map cMail)), y = 0 by simp [V.labels, zz, zf, zy]) y hy; skip; omega); have w0_6 := hW.far (.sl 0 1 0 ((x).gone.map cZ)) (fun y hy h => by have h0 : y = 0 := (show ∀ y ∈ V.labels (.sl 0 1 0 ((x).gone.map cZ)), y = 0 by simp [V.labels, zz, zf, zy]) y hy; skip; omega); have w1_0 := hW.far (.sl 0 4 0 (x.mails.map cMail)) (fun y hy h => by have h0 : y = 0 := (show ∀ y ∈ V.labels (.sl 0 4 0 (x.mails.map cMail)), y = 0 by simp [V.labels, zz, zf, zy]) y hy; skip; omega); have p0 := fun i o e => hW.ptr (1) i o e (by omega);  have p1 := fun i o e => hW.ptr (2) i o e (by omega); simp only [List.map_cons, List.map_nil, hW.int, hW.str, hW.bool, hW.any, hW.tup0, hW.agg, hW.nilV, hF.ptr, w0_5, w0_6, w1_0, p0, p1, kput] <;> rfl) ?_
  refine OkOps.nil ?_
  refine Ok.seq ?_
  refine Ok.seq ?_
  refine Ok.drop [6, 7] (by simp only [kover] <;> rfl) ?_
  refine Ok.cell (d := 3) [.int .i64 x.gid, .str x.name, .int .i64 x.named.time, .int .i64 x.named.by_, .int .i64 x.next, .sl 4 4 0 [], .sl 0 1 0 (x.gone.map cZ)] rfl ⟨le_rfl' _, le_rfl' _, le_rfl' _, le_rfl' _, le_rfl' _, le_nil 4 _, le_rfl' _, trivial⟩ (by simp only [List.set_cons_zero, List.set_cons_succ] <;> rfl) ?_
  refine Ok.region ?_
  refine OkOps.ev tab_ok rfl (by simp only [kev, ktab, klen, kcv] <;> rfl) (by simp only [kput] <;> rfl) ?_
  refine OkOps.nil ?_
  refine Ok.block ?_
  refine Ok.loopN (τ := List (List V) × Nat) (fun r => [(3, .ptr 3 0 0 [.int .i64 x.gid, .str x.name, .int .i64 x.named.time, .int .i64 x.named.by_, .int .i64 x.next, .sl 4 4 0 r.1, .sl 0 1 0 (x.gone.map cZ)]), (4, .int .i64 (r.1.length : Int))]) [8, 9, 10, 11, 12, 13, 14, 15, 16, 17, 18, 19, 20, 21, 22, 23, 24, 25] (fun r => by simp only [kover] <;> rfl) (fun r => r.2 + 1) (fun r => r.1.length ≤ x.mails.length ∧ V.travLL (fun sz => V.sl 0 sz 0 []) (fun _ sz _ es => V.sl 0 sz 0 es) (fun _ _ o e => V.ptr 0 0 o e) r.1 = (x.mails.take r.1.length).map cMail ∧ (V.labelsLL r.1).Nodup ∧ (∀ z ∈ V.labelsLL r.1, 5 ≤ z ∧ z < r.2 + 1) ∧ 4 ≤ r.2) (fun r => x.mails.length - r.1.length) ([], 4) (by refine ⟨?_, ?_, ?_, ?_, ?_, ?_, ?_, ?_, ?_, ?_, ?_, ?_, ?_, ?_, ?_, ?_, ?_, ?_, ?_, ?_, ?_, ?_, ?_, ?_, ?_, ?_, ?_, ?_, ?_, ?_, ?_, ?_, trivial⟩ <;> first | exact le_any _ | with_reducible exact le_rfl' _ | (first | exact le_rfl' _ | exact le_nil 1 4) | exact le_rfl' _) (by decide) (⟨Nat.zero_le _, rfl, List.nodup_nil, (fun z hz => by cases hz), Nat.le_refl _⟩) ?_
  rintro ⟨d, k⟩ ⟨h1, h2, h3, h4, h5⟩
  have h1 : d.length ≤ x.mails.length := h1
  have h2 : V.travLL (fun sz => V.sl 0 sz 0 []) (fun _ sz _ es => V.sl 0 sz 0 es) (fun _ _ o e => V.ptr 0 0 o e) d = (x.mails.take d.length).map cMail := h2
  have h3 : (V.labelsLL d).Nodup := h3
  have h4 : ∀ z ∈ V.labelsLL d, 5 ≤ z ∧ z < k + 1 := h4
  have h5 : 4 ≤ k := h5
  refine Ok.seq ?_
  refine Ok.seq ?_
  refine Ok.region ?_
  iterate 5 (refine OkOps.ev tab_ok rfl (by simp only [kev, ktab, klen, kcv] <;> rfl) (by simp only [kput] <;> rfl) ?_)
  refine OkOps.nil ?_
  refine Ok.cond (b := _) (by simp only [kev, ktab, klen, kcv] <;> rfl) (fun hb4 => ?_) (fun hb4 => ?_)
  · try simp only [bsimp] at hb4
    have hi : d.length < x.mails.length := by omega
    refine Ok.skip ?_
    refine Ok.seq ?_
    refine Ok.block ?_
    refine Ok.drop [8, 9, 10, 11, 12] (by simp only [kover] <;> rfl) ?_
    refine Ok.drawn 9 32 [] (by kernel_rfl) (by kernel_rfl) rfl ?_
    refine SOps.ev tab_ok rfl (by simp only [kev, ktab, klen, kcv] <;> rfl) (by simp only [kput] <;> rfl) ?_
    refine SOps.ev tab_ok rfl (by simp only [kev, ktab, klen, kcv] <;> rfl) (by simp only [kput] <;> rfl) ?_
    refine SOps.ev tab_ok rfl (by simp only [kev, ktab, klen, kcv] <;> rfl) (by simp only [kput] <;> rfl) ?_
    refine SOps.ev tab_ok rfl (by simp only [kev, ktab, klen, kcv] <;> rfl) (by simp only [kput] <;> rfl) ?_
    refine SOps.ev tab_ok rfl (by simp only [kev, ktab, klen, kcv] <;> rfl) (by simp only [kput] <;> rfl) ?_
    refine SOps.ev tab_ok rfl (ev_idx_map (by simp only [kev, ktab, klen, kcv] <;> rfl) (by simp only [kev, ktab, klen, kcv] <;> rfl) (by omega) (by simp only [kev, ktab, klen, kcv] <;> rfl)) (by simp only [kput] <;> rfl) ?_
    refine SOps.ev tab_ok rfl (by simp only [kev, ktab, klen, kcv] <;> rfl) (by simp only [kput] <;> rfl) ?_
    obtain ⟨L2a, e2a, hXa, q2a, E2a, M2a, N2a, nda, rga⟩ := ownMail (k) (x.mails[d.length])
    obtain ⟨ma, hma⟩ : ∃ m, k + 1 + V.cnt (.agg (cMail (x.mails[d.length]))) = m + 1 := ⟨k + V.cnt (.agg (cMail (x.mails[d.length]))), by omega⟩
    have r2a : ∀ z ∈ V.labels (.sl (L2a + 1) 3 0 e2a), k + 1 ≤ z ∧ z < ma + 1 := fun z hz => by have := rga z (by first | exact hz | (simp only [V.labelsL, V.labels, List.mem_append] at hz ⊢; simp only [hz, true_or, or_true])); omega
    refine SOps.S' rfl (OpS.pureM rfl (by simp only [kev, ktab, klen, kcv] <;> rfl) (by simp only [kev, ktab, klen, kcv, V.eraseL, V.erase, V.travL, V.trav, zz, zf, zy] <;> rfl) cl141 (by simp [V.dat, V.datL, V.datLL, zz, zf, zy]) (p_spec_l05Copy x.mails[d.length] (h.2.1.2 _ (List.getElem_mem hi)))) hma (by simp only [kput, hXa] <;> rfl) ?_
    refine SOps.ev tab_ok rfl (ev_bs (by simp only [ktab] <;> rfl) (by simp only [ktab] <;> rfl) (by decide) (by decide) (by simp only [kev, ktab, klen, kcv, List.map_cons, List.map_nil] <;> rfl) (by simp only [kfe, beq_self_eq_true, Bool.and_true, Bool.true_and, decide_true, Nat.zero_add, Nat.lt_add_one, Nat.reduceLT, Nat.reduceAdd, Nat.zero_lt_succ, if_true, ↓reduceIte] <;> rfl)) (by simp only [kput] <;> rfl) ?_
    refine SOps.nil ?_
    refine TOps.appendN tab_ok rfl rfl (by simp only [ktab] <;> rfl) (by simp only [ktab] <;> rfl) (by decide) rfl (by simp only [kev, ktab, klen, kcv] <;> rfl) (.inl ⟨_, _, by simp only [kev, ktab, klen, kcv] <;> rfl⟩) (by omega) (by omega) (by simp only [List.length_cons, List.length_nil]; have := h.2.1.1; omega) (by simp only [List.length_cons, List.length_nil]; have := h.2.1.1; omega) (by simp [V.one]) (by intro h; have u2a : ¬ (4 = L2a + 1) := (fun h => (by (have := r2a _ (List.mem_cons_self ..)); omega)); have v2a : ¬ (4 ∈ V.labelsLL e2a) := (fun h => (by (have := r2a _ (List.mem_cons_of_mem _ h)); omega)); have ud : ¬ (4 ∈ V.labelsLL d) := (fun h => (by (have := h4 _ h); omega)); (revert h; show ¬ _; simp [labelsLL_app, V.labelsLL, V.labelsL, V.labels, zz, zf, zy, u2a, v2a, ud] <;> omega)) (fun W hW hF => by have z2a := hW.far (.sl (L2a + 1) 3 0 e2a) (fun y hy h => by have := r2a y hy; skip; omega); have zz2a := fun K => hW.far (.sl (L2a + 1) 3 0 (V.mkLL K e2a)) (fun y hy h => by have := r2a y (by simp only [V.labels, mkLL_labels] at hy; exact hy); skip; omega); have w0_5 := hW.far (.sl 0 4 0 ((x).mails.map cMail)) (fun y hy h => by have h0 : y = 0 := (show ∀ y ∈ V.labels (.sl 0 4 0 ((x).mails.map cMail)), y = 0 by simp [V.labels, zz, zf, zy]) y hy; skip; omega); have w0_6 := hW.far (.sl 0 1 0 ((x).gone.map cZ)) (fun y hy h => by have h0 : y = 0 := (show ∀ y ∈ V.labels (.sl 0 1 0 ((x).gone.map cZ)), y = 0 by simp [V.labels, zz, zf, zy]) y hy; skip; omega); have w1_0 := hW.far (.sl 0 4 0 (x.mails.map cMail)) (fun y hy h => by have h0 : y = 0 := (show ∀ y ∈ V.labels (.sl 0 4 0 (x.mails.map cMail)), y = 0 by simp [V.labels, zz, zf, zy]) y hy; skip; omega); have p9 := fun i o e => hW.ptr 0 i o e (by omega); have p8 := fun sz o e => hW.sl (ma + 1) sz o e (by omega); have w8_2 := hW.far (.sl 0 3 0 ((x.mails[d.length]).flags.map cReg)) (fun z hz h => by have h0 : z = 0 := (show ∀ z ∈ V.labels (.sl 0 3 0 ((x.mails[d.length]).flags.map cReg)), z = 0 by simp [V.labels, zz, zf, zy]) z hz; omega); have p0 := fun i o e => hW.ptr (1) i o e (by omega);  have p1 := fun i o e => hW.ptr (2) i o e (by omega);  have p2 := fun i o e => hW.ptr (3) i o e (by omega); simp only [List.map_cons, List.map_nil, hW.int, hW.str, hW.bool, hW.any, hW.tup0, hW.agg, hW.nilV, hF.sl, hF.ptr, z2a, zz2a, w0_5, w0_6, w1_0, p9, p8, cMail, w8_2, p0, p1, p2, kput] <;> rfl) ?_
    refine TOps.ev tab_ok rfl (by simp only [kev, ktab, klen, kcv] <;> rfl) (by simp only [kput] <;> rfl) ?_
    refine TOps.storeN tab_ok rfl rfl (by simp only [kev, ktab, klen, kcv] <;> rfl) ⟨_, _, by simp only [kev]; rfl⟩ (by first | (simp [V.labelsL, V.labelsLL, V.labels, zz, zf, zy]; done) | (intro h; have u2a : ¬ (3 = L2a + 1) := (fun h => (by (have := r2a _ (List.mem_cons_self ..)); omega)); have v2a : ¬ (3 ∈ V.labelsLL e2a) := (fun h => (by (have := r2a _ (List.mem_cons_of_mem _ h)); omega)); have ud : ¬ (3 ∈ V.labelsLL d) := (fun h => (by (have := h4 _ h); omega)); (revert h; show ¬ _; simp [labelsLL_app, V.labelsLL, V.labelsL, V.labels, zz, zf, zy, u2a, v2a, ud] <;> omega))) (fun W hW hF => by have z2a := hW.far (.sl (L2a + 1) 3 0 e2a) (fun y hy h => by have := r2a y hy; skip; omega); have zz2a := fun K => hW.far (.sl (L2a + 1) 3 0 (V.mkLL K e2a)) (fun y hy h => by have := r2a y (by simp only [V.labels, mkLL_labels] at hy; exact hy); skip; omega); have w0_5 := hW.far (.sl 0 4 0 ((x).mails.map cMail)) (fun y hy h => by have h0 : y = 0 := (show ∀ y ∈ V.labels (.sl 0 4 0 ((x).mails.map cMail)), y = 0 by simp [V.labels, zz, zf, zy]) y hy; skip; omega); have w0_6 := hW.far (.sl 0 1 0 ((x).gone.map cZ)) (fun y hy h => by have h0 : y = 0 := (show ∀ y ∈ V.labels (.sl 0 1 0 ((x).gone.map cZ)), y = 0 by simp [V.labels, zz, zf, zy]) y hy; skip; omega); have w1_0 := hW.far (.sl 0 4 0 (x.mails.map cMail)) (fun y hy h => by have h0 : y = 0 := (show ∀ y ∈ V.labels (.sl 0 4 0 (x.mails.map cMail)), y = 0 by simp [V.labels, zz, zf, zy]) y hy; skip; omega); have p9 := fun i o e => hW.ptr 0 i o e (by omega); have p8 := fun sz o e => hW.sl (ma + 1) sz o e (by omega); have p7 := fun sz o e => hW.sl 4 sz o e (by omega); have wl := hW.farLL d (fun y hy h => by have := h4 y hy; omega); have w8_2 := hW.far (.sl 0 3 0 ((x.mails[d.length]).flags.map cReg)) (fun z hz h => by have h0 : z = 0 := (show ∀ z ∈ V.labels (.sl 0 3 0 ((x.mails[d.length]).flags.map cReg)), z = 0 by simp [V.labels, zz, zf, zy]) z hz; omega); have p0 := fun i o e => hW.ptr (1) i o e (by omega);  have p1 := fun i o e => hW.ptr (2) i o e (by omega); simp only [List.map_cons, List.map_nil, hW.int, hW.str, hW.bool, hW.any, hW.tup0, hW.agg, hW.nilV, hF.ptr, z2a, zz2a, w0_5, w0_6, w1_0, List.map_append, p9, p8, p7, wl, cMail, w8_2, p0, p1, kput] <;> rfl) ?_
    refine TOps.nil ?_
    refine Ok.drop [15, 16, 17, 18, 19, 20, 21, 22, 23, 24, 25] (by simp only [kover] <;> rfl) ?_
    refine Ok.region ?_
    iterate 3 (refine OkOps.ev tab_ok rfl (by simp only [kev, ktab, klen, kcv] <;> rfl) (by simp only [kput] <;> rfl) ?_)
    refine OkOps.nil ?_
    refine ⟨(d ++ [[.int .i64 (x.mails[d.length]).gid, .int .i64 (x.mails[d.length]).uid, .sl (L2a + 1) 3 0 e2a, .str (x.mails[d.length]).text]], ma + 1), ?_, rfl, (by dsimp only; omega), (by obtain ⟨z1, z2, z3, z4, z5⟩ := rows_snocL (k := k) (m := ma + 1) (c := [.int .i64 (x.mails[d.length]).gid, .int .i64 (x.mails[d.length]).uid, .sl (L2a + 1) 3 0 e2a, .str (x.mails[d.length]).text]) (show 5 ≤ k + 1 by omega) hi h2 h3 h4 (by omega) (by omega) (by simp only [V.travL, V.trav, E2a] <;> rfl) nda (fun z hz => by have := rga z hz; omega); exact ⟨z1, z2, z3, z4, by dsimp only; omega⟩), by show x.mails.length - (d ++ [_]).length < x.mails.length - d.length; rw [List.length_append]; simp only [List.length_cons, List.length_nil]; omega⟩
    refine ⟨?_, ?_, ?_, ?_, ?_, ?_, ?_, ?_, ?_, ?_, ?_, ?_, ?_, ?_, ?_, ?_, ?_, ?_, ?_, ?_, ?_, ?_, ?_, ?_, ?_, ?_, ?_, ?_, ?_, ?_, ?_, ?_, trivial⟩ <;> first | exact le_any _ | with_reducible exact le_rfl' _ | (dsimp only; first | exact le_rfl' _ | (rw [wrap_add_one (by have := h.2.1.1; omega)]; refine le_eqm ?_; simp only [List.length_append, List.length_cons, List.length_nil]; done) | (refine le_eqm ?_; simp only [List.length_append, List.length_cons, List.length_nil, Nat.zero_add]; done)) | exact le_rfl' _
  · try simp only [bsimp] at hb4
    have hi : d.length = x.mails.length := by omega
    rw [hi, List.take_length] at h2
    refine Ok.exit ?_
    refine Ok.seq ?_
    refine Ok.drop [8, 9, 10, 11, 12] (by simp only [kover] <;> rfl) ?_
    refine Ok.region ?_
    iterate 3 (refine OkOps.ev tab_ok rfl (by simp only [kev, ktab, klen, kcv] <;> rfl) (by simp only [kput] <;> rfl) ?_)
    refine OkOps.S rfl (ok_append_nil tab_ok (by simp only [ktab] <;> rfl) (by simp only [ktab] <;> rfl) (by decide) rfl rfl (by simp only [kev, ktab, klen, kcv] <;> rfl) (.inl ⟨_, _, by simp only [kev, ktab, klen, kcv] <;> rfl⟩) (by simp only [List.length_map]; have := h.2.2; omega) (by simp only [List.length_map]; have := h.2.2; omega)) (by simp only [kput, klen] <;> rfl) ?_
    refine OkOps.ev tab_ok rfl (by simp only [kev, ktab, klen, kcv] <;> rfl) (by simp only [kput] <;> rfl) ?_
    refine OkOps.storeN tab_ok rfl rfl (by simp only [kev, ktab, klen, kcv] <;> rfl) ⟨_, _, by simp only [kev]; rfl⟩ (by first | (simp [V.labelsL, V.labelsLL, V.labels, zz, zf, zy]; done) | (intro h; have ud : ¬ (3 ∈ V.labelsLL d) := (fun h => (by (have := h4 _ h); omega)); (revert h; show ¬ _; simp [labelsLL_app, V.labelsLL, V.labelsL, V.labels, zz, zf, zy, ud] <;> omega))) (fun W hW hF => by have w0_5 := hW.far (.sl 0 4 0 ((x).mails.map cMail)) (fun y hy h => by have h0 : y = 0 := (show ∀ y ∈ V.labels (.sl 0 4 0 ((x).mails.map cMail)), y = 0 by simp [V.labels, zz, zf, zy]) y hy; skip; omega); have w0_6 := hW.far (.sl 0 1 0 ((x).gone.map cZ)) (fun y hy h => by have h0 : y = 0 := (show ∀ y ∈ V.labels (.sl 0 1 0 ((x).gone.map cZ)), y = 0 by simp [V.labels, zz, zf, zy]) y hy; skip; omega); have w1_0 := hW.far (.sl 0 4 0 (x.mails.map cMail)) (fun y hy h => by have h0 : y = 0 := (show ∀ y ∈ V.labels (.sl 0 4 0 (x.mails.map cMail)), y = 0 by simp [V.labels, zz, zf, zy]) y hy; skip; omega); have p9 := fun i o e => hW.ptr 0 i o e (by omega); have wd := hW.far (.sl 4 4 0 d) (fun y hy h => by simp only [V.labels, List.mem_cons] at hy; rcases hy with hy | hy <;> first | omega | (have := h4 y hy; omega)); have p6 := hW.far (.sl (k + 1) 1 0 (x.gone.map cZ)) (fun y hy h => by simp [V.labels, zz, zf] at hy; omega); have p0 := fun i o e => hW.ptr (1) i o e (by omega);  have p1 := fun i o e => hW.ptr (2) i o e (by omega); simp only [List.map_cons, List.map_nil, hW.int, hW.str, hW.bool, hW.any, hW.tup0, hW.agg, hW.nilV, hF.ptr, w0_5, w0_6, w1_0, p9, wd, p6, cMail, p0, p1, kput] <;> rfl) ?_
    refine OkOps.nil ?_
    refine Ok.seq ?_
    refine Ok.drop [26, 27, 28, 29, 30] (by simp only [kover] <;> rfl) ?_
    refine Ok.region ?_
    refine OkOps.ev tab_ok rfl (by simp only [kev, ktab, klen, kcv] <;> rfl) (by simp only [kput] <;> rfl) ?_
    refine OkOps.storeN tab_ok rfl rfl (by simp only [kev, ktab, klen, kcv] <;> rfl) ⟨_, _, by simp only [kev]; rfl⟩ (by first | (simp [V.labelsL, V.labelsLL, V.labels, zz, zf, zy]; done) | (intro h; have ud : ¬ (2 ∈ V.labelsLL d) := (fun h => (by (have := h4 _ h); omega)); (revert h; show ¬ _; simp [labelsLL_app, V.labelsLL, V.labelsL, V.labels, zz, zf, zy, ud] <;> omega))) (fun W hW hF => by have w0_5 := hW.far (.sl 0 4 0 ((x).mails.map cMail)) (fun y hy h => by have h0 : y = 0 := (show ∀ y ∈ V.labels (.sl 0 4 0 ((x).mails.map cMail)), y = 0 by simp [V.labels, zz, zf, zy]) y hy; skip; omega); have w0_6 := hW.far (.sl 0 1 0 ((x).gone.map cZ)) (fun y hy h => by have h0 : y = 0 := (show ∀ y ∈ V.labels (.sl 0 1 0 ((x).gone.map cZ)), y = 0 by simp [V.labels, zz, zf, zy]) y hy; skip; omega); have w1_0 := hW.far (.sl 0 4 0 (x.mails.map cMail)) (fun y hy h => by have h0 : y = 0 := (show ∀ y ∈ V.labels (.sl 0 4 0 (x.mails.map cMail)), y = 0 by simp [V.labels, zz, zf, zy]) y hy; skip; omega); have p9 := fun i o e => hW.ptr 0 i o e (by omega); have wd := hW.far (.sl 4 4 0 d) (fun y hy h => by simp only [V.labels, List.mem_cons] at hy; rcases hy with hy | hy <;> first | omega | (have := h4 y hy; omega)); have p6 := hW.far (.sl (k + 1) 1 0 (x.gone.map cZ)) (fun y hy h => by simp [V.labels, zz, zf] at hy; omega); have p0 := fun i o e => hW.ptr (1) i o e (by omega);  have p2 := fun i o e => hW.ptr (3) i o e (by omega); simp only [List.map_cons, List.map_nil, hW.int, hW.str, hW.bool, hW.any, hW.tup0, hW.agg, hW.nilV, hF.ptr, w0_5, w0_6, w1_0, p9, wd, p6, cMail, p0, p2, kput] <;> rfl) ?_
    refine OkOps.nil ?_
    refine Ok.ret ?_
    repeat (first | with_reducible refine thenQ_ret ?_ | with_reducible refine blockQ_ret ?_)
    refine retQ.end (by show resVs tab _ [.cell 2 131] = _; simp only [kev, ktab, klen, kcv] <;> rfl) rfl ?_
    exact ⟨(by simp only [packV, V.erase, V.trav, V.travL, V.travLL, zz, zf, zy, h2] <;> rfl), (by intro L hL; simp [packV, V.labels, V.labelsL, zz, zf] at hL; rcases hL with hL | hL | hL <;> first | omega | (have := h4 L hL; omega)), (by simp only [packV, V.labels, V.labelsL, zz, zf, List.append_nil, List.nil_append]; rw [List.nodup_append]; exact ⟨List.nodup_cons.2 ⟨fun h => by (have := h4 4 h); omega, h3⟩, by simp, fun y hy z hz h => by (rcases List.mem_cons.1 hy with hy | hy) <;> simp at hz <;> first | omega | (have := h4 y hy; omega)⟩)⟩
end Go.Proofs.Ytjhfabimacljhaa.K
