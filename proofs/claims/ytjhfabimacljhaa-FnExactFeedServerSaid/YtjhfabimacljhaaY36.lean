/- Walks: what is fed. Printed by w2.py. -/
import Derived.Test.YtjhfabimacljhaaY33
import Derived.Test.YtjhfabimacljhaaYr
namespace Go.Proofs.Ytjhfabimacljhaa.K
open Go Go.RowKit
set_option linter.unusedVariables false
set_option linter.unusedSimpArgs false
set_option maxHeartbeats 4000000
set_option maxRecDepth 20000
theorem p_impl_FeedSession (x : Session) (t : Str) (h : smSession x) (ht : t.length ≤ 1048576) : Pure Try.prog 61 [.agg (cSession x), .str t] (.tup [.agg (cSession (feedS x t)), .bool (fits x t)]) := by
  refine Pure.of (by simp [V.dat, V.datL, V.datLL, zz, zf, zy]) (OkCall.enter' tab_ok Try.func61 rfl (t := [.agg (cSession x), .str t, .any, .any, .any, .any, .any, .any, .any, .any, .any, .any, .any, .any, .any, .any, .any, .any, .any, .any, .any, .any, .any, .any, .any, .any, .any]) rfl ?_)
  refine Ok.seq ?_
  refine Ok.region ?_
  iterate 3 (refine OkOps.ev tab_ok rfl (by simp only [kev, ktab, klen, kcv] <;> rfl) (by simp only [kput] <;> rfl) ?_)
  refine OkOps.nil ?_
  refine Ok.seq ?_
  refine Ok.region ?_
  refine OkOps.ev tab_ok rfl (by simp only [kev, ktab, klen, kcv] <;> rfl) (by simp only [kput] <;> rfl) ?_
  obtain ⟨L5a, e5a, hXa, q5a, E5a, M5a, N5a, nda, rga⟩ := ownSession (2) (x)
  obtain ⟨ma, hma⟩ : ∃ m, 2 + 1 + V.cnt (.agg (cSession (x))) = m + 1 := ⟨2 + V.cnt (.agg (cSession (x))), by omega⟩
  have r5a : ∀ z ∈ V.labels (.sl (L5a + 1) 1 0 e5a), 2 + 1 ≤ z ∧ z < ma + 1 := fun z hz => by have := rga z (by first | exact hz | (simp only [V.labelsL, V.labels, List.mem_append] at hz ⊢; simp only [hz, true_or, or_true])); omega
  refine OkOps.S' rfl (OpS.pure' rfl (by simp only [kev, ktab, klen, kcv] <;> rfl) (by simp only [kev, ktab, klen, kcv, V.eraseL, V.erase, V.travL, V.trav, zz, zf, zy] <;> rfl) cl90 (by simp [V.dat, V.datL, V.datLL, zz, zf, zy]) (p_impl_copySession x h)) hma (by simp only [kput, hXa] <;> rfl) ?_
  refine OkOps.ev tab_ok rfl (by simp only [kev, ktab, klen, kcv] <;> rfl) (by simp only [kput] <;> rfl) ?_
  refine OkOps.storeN tab_ok rfl rfl (by simp only [kev, ktab, klen, kcv] <;> rfl) ⟨_, _, by simp only [kev]; rfl⟩ (by first | (simp [V.labelsL, V.labelsLL, V.labels, zz, zf, zy]; done) | (intro h; simp only [V.labelsL, V.labels, List.mem_append, List.append_nil, List.nil_append, List.not_mem_nil, or_false, false_or] at h; first | ((first | (have := r5a _ h; omega))))) (fun W hW hF => by have z5a := hW.far (.sl (L5a + 1) 1 0 e5a) (fun y hy h => by have := r5a y hy; skip; omega); have zz5a := fun K => hW.far (.sl (L5a + 1) 1 0 (V.mkLL K e5a)) (fun y hy h => by have := r5a y (by simp only [V.labels, mkLL_labels] at hy; exact hy); skip; omega); have w0_5 := hW.far (.sl 0 1 0 ((x).view.map cZ)) (fun y hy h => by have h0 : y = 0 := (show ∀ y ∈ V.labels (.sl 0 1 0 ((x).view.map cZ)), y = 0 by simp [V.labels, zz, zf, zy]) y hy; skip; omega); have p0 := fun i o e => hW.ptr (1) i o e (by omega);  have p1 := fun i o e => hW.ptr (2) i o e (by omega); simp only [List.map_cons, List.map_nil, hW.int, hW.str, hW.bool, hW.any, hW.tup0, hW.agg, hW.nilV, hF.ptr, z5a, zz5a, w0_5, p0, p1, kput] <;> rfl) ?_
  refine OkOps.nil ?_
  refine Ok.seq ?_
  refine Ok.seq ?_
  refine Ok.drop [7, 8] (by simp only [kover] <;> rfl) ?_
  refine Ok.region ?_
  iterate 3 (refine OkOps.ev tab_ok rfl (by simp only [kev, ktab, klen, kcv] <;> rfl) (by simp only [kput] <;> rfl) ?_)
  refine OkOps.split (d := 11) (by simp only [kev, ktab, klen, kcv] <;> rfl) (by simp only [kput] <;> rfl) (by simp only [kput] <;> rfl) (fun hg2_2 => ?_) (fun hg2_2 => ?_)
  · try simp only [bsimp] at hg2_2
    have hf := fits_over t (show x.over = true from hg2_2)
    rw [hf, feedS_no hf]
    refine OkOps.offU rfl rfl (.inl (by simp only [kev, ktab, klen, kcv, Bool.not_true, Bool.not_false])) (by simp only [kput] <;> rfl) ?_
    refine OkOps.offU rfl rfl (.inl (by simp only [kev, ktab, klen, kcv, Bool.not_true, Bool.not_false])) (by simp only [kput] <;> rfl) ?_
    refine OkOps.offU rfl rfl (.inl (by simp only [kev, ktab, klen, kcv, Bool.not_true, Bool.not_false])) (by simp only [kput] <;> rfl) ?_
    refine OkOps.offU rfl rfl (.inl (by simp only [kev, ktab, klen, kcv, Bool.not_true, Bool.not_false])) (by simp only [kput] <;> rfl) ?_
    refine OkOps.offU rfl rfl (.inl (by simp only [kev, ktab, klen, kcv, Bool.not_true, Bool.not_false])) (by simp only [kput] <;> rfl) ?_
    refine OkOps.offU rfl rfl (.inl (by simp only [kev, ktab, klen, kcv, Bool.not_true, Bool.not_false])) (by simp only [kput] <;> rfl) ?_
    refine OkOps.offU rfl rfl (.inl (by simp only [kev, ktab, klen, kcv, Bool.not_true, Bool.not_false])) (by simp only [kput] <;> rfl) ?_
    refine OkOps.ev tab_ok rfl (by simp only [kev, ktab, klen, kcv] <;> rfl) (by simp only [kput] <;> rfl) ?_
    refine OkOps.nil ?_
    refine Ok.cond_true (by simp only [kev, ktab, klen, kcv] <;> rfl) ?_
    refine Ok.seq ?_
    refine Ok.drop [9, 10, 11, 12, 13, 14, 15, 16, 17, 18, 19] (by simp only [kover] <;> rfl) ?_
    refine Ok.region ?_
    refine OkOps.ev tab_ok rfl (by simp only [kev, ktab, klen, kcv] <;> rfl) (by simp only [kput] <;> rfl) ?_
    refine OkOps.storeN tab_ok rfl rfl (by simp only [kev, ktab, klen, kcv] <;> rfl) ⟨_, _, by simp only [kev]; rfl⟩ (by first | (simp [V.labelsL, V.labelsLL, V.labels, zz, zf, zy]; done) | (intro h; simp only [V.labelsL, V.labels, List.mem_append, List.append_nil, List.nil_append, List.not_mem_nil, or_false, false_or] at h; first | ((first | (have := r5a _ h; omega))))) (fun W hW hF => by have z5a := hW.far (.sl (L5a + 1) 1 0 e5a) (fun y hy h => by have := r5a y hy; skip; omega); have zz5a := fun K => hW.far (.sl (L5a + 1) 1 0 (V.mkLL K e5a)) (fun y hy h => by have := r5a y (by simp only [V.labels, mkLL_labels] at hy; exact hy); skip; omega); have w0_5 := hW.far (.sl 0 1 0 ((x).view.map cZ)) (fun y hy h => by have h0 : y = 0 := (show ∀ y ∈ V.labels (.sl 0 1 0 ((x).view.map cZ)), y = 0 by simp [V.labels, zz, zf, zy]) y hy; skip; omega); have p0 := fun i o e => hW.ptr (1) i o e (by omega);  have p2 := fun i o e => hW.ptr (ma + 1) i o e (by omega); simp only [List.map_cons, List.map_nil, hW.int, hW.str, hW.bool, hW.any, hW.tup0, hW.agg, hW.nilV, hF.ptr, z5a, zz5a, w0_5, p0, p2, kput] <;> rfl) ?_
    refine OkOps.ev tab_ok rfl (by simp only [kev, ktab, klen, kcv] <;> rfl) (by simp only [kput] <;> rfl) ?_
    refine OkOps.nil ?_
    refine Ok.ret ?_
    repeat (first | with_reducible refine thenQ_ret ?_ | with_reducible refine blockQ_ret ?_)
    refine retQ.end (by show resVs tab _ [.cell 4 47, .tmp 5] = _; simp only [kev, ktab, klen, kcv] <;> rfl) rfl ?_
    exact ⟨(by simp only [packV, V.erase, V.trav, V.travL, V.travLL, zz, zf, zy, E5a] <;> rfl), (by intro L hL; simp only [packV, V.labels, V.labelsL, List.append_nil, List.nil_append] at hL;  first | (have := r5a L hL; omega)), (by simp only [packV, V.labels, V.labelsL, List.append_nil, List.nil_append] at nda ⊢; exact nda)⟩
  · try simp only [bsimp] at hg2_2
    have hv : x.over = false := hg2_2
    have hi := h.1
    refine OkOps.on rfl rfl (by simp only [kev, ktab, klen, kcv]) ?_
    refine OkOps.ev tab_ok rfl (by simp only [kev, ktab, klen, kcv] <;> rfl) (by simp only [kput] <;> rfl) ?_
    refine OkOps.on rfl rfl (by simp only [kev, ktab, klen, kcv]) ?_
    refine OkOps.ev tab_ok rfl (by simp only [kev, ktab, klen, kcv] <;> rfl) (by simp only [kput] <;> rfl) ?_
    refine OkOps.on rfl rfl (by simp only [kev, ktab, klen, kcv]) ?_
    refine OkOps.ev tab_ok rfl (by simp only [kev, ktab, klen, kcv] <;> rfl) (by simp only [kput] <;> rfl) ?_
    refine OkOps.on rfl rfl (by simp only [kev, ktab, klen, kcv]) ?_
    refine OkOps.ev tab_ok rfl (by simp only [kev, ktab, klen, kcv] <;> rfl) (by simp only [kput] <;> rfl) ?_
    refine OkOps.on rfl rfl (by simp only [kev, ktab, klen, kcv]) ?_
    refine OkOps.ev tab_ok rfl (by simp only [kev, ktab, klen, kcv] <;> rfl) (by simp only [kput] <;> rfl) ?_
    refine OkOps.on rfl rfl (by simp only [kev, ktab, klen, kcv]) ?_
    refine OkOps.ev tab_ok rfl (by simp only [kev, ktab, klen, kcv, wrap_add_nat (show x.inn.length + t.length ≤ 9223372036854775807 by omega)] <;> rfl) (by simp only [kput] <;> rfl) ?_
    refine OkOps.on rfl rfl (by simp only [kev, ktab, klen, kcv]) ?_
    iterate 2 (refine OkOps.ev tab_ok rfl (by simp only [kev, ktab, klen, kcv] <;> rfl) (by simp only [kput] <;> rfl) ?_)
    refine OkOps.nil ?_
    refine Ok.cond (b := _) (by simp only [kev, ktab, klen, kcv] <;> rfl) (fun hb2 => ?_) (fun hb2 => ?_)
    · try simp only [bsimp] at hb2
      have hf := fits_long (x := x) (t := t) (by omega)
      rw [hf, feedS_no hf]
      refine Ok.seq ?_
      refine Ok.drop [20] (by simp only [kover] <;> rfl) ?_
      refine Ok.region ?_
      refine OkOps.ev tab_ok rfl (by simp only [kev, ktab, klen, kcv] <;> rfl) (by simp only [kput] <;> rfl) ?_
      refine OkOps.storeN tab_ok rfl rfl (by simp only [kev, ktab, klen, kcv] <;> rfl) ⟨_, _, by simp only [kev]; rfl⟩ (by first | (simp [V.labelsL, V.labelsLL, V.labels, zz, zf, zy]; done) | (intro h; simp only [V.labelsL, V.labels, List.mem_append, List.append_nil, List.nil_append, List.not_mem_nil, or_false, false_or] at h; first | ((first | (have := r5a _ h; omega))))) (fun W hW hF => by have z5a := hW.far (.sl (L5a + 1) 1 0 e5a) (fun y hy h => by have := r5a y hy; skip; omega); have zz5a := fun K => hW.far (.sl (L5a + 1) 1 0 (V.mkLL K e5a)) (fun y hy h => by have := r5a y (by simp only [V.labels, mkLL_labels] at hy; exact hy); skip; omega); have w0_5 := hW.far (.sl 0 1 0 ((x).view.map cZ)) (fun y hy h => by have h0 : y = 0 := (show ∀ y ∈ V.labels (.sl 0 1 0 ((x).view.map cZ)), y = 0 by simp [V.labels, zz, zf, zy]) y hy; skip; omega); have p0 := fun i o e => hW.ptr (1) i o e (by omega);  have p2 := fun i o e => hW.ptr (ma + 1) i o e (by omega); simp only [List.map_cons, List.map_nil, hW.int, hW.str, hW.bool, hW.any, hW.tup0, hW.agg, hW.nilV, hF.ptr, z5a, zz5a, w0_5, p0, p2, kput] <;> rfl) ?_
      refine OkOps.ev tab_ok rfl (by simp only [kev, ktab, klen, kcv] <;> rfl) (by simp only [kput] <;> rfl) ?_
      refine OkOps.nil ?_
      refine Ok.ret ?_
      repeat (first | with_reducible refine thenQ_ret ?_ | with_reducible refine blockQ_ret ?_)
      refine retQ.end (by show resVs tab _ [.cell 4 47, .tmp 5] = _; simp only [kev, ktab, klen, kcv] <;> rfl) rfl ?_
      exact ⟨(by simp only [packV, V.erase, V.trav, V.travL, V.travLL, zz, zf, zy, E5a] <;> rfl), (by intro L hL; simp only [packV, V.labels, V.labelsL, List.append_nil, List.nil_append] at hL;  first | (have := r5a L hL; omega)), (by simp only [packV, V.labels, V.labelsL, List.append_nil, List.nil_append] at nda ⊢; exact nda)⟩
    · try simp only [bsimp] at hb2
      have hf := fits_ok (t := t) hv (by omega)
      rw [hf, feedS_ok hf]
      refine Ok.skip ?_
      refine Ok.seq ?_
      refine Ok.drop [20] (by simp only [kover] <;> rfl) ?_
      refine Ok.region ?_
      iterate 3 (refine OkOps.ev tab_ok rfl (by simp only [kev, ktab, klen, kcv] <;> rfl) (by simp only [kput] <;> rfl) ?_)
      refine OkOps.ev tab_ok rfl (ev_cat (by simp only [kev, ktab, klen, kcv] <;> rfl) (by simp only [kev, ktab, klen, kcv] <;> rfl) (by first | omega | (simp only [List.length_append, List.length_cons, List.length_nil] at *; omega))) (by simp only [kput] <;> rfl) ?_
      refine OkOps.ev tab_ok rfl (by simp only [kev, ktab, klen, kcv] <;> rfl) (by simp only [kput] <;> rfl) ?_
      refine OkOps.storeN tab_ok rfl rfl (by simp only [kev, ktab, klen, kcv] <;> rfl) ⟨_, _, by simp only [kev]; rfl⟩ (by first | (simp [V.labelsL, V.labelsLL, V.labels, zz, zf, zy]; done) | (intro h; simp only [V.labelsL, V.labels, List.mem_append, List.append_nil, List.nil_append, List.not_mem_nil, or_false, false_or] at h; first | ((first | (have := r5a _ h; omega))))) (fun W hW hF => by have z5a := hW.far (.sl (L5a + 1) 1 0 e5a) (fun y hy h => by have := r5a y hy; skip; omega); have zz5a := fun K => hW.far (.sl (L5a + 1) 1 0 (V.mkLL K e5a)) (fun y hy h => by have := r5a y (by simp only [V.labels, mkLL_labels] at hy; exact hy); skip; omega); have w0_5 := hW.far (.sl 0 1 0 ((x).view.map cZ)) (fun y hy h => by have h0 : y = 0 := (show ∀ y ∈ V.labels (.sl 0 1 0 ((x).view.map cZ)), y = 0 by simp [V.labels, zz, zf, zy]) y hy; skip; omega); have p0 := fun i o e => hW.ptr (1) i o e (by omega);  have p1 := fun i o e => hW.ptr (2) i o e (by omega); simp only [List.map_cons, List.map_nil, hW.int, hW.str, hW.bool, hW.any, hW.tup0, hW.agg, hW.nilV, hF.ptr, z5a, zz5a, w0_5, p0, p1, kput] <;> rfl) ?_
      refine OkOps.nil ?_
      refine Ok.seq ?_
      refine Ok.drop [21, 22, 23, 24, 25] (by simp only [kover] <;> rfl) ?_
      refine Ok.region ?_
      refine OkOps.ev tab_ok rfl (by simp only [kev, ktab, klen, kcv] <;> rfl) (by simp only [kput] <;> rfl) ?_
      refine OkOps.storeN tab_ok rfl rfl (by simp only [kev, ktab, klen, kcv] <;> rfl) ⟨_, _, by simp only [kev]; rfl⟩ (by first | (simp [V.labelsL, V.labelsLL, V.labels, zz, zf, zy]; done) | (intro h; simp only [V.labelsL, V.labels, List.mem_append, List.append_nil, List.nil_append, List.not_mem_nil, or_false, false_or] at h; first | ((first | (have := r5a _ h; omega))))) (fun W hW hF => by have z5a := hW.far (.sl (L5a + 1) 1 0 e5a) (fun y hy h => by have := r5a y hy; skip; omega); have zz5a := fun K => hW.far (.sl (L5a + 1) 1 0 (V.mkLL K e5a)) (fun y hy h => by have := r5a y (by simp only [V.labels, mkLL_labels] at hy; exact hy); skip; omega); have w0_5 := hW.far (.sl 0 1 0 ((x).view.map cZ)) (fun y hy h => by have h0 : y = 0 := (show ∀ y ∈ V.labels (.sl 0 1 0 ((x).view.map cZ)), y = 0 by simp [V.labels, zz, zf, zy]) y hy; skip; omega); have p0 := fun i o e => hW.ptr (1) i o e (by omega);  have p2 := fun i o e => hW.ptr (ma + 1) i o e (by omega); simp only [List.map_cons, List.map_nil, hW.int, hW.str, hW.bool, hW.any, hW.tup0, hW.agg, hW.nilV, hF.ptr, z5a, zz5a, w0_5, p0, p2, kput] <;> rfl) ?_
      refine OkOps.ev tab_ok rfl (by simp only [kev, ktab, klen, kcv] <;> rfl) (by simp only [kput] <;> rfl) ?_
      refine OkOps.nil ?_
      refine Ok.ret ?_
      repeat (first | with_reducible refine thenQ_ret ?_ | with_reducible refine blockQ_ret ?_)
      refine retQ.end (by show resVs tab _ [.cell 4 47, .tmp 5] = _; simp only [kev, ktab, klen, kcv] <;> rfl) rfl ?_
      exact ⟨(by simp only [packV, V.erase, V.trav, V.travL, V.travLL, zz, zf, zy, E5a] <;> rfl), (by intro L hL; simp only [packV, V.labels, V.labelsL, List.append_nil, List.nil_append] at hL;  first | (have := r5a L hL; omega)), (by simp only [packV, V.labels, V.labelsL, List.append_nil, List.nil_append] at nda ⊢; exact nda)⟩
theorem p_spec_FeedSession (x : Session) (t : Str) (h : smSession x) (ht : t.length ≤ 1048576) : Pure Try.prog 60 [.agg (cSession x), .str t] (.tup [.agg (cSession (feedS x t)), .bool (fits x t)]) := by
  refine Pure.of (by simp [V.dat, V.datL, V.datLL, zz, zf, zy]) (OkCall.enter' tab_ok Try.func60 rfl (t := [.agg (cSession x), .str t, .any, .any, .any, .any, .any, .any, .any, .any, .any, .any, .any, .any, .any, .any, .any, .any, .any, .any, .any, .any, .any, .any, .any, .any, .any, .any, .any, .any, .any, .any]) rfl ?_)
  refine Ok.seq ?_
  refine Ok.region ?_
  iterate 3 (refine OkOps.ev tab_ok rfl (by simp only [kev, ktab, klen, kcv] <;> rfl) (by simp only [kput] <;> rfl) ?_)
  refine OkOps.nil ?_
  refine Ok.seq ?_
  refine Ok.region ?_
  refine OkOps.ev tab_ok rfl (by simp only [kev, ktab, klen, kcv] <;> rfl) (by simp only [kput] <;> rfl) ?_
  obtain ⟨L5a, e5a, hXa, q5a, E5a, M5a, N5a, nda, rga⟩ := ownSession (2) (x)
  obtain ⟨ma, hma⟩ : ∃ m, 2 + 1 + V.cnt (.agg (cSession (x))) = m + 1 := ⟨2 + V.cnt (.agg (cSession (x))), by omega⟩
  have r5a : ∀ z ∈ V.labels (.sl (L5a + 1) 1 0 e5a), 2 + 1 ≤ z ∧ z < ma + 1 := fun z hz => by have := rga z (by first | exact hz | (simp only [V.labelsL, V.labels, List.mem_append] at hz ⊢; simp only [hz, true_or, or_true])); omega
  refine OkOps.S' rfl (OpS.pure' rfl (by simp only [kev, ktab, klen, kcv] <;> rfl) (by simp only [kev, ktab, klen, kcv, V.eraseL, V.erase, V.travL, V.trav, zz, zf, zy] <;> rfl) cl86 (by simp [V.dat, V.datL, V.datLL, zz, zf, zy]) (p_spec_l15Copy x h)) hma (by simp only [kput, hXa] <;> rfl) ?_
  refine OkOps.ev tab_ok rfl (by simp only [kev, ktab, klen, kcv] <;> rfl) (by simp only [kput] <;> rfl) ?_
  refine OkOps.storeN tab_ok rfl rfl (by simp only [kev, ktab, klen, kcv] <;> rfl) ⟨_, _, by simp only [kev]; rfl⟩ (by first | (simp [V.labelsL, V.labelsLL, V.labels, zz, zf, zy]; done) | (intro h; simp only [V.labelsL, V.labels, List.mem_append, List.append_nil, List.nil_append, List.not_mem_nil, or_false, false_or] at h; first | ((first | (have := r5a _ h; omega))))) (fun W hW hF => by have z5a := hW.far (.sl (L5a + 1) 1 0 e5a) (fun y hy h => by have := r5a y hy; skip; omega); have zz5a := fun K => hW.far (.sl (L5a + 1) 1 0 (V.mkLL K e5a)) (fun y hy h => by have := r5a y (by simp only [V.labels, mkLL_labels] at hy; exact hy); skip; omega); have w0_5 := hW.far (.sl 0 1 0 ((x).view.map cZ)) (fun y hy h => by have h0 : y = 0 := (show ∀ y ∈ V.labels (.sl 0 1 0 ((x).view.map cZ)), y = 0 by simp [V.labels, zz, zf, zy]) y hy; skip; omega); have p0 := fun i o e => hW.ptr (1) i o e (by omega);  have p1 := fun i o e => hW.ptr (2) i o e (by omega); simp only [List.map_cons, List.map_nil, hW.int, hW.str, hW.bool, hW.any, hW.tup0, hW.agg, hW.nilV, hF.ptr, z5a, zz5a, w0_5, p0, p1, kput] <;> rfl) ?_
  refine OkOps.nil ?_
  refine Ok.seq ?_
  refine Ok.seq ?_
  refine Ok.drop [7, 8] (by simp only [kover] <;> rfl) ?_
  refine Ok.region ?_
  iterate 3 (refine OkOps.ev tab_ok rfl (by simp only [kev, ktab, klen, kcv] <;> rfl) (by simp only [kput] <;> rfl) ?_)
  refine OkOps.split (d := 11) (by simp only [kev, ktab, klen, kcv] <;> rfl) (by simp only [kput] <;> rfl) (by simp only [kput] <;> rfl) (fun hg2_2 => ?_) (fun hg2_2 => ?_)
  · try simp only [bsimp] at hg2_2
    have hf := fits_over t (show x.over = true from hg2_2)
    rw [hf, feedS_no hf]
    refine OkOps.offU rfl rfl (.inl (by simp only [kev, ktab, klen, kcv, Bool.not_true, Bool.not_false])) (by simp only [kput] <;> rfl) ?_
    refine OkOps.offU rfl rfl (.inl (by simp only [kev, ktab, klen, kcv, Bool.not_true, Bool.not_false])) (by simp only [kput] <;> rfl) ?_
    refine OkOps.offU rfl rfl (.inl (by simp only [kev, ktab, klen, kcv, Bool.not_true, Bool.not_false])) (by simp only [kput] <;> rfl) ?_
    iterate 2 (refine OkOps.ev tab_ok rfl (by simp only [kev, ktab, klen, kcv] <;> rfl) (by simp only [kput] <;> rfl) ?_)
    refine OkOps.offU rfl rfl (.inl (by simp only [kev, ktab, klen, kcv, Bool.not_true, Bool.not_false])) (by simp only [kput] <;> rfl) ?_
    refine OkOps.offU rfl rfl (.inl (by simp only [kev, ktab, klen, kcv, Bool.not_true, Bool.not_false])) (by simp only [kput] <;> rfl) ?_
    refine OkOps.offU rfl rfl (.inl (by simp only [kev, ktab, klen, kcv, Bool.not_true, Bool.not_false])) (by simp only [kput] <;> rfl) ?_
    refine OkOps.offU rfl rfl (.inl (by simp only [kev, ktab, klen, kcv, Bool.not_true, Bool.not_false])) (by simp only [kput] <;> rfl) ?_
    refine OkOps.offU rfl rfl (.inl (by simp only [kev, ktab, klen, kcv, Bool.not_true, Bool.not_false])) (by simp only [kput] <;> rfl) ?_
    refine OkOps.offU rfl rfl (.inl (by simp only [kev, ktab, klen, kcv, Bool.not_true, Bool.not_false])) (by simp only [kput] <;> rfl) ?_
    refine OkOps.offU rfl rfl (.inl (by simp only [kev, ktab, klen, kcv, Bool.not_true, Bool.not_false])) (by simp only [kput] <;> rfl) ?_
    refine OkOps.ev tab_ok rfl (by simp only [kev, ktab, klen, kcv] <;> rfl) (by simp only [kput] <;> rfl) ?_
    refine OkOps.nil ?_
    refine Ok.cond_true (by simp only [kev, ktab, klen, kcv] <;> rfl) ?_
    refine Ok.seq ?_
    refine Ok.drop [9, 10, 11, 12, 13, 14, 15, 16, 17, 18, 19, 20, 21, 22, 23, 24] (by simp only [kover] <;> rfl) ?_
    refine Ok.region ?_
    refine OkOps.ev tab_ok rfl (by simp only [kev, ktab, klen, kcv] <;> rfl) (by simp only [kput] <;> rfl) ?_
    refine OkOps.storeN tab_ok rfl rfl (by simp only [kev, ktab, klen, kcv] <;> rfl) ⟨_, _, by simp only [kev]; rfl⟩ (by first | (simp [V.labelsL, V.labelsLL, V.labels, zz, zf, zy]; done) | (intro h; simp only [V.labelsL, V.labels, List.mem_append, List.append_nil, List.nil_append, List.not_mem_nil, or_false, false_or] at h; first | ((first | (have := r5a _ h; omega))))) (fun W hW hF => by have z5a := hW.far (.sl (L5a + 1) 1 0 e5a) (fun y hy h => by have := r5a y hy; skip; omega); have zz5a := fun K => hW.far (.sl (L5a + 1) 1 0 (V.mkLL K e5a)) (fun y hy h => by have := r5a y (by simp only [V.labels, mkLL_labels] at hy; exact hy); skip; omega); have w0_5 := hW.far (.sl 0 1 0 ((x).view.map cZ)) (fun y hy h => by have h0 : y = 0 := (show ∀ y ∈ V.labels (.sl 0 1 0 ((x).view.map cZ)), y = 0 by simp [V.labels, zz, zf, zy]) y hy; skip; omega); have p0 := fun i o e => hW.ptr (1) i o e (by omega);  have p2 := fun i o e => hW.ptr (ma + 1) i o e (by omega); simp only [List.map_cons, List.map_nil, hW.int, hW.str, hW.bool, hW.any, hW.tup0, hW.agg, hW.nilV, hF.ptr, z5a, zz5a, w0_5, p0, p2, kput] <;> rfl) ?_
    refine OkOps.ev tab_ok rfl (by simp only [kev, ktab, klen, kcv] <;> rfl) (by simp only [kput] <;> rfl) ?_
    refine OkOps.nil ?_
    refine Ok.ret ?_
    repeat (first | with_reducible refine thenQ_ret ?_ | with_reducible refine blockQ_ret ?_)
    refine retQ.end (by show resVs tab _ [.cell 4 47, .tmp 5] = _; simp only [kev, ktab, klen, kcv] <;> rfl) rfl ?_
    exact ⟨(by simp only [packV, V.erase, V.trav, V.travL, V.travLL, zz, zf, zy, E5a] <;> rfl), (by intro L hL; simp only [packV, V.labels, V.labelsL, List.append_nil, List.nil_append] at hL;  first | (have := r5a L hL; omega)), (by simp only [packV, V.labels, V.labelsL, List.append_nil, List.nil_append] at nda ⊢; exact nda)⟩
  · try simp only [bsimp] at hg2_2
    have hv : x.over = false := hg2_2
    have hi := h.1
    refine OkOps.on rfl rfl (by simp only [kev, ktab, klen, kcv]) ?_
    refine OkOps.ev tab_ok rfl (by simp only [kev, ktab, klen, kcv] <;> rfl) (by simp only [kput] <;> rfl) ?_
    refine OkOps.on rfl rfl (by simp only [kev, ktab, klen, kcv]) ?_
    refine OkOps.ev tab_ok rfl (by simp only [kev, ktab, klen, kcv] <;> rfl) (by simp only [kput] <;> rfl) ?_
    refine OkOps.on rfl rfl (by simp only [kev, ktab, klen, kcv]) ?_
    iterate 3 (refine OkOps.ev tab_ok rfl (by simp only [kev, ktab, klen, kcv] <;> rfl) (by simp only [kput] <;> rfl) ?_)
    refine OkOps.split (d := 16) (by simp only [kev, ktab, klen, kcv] <;> rfl) (by simp only [kput] <;> rfl) (by simp only [kput] <;> rfl) (fun hg2_7 => ?_) (fun hg2_7 => ?_)
    · try simp only [bsimp] at hg2_7
      have hf := fits_long (x := x) (t := t) (by omega)
      rw [hf, feedS_no hf]
      refine OkOps.offU rfl rfl (.inl (by simp only [kev, ktab, klen, kcv, Bool.not_true, Bool.not_false])) (by simp only [kput] <;> rfl) ?_
      refine OkOps.offU rfl rfl (.inl (by simp only [kev, ktab, klen, kcv, Bool.not_true, Bool.not_false])) (by simp only [kput] <;> rfl) ?_
      refine OkOps.offU rfl rfl (.inl (by simp only [kev, ktab, klen, kcv, Bool.not_true, Bool.not_false])) (by simp only [kput] <;> rfl) ?_
      refine OkOps.offU rfl rfl (.inl (by simp only [kev, ktab, klen, kcv, Bool.not_true, Bool.not_false])) (by simp only [kput] <;> rfl) ?_
      refine OkOps.offU rfl rfl (.inl (by simp only [kev, ktab, klen, kcv, Bool.not_true, Bool.not_false])) (by simp only [kput] <;> rfl) ?_
      refine OkOps.offU rfl rfl (.inl (by simp only [kev, ktab, klen, kcv, Bool.not_true, Bool.not_false])) (by simp only [kput] <;> rfl) ?_
      refine OkOps.offU rfl rfl (.inl (by simp only [kev, ktab, klen, kcv, Bool.not_true, Bool.not_false])) (by simp only [kput] <;> rfl) ?_
      refine OkOps.ev tab_ok rfl (by simp only [kev, ktab, klen, kcv] <;> rfl) (by simp only [kput] <;> rfl) ?_
      refine OkOps.nil ?_
      refine Ok.cond_true (by simp only [kev, ktab, klen, kcv] <;> rfl) ?_
      refine Ok.seq ?_
      refine Ok.drop [25] (by simp only [kover] <;> rfl) ?_
      refine Ok.region ?_
      refine OkOps.ev tab_ok rfl (by simp only [kev, ktab, klen, kcv] <;> rfl) (by simp only [kput] <;> rfl) ?_
      refine OkOps.storeN tab_ok rfl rfl (by simp only [kev, ktab, klen, kcv] <;> rfl) ⟨_, _, by simp only [kev]; rfl⟩ (by first | (simp [V.labelsL, V.labelsLL, V.labels, zz, zf, zy]; done) | (intro h; simp only [V.labelsL, V.labels, List.mem_append, List.append_nil, List.nil_append, List.not_mem_nil, or_false, false_or] at h; first | ((first | (have := r5a _ h; omega))))) (fun W hW hF => by have z5a := hW.far (.sl (L5a + 1) 1 0 e5a) (fun y hy h => by have := r5a y hy; skip; omega); have zz5a := fun K => hW.far (.sl (L5a + 1) 1 0 (V.mkLL K e5a)) (fun y hy h => by have := r5a y (by simp only [V.labels, mkLL_labels] at hy; exact hy); skip; omega); have w0_5 := hW.far (.sl 0 1 0 ((x).view.map cZ)) (fun y hy h => by have h0 : y = 0 := (show ∀ y ∈ V.labels (.sl 0 1 0 ((x).view.map cZ)), y = 0 by simp [V.labels, zz, zf, zy]) y hy; skip; omega); have p0 := fun i o e => hW.ptr (1) i o e (by omega);  have p2 := fun i o e => hW.ptr (ma + 1) i o e (by omega); simp only [List.map_cons, List.map_nil, hW.int, hW.str, hW.bool, hW.any, hW.tup0, hW.agg, hW.nilV, hF.ptr, z5a, zz5a, w0_5, p0, p2, kput] <;> rfl) ?_
      refine OkOps.ev tab_ok rfl (by simp only [kev, ktab, klen, kcv] <;> rfl) (by simp only [kput] <;> rfl) ?_
      refine OkOps.nil ?_
      refine Ok.ret ?_
      repeat (first | with_reducible refine thenQ_ret ?_ | with_reducible refine blockQ_ret ?_)
      refine retQ.end (by show resVs tab _ [.cell 4 47, .tmp 5] = _; simp only [kev, ktab, klen, kcv] <;> rfl) rfl ?_
      exact ⟨(by simp only [packV, V.erase, V.trav, V.travL, V.travLL, zz, zf, zy, E5a] <;> rfl), (by intro L hL; simp only [packV, V.labels, V.labelsL, List.append_nil, List.nil_append] at hL;  first | (have := r5a L hL; omega)), (by simp only [packV, V.labels, V.labelsL, List.append_nil, List.nil_append] at nda ⊢; exact nda)⟩
    · try simp only [bsimp] at hg2_7
      refine OkOps.on rfl rfl (by simp only [kev, ktab, klen, kcv]) ?_
      refine OkOps.ev tab_ok rfl (by simp only [kev, ktab, klen, kcv] <;> rfl) (by simp only [kput] <;> rfl) ?_
      refine OkOps.on rfl rfl (by simp only [kev, ktab, klen, kcv]) ?_
      refine OkOps.ev tab_ok rfl (by simp only [kev, ktab, klen, kcv] <;> rfl) (by simp only [kput] <;> rfl) ?_
      refine OkOps.on rfl rfl (by simp only [kev, ktab, klen, kcv]) ?_
      refine OkOps.ev tab_ok rfl (by simp only [kev, ktab, klen, kcv] <;> rfl) (by simp only [kput] <;> rfl) ?_
      refine OkOps.on rfl rfl (by simp only [kev, ktab, klen, kcv]) ?_
      refine OkOps.ev tab_ok rfl (by simp only [kev, ktab, klen, kcv] <;> rfl) (by simp only [kput] <;> rfl) ?_
      refine OkOps.on rfl rfl (by simp only [kev, ktab, klen, kcv]) ?_
      refine OkOps.ev tab_ok rfl (by simp only [kev, ktab, klen, kcv] <;> rfl) (by simp only [kput] <;> rfl) ?_
      refine OkOps.on rfl rfl (by simp only [kev, ktab, klen, kcv]) ?_
      refine OkOps.ev tab_ok rfl (by simp only [kev, ktab, klen, kcv, wrap_add_nat (show x.inn.length + t.length ≤ 9223372036854775807 by omega)] <;> rfl) (by simp only [kput] <;> rfl) ?_
      refine OkOps.on rfl rfl (by simp only [kev, ktab, klen, kcv]) ?_
      iterate 2 (refine OkOps.ev tab_ok rfl (by simp only [kev, ktab, klen, kcv] <;> rfl) (by simp only [kput] <;> rfl) ?_)
      refine OkOps.nil ?_
      refine Ok.cond (b := _) (by simp only [kev, ktab, klen, kcv] <;> rfl) (fun hb2 => ?_) (fun hb2 => ?_)
      · try simp only [bsimp] at hb2
        have hf := fits_long (x := x) (t := t) (by omega)
        rw [hf, feedS_no hf]
        refine Ok.seq ?_
        refine Ok.drop [25] (by simp only [kover] <;> rfl) ?_
        refine Ok.region ?_
        refine OkOps.ev tab_ok rfl (by simp only [kev, ktab, klen, kcv] <;> rfl) (by simp only [kput] <;> rfl) ?_
        refine OkOps.storeN tab_ok rfl rfl (by simp only [kev, ktab, klen, kcv] <;> rfl) ⟨_, _, by simp only [kev]; rfl⟩ (by first | (simp [V.labelsL, V.labelsLL, V.labels, zz, zf, zy]; done) | (intro h; simp only [V.labelsL, V.labels, List.mem_append, List.append_nil, List.nil_append, List.not_mem_nil, or_false, false_or] at h; first | ((first | (have := r5a _ h; omega))))) (fun W hW hF => by have z5a := hW.far (.sl (L5a + 1) 1 0 e5a) (fun y hy h => by have := r5a y hy; skip; omega); have zz5a := fun K => hW.far (.sl (L5a + 1) 1 0 (V.mkLL K e5a)) (fun y hy h => by have := r5a y (by simp only [V.labels, mkLL_labels] at hy; exact hy); skip; omega); have w0_5 := hW.far (.sl 0 1 0 ((x).view.map cZ)) (fun y hy h => by have h0 : y = 0 := (show ∀ y ∈ V.labels (.sl 0 1 0 ((x).view.map cZ)), y = 0 by simp [V.labels, zz, zf, zy]) y hy; skip; omega); have p0 := fun i o e => hW.ptr (1) i o e (by omega);  have p2 := fun i o e => hW.ptr (ma + 1) i o e (by omega); simp only [List.map_cons, List.map_nil, hW.int, hW.str, hW.bool, hW.any, hW.tup0, hW.agg, hW.nilV, hF.ptr, z5a, zz5a, w0_5, p0, p2, kput] <;> rfl) ?_
        refine OkOps.ev tab_ok rfl (by simp only [kev, ktab, klen, kcv] <;> rfl) (by simp only [kput] <;> rfl) ?_
        refine OkOps.nil ?_
        refine Ok.ret ?_
        repeat (first | with_reducible refine thenQ_ret ?_ | with_reducible refine blockQ_ret ?_)
        refine retQ.end (by show resVs tab _ [.cell 4 47, .tmp 5] = _; simp only [kev, ktab, klen, kcv] <;> rfl) rfl ?_
        exact ⟨(by simp only [packV, V.erase, V.trav, V.travL, V.travLL, zz, zf, zy, E5a] <;> rfl), (by intro L hL; simp only [packV, V.labels, V.labelsL, List.append_nil, List.nil_append] at hL;  first | (have := r5a L hL; omega)), (by simp only [packV, V.labels, V.labelsL, List.append_nil, List.nil_append] at nda ⊢; exact nda)⟩
      · try simp only [bsimp] at hb2
        have hf := fits_ok (t := t) hv (by omega)
        rw [hf, feedS_ok hf]
        refine Ok.skip ?_
        refine Ok.seq ?_
        refine Ok.drop [25] (by simp only [kover] <;> rfl) ?_
        refine Ok.region ?_
        iterate 3 (refine OkOps.ev tab_ok rfl (by simp only [kev, ktab, klen, kcv] <;> rfl) (by simp only [kput] <;> rfl) ?_)
        refine OkOps.ev tab_ok rfl (ev_cat (by simp only [kev, ktab, klen, kcv] <;> rfl) (by simp only [kev, ktab, klen, kcv] <;> rfl) (by first | omega | (simp only [List.length_append, List.length_cons, List.length_nil] at *; omega))) (by simp only [kput] <;> rfl) ?_
        refine OkOps.ev tab_ok rfl (by simp only [kev, ktab, klen, kcv] <;> rfl) (by simp only [kput] <;> rfl) ?_
        refine OkOps.storeN tab_ok rfl rfl (by simp only [kev, ktab, klen, kcv] <;> rfl) ⟨_, _, by simp only [kev]; rfl⟩ (by first | (simp [V.labelsL, V.labelsLL, V.labels, zz, zf, zy]; done) | (intro h; simp only [V.labelsL, V.labels, List.mem_append, List.append_nil, List.nil_append, List.not_mem_nil, or_false, false_or] at h; first | ((first | (have := r5a _ h; omega))))) (fun W hW hF => by have z5a := hW.far (.sl (L5a + 1) 1 0 e5a) (fun y hy h => by have := r5a y hy; skip; omega); have zz5a := fun K => hW.far (.sl (L5a + 1) 1 0 (V.mkLL K e5a)) (fun y hy h => by have := r5a y (by simp only [V.labels, mkLL_labels] at hy; exact hy); skip; omega); have w0_5 := hW.far (.sl 0 1 0 ((x).view.map cZ)) (fun y hy h => by have h0 : y = 0 := (show ∀ y ∈ V.labels (.sl 0 1 0 ((x).view.map cZ)), y = 0 by simp [V.labels, zz, zf, zy]) y hy; skip; omega); have p0 := fun i o e => hW.ptr (1) i o e (by omega);  have p1 := fun i o e => hW.ptr (2) i o e (by omega); simp only [List.map_cons, List.map_nil, hW.int, hW.str, hW.bool, hW.any, hW.tup0, hW.agg, hW.nilV, hF.ptr, z5a, zz5a, w0_5, p0, p1, kput] <;> rfl) ?_
        refine OkOps.nil ?_
        refine Ok.seq ?_
        refine Ok.drop [26, 27, 28, 29, 30] (by simp only [kover] <;> rfl) ?_
        refine Ok.region ?_
        refine OkOps.ev tab_ok rfl (by simp only [kev, ktab, klen, kcv] <;> rfl) (by simp only [kput] <;> rfl) ?_
        refine OkOps.storeN tab_ok rfl rfl (by simp only [kev, ktab, klen, kcv] <;> rfl) ⟨_, _, by simp only [kev]; rfl⟩ (by first | (simp [V.labelsL, V.labelsLL, V.labels, zz, zf, zy]; done) | (intro h; simp only [V.labelsL, V.labels, List.mem_append, List.append_nil, List.nil_append, List.not_mem_nil, or_false, false_or] at h; first | ((first | (have := r5a _ h; omega))))) (fun W hW hF => by have z5a := hW.far (.sl (L5a + 1) 1 0 e5a) (fun y hy h => by have := r5a y hy; skip; omega); have zz5a := fun K => hW.far (.sl (L5a + 1) 1 0 (V.mkLL K e5a)) (fun y hy h => by have := r5a y (by simp only [V.labels, mkLL_labels] at hy; exact hy); skip; omega); have w0_5 := hW.far (.sl 0 1 0 ((x).view.map cZ)) (fun y hy h => by have h0 : y = 0 := (show ∀ y ∈ V.labels (.sl 0 1 0 ((x).view.map cZ)), y = 0 by simp [V.labels, zz, zf, zy]) y hy; skip; omega); have p0 := fun i o e => hW.ptr (1) i o e (by omega);  have p2 := fun i o e => hW.ptr (ma + 1) i o e (by omega); simp only [List.map_cons, List.map_nil, hW.int, hW.str, hW.bool, hW.any, hW.tup0, hW.agg, hW.nilV, hF.ptr, z5a, zz5a, w0_5, p0, p2, kput] <;> rfl) ?_
        refine OkOps.ev tab_ok rfl (by simp only [kev, ktab, klen, kcv] <;> rfl) (by simp only [kput] <;> rfl) ?_
        refine OkOps.nil ?_
        refine Ok.ret ?_
        repeat (first | with_reducible refine thenQ_ret ?_ | with_reducible refine blockQ_ret ?_)
        refine retQ.end (by show resVs tab _ [.cell 4 47, .tmp 5] = _; simp only [kev, ktab, klen, kcv] <;> rfl) rfl ?_
        exact ⟨(by simp only [packV, V.erase, V.trav, V.travL, V.travLL, zz, zf, zy, E5a] <;> rfl), (by intro L hL; simp only [packV, V.labels, V.labelsL, List.append_nil, List.nil_append] at hL;  first | (have := r5a L hL; omega)), (by simp only [packV, V.labels, V.labelsL, List.append_nil, List.nil_append] at nda ⊢; exact nda)⟩
theorem p_impl_FeedServer (x : Server) (t : Str) (h : smServer x) (ht : t.length ≤ 1048576) : Pure Try.prog 27 [.agg (cServer x), .str t] (.tup [.agg (cServer (feedV x t)), .bool (feedB x t)]) := by
  refine Pure.of (by simp [V.dat, V.datL, V.datLL, zz, zf, zy]) (OkCall.enter' tab_ok Try.func27 rfl (t := [.agg (cServer x), .str t, .any, .any, .any, .any, .any, .any, .any, .any, .any, .any, .any, .any, .any, .any, .any, .any, .any, .any, .any, .any, .any, .any, .any, .any, .any, .any, .any]) rfl ?_)
  refine Ok.seq ?_
  refine Ok.region ?_
  iterate 3 (refine OkOps.ev tab_ok rfl (by simp only [kev, ktab, klen, kcv] <;> rfl) (by simp only [kput] <;> rfl) ?_)
  refine OkOps.nil ?_
  refine Ok.seq ?_
  refine Ok.region ?_
  refine OkOps.ev tab_ok rfl (by simp only [kev, ktab, klen, kcv] <;> rfl) (by simp only [kput] <;> rfl) ?_
  obtain ⟨L2a, e2a, L3a, e3a, L11a, e11a, hXa, q2a, E2a, M2a, N2a, q3a, E3a, M3a, N3a, q11a, E11a, M11a, N11a, nda, rga⟩ := ownServer (2) (x)
  obtain ⟨ma, hma⟩ : ∃ m, 2 + 1 + V.cnt (.agg (cServer (x))) = m + 1 := ⟨2 + V.cnt (.agg (cServer (x))), by omega⟩
  have r2a : ∀ z ∈ V.labels (.sl (L2a + 1) 7 0 e2a), 2 + 1 ≤ z ∧ z < ma + 1 := fun z hz => by have := rga z (by first | exact hz | (simp only [V.labelsL, V.labels, List.mem_append] at hz ⊢; simp only [hz, true_or, or_true])); omega
  have r3a : ∀ z ∈ V.labels (.sl (L3a + 1) 1 0 e3a), 2 + 1 ≤ z ∧ z < ma + 1 := fun z hz => by have := rga z (by first | exact hz | (simp only [V.labelsL, V.labels, List.mem_append] at hz ⊢; simp only [hz, true_or, or_true])); omega
  have r11a : ∀ z ∈ V.labels (.sl (L11a + 1) 1 0 e11a), 2 + 1 ≤ z ∧ z < ma + 1 := fun z hz => by have := rga z (by first | exact hz | (simp only [V.labelsL, V.labels, List.mem_append] at hz ⊢; simp only [hz, true_or, or_true])); omega
  refine OkOps.S' rfl (OpS.pure' rfl (by simp only [kev, ktab, klen, kcv] <;> rfl) (by simp only [kev, ktab, klen, kcv, V.eraseL, V.erase, V.travL, V.trav, zz, zf, zy] <;> rfl) cl50 (by simp [V.dat, V.datL, V.datLL, zz, zf, zy]) (p_impl_copyServer x h)) hma (by simp only [kput, hXa] <;> rfl) ?_
  refine OkOps.ev tab_ok rfl (by simp only [kev, ktab, klen, kcv] <;> rfl) (by simp only [kput] <;> rfl) ?_
  refine OkOps.storeN tab_ok rfl rfl (by simp only [kev, ktab, klen, kcv] <;> rfl) ⟨_, _, by simp only [kev]; rfl⟩ (by first | (simp [V.labelsL, V.labelsLL, V.labels, zz, zf, zy]; done) | (intro h; simp only [V.labelsL, V.labels, List.mem_append, List.append_nil, List.nil_append, List.not_mem_nil, or_false, false_or] at h; first | ((first | (have := r2a _ h; omega) | (have := r3a _ h; omega) | (have := r11a _ h; omega))) | (rcases h with h | h <;> (first | (have := r2a _ h; omega) | (have := r3a _ h; omega) | (have := r11a _ h; omega))) | (rcases h with h | h | h <;> (first | (have := r2a _ h; omega) | (have := r3a _ h; omega) | (have := r11a _ h; omega))))) (fun W hW hF => by have z2a := hW.far (.sl (L2a + 1) 7 0 e2a) (fun y hy h => by have := r2a y hy; skip; omega); have zz2a := fun K => hW.far (.sl (L2a + 1) 7 0 (V.mkLL K e2a)) (fun y hy h => by have := r2a y (by simp only [V.labels, mkLL_labels] at hy; exact hy); skip; omega); have z3a := hW.far (.sl (L3a + 1) 1 0 e3a) (fun y hy h => by have := r3a y hy; skip; omega); have zz3a := fun K => hW.far (.sl (L3a + 1) 1 0 (V.mkLL K e3a)) (fun y hy h => by have := r3a y (by simp only [V.labels, mkLL_labels] at hy; exact hy); skip; omega); have z11a := hW.far (.sl (L11a + 1) 1 0 e11a) (fun y hy h => by have := r11a y hy; skip; omega); have zz11a := fun K => hW.far (.sl (L11a + 1) 1 0 (V.mkLL K e11a)) (fun y hy h => by have := r11a y (by simp only [V.labels, mkLL_labels] at hy; exact hy); skip; omega); have w0_2 := hW.far (.sl 0 7 0 ((x).kept.store.boxes.map cBox)) (fun y hy h => by have h0 : y = 0 := (show ∀ y ∈ V.labels (.sl 0 7 0 ((x).kept.store.boxes.map cBox)), y = 0 by simp [V.labels, zz, zf, zy]) y hy; skip; omega); have w0_3 := hW.far (.sl 0 1 0 ((x).kept.store.gone.map cZ)) (fun y hy h => by have h0 : y = 0 := (show ∀ y ∈ V.labels (.sl 0 1 0 ((x).kept.store.gone.map cZ)), y = 0 by simp [V.labels, zz, zf, zy]) y hy; skip; omega); have w0_11 := hW.far (.sl 0 1 0 ((x).session.view.map cZ)) (fun y hy h => by have h0 : y = 0 := (show ∀ y ∈ V.labels (.sl 0 1 0 ((x).session.view.map cZ)), y = 0 by simp [V.labels, zz, zf, zy]) y hy; skip; omega); have p0 := fun i o e => hW.ptr (1) i o e (by omega);  have p1 := fun i o e => hW.ptr (2) i o e (by omega); simp only [List.map_cons, List.map_nil, hW.int, hW.str, hW.bool, hW.any, hW.tup0, hW.agg, hW.nilV, hF.ptr, z2a, zz2a, z3a, zz3a, z11a, zz11a, w0_2, w0_3, w0_11, p0, p1, kput] <;> rfl) ?_
  refine OkOps.nil ?_
  refine Ok.seq ?_
  refine Ok.region ?_
  iterate 3 (refine OkOps.ev tab_ok rfl (by simp only [kev, ktab, klen, kcv] <;> rfl) (by simp only [kput] <;> rfl) ?_)
  obtain ⟨L5b, e5b, hXb, q5b, E5b, M5b, N5b, ndb, rgb⟩ := ownTSession (ma + 1) (feedS x.session t) (fits x.session t)
  obtain ⟨mb, hmb⟩ : ∃ m, ma + 1 + 1 + V.cnt (.tup [.agg (cSession (feedS x.session t)), .bool (fits x.session t)]) = m + 1 := ⟨ma + 1 + V.cnt (.tup [.agg (cSession (feedS x.session t)), .bool (fits x.session t)]), by omega⟩
  have r5b : ∀ z ∈ V.labels (.sl (L5b + 1) 1 0 e5b), ma + 1 + 1 ≤ z ∧ z < mb + 1 := fun z hz => by have := rgb z (by first | exact hz | (simp only [V.labelsL, V.labels, List.mem_append] at hz ⊢; simp only [hz, true_or, or_true])); omega
  refine OkOps.S' rfl (OpS.pure' rfl (by simp only [kev, ktab, klen, kcv] <;> rfl) (by simp only [kev, ktab, klen, kcv, E2a, M2a, N2a, E3a, M3a, N3a, E11a, M11a, N11a, V.eraseL, V.erase, V.travL, V.trav, zz, zf, zy] <;> rfl) cl61 (by simp [V.dat, V.datL, V.datLL, zz, zf, zy]) (p_impl_FeedSession x.session t h.2 ht)) hmb (by simp only [kput, hXb] <;> rfl) ?_
  iterate 4 (refine OkOps.ev tab_ok rfl (by simp only [kev, ktab, klen, kcv] <;> rfl) (by simp only [kput] <;> rfl) ?_)
  refine OkOps.drop [15, 11] (by simp only [kover] <;> rfl) ?_
  refine OkOps.storeN tab_ok rfl rfl (by simp only [kev, ktab, klen, kcv] <;> rfl) ⟨_, _, by simp only [kev]; rfl⟩ (by first | (simp [V.labelsL, V.labelsLL, V.labels, zz, zf, zy]; done) | (intro h; simp only [V.labelsL, V.labels, List.mem_append, List.append_nil, List.nil_append, List.not_mem_nil, or_false, false_or] at h; first | ((first | (have := r2a _ h; omega) | (have := r3a _ h; omega) | (have := r11a _ h; omega) | (have := r5b _ h; omega))) | (rcases h with h | h <;> (first | (have := r2a _ h; omega) | (have := r3a _ h; omega) | (have := r11a _ h; omega) | (have := r5b _ h; omega))) | (rcases h with h | h | h <;> (first | (have := r2a _ h; omega) | (have := r3a _ h; omega) | (have := r11a _ h; omega) | (have := r5b _ h; omega))) | (rcases h with h | h | h | h <;> (first | (have := r2a _ h; omega) | (have := r3a _ h; omega) | (have := r11a _ h; omega) | (have := r5b _ h; omega))))) (fun W hW hF => by have z2a := hW.far (.sl (L2a + 1) 7 0 e2a) (fun y hy h => by have := r2a y hy; skip; omega); have zz2a := fun K => hW.far (.sl (L2a + 1) 7 0 (V.mkLL K e2a)) (fun y hy h => by have := r2a y (by simp only [V.labels, mkLL_labels] at hy; exact hy); skip; omega); have z3a := hW.far (.sl (L3a + 1) 1 0 e3a) (fun y hy h => by have := r3a y hy; skip; omega); have zz3a := fun K => hW.far (.sl (L3a + 1) 1 0 (V.mkLL K e3a)) (fun y hy h => by have := r3a y (by simp only [V.labels, mkLL_labels] at hy; exact hy); skip; omega); have z11a := hW.far (.sl (L11a + 1) 1 0 e11a) (fun y hy h => by have := r11a y hy; skip; omega); have zz11a := fun K => hW.far (.sl (L11a + 1) 1 0 (V.mkLL K e11a)) (fun y hy h => by have := r11a y (by simp only [V.labels, mkLL_labels] at hy; exact hy); skip; omega); have z5b := hW.far (.sl (L5b + 1) 1 0 e5b) (fun y hy h => by have := r5b y hy; skip; omega); have zz5b := fun K => hW.far (.sl (L5b + 1) 1 0 (V.mkLL K e5b)) (fun y hy h => by have := r5b y (by simp only [V.labels, mkLL_labels] at hy; exact hy); skip; omega); have w0_2 := hW.far (.sl 0 7 0 ((x).kept.store.boxes.map cBox)) (fun y hy h => by have h0 : y = 0 := (show ∀ y ∈ V.labels (.sl 0 7 0 ((x).kept.store.boxes.map cBox)), y = 0 by simp [V.labels, zz, zf, zy]) y hy; skip; omega); have w0_3 := hW.far (.sl 0 1 0 ((x).kept.store.gone.map cZ)) (fun y hy h => by have h0 : y = 0 := (show ∀ y ∈ V.labels (.sl 0 1 0 ((x).kept.store.gone.map cZ)), y = 0 by simp [V.labels, zz, zf, zy]) y hy; skip; omega); have w0_11 := hW.far (.sl 0 1 0 ((x).session.view.map cZ)) (fun y hy h => by have h0 : y = 0 := (show ∀ y ∈ V.labels (.sl 0 1 0 ((x).session.view.map cZ)), y = 0 by simp [V.labels, zz, zf, zy]) y hy; skip; omega); have p0 := fun i o e => hW.ptr (1) i o e (by omega);  have p1 := fun i o e => hW.ptr (2) i o e (by omega);  have p2 := fun i o e => hW.ptr (ma + 1) i o e (by omega); simp only [List.map_cons, List.map_nil, hW.int, hW.str, hW.bool, hW.any, hW.tup0, hW.agg, hW.nilV, hF.ptr, z2a, zz2a, z3a, zz3a, z11a, zz11a, z5b, zz5b, w0_2, w0_3, w0_11, p0, p1, p2, kput] <;> rfl) ?_
  refine OkOps.ev tab_ok rfl (by simp only [kev, ktab, klen, kcv] <;> rfl) (by simp only [kput] <;> rfl) ?_
  refine OkOps.nil ?_
  refine Ok.seq ?_
  refine Ok.seq ?_
  refine Ok.drop [12, 13, 14, 15, 16, 17] (by simp only [kover] <;> rfl) ?_
  refine Ok.region ?_
  iterate 3 (refine OkOps.ev tab_ok rfl (by simp only [kev, ktab, klen, kcv] <;> rfl) (by simp only [kput] <;> rfl) ?_)
  refine OkOps.split (d := 20) (by simp only [kev, ktab, klen, kcv] <;> rfl) (by simp only [kput] <;> rfl) (by simp only [kput] <;> rfl) (fun hg3_2 => ?_) (fun hg3_2 => ?_)
  · try simp only [bsimp] at hg3_2
    have hq : fits x.session t = false := by simpa using hg3_2
    have hf : feedB x t = false := by unfold feedB; rw [hq, Bool.and_false]
    rw [hf, feed_no hf]
    refine OkOps.offU rfl rfl (.inl (by simp only [kev, ktab, klen, kcv, Bool.not_true, Bool.not_false])) (by simp only [kput] <;> rfl) ?_
    refine OkOps.offU rfl rfl (.inl (by simp only [kev, ktab, klen, kcv, Bool.not_true, Bool.not_false])) (by simp only [kput] <;> rfl) ?_
    refine OkOps.offU rfl rfl (.inl (by simp only [kev, ktab, klen, kcv, Bool.not_true, Bool.not_false])) (by simp only [kput] <;> rfl) ?_
    refine OkOps.ev tab_ok rfl (by simp only [kev, ktab, klen, kcv] <;> rfl) (by simp only [kput] <;> rfl) ?_
    refine OkOps.nil ?_
    refine Ok.cond_true (by simp only [kev, ktab, klen, kcv] <;> rfl) ?_
    refine Ok.seq ?_
    refine Ok.drop [18, 19, 20, 21, 22, 23, 24] (by simp only [kover] <;> rfl) ?_
    refine Ok.region ?_
    refine OkOps.ev tab_ok rfl (by simp only [kev, ktab, klen, kcv] <;> rfl) (by simp only [kput] <;> rfl) ?_
    refine OkOps.storeN tab_ok rfl rfl (by simp only [kev, ktab, klen, kcv] <;> rfl) ⟨_, _, by simp only [kev]; rfl⟩ (by first | (simp [V.labelsL, V.labelsLL, V.labels, zz, zf, zy]; done) | (intro h; simp only [V.labelsL, V.labels, List.mem_append, List.append_nil, List.nil_append, List.not_mem_nil, or_false, false_or] at h; first | ((first | (have := r2a _ h; omega) | (have := r3a _ h; omega) | (have := r11a _ h; omega) | (have := r5b _ h; omega))) | (rcases h with h | h <;> (first | (have := r2a _ h; omega) | (have := r3a _ h; omega) | (have := r11a _ h; omega) | (have := r5b _ h; omega))) | (rcases h with h | h | h <;> (first | (have := r2a _ h; omega) | (have := r3a _ h; omega) | (have := r11a _ h; omega) | (have := r5b _ h; omega))) | (rcases h with h | h | h | h <;> (first | (have := r2a _ h; omega) | (have := r3a _ h; omega) | (have := r11a _ h; omega) | (have := r5b _ h; omega))))) (fun W hW hF => by have z2a := hW.far (.sl (L2a + 1) 7 0 e2a) (fun y hy h => by have := r2a y hy; skip; omega); have zz2a := fun K => hW.far (.sl (L2a + 1) 7 0 (V.mkLL K e2a)) (fun y hy h => by have := r2a y (by simp only [V.labels, mkLL_labels] at hy; exact hy); skip; omega); have z3a := hW.far (.sl (L3a + 1) 1 0 e3a) (fun y hy h => by have := r3a y hy; skip; omega); have zz3a := fun K => hW.far (.sl (L3a + 1) 1 0 (V.mkLL K e3a)) (fun y hy h => by have := r3a y (by simp only [V.labels, mkLL_labels] at hy; exact hy); skip; omega); have z11a := hW.far (.sl (L11a + 1) 1 0 e11a) (fun y hy h => by have := r11a y hy; skip; omega); have zz11a := fun K => hW.far (.sl (L11a + 1) 1 0 (V.mkLL K e11a)) (fun y hy h => by have := r11a y (by simp only [V.labels, mkLL_labels] at hy; exact hy); skip; omega); have z5b := hW.far (.sl (L5b + 1) 1 0 e5b) (fun y hy h => by have := r5b y hy; skip; omega); have zz5b := fun K => hW.far (.sl (L5b + 1) 1 0 (V.mkLL K e5b)) (fun y hy h => by have := r5b y (by simp only [V.labels, mkLL_labels] at hy; exact hy); skip; omega); have w0_2 := hW.far (.sl 0 7 0 ((x).kept.store.boxes.map cBox)) (fun y hy h => by have h0 : y = 0 := (show ∀ y ∈ V.labels (.sl 0 7 0 ((x).kept.store.boxes.map cBox)), y = 0 by simp [V.labels, zz, zf, zy]) y hy; skip; omega); have w0_3 := hW.far (.sl 0 1 0 ((x).kept.store.gone.map cZ)) (fun y hy h => by have h0 : y = 0 := (show ∀ y ∈ V.labels (.sl 0 1 0 ((x).kept.store.gone.map cZ)), y = 0 by simp [V.labels, zz, zf, zy]) y hy; skip; omega); have w0_11 := hW.far (.sl 0 1 0 ((x).session.view.map cZ)) (fun y hy h => by have h0 : y = 0 := (show ∀ y ∈ V.labels (.sl 0 1 0 ((x).session.view.map cZ)), y = 0 by simp [V.labels, zz, zf, zy]) y hy; skip; omega); have p0 := fun i o e => hW.ptr (1) i o e (by omega);  have p2 := fun i o e => hW.ptr (ma + 1) i o e (by omega);  have p3 := fun i o e => hW.ptr (mb + 1) i o e (by omega); simp only [List.map_cons, List.map_nil, hW.int, hW.str, hW.bool, hW.any, hW.tup0, hW.agg, hW.nilV, hF.ptr, z2a, zz2a, z3a, zz3a, z11a, zz11a, z5b, zz5b, w0_2, w0_3, w0_11, p0, p2, p3, kput] <;> rfl) ?_
    refine OkOps.ev tab_ok rfl (by simp only [kev, ktab, klen, kcv] <;> rfl) (by simp only [kput] <;> rfl) ?_
    refine OkOps.nil ?_
    refine Ok.ret ?_
    repeat (first | with_reducible refine thenQ_ret ?_ | with_reducible refine blockQ_ret ?_)
    refine retQ.end (by show resVs tab _ [.cell 4 49, .tmp 5] = _; simp only [kev, ktab, klen, kcv] <;> rfl) rfl ?_
    exact ⟨(by simp only [packV, V.erase, V.trav, V.travL, V.travLL, zz, zf, zy, E2a, E3a, E11a] <;> rfl), (by intro L hL; simp only [packV, V.labels, V.labelsL, List.append_nil, List.nil_append, List.mem_append] at hL; rcases hL with hL | hL | hL <;> first | (have := r2a L hL; omega) | (have := r3a L hL; omega) | (have := r11a L hL; omega)), (by have na := nda; simp only [V.labels, V.labelsL, List.append_nil, List.nil_append] at na; obtain ⟨w2a, na, f2a, _⟩ := nd_app na; obtain ⟨w3a, na, f3a, _⟩ := nd_app na; have w11a := na; simp only [packV, V.labels, V.labelsL, List.append_nil, List.nil_append]; exact (nd_app2 w2a (nd_app2 w3a w11a (fun y hy hh => by exact (f3a y hy (by first | exact hh | (simp only [List.mem_append]; simp only [hh, true_or, or_true]))))) (fun y hy hh => by exact (List.mem_append.1 hh).elim (fun hh => (f2a y hy (by first | exact hh | (simp only [List.mem_append]; simp only [hh, true_or, or_true])))) (fun hh => by exact (f2a y hy (by first | exact hh | (simp only [List.mem_append]; simp only [hh, true_or, or_true])))))))⟩
  · try simp only [bsimp] at hg3_2
    have hq : fits x.session t = true := by simpa using hg3_2
    refine OkOps.on rfl rfl (by simp only [kev, ktab, klen, kcv]) ?_
    refine OkOps.ev tab_ok rfl (by simp only [kev, ktab, klen, kcv] <;> rfl) (by simp only [kput] <;> rfl) ?_
    refine OkOps.on rfl rfl (by simp only [kev, ktab, klen, kcv]) ?_
    refine OkOps.ev tab_ok rfl (by simp only [kev, ktab, klen, kcv] <;> rfl) (by simp only [kput] <;> rfl) ?_
    refine OkOps.on rfl rfl (by simp only [kev, ktab, klen, kcv]) ?_
    iterate 2 (refine OkOps.ev tab_ok rfl (by simp only [kev, ktab, klen, kcv] <;> rfl) (by simp only [kput] <;> rfl) ?_)
    refine OkOps.nil ?_
    refine Ok.cond (b := _) (by simp only [kev, ktab, klen, kcv] <;> rfl) (fun hb3 => ?_) (fun hb3 => ?_)
    · try simp only [bsimp] at hb3
      have hu : x.up = false := by simpa using hb3
      have hf : feedB x t = false := by unfold feedB; rw [hu, Bool.false_and]
      rw [hf, feed_no hf]
      refine Ok.seq ?_
      refine Ok.drop [25] (by simp only [kover] <;> rfl) ?_
      refine Ok.region ?_
      refine OkOps.ev tab_ok rfl (by simp only [kev, ktab, klen, kcv] <;> rfl) (by simp only [kput] <;> rfl) ?_
      refine OkOps.storeN tab_ok rfl rfl (by simp only [kev, ktab, klen, kcv] <;> rfl) ⟨_, _, by simp only [kev]; rfl⟩ (by first | (simp [V.labelsL, V.labelsLL, V.labels, zz, zf, zy]; done) | (intro h; simp only [V.labelsL, V.labels, List.mem_append, List.append_nil, List.nil_append, List.not_mem_nil, or_false, false_or] at h; first | ((first | (have := r2a _ h; omega) | (have := r3a _ h; omega) | (have := r11a _ h; omega) | (have := r5b _ h; omega))) | (rcases h with h | h <;> (first | (have := r2a _ h; omega) | (have := r3a _ h; omega) | (have := r11a _ h; omega) | (have := r5b _ h; omega))) | (rcases h with h | h | h <;> (first | (have := r2a _ h; omega) | (have := r3a _ h; omega) | (have := r11a _ h; omega) | (have := r5b _ h; omega))) | (rcases h with h | h | h | h <;> (first | (have := r2a _ h; omega) | (have := r3a _ h; omega) | (have := r11a _ h; omega) | (have := r5b _ h; omega))))) (fun W hW hF => by have z2a := hW.far (.sl (L2a + 1) 7 0 e2a) (fun y hy h => by have := r2a y hy; skip; omega); have zz2a := fun K => hW.far (.sl (L2a + 1) 7 0 (V.mkLL K e2a)) (fun y hy h => by have := r2a y (by simp only [V.labels, mkLL_labels] at hy; exact hy); skip; omega); have z3a := hW.far (.sl (L3a + 1) 1 0 e3a) (fun y hy h => by have := r3a y hy; skip; omega); have zz3a := fun K => hW.far (.sl (L3a + 1) 1 0 (V.mkLL K e3a)) (fun y hy h => by have := r3a y (by simp only [V.labels, mkLL_labels] at hy; exact hy); skip; omega); have z11a := hW.far (.sl (L11a + 1) 1 0 e11a) (fun y hy h => by have := r11a y hy; skip; omega); have zz11a := fun K => hW.far (.sl (L11a + 1) 1 0 (V.mkLL K e11a)) (fun y hy h => by have := r11a y (by simp only [V.labels, mkLL_labels] at hy; exact hy); skip; omega); have z5b := hW.far (.sl (L5b + 1) 1 0 e5b) (fun y hy h => by have := r5b y hy; skip; omega); have zz5b := fun K => hW.far (.sl (L5b + 1) 1 0 (V.mkLL K e5b)) (fun y hy h => by have := r5b y (by simp only [V.labels, mkLL_labels] at hy; exact hy); skip; omega); have w0_2 := hW.far (.sl 0 7 0 ((x).kept.store.boxes.map cBox)) (fun y hy h => by have h0 : y = 0 := (show ∀ y ∈ V.labels (.sl 0 7 0 ((x).kept.store.boxes.map cBox)), y = 0 by simp [V.labels, zz, zf, zy]) y hy; skip; omega); have w0_3 := hW.far (.sl 0 1 0 ((x).kept.store.gone.map cZ)) (fun y hy h => by have h0 : y = 0 := (show ∀ y ∈ V.labels (.sl 0 1 0 ((x).kept.store.gone.map cZ)), y = 0 by simp [V.labels, zz, zf, zy]) y hy; skip; omega); have w0_11 := hW.far (.sl 0 1 0 ((x).session.view.map cZ)) (fun y hy h => by have h0 : y = 0 := (show ∀ y ∈ V.labels (.sl 0 1 0 ((x).session.view.map cZ)), y = 0 by simp [V.labels, zz, zf, zy]) y hy; skip; omega); have p0 := fun i o e => hW.ptr (1) i o e (by omega);  have p2 := fun i o e => hW.ptr (ma + 1) i o e (by omega);  have p3 := fun i o e => hW.ptr (mb + 1) i o e (by omega); simp only [List.map_cons, List.map_nil, hW.int, hW.str, hW.bool, hW.any, hW.tup0, hW.agg, hW.nilV, hF.ptr, z2a, zz2a, z3a, zz3a, z11a, zz11a, z5b, zz5b, w0_2, w0_3, w0_11, p0, p2, p3, kput] <;> rfl) ?_
      refine OkOps.ev tab_ok rfl (by simp only [kev, ktab, klen, kcv] <;> rfl) (by simp only [kput] <;> rfl) ?_
      refine OkOps.nil ?_
      refine Ok.ret ?_
      repeat (first | with_reducible refine thenQ_ret ?_ | with_reducible refine blockQ_ret ?_)
      refine retQ.end (by show resVs tab _ [.cell 4 49, .tmp 5] = _; simp only [kev, ktab, klen, kcv] <;> rfl) rfl ?_
      exact ⟨(by simp only [packV, V.erase, V.trav, V.travL, V.travLL, zz, zf, zy, E2a, E3a, E11a] <;> rfl), (by intro L hL; simp only [packV, V.labels, V.labelsL, List.append_nil, List.nil_append, List.mem_append] at hL; rcases hL with hL | hL | hL <;> first | (have := r2a L hL; omega) | (have := r3a L hL; omega) | (have := r11a L hL; omega)), (by have na := nda; simp only [V.labels, V.labelsL, List.append_nil, List.nil_append] at na; obtain ⟨w2a, na, f2a, _⟩ := nd_app na; obtain ⟨w3a, na, f3a, _⟩ := nd_app na; have w11a := na; simp only [packV, V.labels, V.labelsL, List.append_nil, List.nil_append]; exact (nd_app2 w2a (nd_app2 w3a w11a (fun y hy hh => by exact (f3a y hy (by first | exact hh | (simp only [List.mem_append]; simp only [hh, true_or, or_true]))))) (fun y hy hh => by exact (List.mem_append.1 hh).elim (fun hh => (f2a y hy (by first | exact hh | (simp only [List.mem_append]; simp only [hh, true_or, or_true])))) (fun hh => by exact (f2a y hy (by first | exact hh | (simp only [List.mem_append]; simp only [hh, true_or, or_true])))))))⟩
    · try simp only [bsimp] at hb3
      have hu : x.up = true := by simpa using hb3
      have hf : feedB x t = true := by unfold feedB; rw [hu, hq]; rfl
      rw [hf, feed_ok hf]
      refine Ok.skip ?_
      refine Ok.seq ?_
      refine Ok.drop [25] (by simp only [kover] <;> rfl) ?_
      refine Ok.region ?_
      iterate 2 (refine OkOps.ev tab_ok rfl (by simp only [kev, ktab, klen, kcv] <;> rfl) (by simp only [kput] <;> rfl) ?_)
      refine OkOps.storeN tab_ok rfl rfl (by simp only [kev, ktab, klen, kcv] <;> rfl) ⟨_, _, by simp only [kev]; rfl⟩ (by first | (simp [V.labelsL, V.labelsLL, V.labels, zz, zf, zy]; done) | (intro h; simp only [V.labelsL, V.labels, List.mem_append, List.append_nil, List.nil_append, List.not_mem_nil, or_false, false_or] at h; first | ((first | (have := r2a _ h; omega) | (have := r3a _ h; omega) | (have := r11a _ h; omega) | (have := r5b _ h; omega))) | (rcases h with h | h <;> (first | (have := r2a _ h; omega) | (have := r3a _ h; omega) | (have := r11a _ h; omega) | (have := r5b _ h; omega))) | (rcases h with h | h | h <;> (first | (have := r2a _ h; omega) | (have := r3a _ h; omega) | (have := r11a _ h; omega) | (have := r5b _ h; omega))) | (rcases h with h | h | h | h <;> (first | (have := r2a _ h; omega) | (have := r3a _ h; omega) | (have := r11a _ h; omega) | (have := r5b _ h; omega))))) (fun W hW hF => by have z2a := hW.far (.sl (L2a + 1) 7 0 e2a) (fun y hy h => by have := r2a y hy; skip; omega); have zz2a := fun K => hW.far (.sl (L2a + 1) 7 0 (V.mkLL K e2a)) (fun y hy h => by have := r2a y (by simp only [V.labels, mkLL_labels] at hy; exact hy); skip; omega); have z3a := hW.far (.sl (L3a + 1) 1 0 e3a) (fun y hy h => by have := r3a y hy; skip; omega); have zz3a := fun K => hW.far (.sl (L3a + 1) 1 0 (V.mkLL K e3a)) (fun y hy h => by have := r3a y (by simp only [V.labels, mkLL_labels] at hy; exact hy); skip; omega); have z11a := hW.far (.sl (L11a + 1) 1 0 e11a) (fun y hy h => by have := r11a y hy; skip; omega); have zz11a := fun K => hW.far (.sl (L11a + 1) 1 0 (V.mkLL K e11a)) (fun y hy h => by have := r11a y (by simp only [V.labels, mkLL_labels] at hy; exact hy); skip; omega); have z5b := hW.far (.sl (L5b + 1) 1 0 e5b) (fun y hy h => by have := r5b y hy; skip; omega); have zz5b := fun K => hW.far (.sl (L5b + 1) 1 0 (V.mkLL K e5b)) (fun y hy h => by have := r5b y (by simp only [V.labels, mkLL_labels] at hy; exact hy); skip; omega); have w0_2 := hW.far (.sl 0 7 0 ((x).kept.store.boxes.map cBox)) (fun y hy h => by have h0 : y = 0 := (show ∀ y ∈ V.labels (.sl 0 7 0 ((x).kept.store.boxes.map cBox)), y = 0 by simp [V.labels, zz, zf, zy]) y hy; skip; omega); have w0_3 := hW.far (.sl 0 1 0 ((x).kept.store.gone.map cZ)) (fun y hy h => by have h0 : y = 0 := (show ∀ y ∈ V.labels (.sl 0 1 0 ((x).kept.store.gone.map cZ)), y = 0 by simp [V.labels, zz, zf, zy]) y hy; skip; omega); have w0_11 := hW.far (.sl 0 1 0 ((x).session.view.map cZ)) (fun y hy h => by have h0 : y = 0 := (show ∀ y ∈ V.labels (.sl 0 1 0 ((x).session.view.map cZ)), y = 0 by simp [V.labels, zz, zf, zy]) y hy; skip; omega); have p0 := fun i o e => hW.ptr (1) i o e (by omega);  have p1 := fun i o e => hW.ptr (2) i o e (by omega);  have p3 := fun i o e => hW.ptr (mb + 1) i o e (by omega); simp only [List.map_cons, List.map_nil, hW.int, hW.str, hW.bool, hW.any, hW.tup0, hW.agg, hW.nilV, hF.ptr, z2a, zz2a, z3a, zz3a, z11a, zz11a, z5b, zz5b, w0_2, w0_3, w0_11, p0, p1, p3, kput] <;> rfl) ?_
      refine OkOps.nil ?_
      refine Ok.seq ?_
      refine Ok.drop [26, 27] (by simp only [kover] <;> rfl) ?_
      refine Ok.region ?_
      refine OkOps.ev tab_ok rfl (by simp only [kev, ktab, klen, kcv] <;> rfl) (by simp only [kput] <;> rfl) ?_
      refine OkOps.storeN tab_ok rfl rfl (by simp only [kev, ktab, klen, kcv] <;> rfl) ⟨_, _, by simp only [kev]; rfl⟩ (by first | (simp [V.labelsL, V.labelsLL, V.labels, zz, zf, zy]; done) | (intro h; simp only [V.labelsL, V.labels, List.mem_append, List.append_nil, List.nil_append, List.not_mem_nil, or_false, false_or] at h; first | ((first | (have := r2a _ h; omega) | (have := r3a _ h; omega) | (have := r11a _ h; omega) | (have := r5b _ h; omega))) | (rcases h with h | h <;> (first | (have := r2a _ h; omega) | (have := r3a _ h; omega) | (have := r11a _ h; omega) | (have := r5b _ h; omega))) | (rcases h with h | h | h <;> (first | (have := r2a _ h; omega) | (have := r3a _ h; omega) | (have := r11a _ h; omega) | (have := r5b _ h; omega))) | (rcases h with h | h | h | h <;> (first | (have := r2a _ h; omega) | (have := r3a _ h; omega) | (have := r11a _ h; omega) | (have := r5b _ h; omega))))) (fun W hW hF => by have z2a := hW.far (.sl (L2a + 1) 7 0 e2a) (fun y hy h => by have := r2a y hy; skip; omega); have zz2a := fun K => hW.far (.sl (L2a + 1) 7 0 (V.mkLL K e2a)) (fun y hy h => by have := r2a y (by simp only [V.labels, mkLL_labels] at hy; exact hy); skip; omega); have z3a := hW.far (.sl (L3a + 1) 1 0 e3a) (fun y hy h => by have := r3a y hy; skip; omega); have zz3a := fun K => hW.far (.sl (L3a + 1) 1 0 (V.mkLL K e3a)) (fun y hy h => by have := r3a y (by simp only [V.labels, mkLL_labels] at hy; exact hy); skip; omega); have z11a := hW.far (.sl (L11a + 1) 1 0 e11a) (fun y hy h => by have := r11a y hy; skip; omega); have zz11a := fun K => hW.far (.sl (L11a + 1) 1 0 (V.mkLL K e11a)) (fun y hy h => by have := r11a y (by simp only [V.labels, mkLL_labels] at hy; exact hy); skip; omega); have z5b := hW.far (.sl (L5b + 1) 1 0 e5b) (fun y hy h => by have := r5b y hy; skip; omega); have zz5b := fun K => hW.far (.sl (L5b + 1) 1 0 (V.mkLL K e5b)) (fun y hy h => by have := r5b y (by simp only [V.labels, mkLL_labels] at hy; exact hy); skip; omega); have w0_2 := hW.far (.sl 0 7 0 ((x).kept.store.boxes.map cBox)) (fun y hy h => by have h0 : y = 0 := (show ∀ y ∈ V.labels (.sl 0 7 0 ((x).kept.store.boxes.map cBox)), y = 0 by simp [V.labels, zz, zf, zy]) y hy; skip; omega); have w0_3 := hW.far (.sl 0 1 0 ((x).kept.store.gone.map cZ)) (fun y hy h => by have h0 : y = 0 := (show ∀ y ∈ V.labels (.sl 0 1 0 ((x).kept.store.gone.map cZ)), y = 0 by simp [V.labels, zz, zf, zy]) y hy; skip; omega); have w0_11 := hW.far (.sl 0 1 0 ((x).session.view.map cZ)) (fun y hy h => by have h0 : y = 0 := (show ∀ y ∈ V.labels (.sl 0 1 0 ((x).session.view.map cZ)), y = 0 by simp [V.labels, zz, zf, zy]) y hy; skip; omega); have p0 := fun i o e => hW.ptr (1) i o e (by omega);  have p2 := fun i o e => hW.ptr (ma + 1) i o e (by omega);  have p3 := fun i o e => hW.ptr (mb + 1) i o e (by omega); simp only [List.map_cons, List.map_nil, hW.int, hW.str, hW.bool, hW.any, hW.tup0, hW.agg, hW.nilV, hF.ptr, z2a, zz2a, z3a, zz3a, z11a, zz11a, z5b, zz5b, w0_2, w0_3, w0_11, p0, p2, p3, kput] <;> rfl) ?_
      refine OkOps.ev tab_ok rfl (by simp only [kev, ktab, klen, kcv] <;> rfl) (by simp only [kput] <;> rfl) ?_
      refine OkOps.nil ?_
      refine Ok.ret ?_
      repeat (first | with_reducible refine thenQ_ret ?_ | with_reducible refine blockQ_ret ?_)
      refine retQ.end (by show resVs tab _ [.cell 4 49, .tmp 5] = _; simp only [kev, ktab, klen, kcv] <;> rfl) rfl ?_
      exact ⟨(by simp only [packV, V.erase, V.trav, V.travL, V.travLL, zz, zf, zy, E2a, E3a, E5b] <;> rfl), (by intro L hL; simp only [packV, V.labels, V.labelsL, List.append_nil, List.nil_append, List.mem_append] at hL; rcases hL with hL | hL | hL <;> first | (have := r2a L hL; omega) | (have := r3a L hL; omega) | (have := r5b L hL; omega)), (by have na := nda; simp only [V.labels, V.labelsL, List.append_nil, List.nil_append] at na; obtain ⟨w2a, na, f2a, _⟩ := nd_app na; obtain ⟨w3a, na, f3a, _⟩ := nd_app na; have w11a := na; have nb := ndb; simp only [V.labels, V.labelsL, List.append_nil, List.nil_append] at nb; have w5b := nb; simp only [packV, V.labels, V.labelsL, List.append_nil, List.nil_append]; exact (nd_app2 w2a (nd_app2 w3a w5b (fun y hy hh => by exact (by have q1 := r3a y hy; have q2 := r5b y hh; omega))) (fun y hy hh => by exact (List.mem_append.1 hh).elim (fun hh => (f2a y hy (by first | exact hh | (simp only [List.mem_append]; simp only [hh, true_or, or_true])))) (fun hh => by exact (by have q1 := r2a y hy; have q2 := r5b y hh; omega)))))⟩
theorem p_spec_FeedServer (x : Server) (t : Str) (h : smServer x) (ht : t.length ≤ 1048576) : Pure Try.prog 26 [.agg (cServer x), .str t] (.tup [.agg (cServer (feedV x t)), .bool (feedB x t)]) := by
  refine Pure.of (by simp [V.dat, V.datL, V.datLL, zz, zf, zy]) (OkCall.enter' tab_ok Try.func26 rfl (t := [.agg (cServer x), .str t, .any, .any, .any, .any, .any, .any, .any, .any, .any, .any, .any, .any, .any, .any, .any, .any, .any, .any, .any, .any, .any, .any, .any, .any]) rfl ?_)
  refine Ok.seq ?_
  refine Ok.region ?_
  iterate 3 (refine OkOps.ev tab_ok rfl (by simp only [kev, ktab, klen, kcv] <;> rfl) (by simp only [kput] <;> rfl) ?_)
  refine OkOps.nil ?_
  refine Ok.seq ?_
  refine Ok.region ?_
  refine OkOps.ev tab_ok rfl (by simp only [kev, ktab, klen, kcv] <;> rfl) (by simp only [kput] <;> rfl) ?_
  obtain ⟨L2a, e2a, L3a, e3a, L11a, e11a, hXa, q2a, E2a, M2a, N2a, q3a, E3a, M3a, N3a, q11a, E11a, M11a, N11a, nda, rga⟩ := ownServer (2) (x)
  obtain ⟨ma, hma⟩ : ∃ m, 2 + 1 + V.cnt (.agg (cServer (x))) = m + 1 := ⟨2 + V.cnt (.agg (cServer (x))), by omega⟩
  have r2a : ∀ z ∈ V.labels (.sl (L2a + 1) 7 0 e2a), 2 + 1 ≤ z ∧ z < ma + 1 := fun z hz => by have := rga z (by first | exact hz | (simp only [V.labelsL, V.labels, List.mem_append] at hz ⊢; simp only [hz, true_or, or_true])); omega
  have r3a : ∀ z ∈ V.labels (.sl (L3a + 1) 1 0 e3a), 2 + 1 ≤ z ∧ z < ma + 1 := fun z hz => by have := rga z (by first | exact hz | (simp only [V.labelsL, V.labels, List.mem_append] at hz ⊢; simp only [hz, true_or, or_true])); omega
  have r11a : ∀ z ∈ V.labels (.sl (L11a + 1) 1 0 e11a), 2 + 1 ≤ z ∧ z < ma + 1 := fun z hz => by have := rga z (by first | exact hz | (simp only [V.labelsL, V.labels, List.mem_append] at hz ⊢; simp only [hz, true_or, or_true])); omega
  refine OkOps.S' rfl (OpS.pure' rfl (by simp only [kev, ktab, klen, kcv] <;> rfl) (by simp only [kev, ktab, klen, kcv, V.eraseL, V.erase, V.travL, V.trav, zz, zf, zy] <;> rfl) cl47 (by simp [V.dat, V.datL, V.datLL, zz, zf, zy]) (p_spec_l16Copy x h)) hma (by simp only [kput, hXa] <;> rfl) ?_
  refine OkOps.ev tab_ok rfl (by simp only [kev, ktab, klen, kcv] <;> rfl) (by simp only [kput] <;> rfl) ?_
  refine OkOps.storeN tab_ok rfl rfl (by simp only [kev, ktab, klen, kcv] <;> rfl) ⟨_, _, by simp only [kev]; rfl⟩ (by first | (simp [V.labelsL, V.labelsLL, V.labels, zz, zf, zy]; done) | (intro h; simp only [V.labelsL, V.labels, List.mem_append, List.append_nil, List.nil_append, List.not_mem_nil, or_false, false_or] at h; first | ((first | (have := r2a _ h; omega) | (have := r3a _ h; omega) | (have := r11a _ h; omega))) | (rcases h with h | h <;> (first | (have := r2a _ h; omega) | (have := r3a _ h; omega) | (have := r11a _ h; omega))) | (rcases h with h | h | h <;> (first | (have := r2a _ h; omega) | (have := r3a _ h; omega) | (have := r11a _ h; omega))))) (fun W hW hF => by have z2a := hW.far (.sl (L2a + 1) 7 0 e2a) (fun y hy h => by have := r2a y hy; skip; omega); have zz2a := fun K => hW.far (.sl (L2a + 1) 7 0 (V.mkLL K e2a)) (fun y hy h => by have := r2a y (by simp only [V.labels, mkLL_labels] at hy; exact hy); skip; omega); have z3a := hW.far (.sl (L3a + 1) 1 0 e3a) (fun y hy h => by have := r3a y hy; skip; omega); have zz3a := fun K => hW.far (.sl (L3a + 1) 1 0 (V.mkLL K e3a)) (fun y hy h => by have := r3a y (by simp only [V.labels, mkLL_labels] at hy; exact hy); skip; omega); have z11a := hW.far (.sl (L11a + 1) 1 0 e11a) (fun y hy h => by have := r11a y hy; skip; omega); have zz11a := fun K => hW.far (.sl (L11a + 1) 1 0 (V.mkLL K e11a)) (fun y hy h => by have := r11a y (by simp only [V.labels, mkLL_labels] at hy; exact hy); skip; omega); have w0_2 := hW.far (.sl 0 7 0 ((x).kept.store.boxes.map cBox)) (fun y hy h => by have h0 : y = 0 := (show ∀ y ∈ V.labels (.sl 0 7 0 ((x).kept.store.boxes.map cBox)), y = 0 by simp [V.labels, zz, zf, zy]) y hy; skip; omega); have w0_3 := hW.far (.sl 0 1 0 ((x).kept.store.gone.map cZ)) (fun y hy h => by have h0 : y = 0 := (show ∀ y ∈ V.labels (.sl 0 1 0 ((x).kept.store.gone.map cZ)), y = 0 by simp [V.labels, zz, zf, zy]) y hy; skip; omega); have w0_11 := hW.far (.sl 0 1 0 ((x).session.view.map cZ)) (fun y hy h => by have h0 : y = 0 := (show ∀ y ∈ V.labels (.sl 0 1 0 ((x).session.view.map cZ)), y = 0 by simp [V.labels, zz, zf, zy]) y hy; skip; omega); have p0 := fun i o e => hW.ptr (1) i o e (by omega);  have p1 := fun i o e => hW.ptr (2) i o e (by omega); simp only [List.map_cons, List.map_nil, hW.int, hW.str, hW.bool, hW.any, hW.tup0, hW.agg, hW.nilV, hF.ptr, z2a, zz2a, z3a, zz3a, z11a, zz11a, w0_2, w0_3, w0_11, p0, p1, kput] <;> rfl) ?_
  refine OkOps.nil ?_
  refine Ok.seq ?_
  refine Ok.seq ?_
  refine Ok.region ?_
  iterate 3 (refine OkOps.ev tab_ok rfl (by simp only [kev, ktab, klen, kcv] <;> rfl) (by simp only [kput] <;> rfl) ?_)
  refine OkOps.nil ?_
  refine Ok.cond (b := _) (by simp only [kev, ktab, klen, kcv] <;> rfl) (fun hb2 => ?_) (fun hb2 => ?_)
  · try simp only [bsimp] at hb2
    have hu : x.up = false := by simpa using hb2
    have hf : feedB x t = false := by unfold feedB; rw [hu, Bool.false_and]
    rw [hf, feed_no hf]
    refine Ok.seq ?_
    refine Ok.drop [12, 13] (by simp only [kover] <;> rfl) ?_
    refine Ok.region ?_
    refine OkOps.ev tab_ok rfl (by simp only [kev, ktab, klen, kcv] <;> rfl) (by simp only [kput] <;> rfl) ?_
    refine OkOps.storeN tab_ok rfl rfl (by simp only [kev, ktab, klen, kcv] <;> rfl) ⟨_, _, by simp only [kev]; rfl⟩ (by first | (simp [V.labelsL, V.labelsLL, V.labels, zz, zf, zy]; done) | (intro h; simp only [V.labelsL, V.labels, List.mem_append, List.append_nil, List.nil_append, List.not_mem_nil, or_false, false_or] at h; first | ((first | (have := r2a _ h; omega) | (have := r3a _ h; omega) | (have := r11a _ h; omega))) | (rcases h with h | h <;> (first | (have := r2a _ h; omega) | (have := r3a _ h; omega) | (have := r11a _ h; omega))) | (rcases h with h | h | h <;> (first | (have := r2a _ h; omega) | (have := r3a _ h; omega) | (have := r11a _ h; omega))))) (fun W hW hF => by have z2a := hW.far (.sl (L2a + 1) 7 0 e2a) (fun y hy h => by have := r2a y hy; skip; omega); have zz2a := fun K => hW.far (.sl (L2a + 1) 7 0 (V.mkLL K e2a)) (fun y hy h => by have := r2a y (by simp only [V.labels, mkLL_labels] at hy; exact hy); skip; omega); have z3a := hW.far (.sl (L3a + 1) 1 0 e3a) (fun y hy h => by have := r3a y hy; skip; omega); have zz3a := fun K => hW.far (.sl (L3a + 1) 1 0 (V.mkLL K e3a)) (fun y hy h => by have := r3a y (by simp only [V.labels, mkLL_labels] at hy; exact hy); skip; omega); have z11a := hW.far (.sl (L11a + 1) 1 0 e11a) (fun y hy h => by have := r11a y hy; skip; omega); have zz11a := fun K => hW.far (.sl (L11a + 1) 1 0 (V.mkLL K e11a)) (fun y hy h => by have := r11a y (by simp only [V.labels, mkLL_labels] at hy; exact hy); skip; omega); have w0_2 := hW.far (.sl 0 7 0 ((x).kept.store.boxes.map cBox)) (fun y hy h => by have h0 : y = 0 := (show ∀ y ∈ V.labels (.sl 0 7 0 ((x).kept.store.boxes.map cBox)), y = 0 by simp [V.labels, zz, zf, zy]) y hy; skip; omega); have w0_3 := hW.far (.sl 0 1 0 ((x).kept.store.gone.map cZ)) (fun y hy h => by have h0 : y = 0 := (show ∀ y ∈ V.labels (.sl 0 1 0 ((x).kept.store.gone.map cZ)), y = 0 by simp [V.labels, zz, zf, zy]) y hy; skip; omega); have w0_11 := hW.far (.sl 0 1 0 ((x).session.view.map cZ)) (fun y hy h => by have h0 : y = 0 := (show ∀ y ∈ V.labels (.sl 0 1 0 ((x).session.view.map cZ)), y = 0 by simp [V.labels, zz, zf, zy]) y hy; skip; omega); have p0 := fun i o e => hW.ptr (1) i o e (by omega);  have p2 := fun i o e => hW.ptr (ma + 1) i o e (by omega); simp only [List.map_cons, List.map_nil, hW.int, hW.str, hW.bool, hW.any, hW.tup0, hW.agg, hW.nilV, hF.ptr, z2a, zz2a, z3a, zz3a, z11a, zz11a, w0_2, w0_3, w0_11, p0, p2, kput] <;> rfl) ?_
    refine OkOps.ev tab_ok rfl (by simp only [kev, ktab, klen, kcv] <;> rfl) (by simp only [kput] <;> rfl) ?_
    refine OkOps.nil ?_
    refine Ok.ret ?_
    repeat (first | with_reducible refine thenQ_ret ?_ | with_reducible refine blockQ_ret ?_)
    refine retQ.end (by show resVs tab _ [.cell 4 49, .tmp 5] = _; simp only [kev, ktab, klen, kcv] <;> rfl) rfl ?_
    exact ⟨(by simp only [packV, V.erase, V.trav, V.travL, V.travLL, zz, zf, zy, E2a, E3a, E11a] <;> rfl), (by intro L hL; simp only [packV, V.labels, V.labelsL, List.append_nil, List.nil_append, List.mem_append] at hL; rcases hL with hL | hL | hL <;> first | (have := r2a L hL; omega) | (have := r3a L hL; omega) | (have := r11a L hL; omega)), (by have na := nda; simp only [V.labels, V.labelsL, List.append_nil, List.nil_append] at na; obtain ⟨w2a, na, f2a, _⟩ := nd_app na; obtain ⟨w3a, na, f3a, _⟩ := nd_app na; have w11a := na; simp only [packV, V.labels, V.labelsL, List.append_nil, List.nil_append]; exact (nd_app2 w2a (nd_app2 w3a w11a (fun y hy hh => by exact (f3a y hy (by first | exact hh | (simp only [List.mem_append]; simp only [hh, true_or, or_true]))))) (fun y hy hh => by exact (List.mem_append.1 hh).elim (fun hh => (f2a y hy (by first | exact hh | (simp only [List.mem_append]; simp only [hh, true_or, or_true])))) (fun hh => by exact (f2a y hy (by first | exact hh | (simp only [List.mem_append]; simp only [hh, true_or, or_true])))))))⟩
  · try simp only [bsimp] at hb2
    have hu : x.up = true := by simpa using hb2
    have hf : feedB x t = fits x.session t := by unfold feedB; rw [hu, Bool.true_and]
    have hg : feedV x t = { x with session := feedS x.session t } := by
      cases hz : fits x.session t with
      | true => exact feed_ok (hf.trans hz)
      | false => rw [feed_no (hf.trans hz), feedS_no hz]
    rw [hf, hg]
    refine Ok.skip ?_
    refine Ok.seq ?_
    refine Ok.drop [12, 13] (by simp only [kover] <;> rfl) ?_
    refine Ok.region ?_
    iterate 3 (refine OkOps.ev tab_ok rfl (by simp only [kev, ktab, klen, kcv] <;> rfl) (by simp only [kput] <;> rfl) ?_)
    obtain ⟨L5b, e5b, hXb, q5b, E5b, M5b, N5b, ndb, rgb⟩ := ownTSession (ma + 1) (feedS x.session t) (fits x.session t)
    obtain ⟨mb, hmb⟩ : ∃ m, ma + 1 + 1 + V.cnt (.tup [.agg (cSession (feedS x.session t)), .bool (fits x.session t)]) = m + 1 := ⟨ma + 1 + V.cnt (.tup [.agg (cSession (feedS x.session t)), .bool (fits x.session t)]), by omega⟩
    have r5b : ∀ z ∈ V.labels (.sl (L5b + 1) 1 0 e5b), ma + 1 + 1 ≤ z ∧ z < mb + 1 := fun z hz => by have := rgb z (by first | exact hz | (simp only [V.labelsL, V.labels, List.mem_append] at hz ⊢; simp only [hz, true_or, or_true])); omega
    refine OkOps.S' rfl (OpS.pure' rfl (by simp only [kev, ktab, klen, kcv] <;> rfl) (by simp only [kev, ktab, klen, kcv, E2a, M2a, N2a, E3a, M3a, N3a, E11a, M11a, N11a, V.eraseL, V.erase, V.travL, V.trav, zz, zf, zy] <;> rfl) cl60 (by simp [V.dat, V.datL, V.datLL, zz, zf, zy]) (p_spec_FeedSession x.session t h.2 ht)) hmb (by simp only [kput, hXb] <;> rfl) ?_
    iterate 4 (refine OkOps.ev tab_ok rfl (by simp only [kev, ktab, klen, kcv] <;> rfl) (by simp only [kput] <;> rfl) ?_)
    refine OkOps.drop [19, 15] (by simp only [kover] <;> rfl) ?_
    refine OkOps.storeN tab_ok rfl rfl (by simp only [kev, ktab, klen, kcv] <;> rfl) ⟨_, _, by simp only [kev]; rfl⟩ (by first | (simp [V.labelsL, V.labelsLL, V.labels, zz, zf, zy]; done) | (intro h; simp only [V.labelsL, V.labels, List.mem_append, List.append_nil, List.nil_append, List.not_mem_nil, or_false, false_or] at h; first | ((first | (have := r2a _ h; omega) | (have := r3a _ h; omega) | (have := r11a _ h; omega) | (have := r5b _ h; omega))) | (rcases h with h | h <;> (first | (have := r2a _ h; omega) | (have := r3a _ h; omega) | (have := r11a _ h; omega) | (have := r5b _ h; omega))) | (rcases h with h | h | h <;> (first | (have := r2a _ h; omega) | (have := r3a _ h; omega) | (have := r11a _ h; omega) | (have := r5b _ h; omega))) | (rcases h with h | h | h | h <;> (first | (have := r2a _ h; omega) | (have := r3a _ h; omega) | (have := r11a _ h; omega) | (have := r5b _ h; omega))))) (fun W hW hF => by have z2a := hW.far (.sl (L2a + 1) 7 0 e2a) (fun y hy h => by have := r2a y hy; skip; omega); have zz2a := fun K => hW.far (.sl (L2a + 1) 7 0 (V.mkLL K e2a)) (fun y hy h => by have := r2a y (by simp only [V.labels, mkLL_labels] at hy; exact hy); skip; omega); have z3a := hW.far (.sl (L3a + 1) 1 0 e3a) (fun y hy h => by have := r3a y hy; skip; omega); have zz3a := fun K => hW.far (.sl (L3a + 1) 1 0 (V.mkLL K e3a)) (fun y hy h => by have := r3a y (by simp only [V.labels, mkLL_labels] at hy; exact hy); skip; omega); have z11a := hW.far (.sl (L11a + 1) 1 0 e11a) (fun y hy h => by have := r11a y hy; skip; omega); have zz11a := fun K => hW.far (.sl (L11a + 1) 1 0 (V.mkLL K e11a)) (fun y hy h => by have := r11a y (by simp only [V.labels, mkLL_labels] at hy; exact hy); skip; omega); have z5b := hW.far (.sl (L5b + 1) 1 0 e5b) (fun y hy h => by have := r5b y hy; skip; omega); have zz5b := fun K => hW.far (.sl (L5b + 1) 1 0 (V.mkLL K e5b)) (fun y hy h => by have := r5b y (by simp only [V.labels, mkLL_labels] at hy; exact hy); skip; omega); have w0_2 := hW.far (.sl 0 7 0 ((x).kept.store.boxes.map cBox)) (fun y hy h => by have h0 : y = 0 := (show ∀ y ∈ V.labels (.sl 0 7 0 ((x).kept.store.boxes.map cBox)), y = 0 by simp [V.labels, zz, zf, zy]) y hy; skip; omega); have w0_3 := hW.far (.sl 0 1 0 ((x).kept.store.gone.map cZ)) (fun y hy h => by have h0 : y = 0 := (show ∀ y ∈ V.labels (.sl 0 1 0 ((x).kept.store.gone.map cZ)), y = 0 by simp [V.labels, zz, zf, zy]) y hy; skip; omega); have w0_11 := hW.far (.sl 0 1 0 ((x).session.view.map cZ)) (fun y hy h => by have h0 : y = 0 := (show ∀ y ∈ V.labels (.sl 0 1 0 ((x).session.view.map cZ)), y = 0 by simp [V.labels, zz, zf, zy]) y hy; skip; omega); have p0 := fun i o e => hW.ptr (1) i o e (by omega);  have p1 := fun i o e => hW.ptr (2) i o e (by omega);  have p2 := fun i o e => hW.ptr (ma + 1) i o e (by omega); simp only [List.map_cons, List.map_nil, hW.int, hW.str, hW.bool, hW.any, hW.tup0, hW.agg, hW.nilV, hF.ptr, z2a, zz2a, z3a, zz3a, z11a, zz11a, z5b, zz5b, w0_2, w0_3, w0_11, p0, p1, p2, kput] <;> rfl) ?_
    refine OkOps.ev tab_ok rfl (by simp only [kev, ktab, klen, kcv] <;> rfl) (by simp only [kput] <;> rfl) ?_
    refine OkOps.nil ?_
    refine Ok.seq ?_
    refine Ok.drop [15, 16, 17, 18, 19, 20, 21] (by simp only [kover] <;> rfl) ?_
    refine Ok.region ?_
    iterate 2 (refine OkOps.ev tab_ok rfl (by simp only [kev, ktab, klen, kcv] <;> rfl) (by simp only [kput] <;> rfl) ?_)
    refine OkOps.storeN tab_ok rfl rfl (by simp only [kev, ktab, klen, kcv] <;> rfl) ⟨_, _, by simp only [kev]; rfl⟩ (by first | (simp [V.labelsL, V.labelsLL, V.labels, zz, zf, zy]; done) | (intro h; simp only [V.labelsL, V.labels, List.mem_append, List.append_nil, List.nil_append, List.not_mem_nil, or_false, false_or] at h; first | ((first | (have := r2a _ h; omega) | (have := r3a _ h; omega) | (have := r11a _ h; omega) | (have := r5b _ h; omega))) | (rcases h with h | h <;> (first | (have := r2a _ h; omega) | (have := r3a _ h; omega) | (have := r11a _ h; omega) | (have := r5b _ h; omega))) | (rcases h with h | h | h <;> (first | (have := r2a _ h; omega) | (have := r3a _ h; omega) | (have := r11a _ h; omega) | (have := r5b _ h; omega))) | (rcases h with h | h | h | h <;> (first | (have := r2a _ h; omega) | (have := r3a _ h; omega) | (have := r11a _ h; omega) | (have := r5b _ h; omega))))) (fun W hW hF => by have z2a := hW.far (.sl (L2a + 1) 7 0 e2a) (fun y hy h => by have := r2a y hy; skip; omega); have zz2a := fun K => hW.far (.sl (L2a + 1) 7 0 (V.mkLL K e2a)) (fun y hy h => by have := r2a y (by simp only [V.labels, mkLL_labels] at hy; exact hy); skip; omega); have z3a := hW.far (.sl (L3a + 1) 1 0 e3a) (fun y hy h => by have := r3a y hy; skip; omega); have zz3a := fun K => hW.far (.sl (L3a + 1) 1 0 (V.mkLL K e3a)) (fun y hy h => by have := r3a y (by simp only [V.labels, mkLL_labels] at hy; exact hy); skip; omega); have z11a := hW.far (.sl (L11a + 1) 1 0 e11a) (fun y hy h => by have := r11a y hy; skip; omega); have zz11a := fun K => hW.far (.sl (L11a + 1) 1 0 (V.mkLL K e11a)) (fun y hy h => by have := r11a y (by simp only [V.labels, mkLL_labels] at hy; exact hy); skip; omega); have z5b := hW.far (.sl (L5b + 1) 1 0 e5b) (fun y hy h => by have := r5b y hy; skip; omega); have zz5b := fun K => hW.far (.sl (L5b + 1) 1 0 (V.mkLL K e5b)) (fun y hy h => by have := r5b y (by simp only [V.labels, mkLL_labels] at hy; exact hy); skip; omega); have w0_2 := hW.far (.sl 0 7 0 ((x).kept.store.boxes.map cBox)) (fun y hy h => by have h0 : y = 0 := (show ∀ y ∈ V.labels (.sl 0 7 0 ((x).kept.store.boxes.map cBox)), y = 0 by simp [V.labels, zz, zf, zy]) y hy; skip; omega); have w0_3 := hW.far (.sl 0 1 0 ((x).kept.store.gone.map cZ)) (fun y hy h => by have h0 : y = 0 := (show ∀ y ∈ V.labels (.sl 0 1 0 ((x).kept.store.gone.map cZ)), y = 0 by simp [V.labels, zz, zf, zy]) y hy; skip; omega); have w0_11 := hW.far (.sl 0 1 0 ((x).session.view.map cZ)) (fun y hy h => by have h0 : y = 0 := (show ∀ y ∈ V.labels (.sl 0 1 0 ((x).session.view.map cZ)), y = 0 by simp [V.labels, zz, zf, zy]) y hy; skip; omega); have p0 := fun i o e => hW.ptr (1) i o e (by omega);  have p1 := fun i o e => hW.ptr (2) i o e (by omega);  have p3 := fun i o e => hW.ptr (mb + 1) i o e (by omega); simp only [List.map_cons, List.map_nil, hW.int, hW.str, hW.bool, hW.any, hW.tup0, hW.agg, hW.nilV, hF.ptr, z2a, zz2a, z3a, zz3a, z11a, zz11a, z5b, zz5b, w0_2, w0_3, w0_11, p0, p1, p3, kput] <;> rfl) ?_
    refine OkOps.nil ?_
    refine Ok.seq ?_
    refine Ok.drop [22, 23] (by simp only [kover] <;> rfl) ?_
    refine Ok.region ?_
    iterate 2 (refine OkOps.ev tab_ok rfl (by simp only [kev, ktab, klen, kcv] <;> rfl) (by simp only [kput] <;> rfl) ?_)
    refine OkOps.storeN tab_ok rfl rfl (by simp only [kev, ktab, klen, kcv] <;> rfl) ⟨_, _, by simp only [kev]; rfl⟩ (by first | (simp [V.labelsL, V.labelsLL, V.labels, zz, zf, zy]; done) | (intro h; simp only [V.labelsL, V.labels, List.mem_append, List.append_nil, List.nil_append, List.not_mem_nil, or_false, false_or] at h; first | ((first | (have := r2a _ h; omega) | (have := r3a _ h; omega) | (have := r11a _ h; omega) | (have := r5b _ h; omega))) | (rcases h with h | h <;> (first | (have := r2a _ h; omega) | (have := r3a _ h; omega) | (have := r11a _ h; omega) | (have := r5b _ h; omega))) | (rcases h with h | h | h <;> (first | (have := r2a _ h; omega) | (have := r3a _ h; omega) | (have := r11a _ h; omega) | (have := r5b _ h; omega))) | (rcases h with h | h | h | h <;> (first | (have := r2a _ h; omega) | (have := r3a _ h; omega) | (have := r11a _ h; omega) | (have := r5b _ h; omega))))) (fun W hW hF => by have z2a := hW.far (.sl (L2a + 1) 7 0 e2a) (fun y hy h => by have := r2a y hy; skip; omega); have zz2a := fun K => hW.far (.sl (L2a + 1) 7 0 (V.mkLL K e2a)) (fun y hy h => by have := r2a y (by simp only [V.labels, mkLL_labels] at hy; exact hy); skip; omega); have z3a := hW.far (.sl (L3a + 1) 1 0 e3a) (fun y hy h => by have := r3a y hy; skip; omega); have zz3a := fun K => hW.far (.sl (L3a + 1) 1 0 (V.mkLL K e3a)) (fun y hy h => by have := r3a y (by simp only [V.labels, mkLL_labels] at hy; exact hy); skip; omega); have z11a := hW.far (.sl (L11a + 1) 1 0 e11a) (fun y hy h => by have := r11a y hy; skip; omega); have zz11a := fun K => hW.far (.sl (L11a + 1) 1 0 (V.mkLL K e11a)) (fun y hy h => by have := r11a y (by simp only [V.labels, mkLL_labels] at hy; exact hy); skip; omega); have z5b := hW.far (.sl (L5b + 1) 1 0 e5b) (fun y hy h => by have := r5b y hy; skip; omega); have zz5b := fun K => hW.far (.sl (L5b + 1) 1 0 (V.mkLL K e5b)) (fun y hy h => by have := r5b y (by simp only [V.labels, mkLL_labels] at hy; exact hy); skip; omega); have w0_2 := hW.far (.sl 0 7 0 ((x).kept.store.boxes.map cBox)) (fun y hy h => by have h0 : y = 0 := (show ∀ y ∈ V.labels (.sl 0 7 0 ((x).kept.store.boxes.map cBox)), y = 0 by simp [V.labels, zz, zf, zy]) y hy; skip; omega); have w0_3 := hW.far (.sl 0 1 0 ((x).kept.store.gone.map cZ)) (fun y hy h => by have h0 : y = 0 := (show ∀ y ∈ V.labels (.sl 0 1 0 ((x).kept.store.gone.map cZ)), y = 0 by simp [V.labels, zz, zf, zy]) y hy; skip; omega); have w0_11 := hW.far (.sl 0 1 0 ((x).session.view.map cZ)) (fun y hy h => by have h0 : y = 0 := (show ∀ y ∈ V.labels (.sl 0 1 0 ((x).session.view.map cZ)), y = 0 by simp [V.labels, zz, zf, zy]) y hy; skip; omega); have p0 := fun i o e => hW.ptr (1) i o e (by omega);  have p2 := fun i o e => hW.ptr (ma + 1) i o e (by omega);  have p3 := fun i o e => hW.ptr (mb + 1) i o e (by omega); simp only [List.map_cons, List.map_nil, hW.int, hW.str, hW.bool, hW.any, hW.tup0, hW.agg, hW.nilV, hF.ptr, z2a, zz2a, z3a, zz3a, z11a, zz11a, z5b, zz5b, w0_2, w0_3, w0_11, p0, p2, p3, kput] <;> rfl) ?_
    refine OkOps.ev tab_ok rfl (by simp only [kev, ktab, klen, kcv] <;> rfl) (by simp only [kput] <;> rfl) ?_
    refine OkOps.nil ?_
    refine Ok.ret ?_
    repeat (first | with_reducible refine thenQ_ret ?_ | with_reducible refine blockQ_ret ?_)
    refine retQ.end (by show resVs tab _ [.cell 4 49, .tmp 5] = _; simp only [kev, ktab, klen, kcv] <;> rfl) rfl ?_
    exact ⟨(by simp only [packV, V.erase, V.trav, V.travL, V.travLL, zz, zf, zy, E2a, E3a, E5b] <;> rfl), (by intro L hL; simp only [packV, V.labels, V.labelsL, List.append_nil, List.nil_append, List.mem_append] at hL; rcases hL with hL | hL | hL <;> first | (have := r2a L hL; omega) | (have := r3a L hL; omega) | (have := r5b L hL; omega)), (by have na := nda; simp only [V.labels, V.labelsL, List.append_nil, List.nil_append] at na; obtain ⟨w2a, na, f2a, _⟩ := nd_app na; obtain ⟨w3a, na, f3a, _⟩ := nd_app na; have w11a := na; have nb := ndb; simp only [V.labels, V.labelsL, List.append_nil, List.nil_append] at nb; have w5b := nb; simp only [packV, V.labels, V.labelsL, List.append_nil, List.nil_append]; exact (nd_app2 w2a (nd_app2 w3a w5b (fun y hy hh => by exact (by have q1 := r3a y hy; have q2 := r5b y hh; omega))) (fun y hy hh => by exact (List.mem_append.1 hh).elim (fun hh => (f2a y hy (by first | exact hh | (simp only [List.mem_append]; simp only [hh, true_or, or_true])))) (fun hh => by exact (by have q1 := r2a y hy; have q2 := r5b y hh; omega)))))⟩
end Go.Proofs.Ytjhfabimacljhaa.K
