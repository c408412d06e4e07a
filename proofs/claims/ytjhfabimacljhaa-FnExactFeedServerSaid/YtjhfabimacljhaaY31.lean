/- Walks: the copies of the program as data of the call's own. Printed by w2.py. -/
import Derived.Test.YtjhfabimacljhaaYp
import Derived.Test.YtjhfabimacljhaaYt
namespace Go.Proofs.Ytjhfabimacljhaa.K
open Go Go.RowKit
set_option linter.unusedVariables false
set_option linter.unusedSimpArgs false
set_option maxHeartbeats 4000000
set_option maxRecDepth 20000
theorem p_impl_copyRegs (a : List Reg) (ha : a.length ≤ 1048576) : Pure Try.prog 154 [.sl 0 3 0 (a.map cReg)] (.sl 0 3 0 (a.map cReg)) := by
  refine Pure.of (by simp [V.dat, V.datL, V.datLL, zz, zf, zy]) (OkCall.enter' tab_ok Try.func154 rfl (t := [.sl 0 3 0 (a.map cReg), .any, .any, .any, .any, .any]) rfl ?_)
  refine Ok.seq ?_
  refine Ok.region ?_
  refine OkOps.ev tab_ok rfl (by simp only [kev, ktab, klen, kcv] <;> rfl) (by simp only [kput] <;> rfl) ?_
  refine OkOps.nil ?_
  refine Ok.seq ?_
  refine Ok.region ?_
  iterate 2 (refine OkOps.ev tab_ok rfl (by simp only [kev, ktab, klen, kcv] <;> rfl) (by simp only [kput] <;> rfl) ?_)
  refine OkOps.S rfl (ok_append_nil tab_ok (by simp only [ktab] <;> rfl) (by simp only [ktab] <;> rfl) (by decide) rfl rfl (by simp only [kev, ktab, klen, kcv] <;> rfl) (.inl ⟨_, _, by simp only [kev, ktab, klen, kcv] <;> rfl⟩) (by simp only [List.length_map]; omega) (by simp only [List.length_map]; omega)) (by simp only [kput, klen] <;> rfl) ?_
  refine OkOps.ev tab_ok rfl (by simp only [kev, ktab, klen, kcv] <;> rfl) (by simp only [kput] <;> rfl) ?_
  refine OkOps.nil ?_
  refine Ok.ret ?_
  repeat (first | with_reducible refine thenQ_ret ?_ | with_reducible refine blockQ_ret ?_)
  refine retQ.end (by show resVs tab _ [.tmp 2] = _; simp only [kev, ktab, klen, kcv] <;> rfl) rfl ?_
  exact ⟨by simp [V.erase, V.trav, V.travL, V.travLL, packV, zz, zf], by simp [V.labels, V.labelsL, V.labelsLL, packV, zz, zf], by simp [V.labels, V.labelsL, V.labelsLL, packV, zz, zf]⟩
theorem p_impl_copyInts (a : List Int) (ha : a.length ≤ 1048576) : Pure Try.prog 116 [.sl 0 1 0 (a.map cZ)] (.sl 0 1 0 (a.map cZ)) := by
  refine Pure.of (by simp [V.dat, V.datL, V.datLL, zz, zf, zy]) (OkCall.enter' tab_ok Try.func116 rfl (t := [.sl 0 1 0 (a.map cZ), .any, .any, .any, .any, .any]) rfl ?_)
  refine Ok.seq ?_
  refine Ok.region ?_
  refine OkOps.ev tab_ok rfl (by simp only [kev, ktab, klen, kcv] <;> rfl) (by simp only [kput] <;> rfl) ?_
  refine OkOps.nil ?_
  refine Ok.seq ?_
  refine Ok.region ?_
  iterate 2 (refine OkOps.ev tab_ok rfl (by simp only [kev, ktab, klen, kcv] <;> rfl) (by simp only [kput] <;> rfl) ?_)
  refine OkOps.S rfl (ok_append_nil tab_ok (by simp only [ktab] <;> rfl) (by simp only [ktab] <;> rfl) (by decide) rfl rfl (by simp only [kev, ktab, klen, kcv] <;> rfl) (.inl ⟨_, _, by simp only [kev, ktab, klen, kcv] <;> rfl⟩) (by simp only [List.length_map]; omega) (by simp only [List.length_map]; omega)) (by simp only [kput, klen] <;> rfl) ?_
  refine OkOps.ev tab_ok rfl (by simp only [kev, ktab, klen, kcv] <;> rfl) (by simp only [kput] <;> rfl) ?_
  refine OkOps.nil ?_
  refine Ok.ret ?_
  repeat (first | with_reducible refine thenQ_ret ?_ | with_reducible refine blockQ_ret ?_)
  refine retQ.end (by show resVs tab _ [.tmp 2] = _; simp only [kev, ktab, klen, kcv] <;> rfl) rfl ?_
  exact ⟨by simp [V.erase, V.trav, V.travL, V.travLL, packV, zz, zf], by simp [V.labels, V.labelsL, V.labelsLL, packV, zz, zf], by simp [V.labels, V.labelsL, V.labelsLL, packV, zz, zf]⟩
theorem p_spec_l04Copy (a : List Reg) (ha : a.length ≤ 1048576) : Pure Try.prog 148 [.sl 0 3 0 (a.map cReg)] (.sl 0 3 0 (a.map cReg)) := by
  refine Pure.of (by simp [V.dat, V.datL, V.datLL, zz, zf, zy]) (OkCall.enter' tab_ok Try.func148 rfl (t := [.sl 0 3 0 (a.map cReg), .any, .any, .any, .any, .any]) rfl ?_)
  refine Ok.seq ?_
  refine Ok.region ?_
  refine OkOps.ev tab_ok rfl (by simp only [kev, ktab, klen, kcv] <;> rfl) (by simp only [kput] <;> rfl) ?_
  refine OkOps.nil ?_
  refine Ok.seq ?_
  refine Ok.region ?_
  iterate 2 (refine OkOps.ev tab_ok rfl (by simp only [kev, ktab, klen, kcv] <;> rfl) (by simp only [kput] <;> rfl) ?_)
  refine OkOps.S rfl (ok_append_nil tab_ok (by simp only [ktab] <;> rfl) (by simp only [ktab] <;> rfl) (by decide) rfl rfl (by simp only [kev, ktab, klen, kcv] <;> rfl) (.inl ⟨_, _, by simp only [kev, ktab, klen, kcv] <;> rfl⟩) (by simp only [List.length_map]; omega) (by simp only [List.length_map]; omega)) (by simp only [kput, klen] <;> rfl) ?_
  refine OkOps.ev tab_ok rfl (by simp only [kev, ktab, klen, kcv] <;> rfl) (by simp only [kput] <;> rfl) ?_
  refine OkOps.nil ?_
  refine Ok.ret ?_
  repeat (first | with_reducible refine thenQ_ret ?_ | with_reducible refine blockQ_ret ?_)
  refine retQ.end (by show resVs tab _ [.tmp 2] = _; simp only [kev, ktab, klen, kcv] <;> rfl) rfl ?_
  exact ⟨by simp [V.erase, V.trav, V.travL, V.travLL, packV, zz, zf], by simp [V.labels, V.labelsL, V.labelsLL, packV, zz, zf], by simp [V.labels, V.labelsL, V.labelsLL, packV, zz, zf]⟩
theorem p_impl_copyMail (x : Mail) (h : smMail x) : Pure Try.prog 150 [.agg (cMail x)] (.agg (cMail x)) := by
  refine Pure.of (by simp [V.dat, V.datL, V.datLL, zz, zf, zy]) (OkCall.enter' tab_ok Try.func150 rfl (t := [.agg (cMail x), .any, .any, .any, .any, .any, .any, .any]) rfl ?_)
  refine Ok.seq ?_
  refine Ok.region ?_
  iterate 2 (refine OkOps.ev tab_ok rfl (by simp only [kev, ktab, klen, kcv] <;> rfl) (by simp only [kput] <;> rfl) ?_)
  refine OkOps.nil ?_
  refine Ok.seq ?_
  refine Ok.region ?_
  iterate 2 (refine OkOps.ev tab_ok rfl (by simp only [kev, ktab, klen, kcv] <;> rfl) (by simp only [kput] <;> rfl) ?_)
  obtain ⟨L0a, e0a, hXa, q0a, E0a, M0a, N0a, nda, rga⟩ := ownSReg (2) (x.flags)
  obtain ⟨ma, hma⟩ : ∃ m, 2 + 1 + V.cnt (.sl 0 3 0 ((x.flags).map cReg)) = m + 1 := ⟨2 + V.cnt (.sl 0 3 0 ((x.flags).map cReg)), by omega⟩
  have r0a : ∀ z ∈ V.labels (.sl (L0a + 1) 3 0 e0a), 2 + 1 ≤ z ∧ z < ma + 1 := fun z hz => by have := rga z (by first | exact hz | (simp only [V.labelsL, V.labels, List.mem_append] at hz ⊢; simp only [hz, true_or, or_true])); omega
  refine OkOps.S' rfl (OpS.pure' rfl (by simp only [kev, ktab, klen, kcv] <;> rfl) (by simp only [kev, ktab, klen, kcv, V.eraseL, V.erase, V.travL, V.trav, zz, zf, zy] <;> rfl) cl154 (by simp [V.dat, V.datL, V.datLL, zz, zf, zy]) (p_impl_copyRegs x.flags h.1)) hma (by simp only [kput, hXa] <;> rfl) ?_
  refine OkOps.ev tab_ok rfl (by simp only [kev, ktab, klen, kcv] <;> rfl) (by simp only [kput] <;> rfl) ?_
  refine OkOps.storeN tab_ok rfl rfl (by simp only [kev, ktab, klen, kcv] <;> rfl) ⟨_, _, by simp only [kev]; rfl⟩ (by first | (simp [V.labelsL, V.labelsLL, V.labels, zz, zf, zy]; done) | (intro h; simp only [V.labelsL, V.labels, List.mem_append, List.append_nil, List.nil_append, List.not_mem_nil, or_false, false_or] at h; first | (have := r0a _ h; omega))) (fun W hW hF => by have z0a := hW.far (.sl (L0a + 1) 3 0 e0a) (fun y hy h => by have := r0a y hy; skip; omega); have zz0a := fun K => hW.far (.sl (L0a + 1) 3 0 (V.mkLL K e0a)) (fun y hy h => by have := r0a y (by simp only [V.labels, mkLL_labels] at hy; exact hy); skip; omega); have w0_2 := hW.far (.sl 0 3 0 ((x).flags.map cReg)) (fun y hy h => by have h0 : y = 0 := (show ∀ y ∈ V.labels (.sl 0 3 0 ((x).flags.map cReg)), y = 0 by simp [V.labels, zz, zf, zy]) y hy; skip; omega); have p1 := fun i o e => hW.ptr (2) i o e (by omega); simp only [List.map_cons, List.map_nil, hW.int, hW.str, hW.bool, hW.any, hW.tup0, hW.agg, hW.nilV, hF.ptr, z0a, zz0a, w0_2, p1, kput] <;> rfl) ?_
  refine OkOps.nil ?_
  refine Ok.seq ?_
  refine Ok.drop [4, 5, 6] (by simp only [kover] <;> rfl) ?_
  refine Ok.region ?_
  refine OkOps.ev tab_ok rfl (by simp only [kev, ktab, klen, kcv] <;> rfl) (by simp only [kput] <;> rfl) ?_
  refine OkOps.storeN tab_ok rfl rfl (by simp only [kev, ktab, klen, kcv] <;> rfl) ⟨_, _, by simp only [kev]; rfl⟩ (by first | (simp [V.labelsL, V.labelsLL, V.labels, zz, zf, zy]; done) | (intro h; simp only [V.labelsL, V.labels, List.mem_append, List.append_nil, List.nil_append, List.not_mem_nil, or_false, false_or] at h; first | (have := r0a _ h; omega))) (fun W hW hF => by have z0a := hW.far (.sl (L0a + 1) 3 0 e0a) (fun y hy h => by have := r0a y hy; skip; omega); have zz0a := fun K => hW.far (.sl (L0a + 1) 3 0 (V.mkLL K e0a)) (fun y hy h => by have := r0a y (by simp only [V.labels, mkLL_labels] at hy; exact hy); skip; omega); have w0_2 := hW.far (.sl 0 3 0 ((x).flags.map cReg)) (fun y hy h => by have h0 : y = 0 := (show ∀ y ∈ V.labels (.sl 0 3 0 ((x).flags.map cReg)), y = 0 by simp [V.labels, zz, zf, zy]) y hy; skip; omega); have p0 := fun i o e => hW.ptr (1) i o e (by omega); simp only [List.map_cons, List.map_nil, hW.int, hW.str, hW.bool, hW.any, hW.tup0, hW.agg, hW.nilV, hF.ptr, z0a, zz0a, w0_2, p0, kput] <;> rfl) ?_
  refine OkOps.nil ?_
  refine Ok.ret ?_
  repeat (first | with_reducible refine thenQ_ret ?_ | with_reducible refine blockQ_ret ?_)
  refine retQ.end (by show resVs tab _ [.cell 2 149] = _; simp only [kev, ktab, klen, kcv] <;> rfl) rfl ?_
  exact ⟨(by simp only [packV, V.erase, V.trav, V.travL, V.travLL, zz, zf, zy, E0a] <;> rfl), (by intro L hL; simp only [packV, V.labels, V.labelsL, List.append_nil, List.nil_append] at hL;  first | (have := r0a L hL; omega)), (by simp only [packV, V.labels, V.labelsL, List.append_nil, List.nil_append] at nda ⊢; exact nda)⟩
theorem p_spec_l05Copy (x : Mail) (h : smMail x) : Pure Try.prog 141 [.agg (cMail x)] (.agg (cMail x)) := by
  refine Pure.of (by simp [V.dat, V.datL, V.datLL, zz, zf, zy]) (OkCall.enter' tab_ok Try.func141 rfl (t := [.agg (cMail x), .any, .any, .any, .any, .any, .any, .any]) rfl ?_)
  refine Ok.seq ?_
  refine Ok.region ?_
  iterate 2 (refine OkOps.ev tab_ok rfl (by simp only [kev, ktab, klen, kcv] <;> rfl) (by simp only [kput] <;> rfl) ?_)
  refine OkOps.nil ?_
  refine Ok.seq ?_
  refine Ok.region ?_
  iterate 2 (refine OkOps.ev tab_ok rfl (by simp only [kev, ktab, klen, kcv] <;> rfl) (by simp only [kput] <;> rfl) ?_)
  obtain ⟨L0a, e0a, hXa, q0a, E0a, M0a, N0a, nda, rga⟩ := ownSReg (2) (x.flags)
  obtain ⟨ma, hma⟩ : ∃ m, 2 + 1 + V.cnt (.sl 0 3 0 ((x.flags).map cReg)) = m + 1 := ⟨2 + V.cnt (.sl 0 3 0 ((x.flags).map cReg)), by omega⟩
  have r0a : ∀ z ∈ V.labels (.sl (L0a + 1) 3 0 e0a), 2 + 1 ≤ z ∧ z < ma + 1 := fun z hz => by have := rga z (by first | exact hz | (simp only [V.labelsL, V.labels, List.mem_append] at hz ⊢; simp only [hz, true_or, or_true])); omega
  refine OkOps.S' rfl (OpS.pure' rfl (by simp only [kev, ktab, klen, kcv] <;> rfl) (by simp only [kev, ktab, klen, kcv, V.eraseL, V.erase, V.travL, V.trav, zz, zf, zy] <;> rfl) cl148 (by simp [V.dat, V.datL, V.datLL, zz, zf, zy]) (p_spec_l04Copy x.flags h.1)) hma (by simp only [kput, hXa] <;> rfl) ?_
  refine OkOps.ev tab_ok rfl (by simp only [kev, ktab, klen, kcv] <;> rfl) (by simp only [kput] <;> rfl) ?_
  refine OkOps.storeN tab_ok rfl rfl (by simp only [kev, ktab, klen, kcv] <;> rfl) ⟨_, _, by simp only [kev]; rfl⟩ (by first | (simp [V.labelsL, V.labelsLL, V.labels, zz, zf, zy]; done) | (intro h; simp only [V.labelsL, V.labels, List.mem_append, List.append_nil, List.nil_append, List.not_mem_nil, or_false, false_or] at h; first | (have := r0a _ h; omega))) (fun W hW hF => by have z0a := hW.far (.sl (L0a + 1) 3 0 e0a) (fun y hy h => by have := r0a y hy; skip; omega); have zz0a := fun K => hW.far (.sl (L0a + 1) 3 0 (V.mkLL K e0a)) (fun y hy h => by have := r0a y (by simp only [V.labels, mkLL_labels] at hy; exact hy); skip; omega); have w0_2 := hW.far (.sl 0 3 0 ((x).flags.map cReg)) (fun y hy h => by have h0 : y = 0 := (show ∀ y ∈ V.labels (.sl 0 3 0 ((x).flags.map cReg)), y = 0 by simp [V.labels, zz, zf, zy]) y hy; skip; omega); have p1 := fun i o e => hW.ptr (2) i o e (by omega); simp only [List.map_cons, List.map_nil, hW.int, hW.str, hW.bool, hW.any, hW.tup0, hW.agg, hW.nilV, hF.ptr, z0a, zz0a, w0_2, p1, kput] <;> rfl) ?_
  refine OkOps.nil ?_
  refine Ok.seq ?_
  refine Ok.drop [4, 5, 6] (by simp only [kover] <;> rfl) ?_
  refine Ok.region ?_
  refine OkOps.ev tab_ok rfl (by simp only [kev, ktab, klen, kcv] <;> rfl) (by simp only [kput] <;> rfl) ?_
  refine OkOps.storeN tab_ok rfl rfl (by simp only [kev, ktab, klen, kcv] <;> rfl) ⟨_, _, by simp only [kev]; rfl⟩ (by first | (simp [V.labelsL, V.labelsLL, V.labels, zz, zf, zy]; done) | (intro h; simp only [V.labelsL, V.labels, List.mem_append, List.append_nil, List.nil_append, List.not_mem_nil, or_false, false_or] at h; first | (have := r0a _ h; omega))) (fun W hW hF => by have z0a := hW.far (.sl (L0a + 1) 3 0 e0a) (fun y hy h => by have := r0a y hy; skip; omega); have zz0a := fun K => hW.far (.sl (L0a + 1) 3 0 (V.mkLL K e0a)) (fun y hy h => by have := r0a y (by simp only [V.labels, mkLL_labels] at hy; exact hy); skip; omega); have w0_2 := hW.far (.sl 0 3 0 ((x).flags.map cReg)) (fun y hy h => by have h0 : y = 0 := (show ∀ y ∈ V.labels (.sl 0 3 0 ((x).flags.map cReg)), y = 0 by simp [V.labels, zz, zf, zy]) y hy; skip; omega); have p0 := fun i o e => hW.ptr (1) i o e (by omega); simp only [List.map_cons, List.map_nil, hW.int, hW.str, hW.bool, hW.any, hW.tup0, hW.agg, hW.nilV, hF.ptr, z0a, zz0a, w0_2, p0, kput] <;> rfl) ?_
  refine OkOps.nil ?_
  refine Ok.ret ?_
  repeat (first | with_reducible refine thenQ_ret ?_ | with_reducible refine blockQ_ret ?_)
  refine retQ.end (by show resVs tab _ [.cell 2 149] = _; simp only [kev, ktab, klen, kcv] <;> rfl) rfl ?_
  exact ⟨(by simp only [packV, V.erase, V.trav, V.travL, V.travLL, zz, zf, zy, E0a] <;> rfl), (by intro L hL; simp only [packV, V.labels, V.labelsL, List.append_nil, List.nil_append] at hL;  first | (have := r0a L hL; omega)), (by simp only [packV, V.labels, V.labelsL, List.append_nil, List.nil_append] at nda ⊢; exact nda)⟩
end Go.Proofs.Ytjhfabimacljhaa.K
