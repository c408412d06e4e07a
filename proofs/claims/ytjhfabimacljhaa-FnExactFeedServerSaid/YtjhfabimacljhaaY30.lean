/- Walks: copies as data of the call's own. Printed by w2.py. -/
import Derived.Test.YtjhfabimacljhaaYp
import Derived.Test.YtjhfabimacljhaaYt
namespace Go.Proofs.Ytjhfabimacljhaa.K
open Go Go.RowKit
set_option linter.unusedVariables false
set_option linter.unusedSimpArgs false
set_option maxHeartbeats 4000000
set_option maxRecDepth 20000
theorem w_own_toStamp (x : Stamp) : Weak Try.prog 142 [.agg (cStamp x)] (.agg (cStamp x)) := by
  refine Weak.enter tab_ok Try.func142 rfl (.inr (by simp [V.labelsL, V.labels, zz, zf, zy])) (t := [.agg (cStamp x), .any, .any, .any, .any, .any, .any, .any, .any, .any, .any]) rfl ?_
  refine Ok.seq ?_
  refine Ok.region ?_
  iterate 2 (refine OkOps.ev tab_ok rfl (by simp only [kev, ktab, klen, kcv] <;> rfl) (by simp only [kput] <;> rfl) ?_)
  refine OkOps.nil ?_
  refine Ok.seq ?_
  refine Ok.region ?_
  refine OkOps.ev tab_ok rfl (by simp only [kev, ktab, klen, kcv] <;> rfl) (by simp only [kput] <;> rfl) ?_
  refine OkOps.nil ?_
  refine Ok.seq ?_
  refine Ok.region ?_
  iterate 3 (refine OkOps.ev tab_ok rfl (by simp only [kev, ktab, klen, kcv] <;> rfl) (by simp only [kput] <;> rfl) ?_)
  refine OkOps.storeE tab_ok rfl rfl (by simp only [kev, ktab, klen, kcv] <;> rfl) ⟨_, _, by simp only [kev]; rfl⟩ (by first | (simp [V.labelsL, V.labelsLL, V.labels, zz, zf, zy]; done) | (simp [-List.map_map, -List.map_drop, -List.map_take, -List.map_tail, -List.drop_one, V.labelsL, V.labelsLL, V.labels, zz, zf, zy]; done)) (by simp only [eq_self, V.updL, V.travL, V.travLL, V.trav, updS, updP, and_self, true_and, and_true, false_and, and_false, Nat.reduceEqDiff, Nat.reduceSub, Nat.le_refl, Nat.zero_le, ↓reduceIte, if_true, if_false, kput, zz, zf, zy] <;> rfl) (rfl) ?_
  refine OkOps.nil ?_
  refine Ok.seq ?_
  refine Ok.region ?_
  iterate 3 (refine OkOps.ev tab_ok rfl (by simp only [kev, ktab, klen, kcv] <;> rfl) (by simp only [kput] <;> rfl) ?_)
  refine OkOps.storeE tab_ok rfl rfl (by simp only [kev, ktab, klen, kcv] <;> rfl) ⟨_, _, by simp only [kev]; rfl⟩ (by first | (simp [V.labelsL, V.labelsLL, V.labels, zz, zf, zy]; done) | (simp [-List.map_map, -List.map_drop, -List.map_take, -List.map_tail, -List.drop_one, V.labelsL, V.labelsLL, V.labels, zz, zf, zy]; done)) (by simp only [eq_self, V.updL, V.travL, V.travLL, V.trav, updS, updP, and_self, true_and, and_true, false_and, and_false, Nat.reduceEqDiff, Nat.reduceSub, Nat.le_refl, Nat.zero_le, ↓reduceIte, if_true, if_false, kput, zz, zf, zy] <;> rfl) (rfl) ?_
  refine OkOps.nil ?_
  refine Ok.seq ?_
  refine Ok.region ?_
  refine OkOps.ev tab_ok rfl (by simp only [kev, ktab, klen, kcv] <;> rfl) (by simp only [kput] <;> rfl) ?_
  refine OkOps.storeE tab_ok rfl rfl (by simp only [kev, ktab, klen, kcv] <;> rfl) ⟨_, _, by simp only [kev]; rfl⟩ (by first | (simp [V.labelsL, V.labelsLL, V.labels, zz, zf, zy]; done) | (simp [-List.map_map, -List.map_drop, -List.map_take, -List.map_tail, -List.drop_one, V.labelsL, V.labelsLL, V.labels, zz, zf, zy]; done)) (by simp only [eq_self, V.updL, V.travL, V.travLL, V.trav, updS, updP, and_self, true_and, and_true, false_and, and_false, Nat.reduceEqDiff, Nat.reduceSub, Nat.le_refl, Nat.zero_le, ↓reduceIte, if_true, if_false, kput, zz, zf, zy] <;> rfl) (rfl) ?_
  refine OkOps.nil ?_
  refine Ok.ret ?_
  repeat (first | with_reducible refine thenQ_ret ?_ | with_reducible refine blockQ_ret ?_)
  refine retQ.end (by show resVs tab _ [.cell 2 128] = _; simp only [kev, ktab, klen, kcv] <;> rfl) rfl ?_
  rfl
theorem p_laws_toReg (x : Reg) : Pure Try.prog 156 [.agg (cReg x)] (.agg (cReg x)) := by
  refine Pure.of (by simp [V.dat, V.datL, V.datLL, zz, zf, zy]) (OkCall.enter' tab_ok Try.func156 rfl (t := [.agg (cReg x), .any, .any, .any, .any, .any, .any, .any, .any, .any, .any, .any]) rfl ?_)
  refine Ok.seq ?_
  refine Ok.region ?_
  iterate 2 (refine OkOps.ev tab_ok rfl (by simp only [kev, ktab, klen, kcv] <;> rfl) (by simp only [kput] <;> rfl) ?_)
  refine OkOps.nil ?_
  refine Ok.seq ?_
  refine Ok.region ?_
  refine OkOps.ev tab_ok rfl (by simp only [kev, ktab, klen, kcv] <;> rfl) (by simp only [kput] <;> rfl) ?_
  refine OkOps.nil ?_
  refine Ok.seq ?_
  refine Ok.region ?_
  iterate 3 (refine OkOps.ev tab_ok rfl (by simp only [kev, ktab, klen, kcv] <;> rfl) (by simp only [kput] <;> rfl) ?_)
  refine OkOps.storeE tab_ok rfl rfl (by simp only [kev, ktab, klen, kcv] <;> rfl) ⟨_, _, by simp only [kev]; rfl⟩ (by first | (simp [V.labelsL, V.labelsLL, V.labels, zz, zf, zy]; done) | (simp [-List.map_map, -List.map_drop, -List.map_take, -List.map_tail, -List.drop_one, V.labelsL, V.labelsLL, V.labels, zz, zf, zy]; done)) (by simp only [eq_self, V.updL, V.travL, V.travLL, V.trav, updS, updP, and_self, true_and, and_true, false_and, and_false, Nat.reduceEqDiff, Nat.reduceSub, Nat.le_refl, Nat.zero_le, ↓reduceIte, if_true, if_false, kput, zz, zf, zy] <;> rfl) (rfl) ?_
  refine OkOps.nil ?_
  refine Ok.seq ?_
  refine Ok.region ?_
  iterate 2 (refine OkOps.ev tab_ok rfl (by simp only [kev, ktab, klen, kcv] <;> rfl) (by simp only [kput] <;> rfl) ?_)
  refine OkOps.S0 rfl (OpS.weak' rfl (by simp only [kev, ktab, klen, kcv] <;> rfl) (by simp only [kev, ktab, klen, kcv] <;> rfl) cl142 (w_own_toStamp x.stamp)) (by simp only [kput] <;> rfl) ?_
  refine OkOps.ev tab_ok rfl (by simp only [kev, ktab, klen, kcv] <;> rfl) (by simp only [kput] <;> rfl) ?_
  refine OkOps.storeE tab_ok rfl rfl (by simp only [kev, ktab, klen, kcv] <;> rfl) ⟨_, _, by simp only [kev]; rfl⟩ (by first | (simp [V.labelsL, V.labelsLL, V.labels, zz, zf, zy]; done) | (simp [-List.map_map, -List.map_drop, -List.map_take, -List.map_tail, -List.drop_one, V.labelsL, V.labelsLL, V.labels, zz, zf, zy]; done)) (by simp only [eq_self, V.updL, V.travL, V.travLL, V.trav, updS, updP, and_self, true_and, and_true, false_and, and_false, Nat.reduceEqDiff, Nat.reduceSub, Nat.le_refl, Nat.zero_le, ↓reduceIte, if_true, if_false, kput, zz, zf, zy] <;> rfl) (rfl) ?_
  refine OkOps.nil ?_
  refine Ok.seq ?_
  refine Ok.region ?_
  refine OkOps.ev tab_ok rfl (by simp only [kev, ktab, klen, kcv] <;> rfl) (by simp only [kput] <;> rfl) ?_
  refine OkOps.storeE tab_ok rfl rfl (by simp only [kev, ktab, klen, kcv] <;> rfl) ⟨_, _, by simp only [kev]; rfl⟩ (by first | (simp [V.labelsL, V.labelsLL, V.labels, zz, zf, zy]; done) | (simp [-List.map_map, -List.map_drop, -List.map_take, -List.map_tail, -List.drop_one, V.labelsL, V.labelsLL, V.labels, zz, zf, zy]; done)) (by simp only [eq_self, V.updL, V.travL, V.travLL, V.trav, updS, updP, and_self, true_and, and_true, false_and, and_false, Nat.reduceEqDiff, Nat.reduceSub, Nat.le_refl, Nat.zero_le, ↓reduceIte, if_true, if_false, kput, zz, zf, zy] <;> rfl) (rfl) ?_
  refine OkOps.nil ?_
  refine Ok.ret ?_
  repeat (first | with_reducible refine thenQ_ret ?_ | with_reducible refine blockQ_ret ?_)
  refine retQ.end (by show resVs tab _ [.cell 2 166] = _; simp only [kev, ktab, klen, kcv] <;> rfl) rfl ?_
  exact ⟨rfl, by simp [V.labels, V.labelsL, packV], by simp [V.labels, V.labelsL, packV]⟩
theorem p_laws_toRegS (a : List Reg) (ha : a.length ≤ 1048576) : Pure Try.prog 153 [.sl 0 3 0 (a.map cReg)] (.sl 0 3 0 (a.map cReg)) := by
  refine Pure.of (by simp [V.dat, V.datL, V.datLL, zz, zf, zy]) (OkCall.enter' tab_ok Try.func153 rfl (t := [.sl 0 3 0 (a.map cReg), .any, .any, .any, .any, .any, .any, .any, .any, .any, .any, .any, .any, .any, .any, .any, .any, .any, .any, .any, .any, .any, .any]) rfl ?_)
  refine Ok.seq ?_
  refine Ok.region ?_
  refine OkOps.ev tab_ok rfl (by simp only [kev, ktab, klen, kcv] <;> rfl) (by simp only [kput] <;> rfl) ?_
  refine OkOps.nil ?_
  refine Ok.seq ?_
  refine Ok.region ?_
  iterate 2 (refine OkOps.ev tab_ok rfl (by simp only [kev, ktab, klen, kcv] <;> rfl) (by simp only [kput] <;> rfl) ?_)
  refine OkOps.S' rfl (ok_makeSlice (a := a.length) (b := a.length) tab_ok (by simp only [ktab] <;> rfl) (by simp only [ktab] <;> rfl) (by decide) rfl rfl (by simp only [kev, klen] <;> rfl) (by simp only [kev, klen] <;> rfl) (by omega) (by omega) (by omega) (by show ((24 : Nat) : Int) * _ ≤ _; omega)) (by simp only [Nat.reduceAdd] <;> rfl) (by simp only [kput, Int.toNat_natCast] <;> rfl) ?_
  refine OkOps.ev tab_ok rfl (by simp only [kev, ktab, klen, kcv] <;> rfl) (by simp only [kput] <;> rfl) ?_
  refine OkOps.nil ?_
  refine Ok.seq ?_
  refine Ok.seq ?_
  refine Ok.drop [5, 6, 7] (by simp only [kover] <;> rfl) ?_
  refine Ok.region ?_
  refine OkOps.ev tab_ok rfl (by simp only [kev, ktab, klen, kcv] <;> rfl) (by simp only [kput] <;> rfl) ?_
  refine OkOps.nil ?_
  refine Ok.block ?_
  refine Ok.loopN (τ := List (List V) × Nat) (fun x => [(3, .sl 1 3 0 (x.1 ++ List.replicate (a.length - x.1.length) zcReg)), (4, .int .i64 (x.1.length : Int)), (7, .any)]) [8, 9, 10, 11, 12, 13, 14, 15, 16, 17, 18, 19, 20, 21] (fun x => by simp only [kover] <;> rfl) (fun x => x.2 + 1) (fun x => x.1.length ≤ a.length ∧ V.travLL (fun sz => V.sl 0 sz 0 []) (fun _ sz _ es => V.sl 0 sz 0 es) (fun _ _ o e => V.ptr 0 0 o e) x.1 = (a.take x.1.length).map cReg ∧ (V.labelsLL x.1).Nodup ∧ (∀ z ∈ V.labelsLL x.1, 2 ≤ z ∧ z < x.2 + 1) ∧ 1 ≤ x.2) (fun x => a.length - x.1.length) ([], 1) (by refine ⟨?_, ?_, ?_, ?_, ?_, ?_, ?_, ?_, ?_, ?_, ?_, ?_, ?_, ?_, ?_, ?_, ?_, ?_, ?_, ?_, ?_, ?_, ?_, trivial⟩ <;> first | exact le_any _ | with_reducible exact le_rfl' _ | ((first | exact le_rfl' _ | (refine le_eqm ?_; simp only [List.nil_append, List.length_nil, Nat.sub_zero]; done))) | exact le_rfl' _) (by decide) (⟨Nat.zero_le _, rfl, List.nodup_nil, (fun z hz => by cases hz), Nat.le_refl _⟩) ?_
  rintro ⟨d, k⟩ ⟨h1, h2, h3, h4, h5⟩
  have h1 : d.length ≤ a.length := h1
  have h2 : V.travLL (fun sz => V.sl 0 sz 0 []) (fun _ sz _ es => V.sl 0 sz 0 es) (fun _ _ o e => V.ptr 0 0 o e) d = (a.take d.length).map cReg := h2
  have h3 : (V.labelsLL d).Nodup := h3
  have h4 : ∀ z ∈ V.labelsLL d, 2 ≤ z ∧ z < k + 1 := h4
  have h5 : 1 ≤ k := h5
  refine Ok.seq ?_
  refine Ok.seq ?_
  refine Ok.region ?_
  iterate 4 (refine OkOps.ev tab_ok rfl (by simp only [kev, ktab, klen, kcv] <;> rfl) (by simp only [kput] <;> rfl) ?_)
  refine OkOps.nil ?_
  refine Ok.cond (b := _) (by simp only [kev, ktab, klen, kcv] <;> rfl) (fun hb3 => ?_) (fun hb3 => ?_)
  · try simp only [bsimp] at hb3
    have hi : d.length < a.length := by omega
    have hrep : List.replicate (a.length - d.length) zcReg = zcReg :: List.replicate (a.length - (d.length + 1)) zcReg := by rw [show a.length - d.length = a.length - (d.length + 1) + 1 by omega]; rfl
    rw [hrep]
    have dn : ¬ (1 ∈ V.labelsLL d) := fun h => by have := h4 1 h; omega
    have rn := lab_rep (n := a.length - (d.length + 1)) (c := zcReg) rfl
    refine Ok.skip ?_
    refine Ok.seq ?_
    refine Ok.block ?_
    refine Ok.drop [8, 9, 10, 11] (by simp only [kover] <;> rfl) ?_
    refine Ok.region ?_
    iterate 4 (refine OkOps.ev tab_ok rfl (by simp only [kev, ktab, klen, kcv] <;> rfl) (by simp only [kput] <;> rfl) ?_)
    refine OkOps.ev tab_ok rfl (ev_idx_map (by simp only [kev, ktab, klen, kcv] <;> rfl) (by simp only [kev, ktab, klen, kcv] <;> rfl) (by omega) (by simp only [kev, ktab, klen, kcv] <;> rfl)) (by simp only [kput] <;> rfl) ?_
    refine OkOps.ev tab_ok rfl (by simp only [kev, ktab, klen, kcv] <;> rfl) (by simp only [kput] <;> rfl) ?_
    obtain ⟨hXa, nda, rga⟩ := ownReg (k) (a[d.length])
    obtain ⟨ma, hma⟩ : ∃ m, k + 1 + V.cnt (.agg (cReg (a[d.length]))) = m + 1 := ⟨k + V.cnt (.agg (cReg (a[d.length]))), by omega⟩
    refine OkOps.S' rfl (OpS.pure' rfl (by simp only [kev, ktab, klen, kcv] <;> rfl) (by simp only [kev, ktab, klen, kcv, V.eraseL, V.erase, V.travL, V.trav, zz, zf, zy] <;> rfl) cl156 (by simp [V.dat, V.datL, V.datLL, zz, zf, zy]) (p_laws_toReg a[d.length])) hma (by simp only [kput, hXa] <;> rfl) ?_
    refine OkOps.ev tab_ok rfl (ev_idx (by simp only [kev, ktab, klen, kcv] <;> rfl) (by simp only [kev, ktab, klen, kcv] <;> rfl) (get_mid rfl) (by simp only [kev, ktab, klen, kcv] <;> rfl)) (by simp only [kput] <;> rfl) ?_
    refine OkOps.storeN tab_ok rfl rfl (by simp only [kev, ktab, klen, kcv] <;> rfl) ⟨_, _, by simp only [kev]; rfl⟩ (by first | (simp [V.labelsL, V.labelsLL, V.labels, zz, zf, zy]; done) | (intro h; simp only [V.labelsL, V.labels, List.mem_append, List.append_nil, List.nil_append, List.not_mem_nil, or_false, false_or] at h)) (fun W hW hF => by have w0_0 := hW.far (.sl 0 3 0 (a.map cReg)) (fun y hy h => by have h0 : y = 0 := (show ∀ y ∈ V.labels (.sl 0 3 0 (a.map cReg)), y = 0 by simp [V.labels, zz, zf, zy]) y hy; skip; omega); simp only [List.map_cons, List.map_nil, hW.int, hW.str, hW.bool, hW.any, hW.tup0, hW.agg, hW.nilV, hF.ptr, w0_0, hF.sl, set_mid (rfl : d.length = d.length), labelsLL_app, V.labelsLL, V.labelsL, V.labels, List.mem_append, List.not_mem_nil, List.append_nil, List.nil_append, or_false, false_or, not_or, not_false_eq_true, and_self, Nat.zero_add, dn, rn, (fun i o e => hW.ptr 0 i o e (by decide) : ∀ i o e, W (.ptr 0 i o e) = .ptr 0 i o (e.map W)), cReg, zcReg, kput] <;> rfl) ?_
    refine OkOps.nil ?_
    refine Ok.drop [14, 15, 16, 17, 18, 19, 20, 21] (by simp only [kover] <;> rfl) ?_
    refine Ok.region ?_
    iterate 3 (refine OkOps.ev tab_ok rfl (by simp only [kev, ktab, klen, kcv] <;> rfl) (by simp only [kput] <;> rfl) ?_)
    refine OkOps.nil ?_
    refine ⟨(d ++ [[.int .i64 (a[d.length]).val, .int .i64 (a[d.length]).stamp.time, .int .i64 (a[d.length]).stamp.by_]], ma), ?_, rfl, (by dsimp only; omega), rows_snoc hi h2 h3 h4 h5 (by omega) (by simp only [V.travL, V.trav] <;> rfl) nda (fun z hz => by have := rga z hz; omega), by show a.length - (d ++ [_]).length < a.length - d.length; rw [List.length_append]; simp only [List.length_cons, List.length_nil]; omega⟩
    refine ⟨?_, ?_, ?_, ?_, ?_, ?_, ?_, ?_, ?_, ?_, ?_, ?_, ?_, ?_, ?_, ?_, ?_, ?_, ?_, ?_, ?_, ?_, ?_, trivial⟩ <;> first | exact le_any _ | with_reducible exact le_rfl' _ | (dsimp only; first | (rw [wrap_add_one (by omega)]; refine le_eqm ?_; simp only [List.length_append, List.length_cons, List.length_nil]; done) | (refine le_eqm ?_; simp only [List.length_append, List.length_cons, List.length_nil, List.append_assoc, List.cons_append, List.nil_append, Nat.zero_add]; done)) | exact le_rfl' _
  · try simp only [bsimp] at hb3
    have hi : d.length = a.length := by omega
    have hrep : List.replicate (a.length - d.length) zcReg = [] := by rw [hi, Nat.sub_self]; rfl
    rw [hrep, List.append_nil]
    rw [hi, List.take_length] at h2
    refine Ok.exit ?_
    refine Ok.seq ?_
    refine Ok.drop [12, 13] (by simp only [kover] <;> rfl) ?_
    refine Ok.region ?_
    iterate 2 (refine OkOps.ev tab_ok rfl (by simp only [kev, ktab, klen, kcv] <;> rfl) (by simp only [kput] <;> rfl) ?_)
    refine OkOps.nil ?_
    refine Ok.ret ?_
    repeat (first | with_reducible refine thenQ_ret ?_ | with_reducible refine blockQ_ret ?_)
    refine retQ.end (by show resVs tab _ [.tmp 2] = _; simp only [kev, ktab, klen, kcv] <;> rfl) rfl ?_
    exact ⟨(by simp only [packV, V.erase, V.trav, V.travLL, zz, zf, zy, h2] <;> rfl), (by intro L hL; simp only [packV, V.labels, List.mem_cons] at hL; rcases hL with hL | hL <;> first | omega | (have := h4 L hL; omega)), (by simp only [packV, V.labels, List.nodup_cons]; exact ⟨fun h => by have := h4 1 h; omega, h3⟩)⟩
theorem p_laws_toIntS (a : List Int) (ha : a.length ≤ 1048576) : Pure Try.prog 88 [.sl 0 1 0 (a.map cZ)] (.sl 0 1 0 (a.map cZ)) := by
  refine Pure.of (by simp [V.dat, V.datL, V.datLL, zz, zf, zy]) (OkCall.enter' tab_ok Try.func88 rfl (t := [.sl 0 1 0 (a.map cZ), .any, .any, .any, .any, .any, .any, .any, .any, .any, .any, .any, .any, .any, .any, .any, .any, .any, .any, .any, .any, .any]) rfl ?_)
  refine Ok.seq ?_
  refine Ok.region ?_
  refine OkOps.ev tab_ok rfl (by simp only [kev, ktab, klen, kcv] <;> rfl) (by simp only [kput] <;> rfl) ?_
  refine OkOps.nil ?_
  refine Ok.seq ?_
  refine Ok.region ?_
  iterate 2 (refine OkOps.ev tab_ok rfl (by simp only [kev, ktab, klen, kcv] <;> rfl) (by simp only [kput] <;> rfl) ?_)
  refine OkOps.S' rfl (ok_makeSlice (a := a.length) (b := a.length) tab_ok (by simp only [ktab] <;> rfl) (by simp only [ktab] <;> rfl) (by decide) rfl rfl (by simp only [kev, klen] <;> rfl) (by simp only [kev, klen] <;> rfl) (by omega) (by omega) (by omega) (by show ((8 : Nat) : Int) * _ ≤ _; omega)) (by simp only [Nat.reduceAdd] <;> rfl) (by simp only [kput, Int.toNat_natCast] <;> rfl) ?_
  refine OkOps.ev tab_ok rfl (by simp only [kev, ktab, klen, kcv] <;> rfl) (by simp only [kput] <;> rfl) ?_
  refine OkOps.nil ?_
  refine Ok.seq ?_
  refine Ok.seq ?_
  refine Ok.drop [5, 6, 7] (by simp only [kover] <;> rfl) ?_
  refine Ok.region ?_
  refine OkOps.ev tab_ok rfl (by simp only [kev, ktab, klen, kcv] <;> rfl) (by simp only [kput] <;> rfl) ?_
  refine OkOps.nil ?_
  refine Ok.block ?_
  refine Ok.loopN (τ := List (List V) × Nat) (fun x => [(3, .sl 1 1 0 (x.1 ++ List.replicate (a.length - x.1.length) zcI)), (4, .int .i64 (x.1.length : Int)), (7, .any)]) [8, 9, 10, 11, 12, 13, 14, 15, 16, 17, 18, 19, 20] (fun x => by simp only [kover] <;> rfl) (fun x => x.2 + 1) (fun x => x.1.length ≤ a.length ∧ V.travLL (fun sz => V.sl 0 sz 0 []) (fun _ sz _ es => V.sl 0 sz 0 es) (fun _ _ o e => V.ptr 0 0 o e) x.1 = (a.take x.1.length).map cZ ∧ (V.labelsLL x.1).Nodup ∧ (∀ z ∈ V.labelsLL x.1, 2 ≤ z ∧ z < x.2 + 1) ∧ 1 ≤ x.2) (fun x => a.length - x.1.length) ([], 1) (by refine ⟨?_, ?_, ?_, ?_, ?_, ?_, ?_, ?_, ?_, ?_, ?_, ?_, ?_, ?_, ?_, ?_, ?_, ?_, ?_, ?_, ?_, ?_, trivial⟩ <;> first | exact le_any _ | with_reducible exact le_rfl' _ | ((first | exact le_rfl' _ | (refine le_eqm ?_; simp only [List.nil_append, List.length_nil, Nat.sub_zero]; done))) | exact le_rfl' _) (by decide) (⟨Nat.zero_le _, rfl, List.nodup_nil, (fun z hz => by cases hz), Nat.le_refl _⟩) ?_
  rintro ⟨d, k⟩ ⟨h1, h2, h3, h4, h5⟩
  have h1 : d.length ≤ a.length := h1
  have h2 : V.travLL (fun sz => V.sl 0 sz 0 []) (fun _ sz _ es => V.sl 0 sz 0 es) (fun _ _ o e => V.ptr 0 0 o e) d = (a.take d.length).map cZ := h2
  have h3 : (V.labelsLL d).Nodup := h3
  have h4 : ∀ z ∈ V.labelsLL d, 2 ≤ z ∧ z < k + 1 := h4
  have h5 : 1 ≤ k := h5
  refine Ok.seq ?_
  refine Ok.seq ?_
  refine Ok.region ?_
  iterate 4 (refine OkOps.ev tab_ok rfl (by simp only [kev, ktab, klen, kcv] <;> rfl) (by simp only [kput] <;> rfl) ?_)
  refine OkOps.nil ?_
  refine Ok.cond (b := _) (by simp only [kev, ktab, klen, kcv] <;> rfl) (fun hb3 => ?_) (fun hb3 => ?_)
  · try simp only [bsimp] at hb3
    have hi : d.length < a.length := by omega
    have hrep : List.replicate (a.length - d.length) zcI = zcI :: List.replicate (a.length - (d.length + 1)) zcI := by rw [show a.length - d.length = a.length - (d.length + 1) + 1 by omega]; rfl
    rw [hrep]
    have dn : ¬ (1 ∈ V.labelsLL d) := fun h => by have := h4 1 h; omega
    have rn := lab_rep (n := a.length - (d.length + 1)) (c := zcI) rfl
    refine Ok.skip ?_
    refine Ok.seq ?_
    refine Ok.block ?_
    refine Ok.drop [8, 9, 10, 11] (by simp only [kover] <;> rfl) ?_
    refine Ok.region ?_
    iterate 4 (refine OkOps.ev tab_ok rfl (by simp only [kev, ktab, klen, kcv] <;> rfl) (by simp only [kput] <;> rfl) ?_)
    refine OkOps.ev tab_ok rfl (ev_idx_map (by simp only [kev, ktab, klen, kcv] <;> rfl) (by simp only [kev, ktab, klen, kcv] <;> rfl) (by omega) (by simp only [kev, ktab, klen, kcv] <;> rfl)) (by simp only [kput] <;> rfl) ?_
    refine OkOps.ev tab_ok rfl (by simp only [kev, ktab, klen, kcv] <;> rfl) (by simp only [kput] <;> rfl) ?_
    refine OkOps.ev tab_ok rfl (ev_idx (by simp only [kev, ktab, klen, kcv] <;> rfl) (by simp only [kev, ktab, klen, kcv] <;> rfl) (get_mid rfl) (by simp only [kev, ktab, klen, kcv] <;> rfl)) (by simp only [kput] <;> rfl) ?_
    refine OkOps.storeN tab_ok rfl rfl (by simp only [kev, ktab, klen, kcv] <;> rfl) ⟨_, _, by simp only [kev]; rfl⟩ (by first | (simp [V.labelsL, V.labelsLL, V.labels, zz, zf, zy]; done) | (intro h; simp only [V.labelsL, V.labels, List.mem_append, List.append_nil, List.nil_append, List.not_mem_nil, or_false, false_or] at h)) (fun W hW hF => by have w0_0 := hW.far (.sl 0 1 0 (a.map cZ)) (fun y hy h => by have h0 : y = 0 := (show ∀ y ∈ V.labels (.sl 0 1 0 (a.map cZ)), y = 0 by simp [V.labels, zz, zf, zy]) y hy; skip; omega); simp only [List.map_cons, List.map_nil, hW.int, hW.str, hW.bool, hW.any, hW.tup0, hW.agg, hW.nilV, hF.ptr, w0_0, hF.sl, set_mid (rfl : d.length = d.length), labelsLL_app, V.labelsLL, V.labelsL, V.labels, List.mem_append, List.not_mem_nil, List.append_nil, List.nil_append, or_false, false_or, not_or, not_false_eq_true, and_self, Nat.zero_add, dn, rn, (fun i o e => hW.ptr 0 i o e (by decide) : ∀ i o e, W (.ptr 0 i o e) = .ptr 0 i o (e.map W)), cZ, zcI, kput] <;> rfl) ?_
    refine OkOps.nil ?_
    refine Ok.drop [14, 15, 16, 17, 18, 19, 20] (by simp only [kover] <;> rfl) ?_
    refine Ok.region ?_
    iterate 3 (refine OkOps.ev tab_ok rfl (by simp only [kev, ktab, klen, kcv] <;> rfl) (by simp only [kput] <;> rfl) ?_)
    refine OkOps.nil ?_
    refine ⟨(d ++ [[.int .i64 a[d.length]]], k), ?_, rfl, Nat.le_refl _, rows_snoc hi h2 h3 h4 h5 (by omega) (by simp only [V.travL, V.trav] <;> rfl) (by simp [V.labelsL, V.labels]) (fun z hz => by simp [V.labelsL, V.labels] at hz), by show a.length - (d ++ [_]).length < a.length - d.length; rw [List.length_append]; simp only [List.length_cons, List.length_nil]; omega⟩
    refine ⟨?_, ?_, ?_, ?_, ?_, ?_, ?_, ?_, ?_, ?_, ?_, ?_, ?_, ?_, ?_, ?_, ?_, ?_, ?_, ?_, ?_, ?_, trivial⟩ <;> first | exact le_any _ | with_reducible exact le_rfl' _ | (dsimp only; first | (rw [wrap_add_one (by omega)]; refine le_eqm ?_; simp only [List.length_append, List.length_cons, List.length_nil]; done) | (refine le_eqm ?_; simp only [List.length_append, List.length_cons, List.length_nil, List.append_assoc, List.cons_append, List.nil_append, Nat.zero_add]; done)) | exact le_rfl' _
  · try simp only [bsimp] at hb3
    have hi : d.length = a.length := by omega
    have hrep : List.replicate (a.length - d.length) zcI = [] := by rw [hi, Nat.sub_self]; rfl
    rw [hrep, List.append_nil]
    rw [hi, List.take_length] at h2
    refine Ok.exit ?_
    refine Ok.seq ?_
    refine Ok.drop [12, 13] (by simp only [kover] <;> rfl) ?_
    refine Ok.region ?_
    iterate 2 (refine OkOps.ev tab_ok rfl (by simp only [kev, ktab, klen, kcv] <;> rfl) (by simp only [kput] <;> rfl) ?_)
    refine OkOps.nil ?_
    refine Ok.ret ?_
    repeat (first | with_reducible refine thenQ_ret ?_ | with_reducible refine blockQ_ret ?_)
    refine retQ.end (by show resVs tab _ [.tmp 2] = _; simp only [kev, ktab, klen, kcv] <;> rfl) rfl ?_
    exact ⟨(by simp only [packV, V.erase, V.trav, V.travLL, zz, zf, zy, h2] <;> rfl), (by intro L hL; simp only [packV, V.labels, List.mem_cons] at hL; rcases hL with hL | hL <;> first | omega | (have := h4 L hL; omega)), (by simp only [packV, V.labels, List.nodup_cons]; exact ⟨fun h => by have := h4 1 h; omega, h3⟩)⟩
theorem p_laws_toMail (x : Mail) (h : smMail x) : Pure Try.prog 149 [.agg (cMail x)] (.agg (cMail x)) := by
  refine Pure.of (by simp [V.dat, V.datL, V.datLL, zz, zf, zy]) (OkCall.enter' tab_ok Try.func149 rfl (t := [.agg (cMail x), .any, .any, .any, .any, .any, .any, .any, .any, .any, .any, .any, .any, .any, .any, .any, .any, .any]) rfl ?_)
  refine Ok.seq ?_
  refine Ok.region ?_
  iterate 2 (refine OkOps.ev tab_ok rfl (by simp only [kev, ktab, klen, kcv] <;> rfl) (by simp only [kput] <;> rfl) ?_)
  refine OkOps.nil ?_
  refine Ok.seq ?_
  refine Ok.region ?_
  refine OkOps.ev tab_ok rfl (by simp only [kev, ktab, klen, kcv] <;> rfl) (by simp only [kput] <;> rfl) ?_
  refine OkOps.nil ?_
  refine Ok.seq ?_
  refine Ok.region ?_
  iterate 3 (refine OkOps.ev tab_ok rfl (by simp only [kev, ktab, klen, kcv] <;> rfl) (by simp only [kput] <;> rfl) ?_)
  refine OkOps.storeN tab_ok rfl rfl (by simp only [kev, ktab, klen, kcv] <;> rfl) ⟨_, _, by simp only [kev]; rfl⟩ (by first | (simp [V.labelsL, V.labelsLL, V.labels, zz, zf, zy]; done) | (intro h; simp [V.labelsL, V.labels] at h)) (fun W hW hF => by have w0_2 := hW.far (.sl 0 3 0 ((x).flags.map cReg)) (fun y hy h => by have h0 : y = 0 := (show ∀ y ∈ V.labels (.sl 0 3 0 ((x).flags.map cReg)), y = 0 by simp [V.labels, zz, zf, zy]) y hy; skip; omega); have p0 := fun i o e => hW.ptr (1) i o e (by omega);  have p1 := fun i o e => hW.ptr (2) i o e (by omega); simp only [List.map_cons, List.map_nil, hW.int, hW.str, hW.bool, hW.any, hW.tup0, hW.agg, hW.nilV, hF.ptr, w0_2, p0, p1, kput] <;> rfl) ?_
  refine OkOps.nil ?_
  refine Ok.seq ?_
  refine Ok.drop [4, 5, 6] (by simp only [kover] <;> rfl) ?_
  refine Ok.region ?_
  iterate 3 (refine OkOps.ev tab_ok rfl (by simp only [kev, ktab, klen, kcv] <;> rfl) (by simp only [kput] <;> rfl) ?_)
  refine OkOps.storeN tab_ok rfl rfl (by simp only [kev, ktab, klen, kcv] <;> rfl) ⟨_, _, by simp only [kev]; rfl⟩ (by first | (simp [V.labelsL, V.labelsLL, V.labels, zz, zf, zy]; done) | (intro h; simp [V.labelsL, V.labels] at h)) (fun W hW hF => by have w0_2 := hW.far (.sl 0 3 0 ((x).flags.map cReg)) (fun y hy h => by have h0 : y = 0 := (show ∀ y ∈ V.labels (.sl 0 3 0 ((x).flags.map cReg)), y = 0 by simp [V.labels, zz, zf, zy]) y hy; skip; omega); have p0 := fun i o e => hW.ptr (1) i o e (by omega);  have p1 := fun i o e => hW.ptr (2) i o e (by omega); simp only [List.map_cons, List.map_nil, hW.int, hW.str, hW.bool, hW.any, hW.tup0, hW.agg, hW.nilV, hF.ptr, w0_2, p0, p1, kput] <;> rfl) ?_
  refine OkOps.nil ?_
  refine Ok.seq ?_
  refine Ok.drop [7, 8, 9] (by simp only [kover] <;> rfl) ?_
  refine Ok.region ?_
  iterate 2 (refine OkOps.ev tab_ok rfl (by simp only [kev, ktab, klen, kcv] <;> rfl) (by simp only [kput] <;> rfl) ?_)
  obtain ⟨L0a, e0a, hXa, q0a, E0a, M0a, N0a, nda, rga⟩ := ownSReg (3) (x.flags)
  obtain ⟨ma, hma⟩ : ∃ m, 3 + 1 + V.cnt (.sl 0 3 0 ((x.flags).map cReg)) = m + 1 := ⟨3 + V.cnt (.sl 0 3 0 ((x.flags).map cReg)), by omega⟩
  have r0a : ∀ z ∈ V.labels (.sl (L0a + 1) 3 0 e0a), 3 + 1 ≤ z ∧ z < ma + 1 := fun z hz => by have := rga z (by first | exact hz | (simp only [V.labelsL, V.labels, List.mem_append] at hz ⊢; simp only [hz, true_or, or_true])); omega
  refine OkOps.S' rfl (OpS.pure' rfl (by simp only [kev, ktab, klen, kcv] <;> rfl) (by simp only [kev, ktab, klen, kcv, V.eraseL, V.erase, V.travL, V.trav, zz, zf, zy] <;> rfl) cl153 (by simp [V.dat, V.datL, V.datLL, zz, zf, zy]) (p_laws_toRegS x.flags h.1)) hma (by simp only [kput, hXa] <;> rfl) ?_
  refine OkOps.ev tab_ok rfl (by simp only [kev, ktab, klen, kcv] <;> rfl) (by simp only [kput] <;> rfl) ?_
  refine OkOps.storeN tab_ok rfl rfl (by simp only [kev, ktab, klen, kcv] <;> rfl) ⟨_, _, by simp only [kev]; rfl⟩ (by first | (simp [V.labelsL, V.labelsLL, V.labels, zz, zf, zy]; done) | (intro h; simp only [V.labelsL, V.labels, List.mem_append, List.append_nil, List.nil_append, List.not_mem_nil, or_false, false_or] at h; first | (have := r0a _ h; omega))) (fun W hW hF => by have z0a := hW.far (.sl (L0a + 1) 3 0 e0a) (fun y hy h => by have := r0a y hy; skip; omega); have zz0a := fun K => hW.far (.sl (L0a + 1) 3 0 (V.mkLL K e0a)) (fun y hy h => by have := r0a y (by simp only [V.labels, mkLL_labels] at hy; exact hy); skip; omega); have w0_2 := hW.far (.sl 0 3 0 ((x).flags.map cReg)) (fun y hy h => by have h0 : y = 0 := (show ∀ y ∈ V.labels (.sl 0 3 0 ((x).flags.map cReg)), y = 0 by simp [V.labels, zz, zf, zy]) y hy; skip; omega); have p0 := fun i o e => hW.ptr (1) i o e (by omega);  have p1 := fun i o e => hW.ptr (2) i o e (by omega); simp only [List.map_cons, List.map_nil, hW.int, hW.str, hW.bool, hW.any, hW.tup0, hW.agg, hW.nilV, hF.ptr, z0a, zz0a, w0_2, p0, p1, kput] <;> rfl) ?_
  refine OkOps.nil ?_
  refine Ok.seq ?_
  refine Ok.drop [10, 11, 12, 13] (by simp only [kover] <;> rfl) ?_
  refine Ok.region ?_
  iterate 3 (refine OkOps.ev tab_ok rfl (by simp only [kev, ktab, klen, kcv] <;> rfl) (by simp only [kput] <;> rfl) ?_)
  refine OkOps.storeN tab_ok rfl rfl (by simp only [kev, ktab, klen, kcv] <;> rfl) ⟨_, _, by simp only [kev]; rfl⟩ (by first | (simp [V.labelsL, V.labelsLL, V.labels, zz, zf, zy]; done) | (intro h; simp only [V.labelsL, V.labels, List.mem_append, List.append_nil, List.nil_append, List.not_mem_nil, or_false, false_or] at h; first | (have := r0a _ h; omega))) (fun W hW hF => by have z0a := hW.far (.sl (L0a + 1) 3 0 e0a) (fun y hy h => by have := r0a y hy; skip; omega); have zz0a := fun K => hW.far (.sl (L0a + 1) 3 0 (V.mkLL K e0a)) (fun y hy h => by have := r0a y (by simp only [V.labels, mkLL_labels] at hy; exact hy); skip; omega); have w0_2 := hW.far (.sl 0 3 0 ((x).flags.map cReg)) (fun y hy h => by have h0 : y = 0 := (show ∀ y ∈ V.labels (.sl 0 3 0 ((x).flags.map cReg)), y = 0 by simp [V.labels, zz, zf, zy]) y hy; skip; omega); have p0 := fun i o e => hW.ptr (1) i o e (by omega);  have p1 := fun i o e => hW.ptr (2) i o e (by omega); simp only [List.map_cons, List.map_nil, hW.int, hW.str, hW.bool, hW.any, hW.tup0, hW.agg, hW.nilV, hF.ptr, z0a, zz0a, w0_2, p0, p1, kput] <;> rfl) ?_
  refine OkOps.nil ?_
  refine Ok.seq ?_
  refine Ok.drop [14, 15, 16] (by simp only [kover] <;> rfl) ?_
  refine Ok.region ?_
  refine OkOps.ev tab_ok rfl (by simp only [kev, ktab, klen, kcv] <;> rfl) (by simp only [kput] <;> rfl) ?_
  refine OkOps.storeN tab_ok rfl rfl (by simp only [kev, ktab, klen, kcv] <;> rfl) ⟨_, _, by simp only [kev]; rfl⟩ (by first | (simp [V.labelsL, V.labelsLL, V.labels, zz, zf, zy]; done) | (intro h; simp only [V.labelsL, V.labels, List.mem_append, List.append_nil, List.nil_append, List.not_mem_nil, or_false, false_or] at h; first | (have := r0a _ h; omega))) (fun W hW hF => by have z0a := hW.far (.sl (L0a + 1) 3 0 e0a) (fun y hy h => by have := r0a y hy; skip; omega); have zz0a := fun K => hW.far (.sl (L0a + 1) 3 0 (V.mkLL K e0a)) (fun y hy h => by have := r0a y (by simp only [V.labels, mkLL_labels] at hy; exact hy); skip; omega); have w0_2 := hW.far (.sl 0 3 0 ((x).flags.map cReg)) (fun y hy h => by have h0 : y = 0 := (show ∀ y ∈ V.labels (.sl 0 3 0 ((x).flags.map cReg)), y = 0 by simp [V.labels, zz, zf, zy]) y hy; skip; omega); have p0 := fun i o e => hW.ptr (1) i o e (by omega);  have p2 := fun i o e => hW.ptr (3) i o e (by omega); simp only [List.map_cons, List.map_nil, hW.int, hW.str, hW.bool, hW.any, hW.tup0, hW.agg, hW.nilV, hF.ptr, z0a, zz0a, w0_2, p0, p2, kput] <;> rfl) ?_
  refine OkOps.nil ?_
  refine Ok.ret ?_
  repeat (first | with_reducible refine thenQ_ret ?_ | with_reducible refine blockQ_ret ?_)
  refine retQ.end (by show resVs tab _ [.cell 2 149] = _; simp only [kev, ktab, klen, kcv] <;> rfl) rfl ?_
  exact ⟨(by simp only [packV, V.erase, V.trav, V.travL, V.travLL, zz, zf, zy, E0a] <;> rfl), (by intro L hL; simp only [packV, V.labels, V.labelsL, List.append_nil, List.nil_append] at hL;  first | (have := r0a L hL; omega)), (by simp only [packV, V.labels, V.labelsL, List.append_nil, List.nil_append] at nda ⊢; exact nda)⟩
theorem p_laws_toMailS (a : List Mail) (ha : a.length ≤ 1048576) (hz : ∀ z ∈ a, smMail z) : Pure Try.prog 143 [.sl 0 4 0 (a.map cMail)] (.sl 0 4 0 (a.map cMail)) := by
  refine Pure.of (by simp [V.dat, V.datL, V.datLL, zz, zf, zy]) (OkCall.enter' tab_ok Try.func143 rfl (t := [.sl 0 4 0 (a.map cMail), .any, .any, .any, .any, .any, .any, .any, .any, .any, .any, .any, .any, .any, .any, .any, .any, .any, .any, .any, .any, .any, .any]) rfl ?_)
  refine Ok.seq ?_
  refine Ok.region ?_
  refine OkOps.ev tab_ok rfl (by simp only [kev, ktab, klen, kcv] <;> rfl) (by simp only [kput] <;> rfl) ?_
  refine OkOps.nil ?_
  refine Ok.seq ?_
  refine Ok.region ?_
  iterate 2 (refine OkOps.ev tab_ok rfl (by simp only [kev, ktab, klen, kcv] <;> rfl) (by simp only [kput] <;> rfl) ?_)
  refine OkOps.S' rfl (ok_makeSlice (a := a.length) (b := a.length) tab_ok (by simp only [ktab] <;> rfl) (by simp only [ktab] <;> rfl) (by decide) rfl rfl (by simp only [kev, klen] <;> rfl) (by simp only [kev, klen] <;> rfl) (by omega) (by omega) (by omega) (by show ((56 : Nat) : Int) * _ ≤ _; omega)) (by simp only [Nat.reduceAdd] <;> rfl) (by simp only [kput, Int.toNat_natCast] <;> rfl) ?_
  refine OkOps.ev tab_ok rfl (by simp only [kev, ktab, klen, kcv] <;> rfl) (by simp only [kput] <;> rfl) ?_
  refine OkOps.nil ?_
  refine Ok.seq ?_
  refine Ok.seq ?_
  refine Ok.drop [5, 6, 7] (by simp only [kover] <;> rfl) ?_
  refine Ok.region ?_
  refine OkOps.ev tab_ok rfl (by simp only [kev, ktab, klen, kcv] <;> rfl) (by simp only [kput] <;> rfl) ?_
  refine OkOps.nil ?_
  refine Ok.block ?_
  refine Ok.loopN (τ := List (List V) × Nat) (fun x => [(3, .sl 1 4 0 (x.1 ++ List.replicate (a.length - x.1.length) zcMail)), (4, .int .i64 (x.1.length : Int)), (7, .any)]) [8, 9, 10, 11, 12, 13, 14, 15, 16, 17, 18, 19, 20, 21] (fun x => by simp only [kover] <;> rfl) (fun x => x.2 + 1) (fun x => x.1.length ≤ a.length ∧ V.travLL (fun sz => V.sl 0 sz 0 []) (fun _ sz _ es => V.sl 0 sz 0 es) (fun _ _ o e => V.ptr 0 0 o e) x.1 = (a.take x.1.length).map cMail ∧ (V.labelsLL x.1).Nodup ∧ (∀ z ∈ V.labelsLL x.1, 2 ≤ z ∧ z < x.2 + 1) ∧ 1 ≤ x.2) (fun x => a.length - x.1.length) ([], 1) (by refine ⟨?_, ?_, ?_, ?_, ?_, ?_, ?_, ?_, ?_, ?_, ?_, ?_, ?_, ?_, ?_, ?_, ?_, ?_, ?_, ?_, ?_, ?_, ?_, trivial⟩ <;> first | exact le_any _ | with_reducible exact le_rfl' _ | ((first | exact le_rfl' _ | (refine le_eqm ?_; simp only [List.nil_append, List.length_nil, Nat.sub_zero]; done))) | exact le_rfl' _) (by decide) (⟨Nat.zero_le _, rfl, List.nodup_nil, (fun z hz => by cases hz), Nat.le_refl _⟩) ?_
  rintro ⟨d, k⟩ ⟨h1, h2, h3, h4, h5⟩
  have h1 : d.length ≤ a.length := h1
  have h2 : V.travLL (fun sz => V.sl 0 sz 0 []) (fun _ sz _ es => V.sl 0 sz 0 es) (fun _ _ o e => V.ptr 0 0 o e) d = (a.take d.length).map cMail := h2
  have h3 : (V.labelsLL d).Nodup := h3
  have h4 : ∀ z ∈ V.labelsLL d, 2 ≤ z ∧ z < k + 1 := h4
  have h5 : 1 ≤ k := h5
  refine Ok.seq ?_
  refine Ok.seq ?_
  refine Ok.region ?_
  iterate 4 (refine OkOps.ev tab_ok rfl (by simp only [kev, ktab, klen, kcv] <;> rfl) (by simp only [kput] <;> rfl) ?_)
  refine OkOps.nil ?_
  refine Ok.cond (b := _) (by simp only [kev, ktab, klen, kcv] <;> rfl) (fun hb3 => ?_) (fun hb3 => ?_)
  · try simp only [bsimp] at hb3
    have hi : d.length < a.length := by omega
    have hrep : List.replicate (a.length - d.length) zcMail = zcMail :: List.replicate (a.length - (d.length + 1)) zcMail := by rw [show a.length - d.length = a.length - (d.length + 1) + 1 by omega]; rfl
    rw [hrep]
    have dn : ¬ (1 ∈ V.labelsLL d) := fun h => by have := h4 1 h; omega
    have rn := lab_rep (n := a.length - (d.length + 1)) (c := zcMail) rfl
    refine Ok.skip ?_
    refine Ok.seq ?_
    refine Ok.block ?_
    refine Ok.drop [8, 9, 10, 11] (by simp only [kover] <;> rfl) ?_
    refine Ok.region ?_
    iterate 4 (refine OkOps.ev tab_ok rfl (by simp only [kev, ktab, klen, kcv] <;> rfl) (by simp only [kput] <;> rfl) ?_)
    refine OkOps.ev tab_ok rfl (ev_idx_map (by simp only [kev, ktab, klen, kcv] <;> rfl) (by simp only [kev, ktab, klen, kcv] <;> rfl) (by omega) (by simp only [kev, ktab, klen, kcv] <;> rfl)) (by simp only [kput] <;> rfl) ?_
    refine OkOps.ev tab_ok rfl (by simp only [kev, ktab, klen, kcv] <;> rfl) (by simp only [kput] <;> rfl) ?_
    obtain ⟨L2a, e2a, hXa, q2a, E2a, M2a, N2a, nda, rga⟩ := ownMail (k) (a[d.length])
    obtain ⟨ma, hma⟩ : ∃ m, k + 1 + V.cnt (.agg (cMail (a[d.length]))) = m + 1 := ⟨k + V.cnt (.agg (cMail (a[d.length]))), by omega⟩
    have r2a : ∀ z ∈ V.labels (.sl (L2a + 1) 3 0 e2a), k + 1 ≤ z ∧ z < ma + 1 := fun z hz => by have := rga z (by first | exact hz | (simp only [V.labelsL, V.labels, List.mem_append] at hz ⊢; simp only [hz, true_or, or_true])); omega
    refine OkOps.S' rfl (OpS.pure' rfl (by simp only [kev, ktab, klen, kcv] <;> rfl) (by simp only [kev, ktab, klen, kcv, V.eraseL, V.erase, V.travL, V.trav, zz, zf, zy] <;> rfl) cl149 (by simp [V.dat, V.datL, V.datLL, zz, zf, zy]) (p_laws_toMail a[d.length] (hz _ (List.getElem_mem hi)))) hma (by simp only [kput, hXa] <;> rfl) ?_
    refine OkOps.ev tab_ok rfl (ev_idx (by simp only [kev, ktab, klen, kcv] <;> rfl) (by simp only [kev, ktab, klen, kcv] <;> rfl) (get_mid rfl) (by simp only [kev, ktab, klen, kcv] <;> rfl)) (by simp only [kput] <;> rfl) ?_
    refine OkOps.storeN tab_ok rfl rfl (by simp only [kev, ktab, klen, kcv] <;> rfl) ⟨_, _, by simp only [kev]; rfl⟩ (by first | (simp [V.labelsL, V.labelsLL, V.labels, zz, zf, zy]; done) | (intro h; simp only [V.labelsL, V.labels, List.mem_append, List.append_nil, List.nil_append, List.not_mem_nil, or_false, false_or] at h; first | (have := r2a _ h; omega))) (fun W hW hF => by have z2a := hW.far (.sl (L2a + 1) 3 0 e2a) (fun y hy h => by have := r2a y hy; skip; omega); have zz2a := fun K => hW.far (.sl (L2a + 1) 3 0 (V.mkLL K e2a)) (fun y hy h => by have := r2a y (by simp only [V.labels, mkLL_labels] at hy; exact hy); skip; omega); have w0_0 := hW.far (.sl 0 4 0 (a.map cMail)) (fun y hy h => by have h0 : y = 0 := (show ∀ y ∈ V.labels (.sl 0 4 0 (a.map cMail)), y = 0 by simp [V.labels, zz, zf, zy]) y hy; skip; omega); have w1_2 := hW.far (.sl 0 3 0 ((a[d.length]).flags.map cReg)) (fun y hy h => by have h0 : y = 0 := (show ∀ y ∈ V.labels (.sl 0 3 0 ((a[d.length]).flags.map cReg)), y = 0 by simp [V.labels, zz, zf, zy]) y hy; skip; omega); simp only [List.map_cons, List.map_nil, hW.int, hW.str, hW.bool, hW.any, hW.tup0, hW.agg, hW.nilV, hF.ptr, z2a, zz2a, w0_0, w1_2, hF.sl, set_mid (rfl : d.length = d.length), labelsLL_app, V.labelsLL, V.labelsL, V.labels, List.mem_append, List.not_mem_nil, List.append_nil, List.nil_append, or_false, false_or, not_or, not_false_eq_true, and_self, Nat.zero_add, dn, rn, (fun i o e => hW.ptr 0 i o e (by decide) : ∀ i o e, W (.ptr 0 i o e) = .ptr 0 i o (e.map W)), cMail, zcMail, kput] <;> rfl) ?_
    refine OkOps.nil ?_
    refine Ok.drop [14, 15, 16, 17, 18, 19, 20, 21] (by simp only [kover] <;> rfl) ?_
    refine Ok.region ?_
    iterate 3 (refine OkOps.ev tab_ok rfl (by simp only [kev, ktab, klen, kcv] <;> rfl) (by simp only [kput] <;> rfl) ?_)
    refine OkOps.nil ?_
    refine ⟨(d ++ [[.int .i64 (a[d.length]).gid, .int .i64 (a[d.length]).uid, .sl (L2a + 1) 3 0 e2a, .str (a[d.length]).text]], ma), ?_, rfl, (by dsimp only; omega), rows_snoc hi h2 h3 h4 h5 (by omega) (by simp only [V.travL, V.trav, E2a] <;> rfl) nda (fun z hz => by have := rga z hz; omega), by show a.length - (d ++ [_]).length < a.length - d.length; rw [List.length_append]; simp only [List.length_cons, List.length_nil]; omega⟩
    refine ⟨?_, ?_, ?_, ?_, ?_, ?_, ?_, ?_, ?_, ?_, ?_, ?_, ?_, ?_, ?_, ?_, ?_, ?_, ?_, ?_, ?_, ?_, ?_, trivial⟩ <;> first | exact le_any _ | with_reducible exact le_rfl' _ | (dsimp only; first | (rw [wrap_add_one (by omega)]; refine le_eqm ?_; simp only [List.length_append, List.length_cons, List.length_nil]; done) | (refine le_eqm ?_; simp only [List.length_append, List.length_cons, List.length_nil, List.append_assoc, List.cons_append, List.nil_append, Nat.zero_add]; done)) | exact le_rfl' _
  · try simp only [bsimp] at hb3
    have hi : d.length = a.length := by omega
    have hrep : List.replicate (a.length - d.length) zcMail = [] := by rw [hi, Nat.sub_self]; rfl
    rw [hrep, List.append_nil]
    rw [hi, List.take_length] at h2
    refine Ok.exit ?_
    refine Ok.seq ?_
    refine Ok.drop [12, 13] (by simp only [kover] <;> rfl) ?_
    refine Ok.region ?_
    iterate 2 (refine OkOps.ev tab_ok rfl (by simp only [kev, ktab, klen, kcv] <;> rfl) (by simp only [kput] <;> rfl) ?_)
    refine OkOps.nil ?_
    refine Ok.ret ?_
    repeat (first | with_reducible refine thenQ_ret ?_ | with_reducible refine blockQ_ret ?_)
    refine retQ.end (by show resVs tab _ [.tmp 2] = _; simp only [kev, ktab, klen, kcv] <;> rfl) rfl ?_
    exact ⟨(by simp only [packV, V.erase, V.trav, V.travLL, zz, zf, zy, h2] <;> rfl), (by intro L hL; simp only [packV, V.labels, List.mem_cons] at hL; rcases hL with hL | hL <;> first | omega | (have := h4 L hL; omega)), (by simp only [packV, V.labels, List.nodup_cons]; exact ⟨fun h => by have := h4 1 h; omega, h3⟩)⟩
theorem p_laws_toBox (x : Box) (h : smBox x) : Pure Try.prog 135 [.agg (cBox x)] (.agg (cBox x)) := by
  refine Pure.of (by simp [V.dat, V.datL, V.datLL, zz, zf, zy]) (OkCall.enter' tab_ok Try.func135 rfl (t := [.agg (cBox x), .any, .any, .any, .any, .any, .any, .any, .any, .any, .any, .any, .any, .any, .any, .any, .any, .any, .any, .any, .any, .any, .any, .any, .any, .any]) rfl ?_)
  refine Ok.seq ?_
  refine Ok.region ?_
  iterate 2 (refine OkOps.ev tab_ok rfl (by simp only [kev, ktab, klen, kcv] <;> rfl) (by simp only [kput] <;> rfl) ?_)
  refine OkOps.nil ?_
  refine Ok.seq ?_
  refine Ok.region ?_
  refine OkOps.ev tab_ok rfl (by simp only [kev, ktab, klen, kcv] <;> rfl) (by simp only [kput] <;> rfl) ?_
  refine OkOps.nil ?_
  refine Ok.seq ?_
  refine Ok.region ?_
  iterate 3 (refine OkOps.ev tab_ok rfl (by simp only [kev, ktab, klen, kcv] <;> rfl) (by simp only [kput] <;> rfl) ?_)
  refine OkOps.storeN tab_ok rfl rfl (by simp only [kev, ktab, klen, kcv] <;> rfl) ⟨_, _, by simp only [kev]; rfl⟩ (by first | (simp [V.labelsL, V.labelsLL, V.labels, zz, zf, zy]; done) | (intro h; simp [V.labelsL, V.labels] at h)) (fun W hW hF => by have w0_5 := hW.far (.sl 0 4 0 ((x).mails.map cMail)) (fun y hy h => by have h0 : y = 0 := (show ∀ y ∈ V.labels (.sl 0 4 0 ((x).mails.map cMail)), y = 0 by simp [V.labels, zz, zf, zy]) y hy; skip; omega); have w0_6 := hW.far (.sl 0 1 0 ((x).gone.map cZ)) (fun y hy h => by have h0 : y = 0 := (show ∀ y ∈ V.labels (.sl 0 1 0 ((x).gone.map cZ)), y = 0 by simp [V.labels, zz, zf, zy]) y hy; skip; omega); have p0 := fun i o e => hW.ptr (1) i o e (by omega);  have p1 := fun i o e => hW.ptr (2) i o e (by omega); simp only [List.map_cons, List.map_nil, hW.int, hW.str, hW.bool, hW.any, hW.tup0, hW.agg, hW.nilV, hF.ptr, w0_5, w0_6, p0, p1, kput] <;> rfl) ?_
  refine OkOps.nil ?_
  refine Ok.seq ?_
  refine Ok.drop [4, 5, 6] (by simp only [kover] <;> rfl) ?_
  refine Ok.region ?_
  iterate 3 (refine OkOps.ev tab_ok rfl (by simp only [kev, ktab, klen, kcv] <;> rfl) (by simp only [kput] <;> rfl) ?_)
  refine OkOps.storeN tab_ok rfl rfl (by simp only [kev, ktab, klen, kcv] <;> rfl) ⟨_, _, by simp only [kev]; rfl⟩ (by first | (simp [V.labelsL, V.labelsLL, V.labels, zz, zf, zy]; done) | (intro h; simp [V.labelsL, V.labels] at h)) (fun W hW hF => by have w0_5 := hW.far (.sl 0 4 0 ((x).mails.map cMail)) (fun y hy h => by have h0 : y = 0 := (show ∀ y ∈ V.labels (.sl 0 4 0 ((x).mails.map cMail)), y = 0 by simp [V.labels, zz, zf, zy]) y hy; skip; omega); have w0_6 := hW.far (.sl 0 1 0 ((x).gone.map cZ)) (fun y hy h => by have h0 : y = 0 := (show ∀ y ∈ V.labels (.sl 0 1 0 ((x).gone.map cZ)), y = 0 by simp [V.labels, zz, zf, zy]) y hy; skip; omega); have p0 := fun i o e => hW.ptr (1) i o e (by omega);  have p1 := fun i o e => hW.ptr (2) i o e (by omega); simp only [List.map_cons, List.map_nil, hW.int, hW.str, hW.bool, hW.any, hW.tup0, hW.agg, hW.nilV, hF.ptr, w0_5, w0_6, p0, p1, kput] <;> rfl) ?_
  refine OkOps.nil ?_
  refine Ok.seq ?_
  refine Ok.drop [7, 8, 9] (by simp only [kover] <;> rfl) ?_
  refine Ok.region ?_
  iterate 2 (refine OkOps.ev tab_ok rfl (by simp only [kev, ktab, klen, kcv] <;> rfl) (by simp only [kput] <;> rfl) ?_)
  refine OkOps.S0 rfl (OpS.weak' rfl (by simp only [kev, ktab, klen, kcv] <;> rfl) (by simp only [kev, ktab, klen, kcv] <;> rfl) cl142 (w_own_toStamp x.named)) (by simp only [kput] <;> rfl) ?_
  refine OkOps.ev tab_ok rfl (by simp only [kev, ktab, klen, kcv] <;> rfl) (by simp only [kput] <;> rfl) ?_
  refine OkOps.storeN tab_ok rfl rfl (by simp only [kev, ktab, klen, kcv] <;> rfl) ⟨_, _, by simp only [kev]; rfl⟩ (by first | (simp [V.labelsL, V.labelsLL, V.labels, zz, zf, zy]; done) | (intro h; simp [V.labelsL, V.labels] at h)) (fun W hW hF => by have w0_5 := hW.far (.sl 0 4 0 ((x).mails.map cMail)) (fun y hy h => by have h0 : y = 0 := (show ∀ y ∈ V.labels (.sl 0 4 0 ((x).mails.map cMail)), y = 0 by simp [V.labels, zz, zf, zy]) y hy; skip; omega); have w0_6 := hW.far (.sl 0 1 0 ((x).gone.map cZ)) (fun y hy h => by have h0 : y = 0 := (show ∀ y ∈ V.labels (.sl 0 1 0 ((x).gone.map cZ)), y = 0 by simp [V.labels, zz, zf, zy]) y hy; skip; omega); have p0 := fun i o e => hW.ptr (1) i o e (by omega);  have p1 := fun i o e => hW.ptr (2) i o e (by omega); simp only [List.map_cons, List.map_nil, hW.int, hW.str, hW.bool, hW.any, hW.tup0, hW.agg, hW.nilV, hF.ptr, w0_5, w0_6, p0, p1, kput] <;> rfl) ?_
  refine OkOps.nil ?_
  refine Ok.seq ?_
  refine Ok.drop [10, 11, 12, 13] (by simp only [kover] <;> rfl) ?_
  refine Ok.region ?_
  iterate 3 (refine OkOps.ev tab_ok rfl (by simp only [kev, ktab, klen, kcv] <;> rfl) (by simp only [kput] <;> rfl) ?_)
  refine OkOps.storeN tab_ok rfl rfl (by simp only [kev, ktab, klen, kcv] <;> rfl) ⟨_, _, by simp only [kev]; rfl⟩ (by first | (simp [V.labelsL, V.labelsLL, V.labels, zz, zf, zy]; done) | (intro h; simp [V.labelsL, V.labels] at h)) (fun W hW hF => by have w0_5 := hW.far (.sl 0 4 0 ((x).mails.map cMail)) (fun y hy h => by have h0 : y = 0 := (show ∀ y ∈ V.labels (.sl 0 4 0 ((x).mails.map cMail)), y = 0 by simp [V.labels, zz, zf, zy]) y hy; skip; omega); have w0_6 := hW.far (.sl 0 1 0 ((x).gone.map cZ)) (fun y hy h => by have h0 : y = 0 := (show ∀ y ∈ V.labels (.sl 0 1 0 ((x).gone.map cZ)), y = 0 by simp [V.labels, zz, zf, zy]) y hy; skip; omega); have p0 := fun i o e => hW.ptr (1) i o e (by omega);  have p1 := fun i o e => hW.ptr (2) i o e (by omega); simp only [List.map_cons, List.map_nil, hW.int, hW.str, hW.bool, hW.any, hW.tup0, hW.agg, hW.nilV, hF.ptr, w0_5, w0_6, p0, p1, kput] <;> rfl) ?_
  refine OkOps.nil ?_
  refine Ok.seq ?_
  refine Ok.drop [14, 15, 16] (by simp only [kover] <;> rfl) ?_
  refine Ok.region ?_
  iterate 2 (refine OkOps.ev tab_ok rfl (by simp only [kev, ktab, klen, kcv] <;> rfl) (by simp only [kput] <;> rfl) ?_)
  obtain ⟨L0a, e0a, hXa, q0a, E0a, M0a, N0a, nda, rga⟩ := ownSMail (3) (x.mails)
  obtain ⟨ma, hma⟩ : ∃ m, 3 + 1 + V.cnt (.sl 0 4 0 ((x.mails).map cMail)) = m + 1 := ⟨3 + V.cnt (.sl 0 4 0 ((x.mails).map cMail)), by omega⟩
  have r0a : ∀ z ∈ V.labels (.sl (L0a + 1) 4 0 e0a), 3 + 1 ≤ z ∧ z < ma + 1 := fun z hz => by have := rga z (by first | exact hz | (simp only [V.labelsL, V.labels, List.mem_append] at hz ⊢; simp only [hz, true_or, or_true])); omega
  refine OkOps.S' rfl (OpS.pure' rfl (by simp only [kev, ktab, klen, kcv] <;> rfl) (by simp only [kev, ktab, klen, kcv, V.eraseL, V.erase, V.travL, V.trav, zz, zf, zy] <;> rfl) cl143 (by simp [V.dat, V.datL, V.datLL, zz, zf, zy]) (p_laws_toMailS x.mails h.2.1.1 h.2.1.2)) hma (by simp only [kput, hXa] <;> rfl) ?_
  refine OkOps.ev tab_ok rfl (by simp only [kev, ktab, klen, kcv] <;> rfl) (by simp only [kput] <;> rfl) ?_
  refine OkOps.storeN tab_ok rfl rfl (by simp only [kev, ktab, klen, kcv] <;> rfl) ⟨_, _, by simp only [kev]; rfl⟩ (by first | (simp [V.labelsL, V.labelsLL, V.labels, zz, zf, zy]; done) | (intro h; simp only [V.labelsL, V.labels, List.mem_append, List.append_nil, List.nil_append, List.not_mem_nil, or_false, false_or] at h; first | (have := r0a _ h; omega))) (fun W hW hF => by have z0a := hW.far (.sl (L0a + 1) 4 0 e0a) (fun y hy h => by have := r0a y hy; skip; omega); have zz0a := fun K => hW.far (.sl (L0a + 1) 4 0 (V.mkLL K e0a)) (fun y hy h => by have := r0a y (by simp only [V.labels, mkLL_labels] at hy; exact hy); skip; omega); have w0_5 := hW.far (.sl 0 4 0 ((x).mails.map cMail)) (fun y hy h => by have h0 : y = 0 := (show ∀ y ∈ V.labels (.sl 0 4 0 ((x).mails.map cMail)), y = 0 by simp [V.labels, zz, zf, zy]) y hy; skip; omega); have w0_6 := hW.far (.sl 0 1 0 ((x).gone.map cZ)) (fun y hy h => by have h0 : y = 0 := (show ∀ y ∈ V.labels (.sl 0 1 0 ((x).gone.map cZ)), y = 0 by simp [V.labels, zz, zf, zy]) y hy; skip; omega); have p0 := fun i o e => hW.ptr (1) i o e (by omega);  have p1 := fun i o e => hW.ptr (2) i o e (by omega); simp only [List.map_cons, List.map_nil, hW.int, hW.str, hW.bool, hW.any, hW.tup0, hW.agg, hW.nilV, hF.ptr, z0a, zz0a, w0_5, w0_6, p0, p1, kput] <;> rfl) ?_
  refine OkOps.nil ?_
  refine Ok.seq ?_
  refine Ok.drop [17, 18, 19, 20] (by simp only [kover] <;> rfl) ?_
  refine Ok.region ?_
  iterate 2 (refine OkOps.ev tab_ok rfl (by simp only [kev, ktab, klen, kcv] <;> rfl) (by simp only [kput] <;> rfl) ?_)
  obtain ⟨L0b, e0b, hXb, q0b, E0b, M0b, N0b, ndb, rgb⟩ := ownSInt (ma) (x.gone)
  obtain ⟨mb, hmb⟩ : ∃ m, ma + 1 + V.cnt (.sl 0 1 0 ((x.gone).map cZ)) = m + 1 := ⟨ma + V.cnt (.sl 0 1 0 ((x.gone).map cZ)), by omega⟩
  have r0b : ∀ z ∈ V.labels (.sl (L0b + 1) 1 0 e0b), ma + 1 ≤ z ∧ z < mb + 1 := fun z hz => by have := rgb z (by first | exact hz | (simp only [V.labelsL, V.labels, List.mem_append] at hz ⊢; simp only [hz, true_or, or_true])); omega
  refine OkOps.S' rfl (OpS.pure' rfl (by simp only [kev, ktab, klen, kcv] <;> rfl) (by simp only [kev, ktab, klen, kcv, E0a, M0a, N0a, V.eraseL, V.erase, V.travL, V.trav, zz, zf, zy] <;> rfl) cl88 (by simp [V.dat, V.datL, V.datLL, zz, zf, zy]) (p_laws_toIntS x.gone h.2.2)) hmb (by simp only [kput, hXb] <;> rfl) ?_
  refine OkOps.ev tab_ok rfl (by simp only [kev, ktab, klen, kcv] <;> rfl) (by simp only [kput] <;> rfl) ?_
  refine OkOps.storeN tab_ok rfl rfl (by simp only [kev, ktab, klen, kcv] <;> rfl) ⟨_, _, by simp only [kev]; rfl⟩ (by first | (simp [V.labelsL, V.labelsLL, V.labels, zz, zf, zy]; done) | (intro h; simp only [V.labelsL, V.labels, List.mem_append, List.append_nil, List.nil_append, List.not_mem_nil, or_false, false_or] at h; rcases h with h | h <;> first | (have := r0a _ h; omega) | (have := r0b _ h; omega))) (fun W hW hF => by have z0a := hW.far (.sl (L0a + 1) 4 0 e0a) (fun y hy h => by have := r0a y hy; skip; omega); have zz0a := fun K => hW.far (.sl (L0a + 1) 4 0 (V.mkLL K e0a)) (fun y hy h => by have := r0a y (by simp only [V.labels, mkLL_labels] at hy; exact hy); skip; omega); have z0b := hW.far (.sl (L0b + 1) 1 0 e0b) (fun y hy h => by have := r0b y hy; skip; omega); have zz0b := fun K => hW.far (.sl (L0b + 1) 1 0 (V.mkLL K e0b)) (fun y hy h => by have := r0b y (by simp only [V.labels, mkLL_labels] at hy; exact hy); skip; omega); have w0_5 := hW.far (.sl 0 4 0 ((x).mails.map cMail)) (fun y hy h => by have h0 : y = 0 := (show ∀ y ∈ V.labels (.sl 0 4 0 ((x).mails.map cMail)), y = 0 by simp [V.labels, zz, zf, zy]) y hy; skip; omega); have w0_6 := hW.far (.sl 0 1 0 ((x).gone.map cZ)) (fun y hy h => by have h0 : y = 0 := (show ∀ y ∈ V.labels (.sl 0 1 0 ((x).gone.map cZ)), y = 0 by simp [V.labels, zz, zf, zy]) y hy; skip; omega); have p0 := fun i o e => hW.ptr (1) i o e (by omega);  have p1 := fun i o e => hW.ptr (2) i o e (by omega); simp only [List.map_cons, List.map_nil, hW.int, hW.str, hW.bool, hW.any, hW.tup0, hW.agg, hW.nilV, hF.ptr, z0a, zz0a, z0b, zz0b, w0_5, w0_6, p0, p1, kput] <;> rfl) ?_
  refine OkOps.nil ?_
  refine Ok.seq ?_
  refine Ok.drop [21, 22, 23, 24] (by simp only [kover] <;> rfl) ?_
  refine Ok.region ?_
  refine OkOps.ev tab_ok rfl (by simp only [kev, ktab, klen, kcv] <;> rfl) (by simp only [kput] <;> rfl) ?_
  refine OkOps.storeN tab_ok rfl rfl (by simp only [kev, ktab, klen, kcv] <;> rfl) ⟨_, _, by simp only [kev]; rfl⟩ (by first | (simp [V.labelsL, V.labelsLL, V.labels, zz, zf, zy]; done) | (intro h; simp only [V.labelsL, V.labels, List.mem_append, List.append_nil, List.nil_append, List.not_mem_nil, or_false, false_or] at h; rcases h with h | h <;> first | (have := r0a _ h; omega) | (have := r0b _ h; omega))) (fun W hW hF => by have z0a := hW.far (.sl (L0a + 1) 4 0 e0a) (fun y hy h => by have := r0a y hy; skip; omega); have zz0a := fun K => hW.far (.sl (L0a + 1) 4 0 (V.mkLL K e0a)) (fun y hy h => by have := r0a y (by simp only [V.labels, mkLL_labels] at hy; exact hy); skip; omega); have z0b := hW.far (.sl (L0b + 1) 1 0 e0b) (fun y hy h => by have := r0b y hy; skip; omega); have zz0b := fun K => hW.far (.sl (L0b + 1) 1 0 (V.mkLL K e0b)) (fun y hy h => by have := r0b y (by simp only [V.labels, mkLL_labels] at hy; exact hy); skip; omega); have w0_5 := hW.far (.sl 0 4 0 ((x).mails.map cMail)) (fun y hy h => by have h0 : y = 0 := (show ∀ y ∈ V.labels (.sl 0 4 0 ((x).mails.map cMail)), y = 0 by simp [V.labels, zz, zf, zy]) y hy; skip; omega); have w0_6 := hW.far (.sl 0 1 0 ((x).gone.map cZ)) (fun y hy h => by have h0 : y = 0 := (show ∀ y ∈ V.labels (.sl 0 1 0 ((x).gone.map cZ)), y = 0 by simp [V.labels, zz, zf, zy]) y hy; skip; omega); have p0 := fun i o e => hW.ptr (1) i o e (by omega);  have p2 := fun i o e => hW.ptr (3) i o e (by omega); simp only [List.map_cons, List.map_nil, hW.int, hW.str, hW.bool, hW.any, hW.tup0, hW.agg, hW.nilV, hF.ptr, z0a, zz0a, z0b, zz0b, w0_5, w0_6, p0, p2, kput] <;> rfl) ?_
  refine OkOps.nil ?_
  refine Ok.ret ?_
  repeat (first | with_reducible refine thenQ_ret ?_ | with_reducible refine blockQ_ret ?_)
  refine retQ.end (by show resVs tab _ [.cell 2 131] = _; simp only [kev, ktab, klen, kcv] <;> rfl) rfl ?_
  exact ⟨(by simp only [packV, V.erase, V.trav, V.travL, V.travLL, zz, zf, zy, E0a, E0b] <;> rfl), (by intro L hL; simp only [packV, V.labels, V.labelsL, List.append_nil, List.nil_append] at hL; (try rw [List.mem_append] at hL); (try rw [List.mem_append] at hL); rcases hL with hL | hL <;>  first | (have := r0a L hL; omega) | (have := r0b L hL; omega)), (by have n1 := nda; have n2 := ndb; simp only [V.labels, V.labelsL, List.append_nil, List.nil_append] at n1 n2; simp only [packV, V.labels, V.labelsL, List.append_nil, List.nil_append]; rw [List.nodup_append]; exact ⟨n1, n2, fun y hy z hz h => by (have q2 := r0b z hz; first | (have q1 := r0a y hy; omega))⟩)⟩
theorem p_laws_toBoxS (a : List Box) (ha : a.length ≤ 1048576) (hz : ∀ z ∈ a, smBox z) : Pure Try.prog 114 [.sl 0 7 0 (a.map cBox)] (.sl 0 7 0 (a.map cBox)) := by
  refine Pure.of (by simp [V.dat, V.datL, V.datLL, zz, zf, zy]) (OkCall.enter' tab_ok Try.func114 rfl (t := [.sl 0 7 0 (a.map cBox), .any, .any, .any, .any, .any, .any, .any, .any, .any, .any, .any, .any, .any, .any, .any, .any, .any, .any, .any, .any, .any, .any]) rfl ?_)
  refine Ok.seq ?_
  refine Ok.region ?_
  refine OkOps.ev tab_ok rfl (by simp only [kev, ktab, klen, kcv] <;> rfl) (by simp only [kput] <;> rfl) ?_
  refine OkOps.nil ?_
  refine Ok.seq ?_
  refine Ok.region ?_
  iterate 2 (refine OkOps.ev tab_ok rfl (by simp only [kev, ktab, klen, kcv] <;> rfl) (by simp only [kput] <;> rfl) ?_)
  refine OkOps.S' rfl (ok_makeSlice (a := a.length) (b := a.length) tab_ok (by simp only [ktab] <;> rfl) (by simp only [ktab] <;> rfl) (by decide) rfl rfl (by simp only [kev, klen] <;> rfl) (by simp only [kev, klen] <;> rfl) (by omega) (by omega) (by omega) (by show ((96 : Nat) : Int) * _ ≤ _; omega)) (by simp only [Nat.reduceAdd] <;> rfl) (by simp only [kput, Int.toNat_natCast] <;> rfl) ?_
  refine OkOps.ev tab_ok rfl (by simp only [kev, ktab, klen, kcv] <;> rfl) (by simp only [kput] <;> rfl) ?_
  refine OkOps.nil ?_
  refine Ok.seq ?_
  refine Ok.seq ?_
  refine Ok.drop [5, 6, 7] (by simp only [kover] <;> rfl) ?_
  refine Ok.region ?_
  refine OkOps.ev tab_ok rfl (by simp only [kev, ktab, klen, kcv] <;> rfl) (by simp only [kput] <;> rfl) ?_
  refine OkOps.nil ?_
  refine Ok.block ?_
  refine Ok.loopN (τ := List (List V) × Nat) (fun x => [(3, .sl 1 7 0 (x.1 ++ List.replicate (a.length - x.1.length) zcBox)), (4, .int .i64 (x.1.length : Int)), (7, .any)]) [8, 9, 10, 11, 12, 13, 14, 15, 16, 17, 18, 19, 20, 21] (fun x => by simp only [kover] <;> rfl) (fun x => x.2 + 1) (fun x => x.1.length ≤ a.length ∧ V.travLL (fun sz => V.sl 0 sz 0 []) (fun _ sz _ es => V.sl 0 sz 0 es) (fun _ _ o e => V.ptr 0 0 o e) x.1 = (a.take x.1.length).map cBox ∧ (V.labelsLL x.1).Nodup ∧ (∀ z ∈ V.labelsLL x.1, 2 ≤ z ∧ z < x.2 + 1) ∧ 1 ≤ x.2) (fun x => a.length - x.1.length) ([], 1) (by refine ⟨?_, ?_, ?_, ?_, ?_, ?_, ?_, ?_, ?_, ?_, ?_, ?_, ?_, ?_, ?_, ?_, ?_, ?_, ?_, ?_, ?_, ?_, ?_, trivial⟩ <;> first | exact le_any _ | with_reducible exact le_rfl' _ | ((first | exact le_rfl' _ | (refine le_eqm ?_; simp only [List.nil_append, List.length_nil, Nat.sub_zero]; done))) | exact le_rfl' _) (by decide) (⟨Nat.zero_le _, rfl, List.nodup_nil, (fun z hz => by cases hz), Nat.le_refl _⟩) ?_
  rintro ⟨d, k⟩ ⟨h1, h2, h3, h4, h5⟩
  have h1 : d.length ≤ a.length := h1
  have h2 : V.travLL (fun sz => V.sl 0 sz 0 []) (fun _ sz _ es => V.sl 0 sz 0 es) (fun _ _ o e => V.ptr 0 0 o e) d = (a.take d.length).map cBox := h2
  have h3 : (V.labelsLL d).Nodup := h3
  have h4 : ∀ z ∈ V.labelsLL d, 2 ≤ z ∧ z < k + 1 := h4
  have h5 : 1 ≤ k := h5
  refine Ok.seq ?_
  refine Ok.seq ?_
  refine Ok.region ?_
  iterate 4 (refine OkOps.ev tab_ok rfl (by simp only [kev, ktab, klen, kcv] <;> rfl) (by simp only [kput] <;> rfl) ?_)
  refine OkOps.nil ?_
  refine Ok.cond (b := _) (by simp only [kev, ktab, klen, kcv] <;> rfl) (fun hb3 => ?_) (fun hb3 => ?_)
  · try simp only [bsimp] at hb3
    have hi : d.length < a.length := by omega
    have hrep : List.replicate (a.length - d.length) zcBox = zcBox :: List.replicate (a.length - (d.length + 1)) zcBox := by rw [show a.length - d.length = a.length - (d.length + 1) + 1 by omega]; rfl
    rw [hrep]
    have dn : ¬ (1 ∈ V.labelsLL d) := fun h => by have := h4 1 h; omega
    have rn := lab_rep (n := a.length - (d.length + 1)) (c := zcBox) rfl
    refine Ok.skip ?_
    refine Ok.seq ?_
    refine Ok.block ?_
    refine Ok.drop [8, 9, 10, 11] (by simp only [kover] <;> rfl) ?_
    refine Ok.region ?_
    iterate 4 (refine OkOps.ev tab_ok rfl (by simp only [kev, ktab, klen, kcv] <;> rfl) (by simp only [kput] <;> rfl) ?_)
    refine OkOps.ev tab_ok rfl (ev_idx_map (by simp only [kev, ktab, klen, kcv] <;> rfl) (by simp only [kev, ktab, klen, kcv] <;> rfl) (by omega) (by simp only [kev, ktab, klen, kcv] <;> rfl)) (by simp only [kput] <;> rfl) ?_
    refine OkOps.ev tab_ok rfl (by simp only [kev, ktab, klen, kcv] <;> rfl) (by simp only [kput] <;> rfl) ?_
    obtain ⟨L5a, e5a, L6a, e6a, hXa, q5a, E5a, M5a, N5a, q6a, E6a, M6a, N6a, nda, rga⟩ := ownBox (k) (a[d.length])
    obtain ⟨ma, hma⟩ : ∃ m, k + 1 + V.cnt (.agg (cBox (a[d.length]))) = m + 1 := ⟨k + V.cnt (.agg (cBox (a[d.length]))), by omega⟩
    have r5a : ∀ z ∈ V.labels (.sl (L5a + 1) 4 0 e5a), k + 1 ≤ z ∧ z < ma + 1 := fun z hz => by have := rga z (by first | exact hz | (simp only [V.labelsL, V.labels, List.mem_append] at hz ⊢; simp only [hz, true_or, or_true])); omega
    have r6a : ∀ z ∈ V.labels (.sl (L6a + 1) 1 0 e6a), k + 1 ≤ z ∧ z < ma + 1 := fun z hz => by have := rga z (by first | exact hz | (simp only [V.labelsL, V.labels, List.mem_append] at hz ⊢; simp only [hz, true_or, or_true])); omega
    refine OkOps.S' rfl (OpS.pure' rfl (by simp only [kev, ktab, klen, kcv] <;> rfl) (by simp only [kev, ktab, klen, kcv, V.eraseL, V.erase, V.travL, V.trav, zz, zf, zy] <;> rfl) cl135 (by simp [V.dat, V.datL, V.datLL, zz, zf, zy]) (p_laws_toBox a[d.length] (hz _ (List.getElem_mem hi)))) hma (by simp only [kput, hXa] <;> rfl) ?_
    refine OkOps.ev tab_ok rfl (ev_idx (by simp only [kev, ktab, klen, kcv] <;> rfl) (by simp only [kev, ktab, klen, kcv] <;> rfl) (get_mid rfl) (by simp only [kev, ktab, klen, kcv] <;> rfl)) (by simp only [kput] <;> rfl) ?_
    refine OkOps.storeN tab_ok rfl rfl (by simp only [kev, ktab, klen, kcv] <;> rfl) ⟨_, _, by simp only [kev]; rfl⟩ (by first | (simp [V.labelsL, V.labelsLL, V.labels, zz, zf, zy]; done) | (intro h; simp only [V.labelsL, V.labels, List.mem_append, List.append_nil, List.nil_append, List.not_mem_nil, or_false, false_or] at h; rcases h with h | h <;> first | (have := r5a _ h; omega) | (have := r6a _ h; omega))) (fun W hW hF => by have z5a := hW.far (.sl (L5a + 1) 4 0 e5a) (fun y hy h => by have := r5a y hy; skip; omega); have zz5a := fun K => hW.far (.sl (L5a + 1) 4 0 (V.mkLL K e5a)) (fun y hy h => by have := r5a y (by simp only [V.labels, mkLL_labels] at hy; exact hy); skip; omega); have z6a := hW.far (.sl (L6a + 1) 1 0 e6a) (fun y hy h => by have := r6a y hy; skip; omega); have zz6a := fun K => hW.far (.sl (L6a + 1) 1 0 (V.mkLL K e6a)) (fun y hy h => by have := r6a y (by simp only [V.labels, mkLL_labels] at hy; exact hy); skip; omega); have w0_0 := hW.far (.sl 0 7 0 (a.map cBox)) (fun y hy h => by have h0 : y = 0 := (show ∀ y ∈ V.labels (.sl 0 7 0 (a.map cBox)), y = 0 by simp [V.labels, zz, zf, zy]) y hy; skip; omega); have w1_5 := hW.far (.sl 0 4 0 ((a[d.length]).mails.map cMail)) (fun y hy h => by have h0 : y = 0 := (show ∀ y ∈ V.labels (.sl 0 4 0 ((a[d.length]).mails.map cMail)), y = 0 by simp [V.labels, zz, zf, zy]) y hy; skip; omega); have w1_6 := hW.far (.sl 0 1 0 ((a[d.length]).gone.map cZ)) (fun y hy h => by have h0 : y = 0 := (show ∀ y ∈ V.labels (.sl 0 1 0 ((a[d.length]).gone.map cZ)), y = 0 by simp [V.labels, zz, zf, zy]) y hy; skip; omega); simp only [List.map_cons, List.map_nil, hW.int, hW.str, hW.bool, hW.any, hW.tup0, hW.agg, hW.nilV, hF.ptr, z5a, zz5a, z6a, zz6a, w0_0, w1_5, w1_6, hF.sl, set_mid (rfl : d.length = d.length), labelsLL_app, V.labelsLL, V.labelsL, V.labels, List.mem_append, List.not_mem_nil, List.append_nil, List.nil_append, or_false, false_or, not_or, not_false_eq_true, and_self, Nat.zero_add, dn, rn, (fun i o e => hW.ptr 0 i o e (by decide) : ∀ i o e, W (.ptr 0 i o e) = .ptr 0 i o (e.map W)), cBox, zcBox, kput] <;> rfl) ?_
    refine OkOps.nil ?_
    refine Ok.drop [14, 15, 16, 17, 18, 19, 20, 21] (by simp only [kover] <;> rfl) ?_
    refine Ok.region ?_
    iterate 3 (refine OkOps.ev tab_ok rfl (by simp only [kev, ktab, klen, kcv] <;> rfl) (by simp only [kput] <;> rfl) ?_)
    refine OkOps.nil ?_
    refine ⟨(d ++ [[.int .i64 (a[d.length]).gid, .str (a[d.length]).name, .int .i64 (a[d.length]).named.time, .int .i64 (a[d.length]).named.by_, .int .i64 (a[d.length]).next, .sl (L5a + 1) 4 0 e5a, .sl (L6a + 1) 1 0 e6a]], ma), ?_, rfl, (by dsimp only; omega), rows_snoc hi h2 h3 h4 h5 (by omega) (by simp only [V.travL, V.trav, E5a, E6a] <;> rfl) nda (fun z hz => by have := rga z hz; omega), by show a.length - (d ++ [_]).length < a.length - d.length; rw [List.length_append]; simp only [List.length_cons, List.length_nil]; omega⟩
    refine ⟨?_, ?_, ?_, ?_, ?_, ?_, ?_, ?_, ?_, ?_, ?_, ?_, ?_, ?_, ?_, ?_, ?_, ?_, ?_, ?_, ?_, ?_, ?_, trivial⟩ <;> first | exact le_any _ | with_reducible exact le_rfl' _ | (dsimp only; first | (rw [wrap_add_one (by omega)]; refine le_eqm ?_; simp only [List.length_append, List.length_cons, List.length_nil]; done) | (refine le_eqm ?_; simp only [List.length_append, List.length_cons, List.length_nil, List.append_assoc, List.cons_append, List.nil_append, Nat.zero_add]; done)) | exact le_rfl' _
  · try simp only [bsimp] at hb3
    have hi : d.length = a.length := by omega
    have hrep : List.replicate (a.length - d.length) zcBox = [] := by rw [hi, Nat.sub_self]; rfl
    rw [hrep, List.append_nil]
    rw [hi, List.take_length] at h2
    refine Ok.exit ?_
    refine Ok.seq ?_
    refine Ok.drop [12, 13] (by simp only [kover] <;> rfl) ?_
    refine Ok.region ?_
    iterate 2 (refine OkOps.ev tab_ok rfl (by simp only [kev, ktab, klen, kcv] <;> rfl) (by simp only [kput] <;> rfl) ?_)
    refine OkOps.nil ?_
    refine Ok.ret ?_
    repeat (first | with_reducible refine thenQ_ret ?_ | with_reducible refine blockQ_ret ?_)
    refine retQ.end (by show resVs tab _ [.tmp 2] = _; simp only [kev, ktab, klen, kcv] <;> rfl) rfl ?_
    exact ⟨(by simp only [packV, V.erase, V.trav, V.travLL, zz, zf, zy, h2] <;> rfl), (by intro L hL; simp only [packV, V.labels, List.mem_cons] at hL; rcases hL with hL | hL <;> first | omega | (have := h4 L hL; omega)), (by simp only [packV, V.labels, List.nodup_cons]; exact ⟨fun h => by have := h4 1 h; omega, h3⟩)⟩
theorem p_laws_toStore (x : Store) (h : smStore x) : Pure Try.prog 87 [.agg (cStore x)] (.agg (cStore x)) := by
  refine Pure.of (by simp [V.dat, V.datL, V.datLL, zz, zf, zy]) (OkCall.enter' tab_ok Try.func87 rfl (t := [.agg (cStore x), .any, .any, .any, .any, .any, .any, .any, .any, .any, .any, .any, .any, .any, .any, .any, .any, .any, .any]) rfl ?_)
  refine Ok.seq ?_
  refine Ok.region ?_
  iterate 2 (refine OkOps.ev tab_ok rfl (by simp only [kev, ktab, klen, kcv] <;> rfl) (by simp only [kput] <;> rfl) ?_)
  refine OkOps.nil ?_
  refine Ok.seq ?_
  refine Ok.region ?_
  refine OkOps.ev tab_ok rfl (by simp only [kev, ktab, klen, kcv] <;> rfl) (by simp only [kput] <;> rfl) ?_
  refine OkOps.nil ?_
  refine Ok.seq ?_
  refine Ok.region ?_
  iterate 3 (refine OkOps.ev tab_ok rfl (by simp only [kev, ktab, klen, kcv] <;> rfl) (by simp only [kput] <;> rfl) ?_)
  refine OkOps.storeN tab_ok rfl rfl (by simp only [kev, ktab, klen, kcv] <;> rfl) ⟨_, _, by simp only [kev]; rfl⟩ (by first | (simp [V.labelsL, V.labelsLL, V.labels, zz, zf, zy]; done) | (intro h; simp [V.labelsL, V.labels] at h)) (fun W hW hF => by have w0_2 := hW.far (.sl 0 7 0 ((x).boxes.map cBox)) (fun y hy h => by have h0 : y = 0 := (show ∀ y ∈ V.labels (.sl 0 7 0 ((x).boxes.map cBox)), y = 0 by simp [V.labels, zz, zf, zy]) y hy; skip; omega); have w0_3 := hW.far (.sl 0 1 0 ((x).gone.map cZ)) (fun y hy h => by have h0 : y = 0 := (show ∀ y ∈ V.labels (.sl 0 1 0 ((x).gone.map cZ)), y = 0 by simp [V.labels, zz, zf, zy]) y hy; skip; omega); have p0 := fun i o e => hW.ptr (1) i o e (by omega);  have p1 := fun i o e => hW.ptr (2) i o e (by omega); simp only [List.map_cons, List.map_nil, hW.int, hW.str, hW.bool, hW.any, hW.tup0, hW.agg, hW.nilV, hF.ptr, w0_2, w0_3, p0, p1, kput] <;> rfl) ?_
  refine OkOps.nil ?_
  refine Ok.seq ?_
  refine Ok.drop [4, 5, 6] (by simp only [kover] <;> rfl) ?_
  refine Ok.region ?_
  iterate 3 (refine OkOps.ev tab_ok rfl (by simp only [kev, ktab, klen, kcv] <;> rfl) (by simp only [kput] <;> rfl) ?_)
  refine OkOps.storeN tab_ok rfl rfl (by simp only [kev, ktab, klen, kcv] <;> rfl) ⟨_, _, by simp only [kev]; rfl⟩ (by first | (simp [V.labelsL, V.labelsLL, V.labels, zz, zf, zy]; done) | (intro h; simp [V.labelsL, V.labels] at h)) (fun W hW hF => by have w0_2 := hW.far (.sl 0 7 0 ((x).boxes.map cBox)) (fun y hy h => by have h0 : y = 0 := (show ∀ y ∈ V.labels (.sl 0 7 0 ((x).boxes.map cBox)), y = 0 by simp [V.labels, zz, zf, zy]) y hy; skip; omega); have w0_3 := hW.far (.sl 0 1 0 ((x).gone.map cZ)) (fun y hy h => by have h0 : y = 0 := (show ∀ y ∈ V.labels (.sl 0 1 0 ((x).gone.map cZ)), y = 0 by simp [V.labels, zz, zf, zy]) y hy; skip; omega); have p0 := fun i o e => hW.ptr (1) i o e (by omega);  have p1 := fun i o e => hW.ptr (2) i o e (by omega); simp only [List.map_cons, List.map_nil, hW.int, hW.str, hW.bool, hW.any, hW.tup0, hW.agg, hW.nilV, hF.ptr, w0_2, w0_3, p0, p1, kput] <;> rfl) ?_
  refine OkOps.nil ?_
  refine Ok.seq ?_
  refine Ok.drop [7, 8, 9] (by simp only [kover] <;> rfl) ?_
  refine Ok.region ?_
  iterate 2 (refine OkOps.ev tab_ok rfl (by simp only [kev, ktab, klen, kcv] <;> rfl) (by simp only [kput] <;> rfl) ?_)
  obtain ⟨L0a, e0a, hXa, q0a, E0a, M0a, N0a, nda, rga⟩ := ownSBox (3) (x.boxes)
  obtain ⟨ma, hma⟩ : ∃ m, 3 + 1 + V.cnt (.sl 0 7 0 ((x.boxes).map cBox)) = m + 1 := ⟨3 + V.cnt (.sl 0 7 0 ((x.boxes).map cBox)), by omega⟩
  have r0a : ∀ z ∈ V.labels (.sl (L0a + 1) 7 0 e0a), 3 + 1 ≤ z ∧ z < ma + 1 := fun z hz => by have := rga z (by first | exact hz | (simp only [V.labelsL, V.labels, List.mem_append] at hz ⊢; simp only [hz, true_or, or_true])); omega
  refine OkOps.S' rfl (OpS.pure' rfl (by simp only [kev, ktab, klen, kcv] <;> rfl) (by simp only [kev, ktab, klen, kcv, V.eraseL, V.erase, V.travL, V.trav, zz, zf, zy] <;> rfl) cl114 (by simp [V.dat, V.datL, V.datLL, zz, zf, zy]) (p_laws_toBoxS x.boxes h.1.1 h.1.2)) hma (by simp only [kput, hXa] <;> rfl) ?_
  refine OkOps.ev tab_ok rfl (by simp only [kev, ktab, klen, kcv] <;> rfl) (by simp only [kput] <;> rfl) ?_
  refine OkOps.storeN tab_ok rfl rfl (by simp only [kev, ktab, klen, kcv] <;> rfl) ⟨_, _, by simp only [kev]; rfl⟩ (by first | (simp [V.labelsL, V.labelsLL, V.labels, zz, zf, zy]; done) | (intro h; simp only [V.labelsL, V.labels, List.mem_append, List.append_nil, List.nil_append, List.not_mem_nil, or_false, false_or] at h; first | (have := r0a _ h; omega))) (fun W hW hF => by have z0a := hW.far (.sl (L0a + 1) 7 0 e0a) (fun y hy h => by have := r0a y hy; skip; omega); have zz0a := fun K => hW.far (.sl (L0a + 1) 7 0 (V.mkLL K e0a)) (fun y hy h => by have := r0a y (by simp only [V.labels, mkLL_labels] at hy; exact hy); skip; omega); have w0_2 := hW.far (.sl 0 7 0 ((x).boxes.map cBox)) (fun y hy h => by have h0 : y = 0 := (show ∀ y ∈ V.labels (.sl 0 7 0 ((x).boxes.map cBox)), y = 0 by simp [V.labels, zz, zf, zy]) y hy; skip; omega); have w0_3 := hW.far (.sl 0 1 0 ((x).gone.map cZ)) (fun y hy h => by have h0 : y = 0 := (show ∀ y ∈ V.labels (.sl 0 1 0 ((x).gone.map cZ)), y = 0 by simp [V.labels, zz, zf, zy]) y hy; skip; omega); have p0 := fun i o e => hW.ptr (1) i o e (by omega);  have p1 := fun i o e => hW.ptr (2) i o e (by omega); simp only [List.map_cons, List.map_nil, hW.int, hW.str, hW.bool, hW.any, hW.tup0, hW.agg, hW.nilV, hF.ptr, z0a, zz0a, w0_2, w0_3, p0, p1, kput] <;> rfl) ?_
  refine OkOps.nil ?_
  refine Ok.seq ?_
  refine Ok.drop [10, 11, 12, 13] (by simp only [kover] <;> rfl) ?_
  refine Ok.region ?_
  iterate 2 (refine OkOps.ev tab_ok rfl (by simp only [kev, ktab, klen, kcv] <;> rfl) (by simp only [kput] <;> rfl) ?_)
  obtain ⟨L0b, e0b, hXb, q0b, E0b, M0b, N0b, ndb, rgb⟩ := ownSInt (ma) (x.gone)
  obtain ⟨mb, hmb⟩ : ∃ m, ma + 1 + V.cnt (.sl 0 1 0 ((x.gone).map cZ)) = m + 1 := ⟨ma + V.cnt (.sl 0 1 0 ((x.gone).map cZ)), by omega⟩
  have r0b : ∀ z ∈ V.labels (.sl (L0b + 1) 1 0 e0b), ma + 1 ≤ z ∧ z < mb + 1 := fun z hz => by have := rgb z (by first | exact hz | (simp only [V.labelsL, V.labels, List.mem_append] at hz ⊢; simp only [hz, true_or, or_true])); omega
  refine OkOps.S' rfl (OpS.pure' rfl (by simp only [kev, ktab, klen, kcv] <;> rfl) (by simp only [kev, ktab, klen, kcv, E0a, M0a, N0a, V.eraseL, V.erase, V.travL, V.trav, zz, zf, zy] <;> rfl) cl88 (by simp [V.dat, V.datL, V.datLL, zz, zf, zy]) (p_laws_toIntS x.gone h.2)) hmb (by simp only [kput, hXb] <;> rfl) ?_
  refine OkOps.ev tab_ok rfl (by simp only [kev, ktab, klen, kcv] <;> rfl) (by simp only [kput] <;> rfl) ?_
  refine OkOps.storeN tab_ok rfl rfl (by simp only [kev, ktab, klen, kcv] <;> rfl) ⟨_, _, by simp only [kev]; rfl⟩ (by first | (simp [V.labelsL, V.labelsLL, V.labels, zz, zf, zy]; done) | (intro h; simp only [V.labelsL, V.labels, List.mem_append, List.append_nil, List.nil_append, List.not_mem_nil, or_false, false_or] at h; rcases h with h | h <;> first | (have := r0a _ h; omega) | (have := r0b _ h; omega))) (fun W hW hF => by have z0a := hW.far (.sl (L0a + 1) 7 0 e0a) (fun y hy h => by have := r0a y hy; skip; omega); have zz0a := fun K => hW.far (.sl (L0a + 1) 7 0 (V.mkLL K e0a)) (fun y hy h => by have := r0a y (by simp only [V.labels, mkLL_labels] at hy; exact hy); skip; omega); have z0b := hW.far (.sl (L0b + 1) 1 0 e0b) (fun y hy h => by have := r0b y hy; skip; omega); have zz0b := fun K => hW.far (.sl (L0b + 1) 1 0 (V.mkLL K e0b)) (fun y hy h => by have := r0b y (by simp only [V.labels, mkLL_labels] at hy; exact hy); skip; omega); have w0_2 := hW.far (.sl 0 7 0 ((x).boxes.map cBox)) (fun y hy h => by have h0 : y = 0 := (show ∀ y ∈ V.labels (.sl 0 7 0 ((x).boxes.map cBox)), y = 0 by simp [V.labels, zz, zf, zy]) y hy; skip; omega); have w0_3 := hW.far (.sl 0 1 0 ((x).gone.map cZ)) (fun y hy h => by have h0 : y = 0 := (show ∀ y ∈ V.labels (.sl 0 1 0 ((x).gone.map cZ)), y = 0 by simp [V.labels, zz, zf, zy]) y hy; skip; omega); have p0 := fun i o e => hW.ptr (1) i o e (by omega);  have p1 := fun i o e => hW.ptr (2) i o e (by omega); simp only [List.map_cons, List.map_nil, hW.int, hW.str, hW.bool, hW.any, hW.tup0, hW.agg, hW.nilV, hF.ptr, z0a, zz0a, z0b, zz0b, w0_2, w0_3, p0, p1, kput] <;> rfl) ?_
  refine OkOps.nil ?_
  refine Ok.seq ?_
  refine Ok.drop [14, 15, 16, 17] (by simp only [kover] <;> rfl) ?_
  refine Ok.region ?_
  refine OkOps.ev tab_ok rfl (by simp only [kev, ktab, klen, kcv] <;> rfl) (by simp only [kput] <;> rfl) ?_
  refine OkOps.storeN tab_ok rfl rfl (by simp only [kev, ktab, klen, kcv] <;> rfl) ⟨_, _, by simp only [kev]; rfl⟩ (by first | (simp [V.labelsL, V.labelsLL, V.labels, zz, zf, zy]; done) | (intro h; simp only [V.labelsL, V.labels, List.mem_append, List.append_nil, List.nil_append, List.not_mem_nil, or_false, false_or] at h; rcases h with h | h <;> first | (have := r0a _ h; omega) | (have := r0b _ h; omega))) (fun W hW hF => by have z0a := hW.far (.sl (L0a + 1) 7 0 e0a) (fun y hy h => by have := r0a y hy; skip; omega); have zz0a := fun K => hW.far (.sl (L0a + 1) 7 0 (V.mkLL K e0a)) (fun y hy h => by have := r0a y (by simp only [V.labels, mkLL_labels] at hy; exact hy); skip; omega); have z0b := hW.far (.sl (L0b + 1) 1 0 e0b) (fun y hy h => by have := r0b y hy; skip; omega); have zz0b := fun K => hW.far (.sl (L0b + 1) 1 0 (V.mkLL K e0b)) (fun y hy h => by have := r0b y (by simp only [V.labels, mkLL_labels] at hy; exact hy); skip; omega); have w0_2 := hW.far (.sl 0 7 0 ((x).boxes.map cBox)) (fun y hy h => by have h0 : y = 0 := (show ∀ y ∈ V.labels (.sl 0 7 0 ((x).boxes.map cBox)), y = 0 by simp [V.labels, zz, zf, zy]) y hy; skip; omega); have w0_3 := hW.far (.sl 0 1 0 ((x).gone.map cZ)) (fun y hy h => by have h0 : y = 0 := (show ∀ y ∈ V.labels (.sl 0 1 0 ((x).gone.map cZ)), y = 0 by simp [V.labels, zz, zf, zy]) y hy; skip; omega); have p0 := fun i o e => hW.ptr (1) i o e (by omega);  have p2 := fun i o e => hW.ptr (3) i o e (by omega); simp only [List.map_cons, List.map_nil, hW.int, hW.str, hW.bool, hW.any, hW.tup0, hW.agg, hW.nilV, hF.ptr, z0a, zz0a, z0b, zz0b, w0_2, w0_3, p0, p2, kput] <;> rfl) ?_
  refine OkOps.nil ?_
  refine Ok.ret ?_
  repeat (first | with_reducible refine thenQ_ret ?_ | with_reducible refine blockQ_ret ?_)
  refine retQ.end (by show resVs tab _ [.cell 2 44] = _; simp only [kev, ktab, klen, kcv] <;> rfl) rfl ?_
  exact ⟨(by simp only [packV, V.erase, V.trav, V.travL, V.travLL, zz, zf, zy, E0a, E0b] <;> rfl), (by intro L hL; simp only [packV, V.labels, V.labelsL, List.append_nil, List.nil_append] at hL; (try rw [List.mem_append] at hL); (try rw [List.mem_append] at hL); rcases hL with hL | hL <;>  first | (have := r0a L hL; omega) | (have := r0b L hL; omega)), (by have n1 := nda; have n2 := ndb; simp only [V.labels, V.labelsL, List.append_nil, List.nil_append] at n1 n2; simp only [packV, V.labels, V.labelsL, List.append_nil, List.nil_append]; rw [List.nodup_append]; exact ⟨n1, n2, fun y hy z hz h => by (have q2 := r0b z hz; first | (have q1 := r0a y hy; omega))⟩)⟩
theorem p_laws_toKept (x : Kept) (h : smKept x) : Pure Try.prog 48 [.agg (cKept x)] (.agg (cKept x)) := by
  refine Pure.of (by simp [V.dat, V.datL, V.datLL, zz, zf, zy]) (OkCall.enter' tab_ok Try.func48 rfl (t := [.agg (cKept x), .any, .any, .any, .any, .any, .any, .any, .any, .any, .any, .any, .any, .any, .any]) rfl ?_)
  refine Ok.seq ?_
  refine Ok.region ?_
  iterate 2 (refine OkOps.ev tab_ok rfl (by simp only [kev, ktab, klen, kcv] <;> rfl) (by simp only [kput] <;> rfl) ?_)
  refine OkOps.nil ?_
  refine Ok.seq ?_
  refine Ok.region ?_
  refine OkOps.ev tab_ok rfl (by simp only [kev, ktab, klen, kcv] <;> rfl) (by simp only [kput] <;> rfl) ?_
  refine OkOps.nil ?_
  refine Ok.seq ?_
  refine Ok.region ?_
  iterate 2 (refine OkOps.ev tab_ok rfl (by simp only [kev, ktab, klen, kcv] <;> rfl) (by simp only [kput] <;> rfl) ?_)
  obtain ⟨L2a, e2a, L3a, e3a, hXa, q2a, E2a, M2a, N2a, q3a, E3a, M3a, N3a, nda, rga⟩ := ownStore (3) (x.store)
  obtain ⟨ma, hma⟩ : ∃ m, 3 + 1 + V.cnt (.agg (cStore (x.store))) = m + 1 := ⟨3 + V.cnt (.agg (cStore (x.store))), by omega⟩
  have r2a : ∀ z ∈ V.labels (.sl (L2a + 1) 7 0 e2a), 3 + 1 ≤ z ∧ z < ma + 1 := fun z hz => by have := rga z (by first | exact hz | (simp only [V.labelsL, V.labels, List.mem_append] at hz ⊢; simp only [hz, true_or, or_true])); omega
  have r3a : ∀ z ∈ V.labels (.sl (L3a + 1) 1 0 e3a), 3 + 1 ≤ z ∧ z < ma + 1 := fun z hz => by have := rga z (by first | exact hz | (simp only [V.labelsL, V.labels, List.mem_append] at hz ⊢; simp only [hz, true_or, or_true])); omega
  refine OkOps.S' rfl (OpS.pure' rfl (by simp only [kev, ktab, klen, kcv] <;> rfl) (by simp only [kev, ktab, klen, kcv, V.eraseL, V.erase, V.travL, V.trav, zz, zf, zy] <;> rfl) cl87 (by simp [V.dat, V.datL, V.datLL, zz, zf, zy]) (p_laws_toStore x.store h.1)) hma (by simp only [kput, hXa] <;> rfl) ?_
  refine OkOps.ev tab_ok rfl (by simp only [kev, ktab, klen, kcv] <;> rfl) (by simp only [kput] <;> rfl) ?_
  refine OkOps.storeN tab_ok rfl rfl (by simp only [kev, ktab, klen, kcv] <;> rfl) ⟨_, _, by simp only [kev]; rfl⟩ (by first | (simp [V.labelsL, V.labelsLL, V.labels, zz, zf, zy]; done) | (intro h; simp only [V.labelsL, V.labels, List.mem_append, List.append_nil, List.nil_append, List.not_mem_nil, or_false, false_or] at h; rcases h with h | h <;> first | (have := r2a _ h; omega) | (have := r3a _ h; omega))) (fun W hW hF => by have z2a := hW.far (.sl (L2a + 1) 7 0 e2a) (fun y hy h => by have := r2a y hy; skip; omega); have zz2a := fun K => hW.far (.sl (L2a + 1) 7 0 (V.mkLL K e2a)) (fun y hy h => by have := r2a y (by simp only [V.labels, mkLL_labels] at hy; exact hy); skip; omega); have z3a := hW.far (.sl (L3a + 1) 1 0 e3a) (fun y hy h => by have := r3a y hy; skip; omega); have zz3a := fun K => hW.far (.sl (L3a + 1) 1 0 (V.mkLL K e3a)) (fun y hy h => by have := r3a y (by simp only [V.labels, mkLL_labels] at hy; exact hy); skip; omega); have w0_2 := hW.far (.sl 0 7 0 ((x).store.boxes.map cBox)) (fun y hy h => by have h0 : y = 0 := (show ∀ y ∈ V.labels (.sl 0 7 0 ((x).store.boxes.map cBox)), y = 0 by simp [V.labels, zz, zf, zy]) y hy; skip; omega); have w0_3 := hW.far (.sl 0 1 0 ((x).store.gone.map cZ)) (fun y hy h => by have h0 : y = 0 := (show ∀ y ∈ V.labels (.sl 0 1 0 ((x).store.gone.map cZ)), y = 0 by simp [V.labels, zz, zf, zy]) y hy; skip; omega); have p0 := fun i o e => hW.ptr (1) i o e (by omega);  have p1 := fun i o e => hW.ptr (2) i o e (by omega); simp only [List.map_cons, List.map_nil, hW.int, hW.str, hW.bool, hW.any, hW.tup0, hW.agg, hW.nilV, hF.ptr, z2a, zz2a, z3a, zz3a, w0_2, w0_3, p0, p1, kput] <;> rfl) ?_
  refine OkOps.nil ?_
  refine Ok.seq ?_
  refine Ok.drop [4, 5, 6, 7] (by simp only [kover] <;> rfl) ?_
  refine Ok.region ?_
  iterate 3 (refine OkOps.ev tab_ok rfl (by simp only [kev, ktab, klen, kcv] <;> rfl) (by simp only [kput] <;> rfl) ?_)
  refine OkOps.storeN tab_ok rfl rfl (by simp only [kev, ktab, klen, kcv] <;> rfl) ⟨_, _, by simp only [kev]; rfl⟩ (by first | (simp [V.labelsL, V.labelsLL, V.labels, zz, zf, zy]; done) | (intro h; simp only [V.labelsL, V.labels, List.mem_append, List.append_nil, List.nil_append, List.not_mem_nil, or_false, false_or] at h; rcases h with h | h <;> first | (have := r2a _ h; omega) | (have := r3a _ h; omega))) (fun W hW hF => by have z2a := hW.far (.sl (L2a + 1) 7 0 e2a) (fun y hy h => by have := r2a y hy; skip; omega); have zz2a := fun K => hW.far (.sl (L2a + 1) 7 0 (V.mkLL K e2a)) (fun y hy h => by have := r2a y (by simp only [V.labels, mkLL_labels] at hy; exact hy); skip; omega); have z3a := hW.far (.sl (L3a + 1) 1 0 e3a) (fun y hy h => by have := r3a y hy; skip; omega); have zz3a := fun K => hW.far (.sl (L3a + 1) 1 0 (V.mkLL K e3a)) (fun y hy h => by have := r3a y (by simp only [V.labels, mkLL_labels] at hy; exact hy); skip; omega); have w0_2 := hW.far (.sl 0 7 0 ((x).store.boxes.map cBox)) (fun y hy h => by have h0 : y = 0 := (show ∀ y ∈ V.labels (.sl 0 7 0 ((x).store.boxes.map cBox)), y = 0 by simp [V.labels, zz, zf, zy]) y hy; skip; omega); have w0_3 := hW.far (.sl 0 1 0 ((x).store.gone.map cZ)) (fun y hy h => by have h0 : y = 0 := (show ∀ y ∈ V.labels (.sl 0 1 0 ((x).store.gone.map cZ)), y = 0 by simp [V.labels, zz, zf, zy]) y hy; skip; omega); have p0 := fun i o e => hW.ptr (1) i o e (by omega);  have p1 := fun i o e => hW.ptr (2) i o e (by omega); simp only [List.map_cons, List.map_nil, hW.int, hW.str, hW.bool, hW.any, hW.tup0, hW.agg, hW.nilV, hF.ptr, z2a, zz2a, z3a, zz3a, w0_2, w0_3, p0, p1, kput] <;> rfl) ?_
  refine OkOps.nil ?_
  refine Ok.seq ?_
  refine Ok.drop [8, 9, 10] (by simp only [kover] <;> rfl) ?_
  refine Ok.region ?_
  iterate 3 (refine OkOps.ev tab_ok rfl (by simp only [kev, ktab, klen, kcv] <;> rfl) (by simp only [kput] <;> rfl) ?_)
  refine OkOps.storeN tab_ok rfl rfl (by simp only [kev, ktab, klen, kcv] <;> rfl) ⟨_, _, by simp only [kev]; rfl⟩ (by first | (simp [V.labelsL, V.labelsLL, V.labels, zz, zf, zy]; done) | (intro h; simp only [V.labelsL, V.labels, List.mem_append, List.append_nil, List.nil_append, List.not_mem_nil, or_false, false_or] at h; rcases h with h | h <;> first | (have := r2a _ h; omega) | (have := r3a _ h; omega))) (fun W hW hF => by have z2a := hW.far (.sl (L2a + 1) 7 0 e2a) (fun y hy h => by have := r2a y hy; skip; omega); have zz2a := fun K => hW.far (.sl (L2a + 1) 7 0 (V.mkLL K e2a)) (fun y hy h => by have := r2a y (by simp only [V.labels, mkLL_labels] at hy; exact hy); skip; omega); have z3a := hW.far (.sl (L3a + 1) 1 0 e3a) (fun y hy h => by have := r3a y hy; skip; omega); have zz3a := fun K => hW.far (.sl (L3a + 1) 1 0 (V.mkLL K e3a)) (fun y hy h => by have := r3a y (by simp only [V.labels, mkLL_labels] at hy; exact hy); skip; omega); have w0_2 := hW.far (.sl 0 7 0 ((x).store.boxes.map cBox)) (fun y hy h => by have h0 : y = 0 := (show ∀ y ∈ V.labels (.sl 0 7 0 ((x).store.boxes.map cBox)), y = 0 by simp [V.labels, zz, zf, zy]) y hy; skip; omega); have w0_3 := hW.far (.sl 0 1 0 ((x).store.gone.map cZ)) (fun y hy h => by have h0 : y = 0 := (show ∀ y ∈ V.labels (.sl 0 1 0 ((x).store.gone.map cZ)), y = 0 by simp [V.labels, zz, zf, zy]) y hy; skip; omega); have p0 := fun i o e => hW.ptr (1) i o e (by omega);  have p1 := fun i o e => hW.ptr (2) i o e (by omega); simp only [List.map_cons, List.map_nil, hW.int, hW.str, hW.bool, hW.any, hW.tup0, hW.agg, hW.nilV, hF.ptr, z2a, zz2a, z3a, zz3a, w0_2, w0_3, p0, p1, kput] <;> rfl) ?_
  refine OkOps.nil ?_
  refine Ok.seq ?_
  refine Ok.drop [11, 12, 13] (by simp only [kover] <;> rfl) ?_
  refine Ok.region ?_
  refine OkOps.ev tab_ok rfl (by simp only [kev, ktab, klen, kcv] <;> rfl) (by simp only [kput] <;> rfl) ?_
  refine OkOps.storeN tab_ok rfl rfl (by simp only [kev, ktab, klen, kcv] <;> rfl) ⟨_, _, by simp only [kev]; rfl⟩ (by first | (simp [V.labelsL, V.labelsLL, V.labels, zz, zf, zy]; done) | (intro h; simp only [V.labelsL, V.labels, List.mem_append, List.append_nil, List.nil_append, List.not_mem_nil, or_false, false_or] at h; rcases h with h | h <;> first | (have := r2a _ h; omega) | (have := r3a _ h; omega))) (fun W hW hF => by have z2a := hW.far (.sl (L2a + 1) 7 0 e2a) (fun y hy h => by have := r2a y hy; skip; omega); have zz2a := fun K => hW.far (.sl (L2a + 1) 7 0 (V.mkLL K e2a)) (fun y hy h => by have := r2a y (by simp only [V.labels, mkLL_labels] at hy; exact hy); skip; omega); have z3a := hW.far (.sl (L3a + 1) 1 0 e3a) (fun y hy h => by have := r3a y hy; skip; omega); have zz3a := fun K => hW.far (.sl (L3a + 1) 1 0 (V.mkLL K e3a)) (fun y hy h => by have := r3a y (by simp only [V.labels, mkLL_labels] at hy; exact hy); skip; omega); have w0_2 := hW.far (.sl 0 7 0 ((x).store.boxes.map cBox)) (fun y hy h => by have h0 : y = 0 := (show ∀ y ∈ V.labels (.sl 0 7 0 ((x).store.boxes.map cBox)), y = 0 by simp [V.labels, zz, zf, zy]) y hy; skip; omega); have w0_3 := hW.far (.sl 0 1 0 ((x).store.gone.map cZ)) (fun y hy h => by have h0 : y = 0 := (show ∀ y ∈ V.labels (.sl 0 1 0 ((x).store.gone.map cZ)), y = 0 by simp [V.labels, zz, zf, zy]) y hy; skip; omega); have p0 := fun i o e => hW.ptr (1) i o e (by omega);  have p2 := fun i o e => hW.ptr (3) i o e (by omega); simp only [List.map_cons, List.map_nil, hW.int, hW.str, hW.bool, hW.any, hW.tup0, hW.agg, hW.nilV, hF.ptr, z2a, zz2a, z3a, zz3a, w0_2, w0_3, p0, p2, kput] <;> rfl) ?_
  refine OkOps.nil ?_
  refine Ok.ret ?_
  repeat (first | with_reducible refine thenQ_ret ?_ | with_reducible refine blockQ_ret ?_)
  refine retQ.end (by show resVs tab _ [.cell 2 46] = _; simp only [kev, ktab, klen, kcv] <;> rfl) rfl ?_
  exact ⟨(by simp only [packV, V.erase, V.trav, V.travL, V.travLL, zz, zf, zy, E2a, E3a] <;> rfl), (by intro L hL; simp only [packV, V.labels, V.labelsL, List.append_nil, List.nil_append] at hL; (try rw [List.mem_append] at hL); (try rw [List.mem_append] at hL); rcases hL with hL | hL <;>  first | (have := r2a L hL; omega) | (have := r3a L hL; omega)), (by simp only [packV, V.labels, V.labelsL, List.append_nil, List.nil_append] at nda ⊢; exact nda)⟩
theorem p_laws_toSession (x : Session) (h : smSession x) : Pure Try.prog 49 [.agg (cSession x)] (.agg (cSession x)) := by
  refine Pure.of (by simp [V.dat, V.datL, V.datLL, zz, zf, zy]) (OkCall.enter' tab_ok Try.func49 rfl (t := [.agg (cSession x), .any, .any, .any, .any, .any, .any, .any, .any, .any, .any, .any, .any, .any, .any, .any, .any, .any, .any, .any, .any, .any, .any, .any]) rfl ?_)
  refine Ok.seq ?_
  refine Ok.region ?_
  iterate 2 (refine OkOps.ev tab_ok rfl (by simp only [kev, ktab, klen, kcv] <;> rfl) (by simp only [kput] <;> rfl) ?_)
  refine OkOps.nil ?_
  refine Ok.seq ?_
  refine Ok.region ?_
  refine OkOps.ev tab_ok rfl (by simp only [kev, ktab, klen, kcv] <;> rfl) (by simp only [kput] <;> rfl) ?_
  refine OkOps.nil ?_
  refine Ok.seq ?_
  refine Ok.region ?_
  iterate 3 (refine OkOps.ev tab_ok rfl (by simp only [kev, ktab, klen, kcv] <;> rfl) (by simp only [kput] <;> rfl) ?_)
  refine OkOps.storeN tab_ok rfl rfl (by simp only [kev, ktab, klen, kcv] <;> rfl) ⟨_, _, by simp only [kev]; rfl⟩ (by first | (simp [V.labelsL, V.labelsLL, V.labels, zz, zf, zy]; done) | (intro h; simp [V.labelsL, V.labels] at h)) (fun W hW hF => by have w0_5 := hW.far (.sl 0 1 0 ((x).view.map cZ)) (fun y hy h => by have h0 : y = 0 := (show ∀ y ∈ V.labels (.sl 0 1 0 ((x).view.map cZ)), y = 0 by simp [V.labels, zz, zf, zy]) y hy; skip; omega); have p0 := fun i o e => hW.ptr (1) i o e (by omega);  have p1 := fun i o e => hW.ptr (2) i o e (by omega); simp only [List.map_cons, List.map_nil, hW.int, hW.str, hW.bool, hW.any, hW.tup0, hW.agg, hW.nilV, hF.ptr, w0_5, p0, p1, kput] <;> rfl) ?_
  refine OkOps.nil ?_
  refine Ok.seq ?_
  refine Ok.drop [4, 5, 6] (by simp only [kover] <;> rfl) ?_
  refine Ok.region ?_
  iterate 3 (refine OkOps.ev tab_ok rfl (by simp only [kev, ktab, klen, kcv] <;> rfl) (by simp only [kput] <;> rfl) ?_)
  refine OkOps.storeN tab_ok rfl rfl (by simp only [kev, ktab, klen, kcv] <;> rfl) ⟨_, _, by simp only [kev]; rfl⟩ (by first | (simp [V.labelsL, V.labelsLL, V.labels, zz, zf, zy]; done) | (intro h; simp [V.labelsL, V.labels] at h)) (fun W hW hF => by have w0_5 := hW.far (.sl 0 1 0 ((x).view.map cZ)) (fun y hy h => by have h0 : y = 0 := (show ∀ y ∈ V.labels (.sl 0 1 0 ((x).view.map cZ)), y = 0 by simp [V.labels, zz, zf, zy]) y hy; skip; omega); have p0 := fun i o e => hW.ptr (1) i o e (by omega);  have p1 := fun i o e => hW.ptr (2) i o e (by omega); simp only [List.map_cons, List.map_nil, hW.int, hW.str, hW.bool, hW.any, hW.tup0, hW.agg, hW.nilV, hF.ptr, w0_5, p0, p1, kput] <;> rfl) ?_
  refine OkOps.nil ?_
  refine Ok.seq ?_
  refine Ok.drop [7, 8, 9] (by simp only [kover] <;> rfl) ?_
  refine Ok.region ?_
  iterate 3 (refine OkOps.ev tab_ok rfl (by simp only [kev, ktab, klen, kcv] <;> rfl) (by simp only [kput] <;> rfl) ?_)
  refine OkOps.storeN tab_ok rfl rfl (by simp only [kev, ktab, klen, kcv] <;> rfl) ⟨_, _, by simp only [kev]; rfl⟩ (by first | (simp [V.labelsL, V.labelsLL, V.labels, zz, zf, zy]; done) | (intro h; simp [V.labelsL, V.labels] at h)) (fun W hW hF => by have w0_5 := hW.far (.sl 0 1 0 ((x).view.map cZ)) (fun y hy h => by have h0 : y = 0 := (show ∀ y ∈ V.labels (.sl 0 1 0 ((x).view.map cZ)), y = 0 by simp [V.labels, zz, zf, zy]) y hy; skip; omega); have p0 := fun i o e => hW.ptr (1) i o e (by omega);  have p1 := fun i o e => hW.ptr (2) i o e (by omega); simp only [List.map_cons, List.map_nil, hW.int, hW.str, hW.bool, hW.any, hW.tup0, hW.agg, hW.nilV, hF.ptr, w0_5, p0, p1, kput] <;> rfl) ?_
  refine OkOps.nil ?_
  refine Ok.seq ?_
  refine Ok.drop [10, 11, 12] (by simp only [kover] <;> rfl) ?_
  refine Ok.region ?_
  iterate 3 (refine OkOps.ev tab_ok rfl (by simp only [kev, ktab, klen, kcv] <;> rfl) (by simp only [kput] <;> rfl) ?_)
  refine OkOps.storeN tab_ok rfl rfl (by simp only [kev, ktab, klen, kcv] <;> rfl) ⟨_, _, by simp only [kev]; rfl⟩ (by first | (simp [V.labelsL, V.labelsLL, V.labels, zz, zf, zy]; done) | (intro h; simp [V.labelsL, V.labels] at h)) (fun W hW hF => by have w0_5 := hW.far (.sl 0 1 0 ((x).view.map cZ)) (fun y hy h => by have h0 : y = 0 := (show ∀ y ∈ V.labels (.sl 0 1 0 ((x).view.map cZ)), y = 0 by simp [V.labels, zz, zf, zy]) y hy; skip; omega); have p0 := fun i o e => hW.ptr (1) i o e (by omega);  have p1 := fun i o e => hW.ptr (2) i o e (by omega); simp only [List.map_cons, List.map_nil, hW.int, hW.str, hW.bool, hW.any, hW.tup0, hW.agg, hW.nilV, hF.ptr, w0_5, p0, p1, kput] <;> rfl) ?_
  refine OkOps.nil ?_
  refine Ok.seq ?_
  refine Ok.drop [13, 14, 15] (by simp only [kover] <;> rfl) ?_
  refine Ok.region ?_
  iterate 3 (refine OkOps.ev tab_ok rfl (by simp only [kev, ktab, klen, kcv] <;> rfl) (by simp only [kput] <;> rfl) ?_)
  refine OkOps.storeN tab_ok rfl rfl (by simp only [kev, ktab, klen, kcv] <;> rfl) ⟨_, _, by simp only [kev]; rfl⟩ (by first | (simp [V.labelsL, V.labelsLL, V.labels, zz, zf, zy]; done) | (intro h; simp [V.labelsL, V.labels] at h)) (fun W hW hF => by have w0_5 := hW.far (.sl 0 1 0 ((x).view.map cZ)) (fun y hy h => by have h0 : y = 0 := (show ∀ y ∈ V.labels (.sl 0 1 0 ((x).view.map cZ)), y = 0 by simp [V.labels, zz, zf, zy]) y hy; skip; omega); have p0 := fun i o e => hW.ptr (1) i o e (by omega);  have p1 := fun i o e => hW.ptr (2) i o e (by omega); simp only [List.map_cons, List.map_nil, hW.int, hW.str, hW.bool, hW.any, hW.tup0, hW.agg, hW.nilV, hF.ptr, w0_5, p0, p1, kput] <;> rfl) ?_
  refine OkOps.nil ?_
  refine Ok.seq ?_
  refine Ok.drop [16, 17, 18] (by simp only [kover] <;> rfl) ?_
  refine Ok.region ?_
  iterate 2 (refine OkOps.ev tab_ok rfl (by simp only [kev, ktab, klen, kcv] <;> rfl) (by simp only [kput] <;> rfl) ?_)
  obtain ⟨L0a, e0a, hXa, q0a, E0a, M0a, N0a, nda, rga⟩ := ownSInt (3) (x.view)
  obtain ⟨ma, hma⟩ : ∃ m, 3 + 1 + V.cnt (.sl 0 1 0 ((x.view).map cZ)) = m + 1 := ⟨3 + V.cnt (.sl 0 1 0 ((x.view).map cZ)), by omega⟩
  have r0a : ∀ z ∈ V.labels (.sl (L0a + 1) 1 0 e0a), 3 + 1 ≤ z ∧ z < ma + 1 := fun z hz => by have := rga z (by first | exact hz | (simp only [V.labelsL, V.labels, List.mem_append] at hz ⊢; simp only [hz, true_or, or_true])); omega
  refine OkOps.S' rfl (OpS.pure' rfl (by simp only [kev, ktab, klen, kcv] <;> rfl) (by simp only [kev, ktab, klen, kcv, V.eraseL, V.erase, V.travL, V.trav, zz, zf, zy] <;> rfl) cl88 (by simp [V.dat, V.datL, V.datLL, zz, zf, zy]) (p_laws_toIntS x.view h.2.2)) hma (by simp only [kput, hXa] <;> rfl) ?_
  refine OkOps.ev tab_ok rfl (by simp only [kev, ktab, klen, kcv] <;> rfl) (by simp only [kput] <;> rfl) ?_
  refine OkOps.storeN tab_ok rfl rfl (by simp only [kev, ktab, klen, kcv] <;> rfl) ⟨_, _, by simp only [kev]; rfl⟩ (by first | (simp [V.labelsL, V.labelsLL, V.labels, zz, zf, zy]; done) | (intro h; simp only [V.labelsL, V.labels, List.mem_append, List.append_nil, List.nil_append, List.not_mem_nil, or_false, false_or] at h; first | (have := r0a _ h; omega))) (fun W hW hF => by have z0a := hW.far (.sl (L0a + 1) 1 0 e0a) (fun y hy h => by have := r0a y hy; skip; omega); have zz0a := fun K => hW.far (.sl (L0a + 1) 1 0 (V.mkLL K e0a)) (fun y hy h => by have := r0a y (by simp only [V.labels, mkLL_labels] at hy; exact hy); skip; omega); have w0_5 := hW.far (.sl 0 1 0 ((x).view.map cZ)) (fun y hy h => by have h0 : y = 0 := (show ∀ y ∈ V.labels (.sl 0 1 0 ((x).view.map cZ)), y = 0 by simp [V.labels, zz, zf, zy]) y hy; skip; omega); have p0 := fun i o e => hW.ptr (1) i o e (by omega);  have p1 := fun i o e => hW.ptr (2) i o e (by omega); simp only [List.map_cons, List.map_nil, hW.int, hW.str, hW.bool, hW.any, hW.tup0, hW.agg, hW.nilV, hF.ptr, z0a, zz0a, w0_5, p0, p1, kput] <;> rfl) ?_
  refine OkOps.nil ?_
  refine Ok.seq ?_
  refine Ok.drop [19, 20, 21, 22] (by simp only [kover] <;> rfl) ?_
  refine Ok.region ?_
  refine OkOps.ev tab_ok rfl (by simp only [kev, ktab, klen, kcv] <;> rfl) (by simp only [kput] <;> rfl) ?_
  refine OkOps.storeN tab_ok rfl rfl (by simp only [kev, ktab, klen, kcv] <;> rfl) ⟨_, _, by simp only [kev]; rfl⟩ (by first | (simp [V.labelsL, V.labelsLL, V.labels, zz, zf, zy]; done) | (intro h; simp only [V.labelsL, V.labels, List.mem_append, List.append_nil, List.nil_append, List.not_mem_nil, or_false, false_or] at h; first | (have := r0a _ h; omega))) (fun W hW hF => by have z0a := hW.far (.sl (L0a + 1) 1 0 e0a) (fun y hy h => by have := r0a y hy; skip; omega); have zz0a := fun K => hW.far (.sl (L0a + 1) 1 0 (V.mkLL K e0a)) (fun y hy h => by have := r0a y (by simp only [V.labels, mkLL_labels] at hy; exact hy); skip; omega); have w0_5 := hW.far (.sl 0 1 0 ((x).view.map cZ)) (fun y hy h => by have h0 : y = 0 := (show ∀ y ∈ V.labels (.sl 0 1 0 ((x).view.map cZ)), y = 0 by simp [V.labels, zz, zf, zy]) y hy; skip; omega); have p0 := fun i o e => hW.ptr (1) i o e (by omega);  have p2 := fun i o e => hW.ptr (3) i o e (by omega); simp only [List.map_cons, List.map_nil, hW.int, hW.str, hW.bool, hW.any, hW.tup0, hW.agg, hW.nilV, hF.ptr, z0a, zz0a, w0_5, p0, p2, kput] <;> rfl) ?_
  refine OkOps.nil ?_
  refine Ok.ret ?_
  repeat (first | with_reducible refine thenQ_ret ?_ | with_reducible refine blockQ_ret ?_)
  refine retQ.end (by show resVs tab _ [.cell 2 47] = _; simp only [kev, ktab, klen, kcv] <;> rfl) rfl ?_
  exact ⟨(by simp only [packV, V.erase, V.trav, V.travL, V.travLL, zz, zf, zy, E0a] <;> rfl), (by intro L hL; simp only [packV, V.labels, V.labelsL, List.append_nil, List.nil_append] at hL;  first | (have := r0a L hL; omega)), (by simp only [packV, V.labels, V.labelsL, List.append_nil, List.nil_append] at nda ⊢; exact nda)⟩
theorem p_laws_toServer (x : Server) (h : smServer x) : Pure Try.prog 16 [.agg (cServer x)] (.agg (cServer x)) := by
  refine Pure.of (by simp [V.dat, V.datL, V.datLL, zz, zf, zy]) (OkCall.enter' tab_ok Try.func16 rfl (t := [.agg (cServer x), .any, .any, .any, .any, .any, .any, .any, .any, .any, .any, .any, .any, .any, .any, .any]) rfl ?_)
  refine Ok.seq ?_
  refine Ok.region ?_
  iterate 2 (refine OkOps.ev tab_ok rfl (by simp only [kev, ktab, klen, kcv] <;> rfl) (by simp only [kput] <;> rfl) ?_)
  refine OkOps.nil ?_
  refine Ok.seq ?_
  refine Ok.region ?_
  refine OkOps.ev tab_ok rfl (by simp only [kev, ktab, klen, kcv] <;> rfl) (by simp only [kput] <;> rfl) ?_
  refine OkOps.nil ?_
  refine Ok.seq ?_
  refine Ok.region ?_
  iterate 2 (refine OkOps.ev tab_ok rfl (by simp only [kev, ktab, klen, kcv] <;> rfl) (by simp only [kput] <;> rfl) ?_)
  obtain ⟨L2a, e2a, L3a, e3a, hXa, q2a, E2a, M2a, N2a, q3a, E3a, M3a, N3a, nda, rga⟩ := ownKept (3) (x.kept)
  obtain ⟨ma, hma⟩ : ∃ m, 3 + 1 + V.cnt (.agg (cKept (x.kept))) = m + 1 := ⟨3 + V.cnt (.agg (cKept (x.kept))), by omega⟩
  have r2a : ∀ z ∈ V.labels (.sl (L2a + 1) 7 0 e2a), 3 + 1 ≤ z ∧ z < ma + 1 := fun z hz => by have := rga z (by first | exact hz | (simp only [V.labelsL, V.labels, List.mem_append] at hz ⊢; simp only [hz, true_or, or_true])); omega
  have r3a : ∀ z ∈ V.labels (.sl (L3a + 1) 1 0 e3a), 3 + 1 ≤ z ∧ z < ma + 1 := fun z hz => by have := rga z (by first | exact hz | (simp only [V.labelsL, V.labels, List.mem_append] at hz ⊢; simp only [hz, true_or, or_true])); omega
  refine OkOps.S' rfl (OpS.pure' rfl (by simp only [kev, ktab, klen, kcv] <;> rfl) (by simp only [kev, ktab, klen, kcv, V.eraseL, V.erase, V.travL, V.trav, zz, zf, zy] <;> rfl) cl48 (by simp [V.dat, V.datL, V.datLL, zz, zf, zy]) (p_laws_toKept x.kept h.1)) hma (by simp only [kput, hXa] <;> rfl) ?_
  refine OkOps.ev tab_ok rfl (by simp only [kev, ktab, klen, kcv] <;> rfl) (by simp only [kput] <;> rfl) ?_
  refine OkOps.storeN tab_ok rfl rfl (by simp only [kev, ktab, klen, kcv] <;> rfl) ⟨_, _, by simp only [kev]; rfl⟩ (by first | (simp [V.labelsL, V.labelsLL, V.labels, zz, zf, zy]; done) | (intro h; simp only [V.labelsL, V.labels, List.mem_append, List.append_nil, List.nil_append, List.not_mem_nil, or_false, false_or] at h; rcases h with h | h <;> first | (have := r2a _ h; omega) | (have := r3a _ h; omega))) (fun W hW hF => by have z2a := hW.far (.sl (L2a + 1) 7 0 e2a) (fun y hy h => by have := r2a y hy; skip; omega); have zz2a := fun K => hW.far (.sl (L2a + 1) 7 0 (V.mkLL K e2a)) (fun y hy h => by have := r2a y (by simp only [V.labels, mkLL_labels] at hy; exact hy); skip; omega); have z3a := hW.far (.sl (L3a + 1) 1 0 e3a) (fun y hy h => by have := r3a y hy; skip; omega); have zz3a := fun K => hW.far (.sl (L3a + 1) 1 0 (V.mkLL K e3a)) (fun y hy h => by have := r3a y (by simp only [V.labels, mkLL_labels] at hy; exact hy); skip; omega); have w0_2 := hW.far (.sl 0 7 0 ((x).kept.store.boxes.map cBox)) (fun y hy h => by have h0 : y = 0 := (show ∀ y ∈ V.labels (.sl 0 7 0 ((x).kept.store.boxes.map cBox)), y = 0 by simp [V.labels, zz, zf, zy]) y hy; skip; omega); have w0_3 := hW.far (.sl 0 1 0 ((x).kept.store.gone.map cZ)) (fun y hy h => by have h0 : y = 0 := (show ∀ y ∈ V.labels (.sl 0 1 0 ((x).kept.store.gone.map cZ)), y = 0 by simp [V.labels, zz, zf, zy]) y hy; skip; omega); have w0_11 := hW.far (.sl 0 1 0 ((x).session.view.map cZ)) (fun y hy h => by have h0 : y = 0 := (show ∀ y ∈ V.labels (.sl 0 1 0 ((x).session.view.map cZ)), y = 0 by simp [V.labels, zz, zf, zy]) y hy; skip; omega); have p0 := fun i o e => hW.ptr (1) i o e (by omega);  have p1 := fun i o e => hW.ptr (2) i o e (by omega); simp only [List.map_cons, List.map_nil, hW.int, hW.str, hW.bool, hW.any, hW.tup0, hW.agg, hW.nilV, hF.ptr, z2a, zz2a, z3a, zz3a, w0_2, w0_3, w0_11, p0, p1, kput] <;> rfl) ?_
  refine OkOps.nil ?_
  refine Ok.seq ?_
  refine Ok.drop [4, 5, 6, 7] (by simp only [kover] <;> rfl) ?_
  refine Ok.region ?_
  iterate 2 (refine OkOps.ev tab_ok rfl (by simp only [kev, ktab, klen, kcv] <;> rfl) (by simp only [kput] <;> rfl) ?_)
  obtain ⟨L5b, e5b, hXb, q5b, E5b, M5b, N5b, ndb, rgb⟩ := ownSession (ma) (x.session)
  obtain ⟨mb, hmb⟩ : ∃ m, ma + 1 + V.cnt (.agg (cSession (x.session))) = m + 1 := ⟨ma + V.cnt (.agg (cSession (x.session))), by omega⟩
  have r5b : ∀ z ∈ V.labels (.sl (L5b + 1) 1 0 e5b), ma + 1 ≤ z ∧ z < mb + 1 := fun z hz => by have := rgb z (by first | exact hz | (simp only [V.labelsL, V.labels, List.mem_append] at hz ⊢; simp only [hz, true_or, or_true])); omega
  refine OkOps.S' rfl (OpS.pure' rfl (by simp only [kev, ktab, klen, kcv] <;> rfl) (by simp only [kev, ktab, klen, kcv, E2a, M2a, N2a, E3a, M3a, N3a, V.eraseL, V.erase, V.travL, V.trav, zz, zf, zy] <;> rfl) cl49 (by simp [V.dat, V.datL, V.datLL, zz, zf, zy]) (p_laws_toSession x.session h.2)) hmb (by simp only [kput, hXb] <;> rfl) ?_
  refine OkOps.ev tab_ok rfl (by simp only [kev, ktab, klen, kcv] <;> rfl) (by simp only [kput] <;> rfl) ?_
  refine OkOps.storeN tab_ok rfl rfl (by simp only [kev, ktab, klen, kcv] <;> rfl) ⟨_, _, by simp only [kev]; rfl⟩ (by first | (simp [V.labelsL, V.labelsLL, V.labels, zz, zf, zy]; done) | (intro h; simp only [V.labelsL, V.labels, List.mem_append, List.append_nil, List.nil_append, List.not_mem_nil, or_false, false_or] at h; rcases h with h | h | h <;> first | (have := r2a _ h; omega) | (have := r3a _ h; omega) | (have := r5b _ h; omega))) (fun W hW hF => by have z2a := hW.far (.sl (L2a + 1) 7 0 e2a) (fun y hy h => by have := r2a y hy; skip; omega); have zz2a := fun K => hW.far (.sl (L2a + 1) 7 0 (V.mkLL K e2a)) (fun y hy h => by have := r2a y (by simp only [V.labels, mkLL_labels] at hy; exact hy); skip; omega); have z3a := hW.far (.sl (L3a + 1) 1 0 e3a) (fun y hy h => by have := r3a y hy; skip; omega); have zz3a := fun K => hW.far (.sl (L3a + 1) 1 0 (V.mkLL K e3a)) (fun y hy h => by have := r3a y (by simp only [V.labels, mkLL_labels] at hy; exact hy); skip; omega); have z5b := hW.far (.sl (L5b + 1) 1 0 e5b) (fun y hy h => by have := r5b y hy; skip; omega); have zz5b := fun K => hW.far (.sl (L5b + 1) 1 0 (V.mkLL K e5b)) (fun y hy h => by have := r5b y (by simp only [V.labels, mkLL_labels] at hy; exact hy); skip; omega); have w0_2 := hW.far (.sl 0 7 0 ((x).kept.store.boxes.map cBox)) (fun y hy h => by have h0 : y = 0 := (show ∀ y ∈ V.labels (.sl 0 7 0 ((x).kept.store.boxes.map cBox)), y = 0 by simp [V.labels, zz, zf, zy]) y hy; skip; omega); have w0_3 := hW.far (.sl 0 1 0 ((x).kept.store.gone.map cZ)) (fun y hy h => by have h0 : y = 0 := (show ∀ y ∈ V.labels (.sl 0 1 0 ((x).kept.store.gone.map cZ)), y = 0 by simp [V.labels, zz, zf, zy]) y hy; skip; omega); have w0_11 := hW.far (.sl 0 1 0 ((x).session.view.map cZ)) (fun y hy h => by have h0 : y = 0 := (show ∀ y ∈ V.labels (.sl 0 1 0 ((x).session.view.map cZ)), y = 0 by simp [V.labels, zz, zf, zy]) y hy; skip; omega); have p0 := fun i o e => hW.ptr (1) i o e (by omega);  have p1 := fun i o e => hW.ptr (2) i o e (by omega); simp only [List.map_cons, List.map_nil, hW.int, hW.str, hW.bool, hW.any, hW.tup0, hW.agg, hW.nilV, hF.ptr, z2a, zz2a, z3a, zz3a, z5b, zz5b, w0_2, w0_3, w0_11, p0, p1, kput] <;> rfl) ?_
  refine OkOps.nil ?_
  refine Ok.seq ?_
  refine Ok.drop [8, 9, 10, 11] (by simp only [kover] <;> rfl) ?_
  refine Ok.region ?_
  iterate 3 (refine OkOps.ev tab_ok rfl (by simp only [kev, ktab, klen, kcv] <;> rfl) (by simp only [kput] <;> rfl) ?_)
  refine OkOps.storeN tab_ok rfl rfl (by simp only [kev, ktab, klen, kcv] <;> rfl) ⟨_, _, by simp only [kev]; rfl⟩ (by first | (simp [V.labelsL, V.labelsLL, V.labels, zz, zf, zy]; done) | (intro h; simp only [V.labelsL, V.labels, List.mem_append, List.append_nil, List.nil_append, List.not_mem_nil, or_false, false_or] at h; rcases h with h | h | h <;> first | (have := r2a _ h; omega) | (have := r3a _ h; omega) | (have := r5b _ h; omega))) (fun W hW hF => by have z2a := hW.far (.sl (L2a + 1) 7 0 e2a) (fun y hy h => by have := r2a y hy; skip; omega); have zz2a := fun K => hW.far (.sl (L2a + 1) 7 0 (V.mkLL K e2a)) (fun y hy h => by have := r2a y (by simp only [V.labels, mkLL_labels] at hy; exact hy); skip; omega); have z3a := hW.far (.sl (L3a + 1) 1 0 e3a) (fun y hy h => by have := r3a y hy; skip; omega); have zz3a := fun K => hW.far (.sl (L3a + 1) 1 0 (V.mkLL K e3a)) (fun y hy h => by have := r3a y (by simp only [V.labels, mkLL_labels] at hy; exact hy); skip; omega); have z5b := hW.far (.sl (L5b + 1) 1 0 e5b) (fun y hy h => by have := r5b y hy; skip; omega); have zz5b := fun K => hW.far (.sl (L5b + 1) 1 0 (V.mkLL K e5b)) (fun y hy h => by have := r5b y (by simp only [V.labels, mkLL_labels] at hy; exact hy); skip; omega); have w0_2 := hW.far (.sl 0 7 0 ((x).kept.store.boxes.map cBox)) (fun y hy h => by have h0 : y = 0 := (show ∀ y ∈ V.labels (.sl 0 7 0 ((x).kept.store.boxes.map cBox)), y = 0 by simp [V.labels, zz, zf, zy]) y hy; skip; omega); have w0_3 := hW.far (.sl 0 1 0 ((x).kept.store.gone.map cZ)) (fun y hy h => by have h0 : y = 0 := (show ∀ y ∈ V.labels (.sl 0 1 0 ((x).kept.store.gone.map cZ)), y = 0 by simp [V.labels, zz, zf, zy]) y hy; skip; omega); have w0_11 := hW.far (.sl 0 1 0 ((x).session.view.map cZ)) (fun y hy h => by have h0 : y = 0 := (show ∀ y ∈ V.labels (.sl 0 1 0 ((x).session.view.map cZ)), y = 0 by simp [V.labels, zz, zf, zy]) y hy; skip; omega); have p0 := fun i o e => hW.ptr (1) i o e (by omega);  have p1 := fun i o e => hW.ptr (2) i o e (by omega); simp only [List.map_cons, List.map_nil, hW.int, hW.str, hW.bool, hW.any, hW.tup0, hW.agg, hW.nilV, hF.ptr, z2a, zz2a, z3a, zz3a, z5b, zz5b, w0_2, w0_3, w0_11, p0, p1, kput] <;> rfl) ?_
  refine OkOps.nil ?_
  refine Ok.seq ?_
  refine Ok.drop [12, 13, 14] (by simp only [kover] <;> rfl) ?_
  refine Ok.region ?_
  refine OkOps.ev tab_ok rfl (by simp only [kev, ktab, klen, kcv] <;> rfl) (by simp only [kput] <;> rfl) ?_
  refine OkOps.storeN tab_ok rfl rfl (by simp only [kev, ktab, klen, kcv] <;> rfl) ⟨_, _, by simp only [kev]; rfl⟩ (by first | (simp [V.labelsL, V.labelsLL, V.labels, zz, zf, zy]; done) | (intro h; simp only [V.labelsL, V.labels, List.mem_append, List.append_nil, List.nil_append, List.not_mem_nil, or_false, false_or] at h; rcases h with h | h | h <;> first | (have := r2a _ h; omega) | (have := r3a _ h; omega) | (have := r5b _ h; omega))) (fun W hW hF => by have z2a := hW.far (.sl (L2a + 1) 7 0 e2a) (fun y hy h => by have := r2a y hy; skip; omega); have zz2a := fun K => hW.far (.sl (L2a + 1) 7 0 (V.mkLL K e2a)) (fun y hy h => by have := r2a y (by simp only [V.labels, mkLL_labels] at hy; exact hy); skip; omega); have z3a := hW.far (.sl (L3a + 1) 1 0 e3a) (fun y hy h => by have := r3a y hy; skip; omega); have zz3a := fun K => hW.far (.sl (L3a + 1) 1 0 (V.mkLL K e3a)) (fun y hy h => by have := r3a y (by simp only [V.labels, mkLL_labels] at hy; exact hy); skip; omega); have z5b := hW.far (.sl (L5b + 1) 1 0 e5b) (fun y hy h => by have := r5b y hy; skip; omega); have zz5b := fun K => hW.far (.sl (L5b + 1) 1 0 (V.mkLL K e5b)) (fun y hy h => by have := r5b y (by simp only [V.labels, mkLL_labels] at hy; exact hy); skip; omega); have w0_2 := hW.far (.sl 0 7 0 ((x).kept.store.boxes.map cBox)) (fun y hy h => by have h0 : y = 0 := (show ∀ y ∈ V.labels (.sl 0 7 0 ((x).kept.store.boxes.map cBox)), y = 0 by simp [V.labels, zz, zf, zy]) y hy; skip; omega); have w0_3 := hW.far (.sl 0 1 0 ((x).kept.store.gone.map cZ)) (fun y hy h => by have h0 : y = 0 := (show ∀ y ∈ V.labels (.sl 0 1 0 ((x).kept.store.gone.map cZ)), y = 0 by simp [V.labels, zz, zf, zy]) y hy; skip; omega); have w0_11 := hW.far (.sl 0 1 0 ((x).session.view.map cZ)) (fun y hy h => by have h0 : y = 0 := (show ∀ y ∈ V.labels (.sl 0 1 0 ((x).session.view.map cZ)), y = 0 by simp [V.labels, zz, zf, zy]) y hy; skip; omega); have p0 := fun i o e => hW.ptr (1) i o e (by omega);  have p2 := fun i o e => hW.ptr (3) i o e (by omega); simp only [List.map_cons, List.map_nil, hW.int, hW.str, hW.bool, hW.any, hW.tup0, hW.agg, hW.nilV, hF.ptr, z2a, zz2a, z3a, zz3a, z5b, zz5b, w0_2, w0_3, w0_11, p0, p2, kput] <;> rfl) ?_
  refine OkOps.nil ?_
  refine Ok.ret ?_
  repeat (first | with_reducible refine thenQ_ret ?_ | with_reducible refine blockQ_ret ?_)
  refine retQ.end (by show resVs tab _ [.cell 2 49] = _; simp only [kev, ktab, klen, kcv] <;> rfl) rfl ?_
  exact ⟨(by simp only [packV, V.erase, V.trav, V.travL, V.travLL, zz, zf, zy, E2a, E3a, E5b] <;> rfl), (by intro L hL; simp only [packV, V.labels, V.labelsL, List.append_nil, List.nil_append] at hL; (try rw [List.mem_append] at hL); (try rw [List.mem_append] at hL); rcases hL with hL | hL | hL <;>  first | (have := r2a L hL; omega) | (have := r3a L hL; omega) | (have := r5b L hL; omega)), (by have n1 := nda; have n2 := ndb; simp only [V.labels, V.labelsL, List.append_nil, List.nil_append] at n1 n2; simp only [packV, V.labels, V.labelsL, List.append_nil, List.nil_append]; rw [← List.append_assoc]; rw [List.nodup_append]; exact ⟨n1, n2, fun y hy z hz h => by rcases List.mem_append.1 hy with hy | hy <;> (have q2 := r5b z hz; first | (have q1 := r2a y hy; omega) | (have q1 := r3a y hy; omega))⟩)⟩
end Go.Proofs.Ytjhfabimacljhaa.K
