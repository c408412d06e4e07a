/- Walks: draws, links heard. Printed by w2.py. -/
import Derived.Test.YtglodjbknjfmjaaY9
import Derived.Test.YtglodjbknjfmjaaYl
namespace Go.Proofs.Ytglodjbknjfmjaa.K
open Go Go.RowKit
set_option linter.unusedVariables false
set_option linter.unusedSimpArgs false
set_option maxHeartbeats 4000000
set_option maxRecDepth 20000
theorem w_laws_big (code : Str) : Weak Try.prog 39 [.sl 0 1 0 (code.map cB)] (.bool (decide ((code.length : Int) > 1048576))) := by
  refine Weak.enter tab_ok Try.func39 rfl (.inr (by simp [V.labelsL, V.labels, zz])) (t := [.sl 0 1 0 (code.map cB), .any, .any, .any, .any, .any]) rfl ?_
  refine Ok.seq ?_
  refine Ok.region ?_
  refine OkOps.ev tab_ok rfl (by simp only [kev, ktab, klen, kcv] <;> rfl) (by simp only [kput] <;> rfl) ?_
  refine OkOps.nil ?_
  refine Ok.seq ?_
  refine Ok.region ?_
  iterate 4 (refine OkOps.ev tab_ok rfl (by simp only [kev, ktab, klen, kcv] <;> rfl) (by simp only [kput] <;> rfl) ?_)
  refine OkOps.nil ?_
  refine Ok.ret ?_
  repeat (first | with_reducible refine thenQ_ret ?_ | with_reducible refine blockQ_ret ?_)
  refine retQ.end (by show resVs tab _ [.tmp 2] = _; simp only [kev, ktab, klen, kcv] <;> rfl) rfl ?_
  rfl
theorem c_spec_l01New (code : Str) (hc : code.length ≤ 4611686018427387904) {h : List V} {n : Nat}  : OkCall Try.prog 72 [.sl 0 1 0 (code.map cB)] h n (fun r h1 n1 => r = .ptr n 0 0 (cCur (curNew code)) ∧ h1 = h.map id ∧ n1 = n + 1) := by
  refine OkCall.enter' tab_ok Try.func72 rfl (t := [.sl 0 1 0 (code.map cB), .any, .any, .any, .any, .any, .any, .any, .any, .any, .any, .any, .any, .any, .any, .any, .any, .any, .any, .any, .any, .any, .any, .any, .any, .any, .any, .any, .any, .any, .any, .any]) rfl ?_
  refine Ok.seq ?_
  refine Ok.region ?_
  refine OkOps.ev tab_ok rfl (by simp only [kev, ktab, klen, kcv] <;> rfl) (by simp only [kput] <;> rfl) ?_
  refine OkOps.nil ?_
  refine Ok.seq ?_
  refine Ok.region ?_
  iterate 4 (refine OkOps.ev tab_ok rfl (by simp only [kev, ktab, klen, kcv] <;> rfl) (by simp only [kput] <;> rfl) ?_)
  refine OkOps.nil ?_
  refine Ok.seq ?_
  refine Ok.seq ?_
  refine Ok.region ?_
  refine OkOps.ev tab_ok rfl (by simp only [kev, ktab, klen, kcv] <;> rfl) (by simp only [kput] <;> rfl) ?_
  refine OkOps.nil ?_
  refine Ok.block ?_
  refine Ok.loopW (τ := Nat × Int) (fun x => [(3, .int .i64 x.2), (4, .int .i64 (x.1 : Int))]) [8, 9, 10, 11, 12, 13, 14, 15, 16, 17, 18, 19, 20, 21, 22, 23, 24, 25, 26, 27] (fun x => by simp only [kover] <;> rfl) (fun x => x.1 ≤ code.length ∧ x.1 ≤ 4000 ∧ hashC (4000 - x.1) (code.drop x.1) x.2 = hashC 4000 code (IntKind.i64.wrap (77201 + (code.length : Int)))) (fun x => 4000 - x.1) (0, IntKind.i64.wrap (77201 + (code.length : Int))) (by refine ⟨?_, ?_, ?_, ?_, ?_, ?_, ?_, ?_, ?_, ?_, ?_, ?_, ?_, ?_, ?_, ?_, ?_, ?_, ?_, ?_, ?_, ?_, ?_, ?_, ?_, ?_, ?_, ?_, ?_, ?_, ?_, ?_, trivial⟩ <;> first | exact le_any _ | with_reducible exact le_rfl' _ | (exact le_rfl' _) | exact le_rfl' _) (⟨Nat.zero_le _, Nat.zero_le _, rfl⟩) ?_
  rintro ⟨i, v⟩ ⟨h1, h2, h3⟩
  have h1 : i ≤ code.length := h1
  have h2 : i ≤ 4000 := h2
  have h3 : hashC (4000 - i) (code.drop i) v = hashC 4000 code (IntKind.i64.wrap (77201 + (code.length : Int))) := h3
  refine Ok.seq ?_
  refine Ok.seqC [(15, .bool (decide (i < code.length ∧ i < 4000)))] [8, 9, 10, 11, 12, 13, 14] (by simp only [kover] <;> rfl) ?_ ?_
  · skip
    refine Ok.region ?_
    iterate 5 (refine OkOps.ev tab_ok rfl (by simp only [kev, ktab, klen, kcv] <;> rfl) (by simp only [kput] <;> rfl) ?_)
    refine OkOps.split (d := 12) (by simp only [kev, ktab, klen, kcv] <;> rfl) (by simp only [kput] <;> rfl) (by simp only [kput] <;> rfl) (fun hg3_4 => ?_) (fun hg3_4 => ?_)
    · try simp only [bsimp] at hg3_4
      refine OkOps.on rfl rfl (by simp only [kev, ktab, klen, kcv]) ?_
      refine OkOps.ev tab_ok rfl (by simp only [kev, ktab, klen, kcv] <;> rfl) (by simp only [kput] <;> rfl) ?_
      refine OkOps.on rfl rfl (by simp only [kev, ktab, klen, kcv]) ?_
      iterate 2 (refine OkOps.ev tab_ok rfl (by simp only [kev, ktab, klen, kcv] <;> rfl) (by simp only [kput] <;> rfl) ?_)
      refine OkOps.nil ?_
      refine ⟨rfl, ?_, rfl, rfl⟩
      refine ⟨?_, ?_, ?_, ?_, ?_, ?_, ?_, ?_, ?_, ?_, ?_, ?_, ?_, ?_, ?_, ?_, ?_, ?_, ?_, ?_, ?_, ?_, ?_, ?_, ?_, ?_, ?_, ?_, ?_, ?_, ?_, ?_, trivial⟩ <;> first | exact le_any _ | with_reducible exact le_rfl' _ | (refine .inl (congrArg V.bool ?_); first | exact decide_eq_decide.2 (by clear h3; omega) | exact (decide_eq_false (by clear h3; omega)).symm) | exact le_rfl' _
    · try simp only [bsimp] at hg3_4
      refine OkOps.offU rfl rfl (.inl (by simp only [kev, ktab, klen, kcv, Bool.not_true, Bool.not_false])) (by simp only [kput] <;> rfl) ?_
      refine OkOps.offU rfl rfl (.inl (by simp only [kev, ktab, klen, kcv, Bool.not_true, Bool.not_false])) (by simp only [kput] <;> rfl) ?_
      refine OkOps.ev tab_ok rfl (by simp only [kev, ktab, klen, kcv] <;> rfl) (by simp only [kput] <;> rfl) ?_
      refine OkOps.nil ?_
      refine ⟨rfl, ?_, rfl, rfl⟩
      refine ⟨?_, ?_, ?_, ?_, ?_, ?_, ?_, ?_, ?_, ?_, ?_, ?_, ?_, ?_, ?_, ?_, ?_, ?_, ?_, ?_, ?_, ?_, ?_, ?_, ?_, ?_, ?_, ?_, ?_, ?_, ?_, ?_, trivial⟩ <;> first | exact le_any _ | with_reducible exact le_rfl' _ | (refine .inl (congrArg V.bool ?_); first | exact decide_eq_decide.2 (by clear h3; omega) | exact (decide_eq_false (by clear h3; omega)).symm) | exact le_rfl' _
  · skip
    refine Ok.cond (b := _) (by simp only [kev, ktab, klen, kcv] <;> rfl) (fun hb3 => ?_) (fun hb3 => ?_)
    · try simp only [bsimp] at hb3
      obtain ⟨hi, hi4⟩ : i < code.length ∧ i < 4000 := hb3
      have hd : code.drop i = code[i] :: code.drop (i + 1) := List.drop_eq_getElem_cons hi
      rw [hd, show 4000 - i = (4000 - (i + 1)) + 1 by omega] at h3
      refine Ok.skip ?_
      refine Ok.seq ?_
      refine Ok.block ?_
      refine Ok.region ?_
      iterate 4 (refine OkOps.ev tab_ok rfl (by simp only [kev, ktab, klen, kcv] <;> rfl) (by simp only [kput] <;> rfl) ?_)
      refine OkOps.ev tab_ok rfl (ev_idx_map (by simp only [kev, ktab, klen, kcv] <;> rfl) (by simp only [kev, ktab, klen, kcv] <;> rfl) (by omega) (by simp only [kev, ktab, klen, kcv] <;> rfl)) (by simp only [kput] <;> rfl) ?_
      refine OkOps.ev tab_ok rfl (by simp only [kev, ktab, klen, kcv] <;> rfl) (by simp only [kput] <;> rfl) ?_
      refine OkOps.ev tab_ok rfl (by simp only [kev, ktab, klen, kcv, four_b] <;> rfl) (by simp only [kput] <;> rfl) ?_
      iterate 4 (refine OkOps.ev tab_ok rfl (by simp only [kev, ktab, klen, kcv] <;> rfl) (by simp only [kput] <;> rfl) ?_)
      refine OkOps.nil ?_
      refine Ok.region ?_
      iterate 3 (refine OkOps.ev tab_ok rfl (by simp only [kev, ktab, klen, kcv] <;> rfl) (by simp only [kput] <;> rfl) ?_)
      refine OkOps.nil ?_
      refine ⟨(i + 1, _), ?_, rfl, rfl, ⟨hi, by omega, h3⟩, by show 4000 - (i + 1) < 4000 - i; omega⟩
      refine ⟨?_, ?_, ?_, ?_, ?_, ?_, ?_, ?_, ?_, ?_, ?_, ?_, ?_, ?_, ?_, ?_, ?_, ?_, ?_, ?_, ?_, ?_, ?_, ?_, ?_, ?_, ?_, ?_, ?_, ?_, ?_, ?_, trivial⟩ <;> first | exact le_any _ | with_reducible exact le_rfl' _ | (first | exact le_rfl' _ | (rw [wrap_add_one (by omega)]; exact le_rfl' _)) | exact le_rfl' _
    · try simp only [bsimp] at hb3
      have hn : ¬ (i < code.length ∧ i < 4000) := hb3
      have hv : v = hashC 4000 code (IntKind.i64.wrap (77201 + (code.length : Int))) := by rw [← h3]; by_cases hz : i = 4000; (subst hz; rfl); (rw [List.drop_eq_nil_of_le (by omega)]; cases 4000 - i <;> rfl)
      subst hv
      refine Ok.exit ?_
      refine Ok.seq ?_
      refine Ok.region ?_
      iterate 2 (refine OkOps.ev tab_ok rfl (by simp only [kev, ktab, klen, kcv] <;> rfl) (by simp only [kput] <;> rfl) ?_)
      refine OkOps.ev tab_ok rfl (by simp [ev1, fillV, kev, ktab, klen] <;> first | rfl | exact ⟨rfl, rfl⟩) (by simp only [kput] <;> rfl) ?_
      iterate 2 (refine OkOps.ev tab_ok rfl (by simp only [kev, ktab, klen, kcv] <;> rfl) (by simp only [kput] <;> rfl) ?_)
      refine OkOps.nil ?_
      refine Ok.ret ?_
      repeat (first | with_reducible refine thenQ_ret ?_ | with_reducible refine blockQ_ret ?_)
      refine retQ.end (by show resVs tab _ [.tmp 2] = _; simp only [kev, ktab, klen, kcv] <;> rfl) rfl ?_
      exact ⟨rfl, (List.map_id h).symm, rfl⟩
theorem c_spec_l01Byte (c : Cur) (L : Nat) (hb : c.b.length ≤ 4611686018427387904) {h : List V} {n : Nat}  : OkCall Try.prog 73 [.ptr (L + 1) 0 0 (cCur c)] h n (fun r h1 n1 => r = .int .i64 ((curByte c).1 : Int) ∧ h1 = V.updL (L + 1) 0 (cCur (curByte c).2) h ∧ n1 = n) := by
  refine OkCall.enter' tab_ok Try.func73 rfl (t := [.ptr (L + 1) 0 0 (cCur c), .any, .any, .any, .any, .any, .any, .any, .any, .any, .any, .any, .any, .any, .any, .any, .any, .any, .any, .any, .any, .any, .any, .any, .any, .any, .any, .any, .any, .any, .any, .any, .any, .any, .any, .any, .any, .any, .any, .any, .any, .any, .any, .any, .any, .any, .any, .any, .any, .any, .any, .any, .any, .any, .any, .any, .any, .any]) rfl ?_
  refine Ok.seq ?_
  refine Ok.region ?_
  refine OkOps.ev tab_ok rfl (by simp only [kev, ktab, klen, kcv] <;> rfl) (by simp only [kput] <;> rfl) ?_
  refine OkOps.nil ?_
  refine Ok.seq ?_
  refine Ok.region ?_
  iterate 9 (refine OkOps.ev tab_ok rfl (by simp only [kev, ktab, klen, kcv] <;> rfl) (by simp only [kput] <;> rfl) ?_)
  refine OkOps.storeE tab_ok rfl rfl (by simp only [kev, ktab, klen, kcv] <;> rfl) ⟨_, _, by simp only [kev]; rfl⟩ (by first | (simp [V.labelsL, V.labelsLL, V.labels, zz]; done) | (simp [-List.map_map, -List.map_drop, -List.map_take, -List.map_tail, -List.drop_one, V.labelsL, V.labelsLL, V.labels, zz]; done)) (by simp only [eq_self, V.updL, V.travL, V.travLL, V.trav, updS, updP, and_self, true_and, and_true, false_and, and_false, Nat.reduceEqDiff, Nat.reduceSub, Nat.le_refl, Nat.zero_le, ↓reduceIte, if_true, if_false, kput, zz] <;> rfl) (rfl) ?_
  refine OkOps.nil ?_
  refine Ok.seq ?_
  refine Ok.drawn 13 58 [] (by kernel_rfl) (by kernel_rfl) rfl ?_
  refine SOps.ev tab_ok rfl (by simp only [kev, ktab, klen, kcv] <;> rfl) (by simp only [kput] <;> rfl) ?_
  refine SOps.ev tab_ok rfl (by simp only [kev, ktab, klen, kcv] <;> rfl) (by simp only [kput] <;> rfl) ?_
  refine SOps.ev tab_ok rfl (by simp only [kev, ktab, klen, kcv] <;> rfl) (by simp only [kput] <;> rfl) ?_
  refine SOps.ev tab_ok rfl (by simp only [kev, ktab, klen, kcv] <;> rfl) (by simp only [kput] <;> rfl) ?_
  refine SOps.ev tab_ok rfl (by simp only [kev, ktab, klen, kcv] <;> rfl) (by simp only [kput] <;> rfl) ?_
  refine SOps.ev tab_ok rfl (by simp only [kev, ktab, klen, kcv] <;> rfl) (by simp only [kput] <;> rfl) ?_
  refine SOps.ev tab_ok rfl (by simp only [kev, ktab, klen, kcv] <;> rfl) (by simp only [kput] <;> rfl) ?_
  refine SOps.ev tab_ok rfl (by simp only [kev, ktab, klen, kcv] <;> rfl) (by simp only [kput] <;> rfl) ?_
  refine SOps.ev tab_ok rfl (by simp only [kev, ktab, klen, kcv] <;> rfl) (by simp only [kput] <;> rfl) ?_
  refine SOps.ev tab_ok rfl (by simp only [kev, ktab, klen, kcv] <;> rfl) (by simp only [kput] <;> rfl) ?_
  refine SOps.ev tab_ok rfl (by simp only [kev, ktab, klen, kcv] <;> rfl) (by simp only [kput] <;> rfl) ?_
  refine SOps.ev tab_ok rfl (by simp only [kev, ktab, klen, kcv, and255_m] <;> rfl) (by simp only [kput] <;> rfl) ?_
  refine SOps.ev tab_ok rfl (by simp only [kev, ktab, klen, kcv] <;> rfl) (by simp only [kput] <;> rfl) ?_
  refine SOps.nil ?_
  refine TOps.nil ?_
  refine Ok.seq ?_
  refine Ok.seq ?_
  refine Ok.drawn 10 58 [] (by kernel_rfl) (by kernel_rfl) rfl ?_
  refine SOps.ev tab_ok rfl (by simp only [kev, ktab, klen, kcv] <;> rfl) (by simp only [kput] <;> rfl) ?_
  refine SOps.ev tab_ok rfl (by simp only [kev, ktab, klen, kcv] <;> rfl) (by simp only [kput] <;> rfl) ?_
  refine SOps.ev tab_ok rfl (by simp only [kev, ktab, klen, kcv] <;> rfl) (by simp only [kput] <;> rfl) ?_
  refine SOps.ev tab_ok rfl (by simp only [kev, ktab, klen, kcv] <;> rfl) (by simp only [kput] <;> rfl) ?_
  refine SOps.ev tab_ok rfl (by simp only [kev, ktab, klen, kcv] <;> rfl) (by simp only [kput] <;> rfl) ?_
  refine SOps.ev tab_ok rfl (by simp only [kev, ktab, klen, kcv] <;> rfl) (by simp only [kput] <;> rfl) ?_
  refine SOps.ev tab_ok rfl (by simp only [kev, ktab, klen, kcv] <;> rfl) (by simp only [kput] <;> rfl) ?_
  refine SOps.ev tab_ok rfl (by simp only [kev, ktab, klen, kcv] <;> rfl) (by simp only [kput] <;> rfl) ?_
  refine SOps.ev tab_ok rfl (by simp only [kev, ktab, klen, kcv] <;> rfl) (by simp only [kput] <;> rfl) ?_
  refine SOps.ev tab_ok rfl (by simp only [kev, ktab, klen, kcv] <;> rfl) (by simp only [kput] <;> rfl) ?_
  refine SOps.nil ?_
  refine TOps.nil ?_
  refine Ok.cond (b := _) (by simp only [kev, ktab, klen, kcv] <;> rfl) (fun hb3 => ?_) (fun hb3 => ?_)
  · try simp only [bsimp] at hb3
    have hi : c.i < c.b.length := by omega
    rw [curByte_in hi]
    refine Ok.seq ?_
    refine Ok.drawn 14 58 [] (by kernel_rfl) (by kernel_rfl) rfl ?_
    refine SOps.ev tab_ok rfl (by simp only [kev, ktab, klen, kcv] <;> rfl) (by simp only [kput] <;> rfl) ?_
    refine SOps.ev tab_ok rfl (by simp only [kev, ktab, klen, kcv] <;> rfl) (by simp only [kput] <;> rfl) ?_
    refine SOps.ev tab_ok rfl (by simp only [kev, ktab, klen, kcv] <;> rfl) (by simp only [kput] <;> rfl) ?_
    refine SOps.ev tab_ok rfl (by simp only [kev, ktab, klen, kcv] <;> rfl) (by simp only [kput] <;> rfl) ?_
    refine SOps.ev tab_ok rfl (by simp only [kev, ktab, klen, kcv] <;> rfl) (by simp only [kput] <;> rfl) ?_
    refine SOps.ev tab_ok rfl (by simp only [kev, ktab, klen, kcv] <;> rfl) (by simp only [kput] <;> rfl) ?_
    refine SOps.ev tab_ok rfl (by simp only [kev, ktab, klen, kcv] <;> rfl) (by simp only [kput] <;> rfl) ?_
    refine SOps.ev tab_ok rfl (by simp only [kev, ktab, klen, kcv] <;> rfl) (by simp only [kput] <;> rfl) ?_
    refine SOps.ev tab_ok rfl (by simp only [kev, ktab, klen, kcv] <;> rfl) (by simp only [kput] <;> rfl) ?_
    refine SOps.ev tab_ok rfl (ev_idx_map (by simp only [kev, ktab, klen, kcv] <;> rfl) (by simp only [kev, ktab, klen, kcv] <;> rfl) (hi) (by simp only [kev, ktab, klen, kcv] <;> rfl)) (by simp only [kput] <;> rfl) ?_
    refine SOps.ev tab_ok rfl (by simp only [kev, ktab, klen, kcv] <;> rfl) (by simp only [kput] <;> rfl) ?_
    refine SOps.ev tab_ok rfl (by simp only [kev, ktab, klen, kcv, four_b] <;> rfl) (by simp only [kput] <;> rfl) ?_
    refine SOps.ev tab_ok rfl (by simp only [kev, ktab, klen, kcv] <;> rfl) (by simp only [kput] <;> rfl) ?_
    refine SOps.ev tab_ok rfl (by simp only [kev, ktab, klen, kcv, and255_m] <;> rfl) (by simp only [kput] <;> rfl) ?_
    refine SOps.nil ?_
    refine TOps.ev tab_ok rfl (by simp only [kev, ktab, klen, kcv] <;> rfl) (by simp only [kput] <;> rfl) ?_
    refine TOps.nil ?_
    refine Ok.region ?_
    iterate 5 (refine OkOps.ev tab_ok rfl (by simp only [kev, ktab, klen, kcv] <;> rfl) (by simp only [kput] <;> rfl) ?_)
    refine OkOps.ev tab_ok rfl (by simp only [kev, ktab, klen, kcv, wrap_add_one (show c.i + 1 ≤ 9223372036854775807 by omega)] <;> rfl) (by simp only [kput] <;> rfl) ?_
    iterate 2 (refine OkOps.ev tab_ok rfl (by simp only [kev, ktab, klen, kcv] <;> rfl) (by simp only [kput] <;> rfl) ?_)
    refine OkOps.storeE tab_ok rfl rfl (by simp only [kev, ktab, klen, kcv] <;> rfl) ⟨_, _, by simp only [kev]; rfl⟩ (by first | (simp [V.labelsL, V.labelsLL, V.labels, zz]; done) | (simp [-List.map_map, -List.map_drop, -List.map_take, -List.map_tail, -List.drop_one, V.labelsL, V.labelsLL, V.labels, zz]; done)) (by simp only [eq_self, V.updL, V.travL, V.travLL, V.trav, updS, updP, and_self, true_and, and_true, false_and, and_false, Nat.reduceEqDiff, Nat.reduceSub, Nat.le_refl, Nat.zero_le, ↓reduceIte, if_true, if_false, kput, zz] <;> rfl) (rfl) ?_
    refine OkOps.nil ?_
    refine Ok.seq ?_
    refine Ok.region ?_
    iterate 2 (refine OkOps.ev tab_ok rfl (by simp only [kev, ktab, klen, kcv] <;> rfl) (by simp only [kput] <;> rfl) ?_)
    refine OkOps.nil ?_
    refine Ok.ret ?_
    repeat (first | with_reducible refine thenQ_ret ?_ | with_reducible refine blockQ_ret ?_)
    refine retQ.end (by show resVs tab _ [.tmp 2] = _; simp only [kev, ktab, klen, kcv] <;> rfl) rfl ?_
    exact ⟨rfl, by first | rfl | (rw [upd_twice (by simp [V.travL, V.trav, updS, zz])]; rfl), rfl⟩
  · try simp only [bsimp] at hb3
    have hi : ¬ c.i < c.b.length := by omega
    rw [curByte_out hi]
    refine Ok.skip ?_
    refine Ok.seq ?_
    refine Ok.region ?_
    iterate 2 (refine OkOps.ev tab_ok rfl (by simp only [kev, ktab, klen, kcv] <;> rfl) (by simp only [kput] <;> rfl) ?_)
    refine OkOps.nil ?_
    refine Ok.ret ?_
    repeat (first | with_reducible refine thenQ_ret ?_ | with_reducible refine blockQ_ret ?_)
    refine retQ.end (by show resVs tab _ [.tmp 2] = _; simp only [kev, ktab, klen, kcv] <;> rfl) rfl ?_
    exact ⟨rfl, by first | rfl | (rw [upd_twice (by simp [V.travL, V.trav, updS, zz])]; rfl), rfl⟩
theorem c_spec_l01Below (c : Cur) (m : Nat) (L : Nat) (hb : c.b.length ≤ 4611686018427387904) (hm : 0 < m) {h : List V} {n : Nat}  : OkCall Try.prog 74 [.ptr (L + 1) 0 0 (cCur c), .int .i64 (m : Int)] h n (fun r h1 n1 => r = .int .i64 ((curBelow c m).1 : Int) ∧ h1 = V.updL (L + 1) 0 (cCur (curBelow c m).2) h ∧ n1 = n) := by
  refine OkCall.enter' tab_ok Try.func74 rfl (t := [.ptr (L + 1) 0 0 (cCur c), .int .i64 (m : Int), .any, .any, .any, .any, .any, .any, .any, .any, .any, .any, .any, .any, .any, .any, .any, .any, .any, .any, .any, .any, .any, .any, .any, .any, .any, .any, .any, .any, .any, .any, .any, .any, .any, .any, .any]) rfl ?_
  refine Ok.seq ?_
  refine Ok.region ?_
  refine OkOps.ev tab_ok rfl (by simp only [kev, ktab, klen, kcv] <;> rfl) (by simp only [kput] <;> rfl) ?_
  refine OkOps.nil ?_
  refine Ok.seq ?_
  refine Ok.seq ?_
  refine Ok.region ?_
  iterate 2 (refine OkOps.ev tab_ok rfl (by simp only [kev, ktab, klen, kcv] <;> rfl) (by simp only [kput] <;> rfl) ?_)
  refine OkOps.nil ?_
  refine Ok.cond (b := _) (by simp only [kev, ktab, klen, kcv] <;> rfl) (fun hb1 => ?_) (fun hb1 => ?_)
  · try simp only [bsimp] at hb1
    exfalso; omega
  · try simp only [bsimp] at hb1
    have h0 : ¬ m = 0 := by omega
    have hm0 : (((m : Nat) : Int) = 0) = False := eq_false (by omega)
    refine Ok.skip ?_
    refine Ok.seq ?_
    refine Ok.seq ?_
    refine Ok.region ?_
    iterate 2 (refine OkOps.ev tab_ok rfl (by simp only [kev, ktab, klen, kcv] <;> rfl) (by simp only [kput] <;> rfl) ?_)
    refine OkOps.nil ?_
    refine Ok.cond (b := _) (by simp only [kev, ktab, klen, kcv] <;> rfl) (fun hb3 => ?_) (fun hb3 => ?_)
    · try simp only [bsimp] at hb3
      have h2 : m ≤ 256 := by omega
      rw [show curBelow c m = ((curByte c).1 % m, (curByte c).2) from (if_neg h0).trans (if_pos h2)]
      refine Ok.seq ?_
      refine Ok.region ?_
      refine OkOps.ev tab_ok rfl (by simp only [kev, ktab, klen, kcv] <;> rfl) (by simp only [kput] <;> rfl) ?_
      refine OkOps.upd rfl rfl (by simp only [kev, ktab, klen, kcv] <;> rfl) (by simp only [kev, ktab, klen, kcv] <;> rfl) cl73 (fun h => c_spec_l01Byte c L hb) (by simp only [eq_self, V.updL, V.travL, V.travLL, V.trav, updS, updP, and_self, true_and, and_true, false_and, and_false, Nat.reduceEqDiff, Nat.reduceSub, Nat.le_refl, Nat.zero_le, ↓reduceIte, if_true, if_false, kput, zz] <;> rfl) (rfl) ?_
      refine OkOps.ev tab_ok rfl (by simp only [kev, ktab, klen, kcv] <;> rfl) (by simp only [kput] <;> rfl) ?_
      refine OkOps.ev tab_ok rfl (by simp only [kev, ktab, klen, kcv, hm0, if_false, tmod_nat] <;> rfl) (by simp only [kput] <;> rfl) ?_
      refine OkOps.ev tab_ok rfl (by simp only [kev, ktab, klen, kcv] <;> rfl) (by simp only [kput] <;> rfl) ?_
      refine OkOps.nil ?_
      refine Ok.ret ?_
      repeat (first | with_reducible refine thenQ_ret ?_ | with_reducible refine blockQ_ret ?_)
      refine retQ.end (by show resVs tab _ [.tmp 4] = _; simp only [kev, ktab, klen, kcv] <;> rfl) rfl ?_
      exact ⟨rfl, rfl, rfl⟩
    · try simp only [bsimp] at hb3
      have h2 : ¬ m ≤ 256 := by omega
      rw [show curBelow c m = _ from (if_neg h0).trans (if_neg h2)]
      have q1 := curByte_le c
      have q2 := curByte_le (curByte c).2
      have q3 := curByte_le (curByte (curByte c).2).2
      have q4 := curByte_le (curByte (curByte (curByte c).2).2).2
      refine Ok.skip ?_
      refine Ok.seq ?_
      refine Ok.region ?_
      refine OkOps.ev tab_ok rfl (by simp only [kev, ktab, klen, kcv] <;> rfl) (by simp only [kput] <;> rfl) ?_
      refine OkOps.upd rfl rfl (by simp only [kev, ktab, klen, kcv] <;> rfl) (by simp only [kev, ktab, klen, kcv] <;> rfl) cl73 (fun h => c_spec_l01Byte c L hb) (by simp only [eq_self, V.updL, V.travL, V.travLL, V.trav, updS, updP, and_self, true_and, and_true, false_and, and_false, Nat.reduceEqDiff, Nat.reduceSub, Nat.le_refl, Nat.zero_le, ↓reduceIte, if_true, if_false, kput, zz] <;> rfl) (rfl) ?_
      refine OkOps.ev tab_ok rfl (by simp only [kev, ktab, klen, kcv] <;> rfl) (by simp only [kput] <;> rfl) ?_
      refine OkOps.nil ?_
      refine Ok.seq ?_
      refine Ok.region ?_
      refine OkOps.ev tab_ok rfl (by simp only [kev, ktab, klen, kcv] <;> rfl) (by simp only [kput] <;> rfl) ?_
      refine OkOps.upd rfl rfl (by simp only [kev, ktab, klen, kcv] <;> rfl) (by simp only [kev, ktab, klen, kcv] <;> rfl) cl73 (fun h => c_spec_l01Byte (curByte c).2 L (by rw [curByte_b]; exact hb)) (by simp only [eq_self, V.updL, V.travL, V.travLL, V.trav, updS, updP, and_self, true_and, and_true, false_and, and_false, Nat.reduceEqDiff, Nat.reduceSub, Nat.le_refl, Nat.zero_le, ↓reduceIte, if_true, if_false, kput, zz] <;> rfl) (rfl) ?_
      refine OkOps.ev tab_ok rfl (by simp only [kev, ktab, klen, kcv] <;> rfl) (by simp only [kput] <;> rfl) ?_
      refine OkOps.nil ?_
      refine Ok.seq ?_
      refine Ok.region ?_
      refine OkOps.ev tab_ok rfl (by simp only [kev, ktab, klen, kcv] <;> rfl) (by simp only [kput] <;> rfl) ?_
      refine OkOps.upd rfl rfl (by simp only [kev, ktab, klen, kcv] <;> rfl) (by simp only [kev, ktab, klen, kcv] <;> rfl) cl73 (fun h => c_spec_l01Byte (curByte (curByte c).2).2 L (by simp only [curByte_b]; exact hb)) (by simp only [eq_self, V.updL, V.travL, V.travLL, V.trav, updS, updP, and_self, true_and, and_true, false_and, and_false, Nat.reduceEqDiff, Nat.reduceSub, Nat.le_refl, Nat.zero_le, ↓reduceIte, if_true, if_false, kput, zz] <;> rfl) (rfl) ?_
      refine OkOps.ev tab_ok rfl (by simp only [kev, ktab, klen, kcv] <;> rfl) (by simp only [kput] <;> rfl) ?_
      refine OkOps.nil ?_
      refine Ok.seq ?_
      refine Ok.region ?_
      refine OkOps.ev tab_ok rfl (by simp only [kev, ktab, klen, kcv] <;> rfl) (by simp only [kput] <;> rfl) ?_
      refine OkOps.upd rfl rfl (by simp only [kev, ktab, klen, kcv] <;> rfl) (by simp only [kev, ktab, klen, kcv] <;> rfl) cl73 (fun h => c_spec_l01Byte (curByte (curByte (curByte c).2).2).2 L (by simp only [curByte_b]; exact hb)) (by simp only [eq_self, V.updL, V.travL, V.travLL, V.trav, updS, updP, and_self, true_and, and_true, false_and, and_false, Nat.reduceEqDiff, Nat.reduceSub, Nat.le_refl, Nat.zero_le, ↓reduceIte, if_true, if_false, kput, zz] <;> rfl) (rfl) ?_
      refine OkOps.ev tab_ok rfl (by simp only [kev, ktab, klen, kcv] <;> rfl) (by simp only [kput] <;> rfl) ?_
      refine OkOps.nil ?_
      refine Ok.seq ?_
      refine Ok.region ?_
      refine OkOps.ev tab_ok rfl (by simp only [kev, ktab, klen, kcv] <;> rfl) (by simp only [kput] <;> rfl) ?_
      refine OkOps.ev tab_ok rfl (by simp only [kev, ktab, klen, kcv, mul24 q1] <;> rfl) (by simp only [kput] <;> rfl) ?_
      refine OkOps.ev tab_ok rfl (by simp only [kev, ktab, klen, kcv] <;> rfl) (by simp only [kput] <;> rfl) ?_
      refine OkOps.ev tab_ok rfl (by simp only [kev, ktab, klen, kcv, mul16 q2] <;> rfl) (by simp only [kput] <;> rfl) ?_
      refine OkOps.ev tab_ok rfl (by simp only [kev, ktab, klen, kcv, wrap_add_nat (show (curByte c).1 * 16777216 + (curByte (curByte c).2).1 * 65536 ≤ 9223372036854775807 by omega)] <;> rfl) (by simp only [kput] <;> rfl) ?_
      refine OkOps.ev tab_ok rfl (by simp only [kev, ktab, klen, kcv] <;> rfl) (by simp only [kput] <;> rfl) ?_
      refine OkOps.ev tab_ok rfl (by simp only [kev, ktab, klen, kcv, mul8 q3] <;> rfl) (by simp only [kput] <;> rfl) ?_
      refine OkOps.ev tab_ok rfl (by simp only [kev, ktab, klen, kcv, wrap_add_nat (show (curByte c).1 * 16777216 + (curByte (curByte c).2).1 * 65536 + (curByte (curByte (curByte c).2).2).1 * 256 ≤ 9223372036854775807 by omega)] <;> rfl) (by simp only [kput] <;> rfl) ?_
      refine OkOps.ev tab_ok rfl (by simp only [kev, ktab, klen, kcv] <;> rfl) (by simp only [kput] <;> rfl) ?_
      refine OkOps.ev tab_ok rfl (by simp only [kev, ktab, klen, kcv, wrap_add_nat (show (curByte c).1 * 16777216 + (curByte (curByte c).2).1 * 65536 + (curByte (curByte (curByte c).2).2).1 * 256 + (curByte (curByte (curByte (curByte c).2).2).2).1 ≤ 9223372036854775807 by omega)] <;> rfl) (by simp only [kput] <;> rfl) ?_
      refine OkOps.ev tab_ok rfl (by simp only [kev, ktab, klen, kcv] <;> rfl) (by simp only [kput] <;> rfl) ?_
      refine OkOps.ev tab_ok rfl (by simp only [kev, ktab, klen, kcv, hm0, if_false, tmod_nat] <;> rfl) (by simp only [kput] <;> rfl) ?_
      refine OkOps.ev tab_ok rfl (by simp only [kev, ktab, klen, kcv] <;> rfl) (by simp only [kput] <;> rfl) ?_
      refine OkOps.nil ?_
      refine Ok.ret ?_
      repeat (first | with_reducible refine thenQ_ret ?_ | with_reducible refine blockQ_ret ?_)
      refine retQ.end (by show resVs tab _ [.tmp 4] = _; simp only [kev, ktab, klen, kcv] <;> rfl) rfl ?_
      exact ⟨rfl, by rw [upd_twice (by simp [V.travL, V.trav, updS, zz]), upd_twice (by simp [V.travL, V.trav, updS, zz]), upd_twice (by simp [V.travL, V.trav, updS, zz])], rfl⟩
theorem w_spec_DrawPlaces (code : Str) (hc : code.length ≤ 4611686018427387904) : Weak Try.prog 40 [.sl 0 1 0 (code.map cB)] (.sl 0 1 0 ((drawPlaces code).map cI)) := by
  refine Weak.enter tab_ok Try.func40 rfl (.inr (by simp [V.labelsL, V.labels, zz])) (t := [.sl 0 1 0 (code.map cB), .any, .any, .any, .any, .any, .any, .any, .any, .any, .any, .any, .any, .any, .any, .any, .any, .any, .any, .any, .any]) rfl ?_
  refine Ok.seq ?_
  refine Ok.region ?_
  refine OkOps.ev tab_ok rfl (by simp only [kev, ktab, klen, kcv] <;> rfl) (by simp only [kput] <;> rfl) ?_
  refine OkOps.nil ?_
  refine Ok.seq ?_
  refine Ok.region ?_
  refine OkOps.ev tab_ok rfl (by simp only [kev, ktab, klen, kcv] <;> rfl) (by simp only [kput] <;> rfl) ?_
  refine OkOps.turn _ rfl rfl (by simp only [kev, ktab, klen, kcv] <;> rfl) (by simp only [kev, ktab, klen, kcv] <;> rfl) cl72 (fun h => c_spec_l01New code hc) (by first | rfl | (simp only [Nat.add_zero, Nat.reduceAdd] <;> rfl)) (by simp only [List.map_cons, List.map_nil, kturn, fillA_ptr, fillA_far, fillA_self, zz, ne_eq, Nat.reduceEqDiff, not_false_eq_true, List.length_map, id_eq, kput] <;> rfl) (rfl) ?_
  refine OkOps.ev tab_ok rfl (by simp only [kev, ktab, klen, kcv] <;> rfl) (by simp only [kput] <;> rfl) ?_
  refine OkOps.nil ?_
  refine Ok.seq ?_
  refine Ok.region ?_
  refine OkOps.ev tab_ok rfl (by simp only [kev, ktab, klen, kcv] <;> rfl) (by simp only [kput] <;> rfl) ?_
  refine OkOps.upd rfl rfl (by simp only [kev, ktab, klen, kcv] <;> rfl) (by simp only [kev, ktab, klen, kcv] <;> rfl) cl73 (fun h => c_spec_l01Byte (curNew code) 0 hc) (by simp only [eq_self, V.updL, V.travL, V.travLL, V.trav, updS, updP, and_self, true_and, and_true, false_and, and_false, Nat.reduceEqDiff, Nat.reduceSub, Nat.le_refl, Nat.zero_le, ↓reduceIte, if_true, if_false, kput, zz] <;> rfl) (rfl) ?_
  refine OkOps.nil ?_
  refine Ok.seq ?_
  refine Ok.region ?_
  iterate 2 (refine OkOps.ev tab_ok rfl (by simp only [kev, ktab, klen, kcv] <;> rfl) (by simp only [kput] <;> rfl) ?_)
  refine OkOps.nil ?_
  refine Ok.seq ?_
  refine Ok.seq ?_
  refine Ok.region ?_
  refine OkOps.ev tab_ok rfl (by simp only [kev, ktab, klen, kcv] <;> rfl) (by simp only [kput] <;> rfl) ?_
  refine OkOps.nil ?_
  refine Ok.block ?_
  refine Ok.bump (n' := 3) (by omega) ?_
  refine Ok.loopWZ (τ := List Nat × Cur) (fun x => [(3, .ptr 1 0 0 (cCur x.2)), (4, .sl 2 1 0 (x.1.map cI)), (5, .int .i64 (x.1.length : Int)), (7, .any), (8, .any)]) [11, 12, 13, 14, 15, 16, 17, 18, 19] (fun x => by simp only [kover] <;> rfl) (fun x => x.1.length ≤ 12 ∧ x.1 ++ (drawN (12 - x.1.length) 10000 x.2).1 = drawPlaces code ∧ x.2.b = code) (fun x => 12 - x.1.length) ([], (curByte (curNew code)).2) (by omega) (by refine ⟨?_, ?_, ?_, ?_, ?_, ?_, ?_, ?_, ?_, ?_, ?_, ?_, ?_, ?_, ?_, ?_, ?_, ?_, ?_, ?_, ?_, trivial⟩ <;> first | exact le_any _ | with_reducible exact le_rfl' _ | (first | exact le_rfl' _ | exact le_nil 2 1) | exact le_rfl' _) (⟨Nat.zero_le _, rfl, by rw [curByte_b]; rfl⟩) ?_
  rintro ⟨xs, cc⟩ ⟨h1, h2, h3⟩
  have h1 : xs.length ≤ 12 := h1
  have h2 : xs ++ (drawN (12 - xs.length) 10000 cc).1 = drawPlaces code := h2
  have hcb : cc.b.length ≤ 4611686018427387904 := by rw [show cc.b = code from h3]; exact hc
  refine Ok.seq ?_
  refine Ok.seq ?_
  refine Ok.region ?_
  iterate 2 (refine OkOps.ev tab_ok rfl (by simp only [kev, ktab, klen, kcv] <;> rfl) (by simp only [kput] <;> rfl) ?_)
  refine OkOps.nil ?_
  refine Ok.cond (b := _) (by simp only [kev, ktab, klen, kcv] <;> rfl) (fun hb5 => ?_) (fun hb5 => ?_)
  · try simp only [bsimp] at hb5
    have hi : xs.length < 12 := by omega
    refine Ok.skip ?_
    refine Ok.seq ?_
    refine Ok.block ?_
    refine Ok.region ?_
    iterate 2 (refine OkOps.ev tab_ok rfl (by simp only [kev, ktab, klen, kcv] <;> rfl) (by simp only [kput] <;> rfl) ?_)
    refine OkOps.upd rfl rfl (by simp only [kev, ktab, klen, kcv] <;> rfl) (by simp only [kev, ktab, klen, kcv] <;> rfl) cl74 (fun h => c_spec_l01Below cc 10000 0 hcb (by decide)) (by simp only [eq_self, V.updL, V.travL, V.travLL, V.trav, updS, updP, and_self, true_and, and_true, false_and, and_false, Nat.reduceEqDiff, Nat.reduceSub, Nat.le_refl, Nat.zero_le, ↓reduceIte, if_true, if_false, kput, zz] <;> rfl) (rfl) ?_
    refine OkOps.ev tab_ok rfl (ev_bs (by simp only [ktab] <;> rfl) (by simp only [ktab] <;> rfl) (by decide) (by decide) (by simp only [kev, ktab, klen, kcv, List.map_cons, List.map_nil] <;> rfl) (by simp only [kfe, beq_self_eq_true, Bool.and_true, Bool.true_and, decide_true, Nat.zero_add, Nat.lt_add_one, Nat.reduceLT, Nat.reduceAdd, Nat.zero_lt_succ, if_true, ↓reduceIte] <;> rfl)) (by simp only [kput] <;> rfl) ?_
    refine OkOps.append tab_ok rfl rfl (by simp only [ktab] <;> rfl) (by simp only [ktab] <;> rfl) (by decide) rfl (by simp only [kev, ktab, klen, kcv] <;> rfl) (.inl ⟨_, _, by simp only [kev, ktab, klen, kcv] <;> rfl⟩) (by omega) (by omega) (by simp; omega) (by simp; omega) (by simp [V.one]) (by simp only [V.killL, V.killLL, V.travL, V.travLL, V.trav, killS, killP, Nat.reduceEqDiff, ↓reduceIte, reduceCtorEq, if_true, if_false, List.append_nil, List.nil_append, List.cons_append, zz] <;> rfl) (by simp only [V.killL, V.killLL, V.travL, V.travLL, V.trav, killS, killP, Nat.reduceEqDiff, ↓reduceIte, reduceCtorEq, if_true, if_false, List.append_nil, List.nil_append, List.cons_append, zz, kput] <;> rfl) (rfl) ?_
    refine OkOps.ev tab_ok rfl (by simp only [kev, ktab, klen, kcv] <;> rfl) (by simp only [kput] <;> rfl) ?_
    refine OkOps.nil ?_
    refine Ok.region ?_
    iterate 3 (refine OkOps.ev tab_ok rfl (by simp only [kev, ktab, klen, kcv] <;> rfl) (by simp only [kput] <;> rfl) ?_)
    refine OkOps.nil ?_
    refine ⟨(xs ++ [(curBelow cc 10000).1], (curBelow cc 10000).2), ?_, rfl, ⟨by simp only [List.length_append, List.length_cons, List.length_nil]; omega, by rw [← h2, show 12 - xs.length = (12 - (xs.length + 1)) + 1 by omega]; simp [drawN], by rw [curBelow_b]; exact h3⟩, by simp only [List.length_append, List.length_cons, List.length_nil]; omega⟩
    simp only [V.renL, V.travL, V.travLL, V.trav, frz, zz, Nat.reduceLeDiff, ↓reduceIte]
    refine ⟨?_, ?_, ?_, ?_, ?_, ?_, ?_, ?_, ?_, ?_, ?_, ?_, ?_, ?_, ?_, ?_, ?_, ?_, ?_, ?_, ?_, trivial⟩ <;> first | exact le_any _ | with_reducible exact le_rfl' _ | (first | exact le_rfl' _ | (simp only [List.map_append, List.map_cons, List.map_nil]; exact le_rfl' _) | (rw [wrap_add_one (by omega)]; simp only [List.length_append, List.length_cons, List.length_nil]; exact le_rfl' _)) | exact le_rfl' _
  · try simp only [bsimp] at hb5
    have hi : xs.length = 12 := by omega
    rw [hi] at h2
    have h2 : xs = drawPlaces code := by rw [← h2]; simp [drawN]
    refine Ok.exit ?_
    refine Ok.seq ?_
    refine Ok.region ?_
    iterate 2 (refine OkOps.ev tab_ok rfl (by simp only [kev, ktab, klen, kcv] <;> rfl) (by simp only [kput] <;> rfl) ?_)
    refine OkOps.nil ?_
    refine Ok.ret ?_
    repeat (first | with_reducible refine thenQ_ret ?_ | with_reducible refine blockQ_ret ?_)
    refine retQ.end (by show resVs tab _ [.tmp 2] = _; simp only [kev, ktab, klen, kcv] <;> rfl) rfl ?_
    rw [← h2]; simp [V.erase, V.trav, packV, zz]
theorem w_spec_l01Figure (d : Nat) (hd : d < 10) : Weak Try.prog 75 [.int .i64 (d : Int)] (.int .u8 ((UInt8.ofNat (48 + d)).toNat : Int)) := by
  refine Weak.enter tab_ok Try.func75 rfl (.inr (by simp [V.labelsL, V.labels, zz])) (t := [.int .i64 (d : Int), .any, .any, .any, .any, .any, .any, .any, .any, .any, .any, .any]) rfl ?_
  refine Ok.seq ?_
  refine Ok.region ?_
  refine OkOps.ev tab_ok rfl (by simp only [kev, ktab, klen, kcv] <;> rfl) (by simp only [kput] <;> rfl) ?_
  refine OkOps.nil ?_
  refine Ok.seq ?_
  refine Ok.seq ?_
  refine Ok.region ?_
  iterate 2 (refine OkOps.ev tab_ok rfl (by simp only [kev, ktab, klen, kcv] <;> rfl) (by simp only [kput] <;> rfl) ?_)
  refine OkOps.nil ?_
  refine Ok.cond (b := _) (by simp only [kev, ktab, klen, kcv] <;> rfl) (fun hb1 => ?_) (fun hb1 => ?_)
  · try simp only [bsimp] at hb1
    refine Ok.seq ?_
    refine Ok.region ?_
    iterate 2 (refine OkOps.ev tab_ok rfl (by simp only [kev, ktab, klen, kcv] <;> rfl) (by simp only [kput] <;> rfl) ?_)
    refine OkOps.ev tab_ok rfl (by simp only [kev, ktab, klen, kcv, fig_byte hd] <;> rfl) (by simp only [kput] <;> rfl) ?_
    refine OkOps.ev tab_ok rfl (by simp only [kev, ktab, klen, kcv] <;> rfl) (by simp only [kput] <;> rfl) ?_
    refine OkOps.nil ?_
    refine Ok.ret ?_
    repeat (first | with_reducible refine thenQ_ret ?_ | with_reducible refine blockQ_ret ?_)
    refine retQ.end (by show resVs tab _ [.tmp 2] = _; simp only [kev, ktab, klen, kcv] <;> rfl) rfl ?_
    rfl
  · try simp only [bsimp] at hb1
    exfalso; omega
theorem w_spec_Decimal (k : Nat) (hk : k ≤ 4611686018427387904) : Weak Try.prog 41 [.int .i64 (k : Int)] (.str (decS k)) := by
  refine Weak.enter tab_ok Try.func41 rfl (.inr (by simp [V.labelsL, V.labels, zz])) (t := [.int .i64 (k : Int), .any, .any, .any, .any, .any, .any, .any, .any, .any, .any, .any, .any, .any, .any, .any, .any, .any, .any, .any, .any, .any, .any, .any, .any, .any, .any, .any, .any, .any]) rfl ?_
  refine Ok.seq ?_
  refine Ok.region ?_
  refine OkOps.ev tab_ok rfl (by simp only [kev, ktab, klen, kcv] <;> rfl) (by simp only [kput] <;> rfl) ?_
  refine OkOps.nil ?_
  refine Ok.seq ?_
  refine Ok.seq ?_
  refine Ok.region ?_
  iterate 2 (refine OkOps.ev tab_ok rfl (by simp only [kev, ktab, klen, kcv] <;> rfl) (by simp only [kput] <;> rfl) ?_)
  refine OkOps.nil ?_
  refine Ok.cond (b := _) (by simp only [kev, ktab, klen, kcv] <;> rfl) (fun hb1 => ?_) (fun hb1 => ?_)
  · try simp only [bsimp] at hb1
    rw [show k = 0 by omega]
    refine Ok.seq ?_
    refine Ok.region ?_
    refine OkOps.ev tab_ok rfl (by simp only [kev, ktab, klen, kcv] <;> rfl) (by simp only [kput] <;> rfl) ?_
    refine OkOps.nil ?_
    refine Ok.ret ?_
    repeat (first | with_reducible refine thenQ_ret ?_ | with_reducible refine blockQ_ret ?_)
    refine retQ.end (by show resVs tab _ [.tmp 2] = _; simp only [kev, ktab, klen, kcv] <;> rfl) rfl ?_
    rfl
  · try simp only [bsimp] at hb1
    have hk0 : ¬ k = 0 := by omega
    rw [decS, if_neg hk0]
    refine Ok.skip ?_
    refine Ok.seq ?_
    refine Ok.region ?_
    iterate 3 (refine OkOps.ev tab_ok rfl (by simp only [kev, ktab, klen, kcv] <;> rfl) (by simp only [kput] <;> rfl) ?_)
    refine OkOps.nil ?_
    refine Ok.seq ?_
    refine Ok.region ?_
    refine OkOps.ev tab_ok rfl (by simp only [kev, ktab, klen, kcv] <;> rfl) (by simp only [kput] <;> rfl) ?_
    refine OkOps.nil ?_
    refine Ok.seq ?_
    refine Ok.block ?_
    refine Ok.loopWZ (τ := Nat × Str) (fun x => [(0, .int .i64 (x.1 : Int)), (4, .str x.2)]) [5, 10, 11, 12, 13, 14, 15, 16, 17, 18, 19, 20, 21, 22, 23, 24, 25] (fun x => by simp only [kover] <;> rfl) (fun x => decGo x.1 x.2 = decGo k [] ∧ x.1 + x.2.length ≤ k) (fun x => x.1) (k, []) (by omega) (by refine ⟨?_, ?_, ?_, ?_, ?_, ?_, ?_, ?_, ?_, ?_, ?_, ?_, ?_, ?_, ?_, ?_, ?_, ?_, ?_, ?_, ?_, ?_, ?_, ?_, ?_, ?_, ?_, ?_, ?_, ?_, trivial⟩ <;> first | exact le_any _ | with_reducible exact le_rfl' _ | (exact le_rfl' _) | exact le_rfl' _) (⟨rfl, by simp⟩) ?_
    rintro ⟨m, acc⟩ ⟨h1, h2⟩
    have h1 : decGo m acc = decGo k [] := h1
    have h2 : m + acc.length ≤ k := h2
    refine Ok.seq ?_
    refine Ok.seq ?_
    refine Ok.region ?_
    iterate 2 (refine OkOps.ev tab_ok rfl (by simp only [kev, ktab, klen, kcv] <;> rfl) (by simp only [kput] <;> rfl) ?_)
    refine OkOps.nil ?_
    refine Ok.cond (b := _) (by simp only [kev, ktab, klen, kcv] <;> rfl) (fun hb5 => ?_) (fun hb5 => ?_)
    · try simp only [bsimp] at hb5
      have hm : 0 < m := by omega
      refine Ok.skip ?_
      refine Ok.block ?_
      refine Ok.seq ?_
      refine Ok.region ?_
      refine OkOps.ev tab_ok rfl (by simp only [kev, ktab, klen, kcv] <;> rfl) (by simp only [kput] <;> rfl) ?_
      refine OkOps.ev tab_ok rfl (by simp only [kev, ktab, klen, kcv, rem10] <;> rfl) (by simp only [kput] <;> rfl) ?_
      refine OkOps.ev tab_ok rfl (by simp only [kev, ktab, klen, kcv] <;> rfl) (by simp only [kput] <;> rfl) ?_
      refine OkOps.nil ?_
      refine Ok.seq ?_
      refine Ok.seq ?_
      refine Ok.region ?_
      iterate 2 (refine OkOps.ev tab_ok rfl (by simp only [kev, ktab, klen, kcv] <;> rfl) (by simp only [kput] <;> rfl) ?_)
      refine OkOps.nil ?_
      refine Ok.cond (b := _) (by simp only [kev, ktab, klen, kcv] <;> rfl) (fun hb7 => ?_) (fun hb7 => ?_)
      · try simp only [bsimp] at hb7
        exfalso; omega
      · try simp only [bsimp] at hb7
        refine Ok.skip ?_
        refine Ok.seq ?_
        refine Ok.region ?_
        refine OkOps.ev tab_ok rfl (by simp only [kev, ktab, klen, kcv] <;> rfl) (by simp only [kput] <;> rfl) ?_
        refine OkOps.S0 rfl (OpS.weak' rfl (by simp only [kev, ktab, klen, kcv] <;> rfl) (by simp only [kev, ktab, klen, kcv] <;> rfl) cl75 (w_spec_l01Figure (m % 10) (by omega))) (by simp only [kput] <;> rfl) ?_
        refine OkOps.ev tab_ok rfl (ev_bs (by simp only [ktab] <;> rfl) (by simp only [ktab] <;> rfl) (by decide) (by decide) (by simp only [kev, ktab, klen, kcv, List.map_cons, List.map_nil] <;> rfl) (by simp only [kfe, beq_self_eq_true, Bool.and_true, Bool.true_and, decide_true, Nat.zero_add, Nat.lt_add_one, Nat.reduceLT, Nat.reduceAdd, Nat.zero_lt_succ, if_true, ↓reduceIte] <;> rfl)) (by simp only [kput] <;> rfl) ?_
        refine OkOps.ev tab_ok rfl (ev_text' (by simp only [kev, ktab, klen, kcv] <;> rfl) rfl rfl rfl (by simp only [kby, Option.map_some, List.append_assoc, List.cons_append, List.nil_append] <;> rfl)) (by simp only [kput] <;> rfl) ?_
        refine OkOps.ev tab_ok rfl (by simp only [kev, ktab, klen, kcv] <;> rfl) (by simp only [kput] <;> rfl) ?_
        refine OkOps.ev tab_ok rfl (ev_cat (by simp only [kev, ktab, klen, kcv] <;> rfl) (by simp only [kev, ktab, klen, kcv] <;> rfl) (by first | omega | (simp only [List.length_cons, List.length_nil]; omega))) (by simp only [kput] <;> rfl) ?_
        refine OkOps.ev tab_ok rfl (by simp only [kev, ktab, klen, kcv] <;> rfl) (by simp only [kput] <;> rfl) ?_
        refine OkOps.nil ?_
        refine Ok.region ?_
        refine OkOps.ev tab_ok rfl (by simp only [kev, ktab, klen, kcv] <;> rfl) (by simp only [kput] <;> rfl) ?_
        refine OkOps.ev tab_ok rfl (by simp only [kev, ktab, klen, kcv, quo10 (show m ≤ 9223372036854775807 by omega)] <;> rfl) (by simp only [kput] <;> rfl) ?_
        refine OkOps.ev tab_ok rfl (by simp only [kev, ktab, klen, kcv] <;> rfl) (by simp only [kput] <;> rfl) ?_
        refine OkOps.nil ?_
        refine ⟨(m / 10, UInt8.ofNat (48 + m % 10) :: acc), ?_, rfl, ⟨by rw [← h1, decGo_pos hm], by simp only [List.length_cons]; omega⟩, by show m / 10 < m; omega⟩
        simp only [V.renL, V.travL, V.travLL, V.trav, frz, zz, Nat.reduceLeDiff, ↓reduceIte]
        refine ⟨?_, ?_, ?_, ?_, ?_, ?_, ?_, ?_, ?_, ?_, ?_, ?_, ?_, ?_, ?_, ?_, ?_, ?_, ?_, ?_, ?_, ?_, ?_, ?_, ?_, ?_, ?_, ?_, ?_, ?_, trivial⟩ <;> first | exact le_any _ | with_reducible exact le_rfl' _ | (exact le_rfl' _) | exact le_rfl' _
    · try simp only [bsimp] at hb5
      have hm : ¬ 0 < m := by omega
      refine Ok.exit ?_
      refine Ok.seq ?_
      refine Ok.seq ?_
      refine Ok.region ?_
      refine OkOps.ev tab_ok rfl (by simp only [kev, ktab, klen, kcv] <;> rfl) (by simp only [kput] <;> rfl) ?_
      refine OkOps.nil ?_
      refine Ok.cond (b := _) (by simp only [kev, ktab, klen, kcv] <;> rfl) (fun hb11 => ?_) (fun hb11 => ?_)
      · try simp only [bsimp] at hb11
        exfalso; omega
      · try simp only [bsimp] at hb11
        refine Ok.skip ?_
        refine Ok.seq ?_
        refine Ok.region ?_
        iterate 2 (refine OkOps.ev tab_ok rfl (by simp only [kev, ktab, klen, kcv] <;> rfl) (by simp only [kput] <;> rfl) ?_)
        refine OkOps.nil ?_
        refine Ok.ret ?_
        repeat (first | with_reducible refine thenQ_ret ?_ | with_reducible refine blockQ_ret ?_)
        refine retQ.end (by show resVs tab _ [.tmp 2] = _; simp only [kev, ktab, klen, kcv] <;> rfl) rfl ?_
        rw [← h1, decGo_zero hm]; rfl
theorem w_laws_sameTexts (a b : List Str) : Weak Try.prog 44 [.sl 0 1 0 (a.map cS), .sl 0 1 0 (b.map cS)] (.bool (decide (a = b))) := by
  refine Weak.len 0 rfl fun ha => ?_
  refine Weak.enter tab_ok Try.func44 rfl (.inr (by simp [V.labelsL, V.labels, zz])) (t := [.sl 0 1 0 (a.map cS), .sl 0 1 0 (b.map cS), .any, .any, .any, .any, .any, .any, .any, .any, .any, .any, .any, .any, .any, .any, .any, .any, .any, .any, .any, .any, .any, .any, .any, .any]) rfl ?_
  refine Ok.seq ?_
  refine Ok.region ?_
  refine OkOps.ev tab_ok rfl (by simp only [kev, ktab, klen, kcv] <;> rfl) (by simp only [kput] <;> rfl) ?_
  refine OkOps.nil ?_
  refine Ok.seq ?_
  refine Ok.seq ?_
  refine Ok.region ?_
  iterate 5 (refine OkOps.ev tab_ok rfl (by simp only [kev, ktab, klen, kcv] <;> rfl) (by simp only [kput] <;> rfl) ?_)
  refine OkOps.nil ?_
  refine Ok.cond (b := _) (by simp only [kev, ktab, klen, kcv] <;> rfl) (fun hb1 => ?_) (fun hb1 => ?_)
  · try simp only [bsimp] at hb1
    refine Ok.seq ?_
    refine Ok.region ?_
    refine OkOps.ev tab_ok rfl (by simp only [kev, ktab, klen, kcv] <;> rfl) (by simp only [kput] <;> rfl) ?_
    refine OkOps.nil ?_
    refine Ok.ret ?_
    repeat (first | with_reducible refine thenQ_ret ?_ | with_reducible refine blockQ_ret ?_)
    refine retQ.end (by show resVs tab _ [.tmp 4] = _; simp only [kev, ktab, klen, kcv] <;> rfl) rfl ?_
    rw [decide_eq_false (fun h => hb1 (by rw [h]))]; rfl
  · try simp only [bsimp] at hb1
    have hb1 : (a.length : Int) = b.length := by simpa using hb1
    refine Ok.skip ?_
    refine Ok.seq ?_
    refine Ok.seq ?_
    refine Ok.region ?_
    refine OkOps.ev tab_ok rfl (by simp only [kev, ktab, klen, kcv] <;> rfl) (by simp only [kput] <;> rfl) ?_
    refine OkOps.nil ?_
    refine Ok.block ?_
    refine Ok.loopW (τ := Nat) (fun x => [(5, .int .i64 (x : Int))]) [4, 11, 12, 13, 14, 15, 16, 17, 18, 19, 20, 21, 22, 23, 24, 25] (fun x => by simp only [kover] <;> rfl) (fun x => x ≤ a.length ∧ a.take x = b.take x) (fun x => a.length - x) 0 (by refine ⟨?_, ?_, ?_, ?_, ?_, ?_, ?_, ?_, ?_, ?_, ?_, ?_, ?_, ?_, ?_, ?_, ?_, ?_, ?_, ?_, ?_, ?_, ?_, ?_, ?_, ?_, trivial⟩ <;> first | exact le_any _ | with_reducible exact le_rfl' _ | (exact le_rfl' _) | exact le_rfl' _) (⟨Nat.zero_le _, rfl⟩) ?_
    rintro i ⟨h1, h2⟩
    refine Ok.seq ?_
    refine Ok.seq ?_
    refine Ok.region ?_
    iterate 4 (refine OkOps.ev tab_ok rfl (by simp only [kev, ktab, klen, kcv] <;> rfl) (by simp only [kput] <;> rfl) ?_)
    refine OkOps.nil ?_
    refine Ok.cond (b := _) (by simp only [kev, ktab, klen, kcv] <;> rfl) (fun hb4 => ?_) (fun hb4 => ?_)
    · try simp only [bsimp] at hb4
      have hi : i < a.length := by omega
      have hj : i < b.length := by omega
      refine Ok.skip ?_
      refine Ok.seq ?_
      refine Ok.block ?_
      refine Ok.seq ?_
      refine Ok.drawn 9 26 [] (by kernel_rfl) (by kernel_rfl) rfl ?_
      refine SOps.ev tab_ok rfl (by simp only [kev, ktab, klen, kcv] <;> rfl) (by simp only [kput] <;> rfl) ?_
      refine SOps.ev tab_ok rfl (by simp only [kev, ktab, klen, kcv] <;> rfl) (by simp only [kput] <;> rfl) ?_
      refine SOps.ev tab_ok rfl (ev_idx_map (by simp only [kev, ktab, klen, kcv] <;> rfl) (by simp only [kev, ktab, klen, kcv] <;> rfl) (by omega) (by simp only [kev, ktab, klen, kcv] <;> rfl)) (by simp only [kput] <;> rfl) ?_
      refine SOps.ev tab_ok rfl (by simp only [kev, ktab, klen, kcv] <;> rfl) (by simp only [kput] <;> rfl) ?_
      refine SOps.ev tab_ok rfl (by simp only [kev, ktab, klen, kcv] <;> rfl) (by simp only [kput] <;> rfl) ?_
      refine SOps.ev tab_ok rfl (by simp only [kev, ktab, klen, kcv] <;> rfl) (by simp only [kput] <;> rfl) ?_
      refine SOps.ev tab_ok rfl (ev_idx_map (by simp only [kev, ktab, klen, kcv] <;> rfl) (by simp only [kev, ktab, klen, kcv] <;> rfl) (by omega) (by simp only [kev, ktab, klen, kcv] <;> rfl)) (by simp only [kput] <;> rfl) ?_
      refine SOps.ev tab_ok rfl (by simp only [kev, ktab, klen, kcv] <;> rfl) (by simp only [kput] <;> rfl) ?_
      refine SOps.ev tab_ok rfl (by simp only [kev, ktab, klen, kcv] <;> rfl) (by simp only [kput] <;> rfl) ?_
      refine SOps.nil ?_
      refine TOps.nil ?_
      refine Ok.cond (b := _) (by simp only [kev, ktab, klen, kcv] <;> rfl) (fun hb6 => ?_) (fun hb6 => ?_)
      · try simp only [bsimp] at hb6
        refine Ok.seq ?_
        refine Ok.region ?_
        refine OkOps.ev tab_ok rfl (by simp only [kev, ktab, klen, kcv] <;> rfl) (by simp only [kput] <;> rfl) ?_
        refine OkOps.nil ?_
        refine Ok.ret ?_
        repeat (first | with_reducible refine thenQ_ret ?_ | with_reducible refine blockQ_ret ?_)
        refine retQ.end (by show resVs tab _ [.tmp 4] = _; simp only [kev, ktab, klen, kcv] <;> rfl) rfl ?_
        rw [decide_eq_false (fun h => hb6 (by subst h; rfl))]; rfl
      · try simp only [bsimp] at hb6
        refine Ok.skip ?_
        refine Ok.region ?_
        iterate 3 (refine OkOps.ev tab_ok rfl (by simp only [kev, ktab, klen, kcv] <;> rfl) (by simp only [kput] <;> rfl) ?_)
        refine OkOps.nil ?_
        refine ⟨i + 1, ?_, rfl, rfl, ⟨by omega, take_next h2 hi hj hb6⟩, by omega⟩
        refine ⟨?_, ?_, ?_, ?_, ?_, ?_, ?_, ?_, ?_, ?_, ?_, ?_, ?_, ?_, ?_, ?_, ?_, ?_, ?_, ?_, ?_, ?_, ?_, ?_, ?_, ?_, trivial⟩ <;> first | exact le_any _ | with_reducible exact le_rfl' _ | ((rw [wrap_succ (by simp only [List.length_map] at ha; unfold maxLen at ha; omega)]; exact le_rfl' _)) | exact le_rfl' _
    · try simp only [bsimp] at hb4
      refine Ok.exit ?_
      refine Ok.seq ?_
      refine Ok.region ?_
      refine OkOps.ev tab_ok rfl (by simp only [kev, ktab, klen, kcv] <;> rfl) (by simp only [kput] <;> rfl) ?_
      refine OkOps.nil ?_
      refine Ok.ret ?_
      repeat (first | with_reducible refine thenQ_ret ?_ | with_reducible refine blockQ_ret ?_)
      refine retQ.end (by show resVs tab _ [.tmp 4] = _; simp only [kev, ktab, klen, kcv] <;> rfl) rfl ?_
      rw [decide_eq_true (eq_of_take (by omega) (by omega) h2)]; rfl
theorem p_impl_LinkHears (l : Link) (p : Packet) (h : l.way.length ≤ 2097152) : Pure Try.prog 43 [.agg (cLink l), .agg (cPacket p)] (vH (linkHears l p)) := by
  refine Pure.of (by simp [V.dat, V.datL, V.datLL, zz]) (OkCall.enter' tab_ok Try.func43 rfl (t := [.agg (cLink l), .agg (cPacket p), .any, .any, .any, .any, .any, .any, .any, .any, .any, .any, .any, .any, .any, .any, .any, .any, .any, .any, .any, .any, .any, .any, .any, .any, .any, .any, .any, .any, .any, .any, .any, .any, .any, .any, .any, .any, .any, .any, .any, .any, .any, .any, .any, .any, .any, .any, .any, .any, .any, .any, .any, .any, .any, .any, .any, .any, .any, .any, .any, .any, .any]) rfl ?_)
  refine Ok.seq ?_
  refine Ok.region ?_
  iterate 5 (refine OkOps.ev tab_ok rfl (by simp only [kev, ktab, klen, kcv] <;> rfl) (by simp only [kput] <;> rfl) ?_)
  refine OkOps.nil ?_
  refine Ok.seq ?_
  refine Ok.region ?_
  refine OkOps.ev tab_ok rfl (by simp only [kev, ktab, klen, kcv] <;> rfl) (by simp only [kput] <;> rfl) ?_
  refine OkOps.S' rfl (OpS.pure' rfl (by simp only [kev, ktab, klen, kcv] <;> rfl) (by simp only [kev, ktab, klen, kcv, V.eraseL, V.erase, V.travL, V.trav, zz] <;> rfl) cl76 (by simp [V.dat, V.datL, V.datLL, zz]) (p_impl_copyLink l h)) (by simp only [V.cnt, V.cntL, zz, Nat.add_zero, Nat.reduceAdd] <;> rfl) (by simp only [kput, V.tag, V.tagL, V.cnt, V.cntL, zz, Nat.add_zero, Nat.reduceAdd] <;> rfl) ?_
  refine OkOps.ev tab_ok rfl (by simp only [kev, ktab, klen, kcv] <;> rfl) (by simp only [kput] <;> rfl) ?_
  refine OkOps.storeE tab_ok rfl rfl (by simp only [kev, ktab, klen, kcv] <;> rfl) ⟨_, _, by simp only [kev]; rfl⟩ (by first | (simp [V.labelsL, V.labelsLL, V.labels, zz]; done) | (simp [-List.map_map, -List.map_drop, -List.map_take, -List.map_tail, -List.drop_one, V.labelsL, V.labelsLL, V.labels, zz]; done)) (by simp only [eq_self, V.updL, V.travL, V.travLL, V.trav, updS, updP, and_self, true_and, and_true, false_and, and_false, Nat.reduceEqDiff, Nat.reduceSub, Nat.le_refl, Nat.zero_le, ↓reduceIte, if_true, if_false, kput, zz] <;> rfl) (rfl) ?_
  refine OkOps.nil ?_
  refine Ok.seq ?_
  refine Ok.seq ?_
  refine Ok.region ?_
  iterate 5 (refine OkOps.ev tab_ok rfl (by simp only [kev, ktab, klen, kcv] <;> rfl) (by simp only [kput] <;> rfl) ?_)
  refine OkOps.nil ?_
  refine Ok.cond (b := _) (by simp only [kev, ktab, klen, kcv] <;> rfl) (fun hb2 => ?_) (fun hb2 => ?_)
  · try simp only [bsimp] at hb2
    rw [linkHears_off (by simpa using hb2)]
    refine Ok.seq ?_
    refine Ok.region ?_
    refine OkOps.ev tab_ok rfl (by simp only [kev, ktab, klen, kcv] <;> rfl) (by simp only [kput] <;> rfl) ?_
    refine OkOps.storeE tab_ok rfl rfl (by simp only [kev, ktab, klen, kcv] <;> rfl) ⟨_, _, by simp only [kev]; rfl⟩ (by first | (simp [V.labelsL, V.labelsLL, V.labels, zz]; done) | (simp [-List.map_map, -List.map_drop, -List.map_take, -List.map_tail, -List.drop_one, V.labelsL, V.labelsLL, V.labels, zz]; done)) (by simp only [eq_self, V.updL, V.travL, V.travLL, V.trav, updS, updP, and_self, true_and, and_true, false_and, and_false, Nat.reduceEqDiff, Nat.reduceSub, Nat.le_refl, Nat.zero_le, ↓reduceIte, if_true, if_false, kput, zz] <;> rfl) (rfl) ?_
    iterate 2 (refine OkOps.ev tab_ok rfl (by simp only [kev, ktab, klen, kcv] <;> rfl) (by simp only [kput] <;> rfl) ?_)
    refine OkOps.nil ?_
    refine Ok.ret ?_
    repeat (first | with_reducible refine thenQ_ret ?_ | with_reducible refine blockQ_ret ?_)
    refine retQ.end (by show resVs tab _ [.cell 4 35, .tmp 5, .tmp 6] = _; simp only [kev, ktab, klen, kcv] <;> rfl) rfl ?_
    exact ⟨by simp [V.erase, V.trav, V.travL, packV, zz], by simp [V.labels, V.labelsL, V.labelsLL, packV, zz], by simp [V.labels, V.labelsL, V.labelsLL, packV, zz]⟩
  · try simp only [bsimp] at hb2
    rw [linkHears_on (by simpa using hb2)]
    refine Ok.skip ?_
    refine Ok.seq ?_
    refine Ok.seqC [(34, .bool (decide (l.way ≠ [] ∧ p.ack > l.next ∧ p.ack = IntKind.i64.wrap (l.next + 1))))] [16, 17, 18, 19, 20, 21, 22, 23, 24, 25, 26, 27, 28, 29, 30, 31, 32, 33] (by simp only [kover] <;> rfl) ?_ ?_
    · skip
      refine Ok.region ?_
      iterate 5 (refine OkOps.ev tab_ok rfl (by simp only [kev, ktab, klen, kcv] <;> rfl) (by simp only [kput] <;> rfl) ?_)
      refine OkOps.split (d := 20) (by simp only [kev, ktab, klen, kcv] <;> rfl) (by simp only [kput] <;> rfl) (by simp only [kput] <;> rfl) (fun hg4_4 => ?_) (fun hg4_4 => ?_)
      · try simp only [bsimp] at hg4_4
        refine OkOps.on rfl rfl (by simp only [kev, ktab, klen, kcv]) ?_
        refine OkOps.ev tab_ok rfl (by simp only [kev, ktab, klen, kcv] <;> rfl) (by simp only [kput] <;> rfl) ?_
        refine OkOps.on rfl rfl (by simp only [kev, ktab, klen, kcv]) ?_
        refine OkOps.ev tab_ok rfl (by simp only [kev, ktab, klen, kcv] <;> rfl) (by simp only [kput] <;> rfl) ?_
        refine OkOps.on rfl rfl (by simp only [kev, ktab, klen, kcv]) ?_
        refine OkOps.ev tab_ok rfl (by simp only [kev, ktab, klen, kcv] <;> rfl) (by simp only [kput] <;> rfl) ?_
        refine OkOps.on rfl rfl (by simp only [kev, ktab, klen, kcv]) ?_
        refine OkOps.ev tab_ok rfl (by simp only [kev, ktab, klen, kcv] <;> rfl) (by simp only [kput] <;> rfl) ?_
        refine OkOps.on rfl rfl (by simp only [kev, ktab, klen, kcv]) ?_
        iterate 3 (refine OkOps.ev tab_ok rfl (by simp only [kev, ktab, klen, kcv] <;> rfl) (by simp only [kput] <;> rfl) ?_)
        refine OkOps.split (d := 27) (by simp only [kev, ktab, klen, kcv] <;> rfl) (by simp only [kput] <;> rfl) (by simp only [kput] <;> rfl) (fun hg4_11 => ?_) (fun hg4_11 => ?_)
        · try simp only [bsimp] at hg4_11
          refine OkOps.on rfl rfl (by simp only [kev, ktab, klen, kcv]) ?_
          refine OkOps.ev tab_ok rfl (by simp only [kev, ktab, klen, kcv] <;> rfl) (by simp only [kput] <;> rfl) ?_
          refine OkOps.on rfl rfl (by simp only [kev, ktab, klen, kcv]) ?_
          refine OkOps.ev tab_ok rfl (by simp only [kev, ktab, klen, kcv] <;> rfl) (by simp only [kput] <;> rfl) ?_
          refine OkOps.on rfl rfl (by simp only [kev, ktab, klen, kcv]) ?_
          refine OkOps.ev tab_ok rfl (by simp only [kev, ktab, klen, kcv] <;> rfl) (by simp only [kput] <;> rfl) ?_
          refine OkOps.on rfl rfl (by simp only [kev, ktab, klen, kcv]) ?_
          refine OkOps.ev tab_ok rfl (by simp only [kev, ktab, klen, kcv] <;> rfl) (by simp only [kput] <;> rfl) ?_
          refine OkOps.on rfl rfl (by simp only [kev, ktab, klen, kcv]) ?_
          refine OkOps.ev tab_ok rfl (by simp only [kev, ktab, klen, kcv] <;> rfl) (by simp only [kput] <;> rfl) ?_
          refine OkOps.on rfl rfl (by simp only [kev, ktab, klen, kcv]) ?_
          iterate 2 (refine OkOps.ev tab_ok rfl (by simp only [kev, ktab, klen, kcv] <;> rfl) (by simp only [kput] <;> rfl) ?_)
          refine OkOps.nil ?_
          refine ⟨rfl, ?_, rfl, rfl⟩
          refine ⟨?_, ?_, ?_, ?_, ?_, ?_, ?_, ?_, ?_, ?_, ?_, ?_, ?_, ?_, ?_, ?_, ?_, ?_, ?_, ?_, ?_, ?_, ?_, ?_, ?_, ?_, ?_, ?_, ?_, ?_, ?_, ?_, ?_, ?_, ?_, ?_, ?_, ?_, ?_, ?_, ?_, ?_, ?_, ?_, ?_, ?_, ?_, ?_, ?_, ?_, ?_, ?_, ?_, ?_, ?_, ?_, ?_, ?_, ?_, ?_, ?_, ?_, ?_, trivial⟩ <;> first | exact le_any _ | with_reducible exact le_rfl' _ | (refine .inl (congrArg V.bool ?_); simp only [← List.length_pos_iff, ne_eq]; first | (simp [*]; done) | (simp_all; done)) | exact le_rfl' _
        · try simp only [bsimp] at hg4_11
          refine OkOps.offU rfl rfl (.inl (by simp only [kev, ktab, klen, kcv, Bool.not_true, Bool.not_false])) (by simp only [kput] <;> rfl) ?_
          refine OkOps.offU rfl rfl (.inl (by simp only [kev, ktab, klen, kcv, Bool.not_true, Bool.not_false])) (by simp only [kput] <;> rfl) ?_
          refine OkOps.offU rfl rfl (.inl (by simp only [kev, ktab, klen, kcv, Bool.not_true, Bool.not_false])) (by simp only [kput] <;> rfl) ?_
          refine OkOps.offU rfl rfl (.inl (by simp only [kev, ktab, klen, kcv, Bool.not_true, Bool.not_false])) (by simp only [kput] <;> rfl) ?_
          refine OkOps.offU rfl rfl (.inl (by simp only [kev, ktab, klen, kcv, Bool.not_true, Bool.not_false])) (by simp only [kput] <;> rfl) ?_
          refine OkOps.offU rfl rfl (.inl (by simp only [kev, ktab, klen, kcv, Bool.not_true, Bool.not_false])) (by simp only [kput] <;> rfl) ?_
          refine OkOps.ev tab_ok rfl (by simp only [kev, ktab, klen, kcv] <;> rfl) (by simp only [kput] <;> rfl) ?_
          refine OkOps.nil ?_
          refine ⟨rfl, ?_, rfl, rfl⟩
          refine ⟨?_, ?_, ?_, ?_, ?_, ?_, ?_, ?_, ?_, ?_, ?_, ?_, ?_, ?_, ?_, ?_, ?_, ?_, ?_, ?_, ?_, ?_, ?_, ?_, ?_, ?_, ?_, ?_, ?_, ?_, ?_, ?_, ?_, ?_, ?_, ?_, ?_, ?_, ?_, ?_, ?_, ?_, ?_, ?_, ?_, ?_, ?_, ?_, ?_, ?_, ?_, ?_, ?_, ?_, ?_, ?_, ?_, ?_, ?_, ?_, ?_, ?_, ?_, trivial⟩ <;> first | exact le_any _ | with_reducible exact le_rfl' _ | (refine .inl (congrArg V.bool ?_); simp only [← List.length_pos_iff, ne_eq]; first | (simp [*]; done) | (simp_all; done)) | exact le_rfl' _
      · try simp only [bsimp] at hg4_4
        refine OkOps.offU rfl rfl (.inl (by simp only [kev, ktab, klen, kcv, Bool.not_true, Bool.not_false])) (by simp only [kput] <;> rfl) ?_
        refine OkOps.offU rfl rfl (.inl (by simp only [kev, ktab, klen, kcv, Bool.not_true, Bool.not_false])) (by simp only [kput] <;> rfl) ?_
        refine OkOps.offU rfl rfl (.inl (by simp only [kev, ktab, klen, kcv, Bool.not_true, Bool.not_false])) (by simp only [kput] <;> rfl) ?_
        refine OkOps.offU rfl rfl (.inl (by simp only [kev, ktab, klen, kcv, Bool.not_true, Bool.not_false])) (by simp only [kput] <;> rfl) ?_
        refine OkOps.offU rfl rfl (.inl (by simp only [kev, ktab, klen, kcv, Bool.not_true, Bool.not_false])) (by simp only [kput] <;> rfl) ?_
        iterate 2 (refine OkOps.ev tab_ok rfl (by simp only [kev, ktab, klen, kcv] <;> rfl) (by simp only [kput] <;> rfl) ?_)
        refine OkOps.offU rfl rfl (.inl (by simp only [kev, ktab, klen, kcv, Bool.not_true, Bool.not_false])) (by simp only [kput] <;> rfl) ?_
        refine OkOps.offU rfl rfl (.inl (by simp only [kev, ktab, klen, kcv, Bool.not_true, Bool.not_false])) (by simp only [kput] <;> rfl) ?_
        refine OkOps.offU rfl rfl (.inl (by simp only [kev, ktab, klen, kcv, Bool.not_true, Bool.not_false])) (by simp only [kput] <;> rfl) ?_
        refine OkOps.offU rfl rfl (.inl (by simp only [kev, ktab, klen, kcv, Bool.not_true, Bool.not_false])) (by simp only [kput] <;> rfl) ?_
        refine OkOps.offU rfl rfl (.inl (by simp only [kev, ktab, klen, kcv, Bool.not_true, Bool.not_false])) (by simp only [kput] <;> rfl) ?_
        refine OkOps.offU rfl rfl (.inl (by simp only [kev, ktab, klen, kcv, Bool.not_true, Bool.not_false])) (by simp only [kput] <;> rfl) ?_
        refine OkOps.ev tab_ok rfl (by simp only [kev, ktab, klen, kcv] <;> rfl) (by simp only [kput] <;> rfl) ?_
        refine OkOps.nil ?_
        refine ⟨rfl, ?_, rfl, rfl⟩
        refine ⟨?_, ?_, ?_, ?_, ?_, ?_, ?_, ?_, ?_, ?_, ?_, ?_, ?_, ?_, ?_, ?_, ?_, ?_, ?_, ?_, ?_, ?_, ?_, ?_, ?_, ?_, ?_, ?_, ?_, ?_, ?_, ?_, ?_, ?_, ?_, ?_, ?_, ?_, ?_, ?_, ?_, ?_, ?_, ?_, ?_, ?_, ?_, ?_, ?_, ?_, ?_, ?_, ?_, ?_, ?_, ?_, ?_, ?_, ?_, ?_, ?_, ?_, ?_, trivial⟩ <;> first | exact le_any _ | with_reducible exact le_rfl' _ | (refine .inl (congrArg V.bool ?_); simp only [← List.length_pos_iff, ne_eq]; first | (simp [*]; done) | (simp_all; done)) | exact le_rfl' _
    · skip
      refine Ok.cond (b := _) (by simp only [kev, ktab, klen, kcv] <;> rfl) (fun hb4 => ?_) (fun hb4 => ?_)
      · try simp only [bsimp] at hb4
        have hc : l.way ≠ [] ∧ p.ack > l.next ∧ p.ack = IntKind.i64.wrap (l.next + 1) := hb4
        have hm : hearMid l p = { l with way := l.way.drop 1, next := IntKind.i64.wrap (l.next + 1) } := if_pos hc
        have h1 : 1 ≤ l.way.length := by have := hc.1; cases hw : l.way with | nil => exact absurd hw this | cons a b => simp
        refine Ok.seq ?_
        refine Ok.region ?_
        iterate 2 (refine OkOps.ev tab_ok rfl (by simp only [kev, ktab, klen, kcv] <;> rfl) (by simp only [kput] <;> rfl) ?_)
        refine OkOps.ev tab_ok rfl (ev_partLo_map (a := 1) (by simp only [kev, ktab, klen, kcv] <;> rfl) (by simp only [kev, ktab, klen, kcv] <;> rfl) (by simp only [ktab] <;> rfl) (by simp only [ktab, Option.map_some] <;> rfl) (by omega)) (by simp only [kput] <;> rfl) ?_
        refine OkOps.ev tab_ok rfl (by simp only [kev, ktab, klen, kcv] <;> rfl) (by simp only [kput] <;> rfl) ?_
        refine OkOps.storeE tab_ok rfl rfl (by simp only [kev, ktab, klen, kcv] <;> rfl) ⟨_, _, by simp only [kev]; rfl⟩ (by first | (simp [V.labelsL, V.labelsLL, V.labels, zz]; done) | (simp [-List.map_map, -List.map_drop, -List.map_take, -List.map_tail, -List.drop_one, V.labelsL, V.labelsLL, V.labels, zz]; done)) (by simp only [eq_self, V.updL, V.travL, V.travLL, V.trav, updS, updP, and_self, true_and, and_true, false_and, and_false, Nat.reduceEqDiff, Nat.reduceSub, Nat.le_refl, Nat.zero_le, ↓reduceIte, if_true, if_false, kput, zz] <;> rfl) (rfl) ?_
        refine OkOps.nil ?_
        refine Ok.region ?_
        iterate 4 (refine OkOps.ev tab_ok rfl (by simp only [kev, ktab, klen, kcv] <;> rfl) (by simp only [kput] <;> rfl) ?_)
        refine OkOps.storeE tab_ok rfl rfl (by simp only [kev, ktab, klen, kcv] <;> rfl) ⟨_, _, by simp only [kev]; rfl⟩ (by first | (simp [V.labelsL, V.labelsLL, V.labels, zz]; done) | (simp [-List.map_map, -List.map_drop, -List.map_take, -List.map_tail, -List.drop_one, V.labelsL, V.labelsLL, V.labels, zz]; done)) (by simp only [eq_self, V.updL, V.travL, V.travLL, V.trav, updS, updP, and_self, true_and, and_true, false_and, and_false, Nat.reduceEqDiff, Nat.reduceSub, Nat.le_refl, Nat.zero_le, ↓reduceIte, if_true, if_false, kput, zz] <;> rfl) (rfl) ?_
        refine OkOps.nil ?_
        refine Ok.seq ?_
        refine Ok.seqC [(52, .bool (decide (p.seq = 0 ∨ p.seq ≠ l.want)))] [43, 44, 45, 46, 47, 48, 49, 50, 51] (by simp only [kover] <;> rfl) ?_ ?_
        · skip
          refine Ok.region ?_
          iterate 4 (refine OkOps.ev tab_ok rfl (by simp only [kev, ktab, klen, kcv] <;> rfl) (by simp only [kput] <;> rfl) ?_)
          refine OkOps.split (d := 46) (by simp only [kev, ktab, klen, kcv] <;> rfl) (by simp only [kput] <;> rfl) (by simp only [kput] <;> rfl) (fun hg7_3 => ?_) (fun hg7_3 => ?_)
          · try simp only [bsimp] at hg7_3
            refine OkOps.offU rfl rfl (.inl (by simp only [kev, ktab, klen, kcv, Bool.not_true, Bool.not_false])) (by simp only [kput] <;> rfl) ?_
            refine OkOps.offU rfl rfl (.inl (by simp only [kev, ktab, klen, kcv, Bool.not_true, Bool.not_false])) (by simp only [kput] <;> rfl) ?_
            refine OkOps.offU rfl rfl (.inl (by simp only [kev, ktab, klen, kcv, Bool.not_true, Bool.not_false])) (by simp only [kput] <;> rfl) ?_
            refine OkOps.offU rfl rfl (.inl (by simp only [kev, ktab, klen, kcv, Bool.not_true, Bool.not_false])) (by simp only [kput] <;> rfl) ?_
            refine OkOps.offU rfl rfl (.inl (by simp only [kev, ktab, klen, kcv, Bool.not_true, Bool.not_false])) (by simp only [kput] <;> rfl) ?_
            refine OkOps.ev tab_ok rfl (by simp only [kev, ktab, klen, kcv] <;> rfl) (by simp only [kput] <;> rfl) ?_
            refine OkOps.nil ?_
            refine ⟨rfl, ?_, rfl, rfl⟩
            refine ⟨?_, ?_, ?_, ?_, ?_, ?_, ?_, ?_, ?_, ?_, ?_, ?_, ?_, ?_, ?_, ?_, ?_, ?_, ?_, ?_, ?_, ?_, ?_, ?_, ?_, ?_, ?_, ?_, ?_, ?_, ?_, ?_, ?_, ?_, ?_, ?_, ?_, ?_, ?_, ?_, ?_, ?_, ?_, ?_, ?_, ?_, ?_, ?_, ?_, ?_, ?_, ?_, ?_, ?_, ?_, ?_, ?_, ?_, ?_, ?_, ?_, ?_, ?_, trivial⟩ <;> first | exact le_any _ | with_reducible exact le_rfl' _ | (refine .inl (congrArg V.bool ?_); first | (simp [*]; done) | (simp_all; done)) | exact le_rfl' _
          · try simp only [bsimp] at hg7_3
            refine OkOps.on rfl rfl (by simp only [kev, ktab, klen, kcv]) ?_
            refine OkOps.ev tab_ok rfl (by simp only [kev, ktab, klen, kcv] <;> rfl) (by simp only [kput] <;> rfl) ?_
            refine OkOps.on rfl rfl (by simp only [kev, ktab, klen, kcv]) ?_
            refine OkOps.ev tab_ok rfl (by simp only [kev, ktab, klen, kcv] <;> rfl) (by simp only [kput] <;> rfl) ?_
            refine OkOps.on rfl rfl (by simp only [kev, ktab, klen, kcv]) ?_
            refine OkOps.ev tab_ok rfl (by simp only [kev, ktab, klen, kcv] <;> rfl) (by simp only [kput] <;> rfl) ?_
            refine OkOps.on rfl rfl (by simp only [kev, ktab, klen, kcv]) ?_
            refine OkOps.ev tab_ok rfl (by simp only [kev, ktab, klen, kcv] <;> rfl) (by simp only [kput] <;> rfl) ?_
            refine OkOps.on rfl rfl (by simp only [kev, ktab, klen, kcv]) ?_
            iterate 2 (refine OkOps.ev tab_ok rfl (by simp only [kev, ktab, klen, kcv] <;> rfl) (by simp only [kput] <;> rfl) ?_)
            refine OkOps.nil ?_
            refine ⟨rfl, ?_, rfl, rfl⟩
            refine ⟨?_, ?_, ?_, ?_, ?_, ?_, ?_, ?_, ?_, ?_, ?_, ?_, ?_, ?_, ?_, ?_, ?_, ?_, ?_, ?_, ?_, ?_, ?_, ?_, ?_, ?_, ?_, ?_, ?_, ?_, ?_, ?_, ?_, ?_, ?_, ?_, ?_, ?_, ?_, ?_, ?_, ?_, ?_, ?_, ?_, ?_, ?_, ?_, ?_, ?_, ?_, ?_, ?_, ?_, ?_, ?_, ?_, ?_, ?_, ?_, ?_, ?_, ?_, trivial⟩ <;> first | exact le_any _ | with_reducible exact le_rfl' _ | (refine .inl (congrArg V.bool ?_); first | (simp [*]; done) | (simp_all; done)) | exact le_rfl' _
        · skip
          refine Ok.cond (b := _) (by simp only [kev, ktab, klen, kcv] <;> rfl) (fun hb7 => ?_) (fun hb7 => ?_)
          · try simp only [bsimp] at hb7
            rw [if_pos hb7, hm]
            refine Ok.seq ?_
            refine Ok.region ?_
            refine OkOps.ev tab_ok rfl (by simp only [kev, ktab, klen, kcv] <;> rfl) (by simp only [kput] <;> rfl) ?_
            refine OkOps.S' rfl (OpS.pure' rfl (by simp only [kev, ktab, klen, kcv, hm] <;> rfl) (by simp only [kev, ktab, klen, kcv, hm, V.eraseL, V.erase, V.travL, V.trav, zz] <;> rfl) cl76 (by simp [V.dat, V.datL, V.datLL, zz]) (p_impl_copyLink (hearMid l p) (Nat.le_trans (hearMid_len l p) h))) (by simp only [V.cnt, V.cntL, zz, Nat.add_zero, Nat.reduceAdd] <;> rfl) (by simp only [kput, V.tag, V.tagL, V.cnt, V.cntL, zz, Nat.add_zero, Nat.reduceAdd] <;> rfl) ?_
            refine OkOps.storeE tab_ok rfl rfl (by simp only [kev, ktab, klen, kcv] <;> rfl) ⟨_, _, by simp only [kev]; rfl⟩ (by first | (simp [V.labelsL, V.labelsLL, V.labels, zz]; done) | (simp [-List.map_map, -List.map_drop, -List.map_take, -List.map_tail, -List.drop_one, V.labelsL, V.labelsLL, V.labels, zz]; done)) (by simp only [eq_self, V.updL, V.travL, V.travLL, V.trav, updS, updP, and_self, true_and, and_true, false_and, and_false, Nat.reduceEqDiff, Nat.reduceSub, Nat.le_refl, Nat.zero_le, ↓reduceIte, if_true, if_false, kput, zz] <;> rfl) (rfl) ?_
            iterate 2 (refine OkOps.ev tab_ok rfl (by simp only [kev, ktab, klen, kcv] <;> rfl) (by simp only [kput] <;> rfl) ?_)
            refine OkOps.nil ?_
            refine Ok.ret ?_
            repeat (first | with_reducible refine thenQ_ret ?_ | with_reducible refine blockQ_ret ?_)
            refine retQ.end (by show resVs tab _ [.cell 4 35, .tmp 5, .tmp 6] = _; simp only [kev, ktab, klen, kcv] <;> rfl) rfl ?_
            exact ⟨by simp [V.erase, V.trav, V.travL, packV, zz, hm], by simp [V.labels, V.labelsL, V.labelsLL, packV, zz], by simp [V.labels, V.labelsL, V.labelsLL, packV, zz]⟩
          · try simp only [bsimp] at hb7
            rw [if_neg hb7, hm]
            refine Ok.skip ?_
            refine Ok.seq ?_
            refine Ok.region ?_
            iterate 4 (refine OkOps.ev tab_ok rfl (by simp only [kev, ktab, klen, kcv] <;> rfl) (by simp only [kput] <;> rfl) ?_)
            refine OkOps.storeE tab_ok rfl rfl (by simp only [kev, ktab, klen, kcv] <;> rfl) ⟨_, _, by simp only [kev]; rfl⟩ (by first | (simp [V.labelsL, V.labelsLL, V.labels, zz]; done) | (simp [-List.map_map, -List.map_drop, -List.map_take, -List.map_tail, -List.drop_one, V.labelsL, V.labelsLL, V.labels, zz]; done)) (by simp only [eq_self, V.updL, V.travL, V.travLL, V.trav, updS, updP, and_self, true_and, and_true, false_and, and_false, Nat.reduceEqDiff, Nat.reduceSub, Nat.le_refl, Nat.zero_le, ↓reduceIte, if_true, if_false, kput, zz] <;> rfl) (rfl) ?_
            refine OkOps.nil ?_
            refine Ok.seq ?_
            refine Ok.drawn 4 63 [2, 3] (by kernel_rfl) (by kernel_rfl) rfl ?_
            refine SOps.ev tab_ok rfl (by simp only [kev, ktab, klen, kcv] <;> rfl) (by simp only [kput] <;> rfl) ?_
            refine SOps.S' rfl (OpS.pureM rfl (by simp only [kev, ktab, klen, kcv, hm] <;> rfl) (by simp only [kev, ktab, klen, kcv, hm, V.eraseL, V.erase, V.travL, V.trav, zz] <;> rfl) cl76 (by simp [V.dat, V.datL, V.datLL, zz]) (p_impl_copyLink { hearMid l p with want := IntKind.i64.wrap (l.want + 1) } (Nat.le_trans (hearMid_len l p) h))) (by simp only [V.cnt, V.cntL, zz, Nat.add_zero, Nat.reduceAdd] <;> rfl) (by simp only [kput, V.tag, V.tagL, V.cnt, V.cntL, zz, Nat.add_zero, Nat.reduceAdd] <;> rfl) ?_
            refine SOps.ev tab_ok rfl (by simp only [kev, ktab, klen, kcv] <;> rfl) (by simp only [kput] <;> rfl) ?_
            refine SOps.ev tab_ok rfl (by simp only [kev, ktab, klen, kcv] <;> rfl) (by simp only [kput] <;> rfl) ?_
            refine SOps.nil ?_
            refine TOps.storeL tab_ok rfl rfl rfl (by simp only [kev, ktab, klen, kcv] <;> rfl) ⟨_, _, by simp only [kev]; rfl⟩ (by first | (simp [V.labelsL, V.labelsLL, V.labels, zz]; done) | (simp [-List.map_map, -List.map_drop, -List.map_take, -List.map_tail, -List.drop_one, V.labelsL, V.labelsLL, V.labels, zz]; done)) (by simp only [eq_self, V.updL, V.travL, V.travLL, V.trav, updS, updP, and_self, true_and, and_true, false_and, and_false, Nat.reduceEqDiff, Nat.reduceSub, Nat.le_refl, Nat.zero_le, ↓reduceIte, if_true, if_false, kput, zz] <;> rfl) (rfl) (LateOk.cons (i := 2) tab_ok (by rfl) (by rfl) (by simp only [List.getElem_toArray, List.getElem_cons_succ, List.getElem_cons_zero]; exact (by simp only [kev, ktab, klen, kcv] <;> rfl)) (by show nth _ 61 = _; simp only [kev, ktab, klen, kcv] <;> rfl) (LateOk.cons (i := 3) tab_ok (by rfl) (by rfl) (by simp only [List.getElem_toArray, List.getElem_cons_succ, List.getElem_cons_zero]; exact (by simp only [kev, ktab, klen, kcv] <;> rfl)) (by show nth _ 62 = _; simp only [kev, ktab, klen, kcv] <;> rfl) LateOk.nil)) ?_
            refine TOps.evL tab_ok rfl (by simp only [kev, ktab, klen, kcv] <;> rfl) (by simp only [kput] <;> rfl) (LateOk.cons (i := 2) tab_ok (by rfl) (by rfl) (by simp only [List.getElem_toArray, List.getElem_cons_succ, List.getElem_cons_zero]; exact (by simp only [kev, ktab, klen, kcv] <;> rfl)) (by show nth _ 61 = _; simp only [kev, ktab, klen, kcv] <;> rfl) (LateOk.cons (i := 3) tab_ok (by rfl) (by rfl) (by simp only [List.getElem_toArray, List.getElem_cons_succ, List.getElem_cons_zero]; exact (by simp only [kev, ktab, klen, kcv] <;> rfl)) (by show nth _ 62 = _; simp only [kev, ktab, klen, kcv] <;> rfl) LateOk.nil)) ?_
            refine TOps.evL tab_ok rfl (by simp only [kev, ktab, klen, kcv] <;> rfl) (by simp only [kput] <;> rfl) (LateOk.cons (i := 2) tab_ok (by rfl) (by rfl) (by simp only [List.getElem_toArray, List.getElem_cons_succ, List.getElem_cons_zero]; exact (by simp only [kev, ktab, klen, kcv] <;> rfl)) (by show nth _ 61 = _; simp only [kev, ktab, klen, kcv] <;> rfl) (LateOk.cons (i := 3) tab_ok (by rfl) (by rfl) (by simp only [List.getElem_toArray, List.getElem_cons_succ, List.getElem_cons_zero]; exact (by simp only [kev, ktab, klen, kcv] <;> rfl)) (by show nth _ 62 = _; simp only [kev, ktab, klen, kcv] <;> rfl) LateOk.nil)) ?_
            refine TOps.nil ?_
            refine Ok.ret ?_
            repeat (first | with_reducible refine thenQ_ret ?_ | with_reducible refine blockQ_ret ?_)
            refine retQ.end (by show resVs tab _ [.cell 4 35, .tmp 5, .tmp 6] = _; simp only [kev, ktab, klen, kcv] <;> rfl) rfl ?_
            exact ⟨by simp [V.erase, V.trav, V.travL, packV, zz, hm], by simp [V.labels, V.labelsL, V.labelsLL, packV, zz], by simp [V.labels, V.labelsL, V.labelsLL, packV, zz]⟩
      · try simp only [bsimp] at hb4
        have hc : ¬ (l.way ≠ [] ∧ p.ack > l.next ∧ p.ack = IntKind.i64.wrap (l.next + 1)) := hb4
        have hm : hearMid l p = l := if_neg hc
        refine Ok.skip ?_
        refine Ok.seq ?_
        refine Ok.seqC [(52, .bool (decide (p.seq = 0 ∨ p.seq ≠ l.want)))] [43, 44, 45, 46, 47, 48, 49, 50, 51] (by simp only [kover] <;> rfl) ?_ ?_
        · skip
          refine Ok.region ?_
          iterate 4 (refine OkOps.ev tab_ok rfl (by simp only [kev, ktab, klen, kcv] <;> rfl) (by simp only [kput] <;> rfl) ?_)
          refine OkOps.split (d := 46) (by simp only [kev, ktab, klen, kcv] <;> rfl) (by simp only [kput] <;> rfl) (by simp only [kput] <;> rfl) (fun hg7_3 => ?_) (fun hg7_3 => ?_)
          · try simp only [bsimp] at hg7_3
            refine OkOps.offU rfl rfl (.inl (by simp only [kev, ktab, klen, kcv, Bool.not_true, Bool.not_false])) (by simp only [kput] <;> rfl) ?_
            refine OkOps.offU rfl rfl (.inl (by simp only [kev, ktab, klen, kcv, Bool.not_true, Bool.not_false])) (by simp only [kput] <;> rfl) ?_
            refine OkOps.offU rfl rfl (.inl (by simp only [kev, ktab, klen, kcv, Bool.not_true, Bool.not_false])) (by simp only [kput] <;> rfl) ?_
            refine OkOps.offU rfl rfl (.inl (by simp only [kev, ktab, klen, kcv, Bool.not_true, Bool.not_false])) (by simp only [kput] <;> rfl) ?_
            refine OkOps.offU rfl rfl (.inl (by simp only [kev, ktab, klen, kcv, Bool.not_true, Bool.not_false])) (by simp only [kput] <;> rfl) ?_
            refine OkOps.ev tab_ok rfl (by simp only [kev, ktab, klen, kcv] <;> rfl) (by simp only [kput] <;> rfl) ?_
            refine OkOps.nil ?_
            refine ⟨rfl, ?_, rfl, rfl⟩
            refine ⟨?_, ?_, ?_, ?_, ?_, ?_, ?_, ?_, ?_, ?_, ?_, ?_, ?_, ?_, ?_, ?_, ?_, ?_, ?_, ?_, ?_, ?_, ?_, ?_, ?_, ?_, ?_, ?_, ?_, ?_, ?_, ?_, ?_, ?_, ?_, ?_, ?_, ?_, ?_, ?_, ?_, ?_, ?_, ?_, ?_, ?_, ?_, ?_, ?_, ?_, ?_, ?_, ?_, ?_, ?_, ?_, ?_, ?_, ?_, ?_, ?_, ?_, ?_, trivial⟩ <;> first | exact le_any _ | with_reducible exact le_rfl' _ | (refine .inl (congrArg V.bool ?_); first | (simp [*]; done) | (simp_all; done)) | exact le_rfl' _
          · try simp only [bsimp] at hg7_3
            refine OkOps.on rfl rfl (by simp only [kev, ktab, klen, kcv]) ?_
            refine OkOps.ev tab_ok rfl (by simp only [kev, ktab, klen, kcv] <;> rfl) (by simp only [kput] <;> rfl) ?_
            refine OkOps.on rfl rfl (by simp only [kev, ktab, klen, kcv]) ?_
            refine OkOps.ev tab_ok rfl (by simp only [kev, ktab, klen, kcv] <;> rfl) (by simp only [kput] <;> rfl) ?_
            refine OkOps.on rfl rfl (by simp only [kev, ktab, klen, kcv]) ?_
            refine OkOps.ev tab_ok rfl (by simp only [kev, ktab, klen, kcv] <;> rfl) (by simp only [kput] <;> rfl) ?_
            refine OkOps.on rfl rfl (by simp only [kev, ktab, klen, kcv]) ?_
            refine OkOps.ev tab_ok rfl (by simp only [kev, ktab, klen, kcv] <;> rfl) (by simp only [kput] <;> rfl) ?_
            refine OkOps.on rfl rfl (by simp only [kev, ktab, klen, kcv]) ?_
            iterate 2 (refine OkOps.ev tab_ok rfl (by simp only [kev, ktab, klen, kcv] <;> rfl) (by simp only [kput] <;> rfl) ?_)
            refine OkOps.nil ?_
            refine ⟨rfl, ?_, rfl, rfl⟩
            refine ⟨?_, ?_, ?_, ?_, ?_, ?_, ?_, ?_, ?_, ?_, ?_, ?_, ?_, ?_, ?_, ?_, ?_, ?_, ?_, ?_, ?_, ?_, ?_, ?_, ?_, ?_, ?_, ?_, ?_, ?_, ?_, ?_, ?_, ?_, ?_, ?_, ?_, ?_, ?_, ?_, ?_, ?_, ?_, ?_, ?_, ?_, ?_, ?_, ?_, ?_, ?_, ?_, ?_, ?_, ?_, ?_, ?_, ?_, ?_, ?_, ?_, ?_, ?_, trivial⟩ <;> first | exact le_any _ | with_reducible exact le_rfl' _ | (refine .inl (congrArg V.bool ?_); first | (simp [*]; done) | (simp_all; done)) | exact le_rfl' _
        · skip
          refine Ok.cond (b := _) (by simp only [kev, ktab, klen, kcv] <;> rfl) (fun hb7 => ?_) (fun hb7 => ?_)
          · try simp only [bsimp] at hb7
            rw [if_pos hb7, hm]
            refine Ok.seq ?_
            refine Ok.region ?_
            refine OkOps.ev tab_ok rfl (by simp only [kev, ktab, klen, kcv] <;> rfl) (by simp only [kput] <;> rfl) ?_
            refine OkOps.S' rfl (OpS.pure' rfl (by simp only [kev, ktab, klen, kcv, hm] <;> rfl) (by simp only [kev, ktab, klen, kcv, hm, V.eraseL, V.erase, V.travL, V.trav, zz] <;> rfl) cl76 (by simp [V.dat, V.datL, V.datLL, zz]) (p_impl_copyLink (hearMid l p) (Nat.le_trans (hearMid_len l p) h))) (by simp only [V.cnt, V.cntL, zz, Nat.add_zero, Nat.reduceAdd] <;> rfl) (by simp only [kput, V.tag, V.tagL, V.cnt, V.cntL, zz, Nat.add_zero, Nat.reduceAdd] <;> rfl) ?_
            refine OkOps.storeE tab_ok rfl rfl (by simp only [kev, ktab, klen, kcv] <;> rfl) ⟨_, _, by simp only [kev]; rfl⟩ (by first | (simp [V.labelsL, V.labelsLL, V.labels, zz]; done) | (simp [-List.map_map, -List.map_drop, -List.map_take, -List.map_tail, -List.drop_one, V.labelsL, V.labelsLL, V.labels, zz]; done)) (by simp only [eq_self, V.updL, V.travL, V.travLL, V.trav, updS, updP, and_self, true_and, and_true, false_and, and_false, Nat.reduceEqDiff, Nat.reduceSub, Nat.le_refl, Nat.zero_le, ↓reduceIte, if_true, if_false, kput, zz] <;> rfl) (rfl) ?_
            iterate 2 (refine OkOps.ev tab_ok rfl (by simp only [kev, ktab, klen, kcv] <;> rfl) (by simp only [kput] <;> rfl) ?_)
            refine OkOps.nil ?_
            refine Ok.ret ?_
            repeat (first | with_reducible refine thenQ_ret ?_ | with_reducible refine blockQ_ret ?_)
            refine retQ.end (by show resVs tab _ [.cell 4 35, .tmp 5, .tmp 6] = _; simp only [kev, ktab, klen, kcv] <;> rfl) rfl ?_
            exact ⟨by simp [V.erase, V.trav, V.travL, packV, zz, hm], by simp [V.labels, V.labelsL, V.labelsLL, packV, zz], by simp [V.labels, V.labelsL, V.labelsLL, packV, zz]⟩
          · try simp only [bsimp] at hb7
            rw [if_neg hb7, hm]
            refine Ok.skip ?_
            refine Ok.seq ?_
            refine Ok.region ?_
            iterate 4 (refine OkOps.ev tab_ok rfl (by simp only [kev, ktab, klen, kcv] <;> rfl) (by simp only [kput] <;> rfl) ?_)
            refine OkOps.storeE tab_ok rfl rfl (by simp only [kev, ktab, klen, kcv] <;> rfl) ⟨_, _, by simp only [kev]; rfl⟩ (by first | (simp [V.labelsL, V.labelsLL, V.labels, zz]; done) | (simp [-List.map_map, -List.map_drop, -List.map_take, -List.map_tail, -List.drop_one, V.labelsL, V.labelsLL, V.labels, zz]; done)) (by simp only [eq_self, V.updL, V.travL, V.travLL, V.trav, updS, updP, and_self, true_and, and_true, false_and, and_false, Nat.reduceEqDiff, Nat.reduceSub, Nat.le_refl, Nat.zero_le, ↓reduceIte, if_true, if_false, kput, zz] <;> rfl) (rfl) ?_
            refine OkOps.nil ?_
            refine Ok.seq ?_
            refine Ok.drawn 4 63 [2, 3] (by kernel_rfl) (by kernel_rfl) rfl ?_
            refine SOps.ev tab_ok rfl (by simp only [kev, ktab, klen, kcv] <;> rfl) (by simp only [kput] <;> rfl) ?_
            refine SOps.S' rfl (OpS.pureM rfl (by simp only [kev, ktab, klen, kcv, hm] <;> rfl) (by simp only [kev, ktab, klen, kcv, hm, V.eraseL, V.erase, V.travL, V.trav, zz] <;> rfl) cl76 (by simp [V.dat, V.datL, V.datLL, zz]) (p_impl_copyLink { hearMid l p with want := IntKind.i64.wrap (l.want + 1) } (Nat.le_trans (hearMid_len l p) h))) (by simp only [V.cnt, V.cntL, zz, Nat.add_zero, Nat.reduceAdd] <;> rfl) (by simp only [kput, V.tag, V.tagL, V.cnt, V.cntL, zz, Nat.add_zero, Nat.reduceAdd] <;> rfl) ?_
            refine SOps.ev tab_ok rfl (by simp only [kev, ktab, klen, kcv] <;> rfl) (by simp only [kput] <;> rfl) ?_
            refine SOps.ev tab_ok rfl (by simp only [kev, ktab, klen, kcv] <;> rfl) (by simp only [kput] <;> rfl) ?_
            refine SOps.nil ?_
            refine TOps.storeL tab_ok rfl rfl rfl (by simp only [kev, ktab, klen, kcv] <;> rfl) ⟨_, _, by simp only [kev]; rfl⟩ (by first | (simp [V.labelsL, V.labelsLL, V.labels, zz]; done) | (simp [-List.map_map, -List.map_drop, -List.map_take, -List.map_tail, -List.drop_one, V.labelsL, V.labelsLL, V.labels, zz]; done)) (by simp only [eq_self, V.updL, V.travL, V.travLL, V.trav, updS, updP, and_self, true_and, and_true, false_and, and_false, Nat.reduceEqDiff, Nat.reduceSub, Nat.le_refl, Nat.zero_le, ↓reduceIte, if_true, if_false, kput, zz] <;> rfl) (rfl) (LateOk.cons (i := 2) tab_ok (by rfl) (by rfl) (by simp only [List.getElem_toArray, List.getElem_cons_succ, List.getElem_cons_zero]; exact (by simp only [kev, ktab, klen, kcv] <;> rfl)) (by show nth _ 61 = _; simp only [kev, ktab, klen, kcv] <;> rfl) (LateOk.cons (i := 3) tab_ok (by rfl) (by rfl) (by simp only [List.getElem_toArray, List.getElem_cons_succ, List.getElem_cons_zero]; exact (by simp only [kev, ktab, klen, kcv] <;> rfl)) (by show nth _ 62 = _; simp only [kev, ktab, klen, kcv] <;> rfl) LateOk.nil)) ?_
            refine TOps.evL tab_ok rfl (by simp only [kev, ktab, klen, kcv] <;> rfl) (by simp only [kput] <;> rfl) (LateOk.cons (i := 2) tab_ok (by rfl) (by rfl) (by simp only [List.getElem_toArray, List.getElem_cons_succ, List.getElem_cons_zero]; exact (by simp only [kev, ktab, klen, kcv] <;> rfl)) (by show nth _ 61 = _; simp only [kev, ktab, klen, kcv] <;> rfl) (LateOk.cons (i := 3) tab_ok (by rfl) (by rfl) (by simp only [List.getElem_toArray, List.getElem_cons_succ, List.getElem_cons_zero]; exact (by simp only [kev, ktab, klen, kcv] <;> rfl)) (by show nth _ 62 = _; simp only [kev, ktab, klen, kcv] <;> rfl) LateOk.nil)) ?_
            refine TOps.evL tab_ok rfl (by simp only [kev, ktab, klen, kcv] <;> rfl) (by simp only [kput] <;> rfl) (LateOk.cons (i := 2) tab_ok (by rfl) (by rfl) (by simp only [List.getElem_toArray, List.getElem_cons_succ, List.getElem_cons_zero]; exact (by simp only [kev, ktab, klen, kcv] <;> rfl)) (by show nth _ 61 = _; simp only [kev, ktab, klen, kcv] <;> rfl) (LateOk.cons (i := 3) tab_ok (by rfl) (by rfl) (by simp only [List.getElem_toArray, List.getElem_cons_succ, List.getElem_cons_zero]; exact (by simp only [kev, ktab, klen, kcv] <;> rfl)) (by show nth _ 62 = _; simp only [kev, ktab, klen, kcv] <;> rfl) LateOk.nil)) ?_
            refine TOps.nil ?_
            refine Ok.ret ?_
            repeat (first | with_reducible refine thenQ_ret ?_ | with_reducible refine blockQ_ret ?_)
            refine retQ.end (by show resVs tab _ [.cell 4 35, .tmp 5, .tmp 6] = _; simp only [kev, ktab, klen, kcv] <;> rfl) rfl ?_
            exact ⟨by simp [V.erase, V.trav, V.travL, packV, zz, hm], by simp [V.labels, V.labelsL, V.labelsLL, packV, zz], by simp [V.labels, V.labelsL, V.labelsLL, packV, zz]⟩
theorem w_impl_LinkHears (l : Link) (p : Packet) (h : l.way.length ≤ 2097152) : Weak Try.prog 43 [.agg (cLink l), .agg (cPacket p)] (vH (linkHears l p)) := by
  have h := Pure.weak (by simp [V.dat, V.datL, V.datLL, zz]) (p_impl_LinkHears l p h) (by simp [V.eraseL, V.erase, V.trav, V.travL, zz])
  simpa [V.erase, V.trav, V.travL, zz] using h
end Go.Proofs.Ytglodjbknjfmjaa.K
