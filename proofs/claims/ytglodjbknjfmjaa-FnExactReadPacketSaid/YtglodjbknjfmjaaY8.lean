/- Walks: numbers, texts, packets read. Printed by w2.py. -/
import Derived.Test.YtglodjbknjfmjaaY3
import Derived.Test.YtglodjbknjfmjaaY2
import Derived.Test.YtglodjbknjfmjaaY7
namespace Go.Proofs.Ytglodjbknjfmjaa.K
open Go Go.RowKit
set_option linter.unusedVariables false
set_option linter.unusedSimpArgs false
theorem w_spec_ReadVar (s : Str) (z : Int) (hs : s.length ≤ 4611686018427387904) : Weak Try.prog 114 [.str s, .int .i64 z] (vR (readVar s z)) := by
  refine Weak.enter tab_ok Try.func114 rfl (.inr (by simp [V.labelsL, V.labels, zz])) (t := [.str s, .int .i64 z, .any, .any, .any, .any, .any, .any, .any, .any, .any, .any, .any, .any, .any, .any, .any, .any, .any, .any, .any, .any, .any, .any, .any, .any, .any, .any, .any, .any, .any, .any, .any, .any, .any, .any, .any, .any, .any, .any, .any, .any, .any, .any, .any, .any, .any, .any, .any, .any, .any, .any, .any, .any, .any, .any, .any, .any]) rfl ?_
  refine Ok.seq ?_
  refine Ok.region ?_
  iterate 3 (refine OkOps.ev tab_ok rfl (by simp only [kev, ktab, klen, kcv] <;> rfl) (by simp only [kput] <;> rfl) ?_)
  refine OkOps.nil ?_
  refine Ok.seq ?_
  refine Ok.seq ?_
  refine Ok.region ?_
  iterate 3 (refine OkOps.ev tab_ok rfl (by simp only [kev, ktab, klen, kcv] <;> rfl) (by simp only [kput] <;> rfl) ?_)
  refine OkOps.S rfl (OpS.weak' rfl (by simp only [kev, ktab, klen, kcv] <;> rfl) (by simp only [kev, ktab, klen, kcv] <;> rfl) cl67 (w_spec_l01In _ _ _)) (by simp only [kput] <;> rfl) ?_
  refine OkOps.ev tab_ok rfl (by simp only [kev, ktab, klen, kcv] <;> rfl) (by simp only [kput] <;> rfl) ?_
  refine OkOps.nil ?_
  refine Ok.cond (b := _) (by simp only [kev, ktab, klen, kcv] <;> rfl) (fun hb1 => ?_) (fun hb1 => ?_)
  · try simp only [bsimp] at hb1
    rw [readVar, if_neg (by simp [hb1])]
    refine Ok.seq ?_
    refine Ok.region ?_
    iterate 3 (refine OkOps.ev tab_ok rfl (by simp only [kev, ktab, klen, kcv] <;> rfl) (by simp only [kput] <;> rfl) ?_)
    refine OkOps.nil ?_
    refine Ok.ret ?_
    repeat (first | with_reducible refine thenQ_ret ?_ | with_reducible refine blockQ_ret ?_)
    refine retQ.end (by show resVs tab _ [.tmp 4, .tmp 5, .tmp 6] = _; simp only [kev, ktab, klen, kcv] <;> rfl) rfl ?_
    rfl
  · try simp only [bsimp] at hb1
    rw [readVar, if_pos hb1]
    obtain ⟨p, rfl⟩ : ∃ p : Nat, z = p := ⟨z.toNat, by have := inR_t.1 hb1; omega⟩
    have hp : p ≤ s.length := by have := inR_t.1 hb1; omega
    rw [Int.toNat_natCast]
    refine Ok.skip ?_
    refine Ok.seq ?_
    refine Ok.region ?_
    refine OkOps.ev tab_ok rfl (by simp only [kev, ktab, klen, kcv] <;> rfl) (by simp only [kput] <;> rfl) ?_
    refine OkOps.nil ?_
    refine Ok.seq ?_
    refine Ok.region ?_
    refine OkOps.ev tab_ok rfl (by simp only [kev, ktab, klen, kcv] <;> rfl) (by simp only [kput] <;> rfl) ?_
    refine OkOps.nil ?_
    refine Ok.seq ?_
    refine Ok.seq ?_
    refine Ok.region ?_
    iterate 2 (refine OkOps.ev tab_ok rfl (by simp only [kev, ktab, klen, kcv] <;> rfl) (by simp only [kput] <;> rfl) ?_)
    refine OkOps.nil ?_
    refine Ok.block ?_
    refine Ok.loopW (τ := Nat × Nat) (fun x => [(7, .int .i64 (x.2 : Int)), (8, .int .i64 ((128 ^ x.1 : Nat) : Int)), (9, .int .i64 ((p + x.1 : Nat) : Int))]) [4, 5, 6, 16, 17, 18, 19, 20, 21, 22, 23, 24, 25, 26, 27, 28, 29, 30, 31, 32, 33, 34, 35, 36, 37, 38, 39, 40, 41, 42, 43, 44, 45, 46, 47, 48, 49, 50, 51, 52, 53, 54, 55, 56, 57] (fun x => by simp only [kover] <;> rfl) (fun x => rdV s p (5 - x.1) x.1 x.2 = rdV s p 5 0 0 ∧ x.2 < 128 ^ x.1 ∧ x.1 ≤ 5) (fun x => 5 - x.1) (0, 0) (by refine ⟨?_, ?_, ?_, ?_, ?_, ?_, ?_, ?_, ?_, ?_, ?_, ?_, ?_, ?_, ?_, ?_, ?_, ?_, ?_, ?_, ?_, ?_, ?_, ?_, ?_, ?_, ?_, ?_, ?_, ?_, ?_, ?_, ?_, ?_, ?_, ?_, ?_, ?_, ?_, ?_, ?_, ?_, ?_, ?_, ?_, ?_, ?_, ?_, ?_, ?_, ?_, ?_, ?_, ?_, ?_, ?_, ?_, ?_, trivial⟩ <;> first | exact le_any _ | exact le_rfl' _ | (exact le_rfl' _)) (⟨rfl, by decide, by decide⟩) ?_
    rintro ⟨i, n⟩ ⟨h1, h2, h3⟩
    have h1 : rdV s p (5 - i) i n = rdV s p 5 0 0 := h1
    have h2 : n < 128 ^ i := h2
    have h3 : i ≤ 5 := h3
    refine Ok.seq ?_
    refine Ok.seqC [(25, .bool (decide (i < 5 ∧ p + i < s.length)))] [16, 17, 18, 19, 20, 21, 22, 23, 24] (by simp only [kover] <;> rfl) ?_ ?_
    · skip
      refine Ok.region ?_
      iterate 5 (refine OkOps.ev tab_ok rfl (by simp only [kev, ktab, klen, kcv] <;> rfl) (by simp only [kput] <;> rfl) ?_)
      refine OkOps.split (d := 20) (by simp only [kev, ktab, klen, kcv] <;> rfl) (by simp only [kput] <;> rfl) (by simp only [kput] <;> rfl) (fun hg6_4 => ?_) (fun hg6_4 => ?_)
      · try simp only [bsimp] at hg6_4
        refine OkOps.on rfl rfl (by simp only [kev, ktab, klen, kcv]) ?_
        refine OkOps.ev tab_ok rfl (by simp only [kev, ktab, klen, kcv] <;> rfl) (by simp only [kput] <;> rfl) ?_
        refine OkOps.on rfl rfl (by simp only [kev, ktab, klen, kcv]) ?_
        refine OkOps.ev tab_ok rfl (by simp only [kev, ktab, klen, kcv] <;> rfl) (by simp only [kput] <;> rfl) ?_
        refine OkOps.on rfl rfl (by simp only [kev, ktab, klen, kcv]) ?_
        refine OkOps.ev tab_ok rfl (by simp only [kev, ktab, klen, kcv, wrap_add_five (show p + 5 ≤ 9223372036854775807 by omega)] <;> rfl) (by simp only [kput] <;> rfl) ?_
        refine OkOps.on rfl rfl (by simp only [kev, ktab, klen, kcv]) ?_
        iterate 2 (refine OkOps.ev tab_ok rfl (by simp only [kev, ktab, klen, kcv] <;> rfl) (by simp only [kput] <;> rfl) ?_)
        refine OkOps.nil ?_
        refine ⟨rfl, ?_, rfl, rfl⟩
        refine ⟨?_, ?_, ?_, ?_, ?_, ?_, ?_, ?_, ?_, ?_, ?_, ?_, ?_, ?_, ?_, ?_, ?_, ?_, ?_, ?_, ?_, ?_, ?_, ?_, ?_, ?_, ?_, ?_, ?_, ?_, ?_, ?_, ?_, ?_, ?_, ?_, ?_, ?_, ?_, ?_, ?_, ?_, ?_, ?_, ?_, ?_, ?_, ?_, ?_, ?_, ?_, ?_, ?_, ?_, ?_, ?_, ?_, ?_, trivial⟩ <;> first | exact le_any _ | exact le_rfl' _ | (refine .inl (congrArg V.bool ?_); rw [Bool.eq_iff_iff]; simp only [Bool.false_eq_true, false_iff, decide_eq_true_eq] at *; omega)
      · try simp only [bsimp] at hg6_4
        refine OkOps.offU rfl rfl (.inl (by simp only [kev, ktab, klen, kcv, Bool.not_true, Bool.not_false])) (by simp only [kput] <;> rfl) ?_
        refine OkOps.offU rfl rfl (.inl (by simp only [kev, ktab, klen, kcv, Bool.not_true, Bool.not_false])) (by simp only [kput] <;> rfl) ?_
        refine OkOps.offU rfl rfl (.inl (by simp only [kev, ktab, klen, kcv, Bool.not_true, Bool.not_false])) (by simp only [kput] <;> rfl) ?_
        refine OkOps.offU rfl rfl (.inl (by simp only [kev, ktab, klen, kcv, Bool.not_true, Bool.not_false])) (by simp only [kput] <;> rfl) ?_
        refine OkOps.ev tab_ok rfl (by simp only [kev, ktab, klen, kcv] <;> rfl) (by simp only [kput] <;> rfl) ?_
        refine OkOps.nil ?_
        refine ⟨rfl, ?_, rfl, rfl⟩
        refine ⟨?_, ?_, ?_, ?_, ?_, ?_, ?_, ?_, ?_, ?_, ?_, ?_, ?_, ?_, ?_, ?_, ?_, ?_, ?_, ?_, ?_, ?_, ?_, ?_, ?_, ?_, ?_, ?_, ?_, ?_, ?_, ?_, ?_, ?_, ?_, ?_, ?_, ?_, ?_, ?_, ?_, ?_, ?_, ?_, ?_, ?_, ?_, ?_, ?_, ?_, ?_, ?_, ?_, ?_, ?_, ?_, ?_, ?_, trivial⟩ <;> first | exact le_any _ | exact le_rfl' _ | (refine .inl (congrArg V.bool ?_); rw [Bool.eq_iff_iff]; simp only [Bool.false_eq_true, false_iff, decide_eq_true_eq] at *; omega)
    · skip
      refine Ok.cond (b := _) (by simp only [kev, ktab, klen, kcv] <;> rfl) (fun hb6 => ?_) (fun hb6 => ?_)
      · try simp only [bsimp] at hb6
        obtain ⟨hi5, hpi⟩ : i < 5 ∧ p + i < s.length := hb6
        have hsh := next_scale hi5
        have hgl := grp_lt (b := s[p + i].toNat) hi5 h2
        have hf : 5 - i = (5 - (i + 1)) + 1 := by omega
        refine Ok.skip ?_
        refine Ok.seq ?_
        refine Ok.block ?_
        refine Ok.seq ?_
        refine Ok.region ?_
        iterate 3 (refine OkOps.ev tab_ok rfl (by simp only [kev, ktab, klen, kcv] <;> rfl) (by simp only [kput] <;> rfl) ?_)
        refine OkOps.ev tab_ok rfl (ev_byte_lt (by simp only [kev, ktab, klen, kcv] <;> rfl) (by simp only [kev, ktab, klen, kcv] <;> rfl) (by omega) rfl) (by simp only [kput] <;> rfl) ?_
        refine OkOps.ev tab_ok rfl (by simp only [kev, ktab, klen, kcv] <;> rfl) (by simp only [kput] <;> rfl) ?_
        refine OkOps.ev tab_ok rfl (by simp only [kev, ktab, klen, kcv, rem_byte] <;> rfl) (by simp only [kput] <;> rfl) ?_
        refine OkOps.ev tab_ok rfl (by simp only [kev, ktab, klen, kcv] <;> rfl) (by simp only [kput] <;> rfl) ?_
        refine OkOps.ev tab_ok rfl (by simp only [kev, ktab, klen, kcv, mul_grp hi5] <;> rfl) (by simp only [kput] <;> rfl) ?_
        refine OkOps.ev tab_ok rfl (by simp only [kev, ktab, klen, kcv, add_grp hi5 h2] <;> rfl) (by simp only [kput] <;> rfl) ?_
        refine OkOps.ev tab_ok rfl (by simp only [kev, ktab, klen, kcv] <;> rfl) (by simp only [kput] <;> rfl) ?_
        refine OkOps.nil ?_
        refine Ok.seq ?_
        refine Ok.region ?_
        refine OkOps.ev tab_ok rfl (by simp only [kev, ktab, klen, kcv] <;> rfl) (by simp only [kput] <;> rfl) ?_
        refine OkOps.ev tab_ok rfl (by simp only [kev, ktab, klen, kcv, hsh] <;> rfl) (by simp only [kput] <;> rfl) ?_
        refine OkOps.ev tab_ok rfl (by simp only [kev, ktab, klen, kcv] <;> rfl) (by simp only [kput] <;> rfl) ?_
        refine OkOps.nil ?_
        refine Ok.seq ?_
        refine Ok.region ?_
        iterate 2 (refine OkOps.ev tab_ok rfl (by simp only [kev, ktab, klen, kcv] <;> rfl) (by simp only [kput] <;> rfl) ?_)
        refine OkOps.ev tab_ok rfl (ev_byte_lt (by simp only [kev, ktab, klen, kcv] <;> rfl) (by simp only [kev, ktab, klen, kcv] <;> rfl) (by omega) rfl) (by simp only [kput] <;> rfl) ?_
        refine OkOps.ev tab_ok rfl (by simp only [kev, ktab, klen, kcv] <;> rfl) (by simp only [kput] <;> rfl) ?_
        refine OkOps.nil ?_
        refine Ok.cond (b := _) (by simp only [kev, ktab, klen, kcv] <;> rfl) (fun hb10 => ?_) (fun hb10 => ?_)
        · try simp only [bsimp] at hb10
          have hb : s[p + i].toNat < 128 := by omega
          rw [hf, rdV_lo hpi hb] at h1
          refine Ok.seq ?_
          refine Ok.seqC [(54, .bool (!decide (n + s[p + i].toNat % 128 * 128 ^ i ≤ 1000000000 ∧ varT (n + s[p + i].toNat % 128 * 128 ^ i) = (s.take (p + i + 1)).drop p)))] [43, 44, 45, 46, 47, 48, 49, 50, 51, 52, 53] (by simp only [kover] <;> rfl) ?_ ?_
          · skip
            refine Ok.drawn 12 58 [] (by kernel_rfl) (by kernel_rfl) rfl ?_
            refine SOps.ev tab_ok rfl (by simp only [kev, ktab, klen, kcv] <;> rfl) (by simp only [kput] <;> rfl) ?_
            refine SOps.ev tab_ok rfl (by simp only [kev, ktab, klen, kcv] <;> rfl) (by simp only [kput] <;> rfl) ?_
            refine SOps.ev tab_ok rfl (by simp only [kev, ktab, klen, kcv] <;> rfl) (by simp only [kput] <;> rfl) ?_
            refine SOps.split (d := 45) (by simp only [kev, ktab, klen, kcv] <;> rfl) (by simp only [kput] <;> rfl) (by simp only [kput] <;> rfl) (fun hg11_2 => ?_) (fun hg11_2 => ?_)
            · try simp only [bsimp] at hg11_2
              refine SOps.offU rfl rfl (.inl (by simp only [kev, ktab, klen, kcv, Bool.not_true, Bool.not_false])) (by simp only [kput] <;> rfl) ?_
              refine SOps.offU rfl rfl (.inl (by simp only [kev, ktab, klen, kcv, Bool.not_true, Bool.not_false])) (by simp only [kput] <;> rfl) ?_
              refine SOps.offU rfl rfl (.inl (by simp only [kev, ktab, klen, kcv, Bool.not_true, Bool.not_false])) (by simp only [kput] <;> rfl) ?_
              refine SOps.offU rfl rfl (.inl (by simp only [kev, ktab, klen, kcv, Bool.not_true, Bool.not_false])) (by simp only [kput] <;> rfl) ?_
              refine SOps.offU rfl rfl (.inl (by simp only [kev, ktab, klen, kcv, Bool.not_true, Bool.not_false])) (by simp only [kput] <;> rfl) ?_
              refine SOps.offU rfl rfl (.inl (by simp only [kev, ktab, klen, kcv, Bool.not_true, Bool.not_false])) (by simp only [kput] <;> rfl) ?_
              refine SOps.offU rfl rfl (.inl (by simp only [kev, ktab, klen, kcv, Bool.not_true, Bool.not_false])) (by simp only [kput] <;> rfl) ?_
              refine SOps.offU rfl rfl (.inl (by simp only [kev, ktab, klen, kcv, Bool.not_true, Bool.not_false])) (by simp only [kput] <;> rfl) ?_
              refine SOps.ev tab_ok rfl (by simp only [kev, ktab, klen, kcv] <;> rfl) (by simp only [kput] <;> rfl) ?_
              refine SOps.nil ?_
              refine TOps.nil ?_
              refine ⟨rfl, ?_, rfl, rfl⟩
              refine ⟨?_, ?_, ?_, ?_, ?_, ?_, ?_, ?_, ?_, ?_, ?_, ?_, ?_, ?_, ?_, ?_, ?_, ?_, ?_, ?_, ?_, ?_, ?_, ?_, ?_, ?_, ?_, ?_, ?_, ?_, ?_, ?_, ?_, ?_, ?_, ?_, ?_, ?_, ?_, ?_, ?_, ?_, ?_, ?_, ?_, ?_, ?_, ?_, ?_, ?_, ?_, ?_, ?_, ?_, ?_, ?_, ?_, ?_, trivial⟩ <;> first | exact le_any _ | exact le_rfl' _ | (refine .inl (congrArg V.bool ?_); first | (simp only [Int.toNat_natCast]; simp [hn9]; done) | (simp; omega))
            · try simp only [bsimp] at hg11_2
              have hn9 : n + s[p + i].toNat % 128 * 128 ^ i ≤ 1000000000 := by omega
              refine SOps.onEv tab_ok rfl rfl (by simp only [kev, ktab, klen, kcv]) (by simp only [kev, ktab, klen, kcv] <;> rfl) (by simp only [kput] <;> rfl) ?_
              refine SOps.onS rfl rfl (by simp only [kev, ktab, klen, kcv]) (OpS.weakM rfl (by simp only [kev, ktab, klen, kcv] <;> rfl) (by simp only [kev, ktab, klen, kcv] <;> rfl) cl78 (w_spec_l01Var ((n + s[p + i].toNat % 128 * 128 ^ i : Nat) : Int) (by omega))) (by simp only [kput] <;> rfl) ?_
              refine SOps.onEv tab_ok rfl rfl (by simp only [kev, ktab, klen, kcv]) (by simp only [kev, ktab, klen, kcv] <;> rfl) (by simp only [kput] <;> rfl) ?_
              refine SOps.onEv tab_ok rfl rfl (by simp only [kev, ktab, klen, kcv]) (by simp only [kev, ktab, klen, kcv] <;> rfl) (by simp only [kput] <;> rfl) ?_
              refine SOps.onEv tab_ok rfl rfl (by simp only [kev, ktab, klen, kcv]) (by simp only [kev, ktab, klen, kcv] <;> rfl) (by simp only [kput] <;> rfl) ?_
              refine SOps.onEv tab_ok rfl rfl (by simp only [kev, ktab, klen, kcv]) (by simp only [kev, ktab, klen, kcv, wrap_add_one (show p + i + 1 ≤ 9223372036854775807 by omega)] <;> rfl) (by simp only [kput] <;> rfl) ?_
              refine SOps.onEv tab_ok rfl rfl (by simp only [kev, ktab, klen, kcv]) (ev_cut (by simp only [kev, ktab, klen, kcv] <;> rfl) (by simp only [kev, ktab, klen, kcv] <;> rfl) (by simp only [kev, ktab, klen, kcv] <;> rfl) rfl (by omega) (by omega)) (by simp only [kput] <;> rfl) ?_
              refine SOps.onEv tab_ok rfl rfl (by simp only [kev, ktab, klen, kcv]) (by simp only [kev, ktab, klen, kcv] <;> rfl) (by simp only [kput] <;> rfl) ?_
              refine SOps.ev tab_ok rfl (by simp only [kev, ktab, klen, kcv] <;> rfl) (by simp only [kput] <;> rfl) ?_
              refine SOps.nil ?_
              refine TOps.nil ?_
              refine ⟨rfl, ?_, rfl, rfl⟩
              refine ⟨?_, ?_, ?_, ?_, ?_, ?_, ?_, ?_, ?_, ?_, ?_, ?_, ?_, ?_, ?_, ?_, ?_, ?_, ?_, ?_, ?_, ?_, ?_, ?_, ?_, ?_, ?_, ?_, ?_, ?_, ?_, ?_, ?_, ?_, ?_, ?_, ?_, ?_, ?_, ?_, ?_, ?_, ?_, ?_, ?_, ?_, ?_, ?_, ?_, ?_, ?_, ?_, ?_, ?_, ?_, ?_, ?_, ?_, trivial⟩ <;> first | exact le_any _ | exact le_rfl' _ | (refine .inl (congrArg V.bool ?_); first | (simp only [Int.toNat_natCast]; simp [hn9]; done) | (simp; omega))
          · skip
            refine Ok.cond (b := _) (by simp only [kev, ktab, klen, kcv] <;> rfl) (fun hb11 => ?_) (fun hb11 => ?_)
            · try simp only [bsimp] at hb11
              rw [if_neg (by simpa using hb11)] at h1
              rw [← h1]
              refine Ok.seq ?_
              refine Ok.region ?_
              iterate 3 (refine OkOps.ev tab_ok rfl (by simp only [kev, ktab, klen, kcv] <;> rfl) (by simp only [kput] <;> rfl) ?_)
              refine OkOps.nil ?_
              refine Ok.ret ?_
              repeat (first | with_reducible refine thenQ_ret ?_ | with_reducible refine blockQ_ret ?_)
              refine retQ.end (by show resVs tab _ [.tmp 4, .tmp 5, .tmp 6] = _; simp only [kev, ktab, klen, kcv] <;> rfl) rfl ?_
              rfl
            · try simp only [bsimp] at hb11
              have hc : n + s[p + i].toNat % 128 * 128 ^ i ≤ 1000000000 ∧ varT (n + s[p + i].toNat % 128 * 128 ^ i) = (s.take (p + i + 1)).drop p := by simpa using hb11
              rw [if_pos hc] at h1
              rw [← h1]
              refine Ok.skip ?_
              refine Ok.seq ?_
              refine Ok.region ?_
              iterate 2 (refine OkOps.ev tab_ok rfl (by simp only [kev, ktab, klen, kcv] <;> rfl) (by simp only [kput] <;> rfl) ?_)
              refine OkOps.ev tab_ok rfl (by simp only [kev, ktab, klen, kcv, wrap_add_one (show p + i + 1 ≤ 9223372036854775807 by omega)] <;> rfl) (by simp only [kput] <;> rfl) ?_
              iterate 3 (refine OkOps.ev tab_ok rfl (by simp only [kev, ktab, klen, kcv] <;> rfl) (by simp only [kput] <;> rfl) ?_)
              refine OkOps.nil ?_
              refine Ok.ret ?_
              repeat (first | with_reducible refine thenQ_ret ?_ | with_reducible refine blockQ_ret ?_)
              refine retQ.end (by show resVs tab _ [.tmp 4, .tmp 5, .tmp 6] = _; simp only [kev, ktab, klen, kcv] <;> rfl) rfl ?_
              rfl
        · try simp only [bsimp] at hb10
          have hb : ¬ s[p + i].toNat < 128 := by omega
          rw [hf, rdV_hi hpi hb] at h1
          refine Ok.skip ?_
          refine Ok.region ?_
          iterate 3 (refine OkOps.ev tab_ok rfl (by simp only [kev, ktab, klen, kcv] <;> rfl) (by simp only [kput] <;> rfl) ?_)
          refine OkOps.nil ?_
          refine ⟨(i + 1, n + s[p + i].toNat % 128 * 128 ^ i), ?_, rfl, rfl, ⟨h1, hgl.1, by omega⟩, by show 5 - (i + 1) < 5 - i; omega⟩
          refine ⟨?_, ?_, ?_, ?_, ?_, ?_, ?_, ?_, ?_, ?_, ?_, ?_, ?_, ?_, ?_, ?_, ?_, ?_, ?_, ?_, ?_, ?_, ?_, ?_, ?_, ?_, ?_, ?_, ?_, ?_, ?_, ?_, ?_, ?_, ?_, ?_, ?_, ?_, ?_, ?_, ?_, ?_, ?_, ?_, ?_, ?_, ?_, ?_, ?_, ?_, ?_, ?_, ?_, ?_, ?_, ?_, ?_, ?_, trivial⟩ <;> first | exact le_any _ | exact le_rfl' _ | (first | exact le_rfl' _ | (rw [wrap_add_one (by omega)]; exact le_rfl' _))
      · try simp only [bsimp] at hb6
        have he : ¬ (i < 5 ∧ p + i < s.length) := hb6
        have hr : rdV s p (5 - i) i n = none := by by_cases h : p + i < s.length; (rw [show 5 - i = 0 by omega]; rfl); exact rdV_end h
        refine Ok.exit ?_
        refine Ok.seq ?_
        refine Ok.region ?_
        iterate 3 (refine OkOps.ev tab_ok rfl (by simp only [kev, ktab, klen, kcv] <;> rfl) (by simp only [kput] <;> rfl) ?_)
        refine OkOps.nil ?_
        refine Ok.ret ?_
        repeat (first | with_reducible refine thenQ_ret ?_ | with_reducible refine blockQ_ret ?_)
        refine retQ.end (by show resVs tab _ [.tmp 4, .tmp 5, .tmp 6] = _; simp only [kev, ktab, klen, kcv] <;> rfl) rfl ?_
        rw [← h1, hr]; rfl
theorem w_impl_ReadVar (s : Str) (z : Int) (hs : s.length ≤ 4611686018427387904) : Weak Try.prog 117 [.str s, .int .i64 z] (vR (readVar s z)) := by
  refine Weak.enter tab_ok Try.func117 rfl (.inr (by simp [V.labelsL, V.labels, zz])) (t := [.str s, .int .i64 z, .any, .any, .any, .any, .any, .any, .any, .any, .any, .any, .any, .any, .any, .any, .any, .any, .any, .any, .any, .any, .any, .any, .any, .any, .any, .any, .any, .any, .any, .any, .any, .any, .any, .any, .any, .any, .any, .any, .any, .any, .any, .any, .any, .any, .any, .any, .any, .any, .any, .any, .any, .any, .any, .any, .any, .any, .any, .any, .any, .any, .any, .any, .any, .any, .any, .any, .any]) rfl ?_
  refine Ok.seq ?_
  refine Ok.region ?_
  iterate 3 (refine OkOps.ev tab_ok rfl (by simp only [kev, ktab, klen, kcv] <;> rfl) (by simp only [kput] <;> rfl) ?_)
  refine OkOps.nil ?_
  refine Ok.seq ?_
  refine Ok.seq ?_
  refine Ok.region ?_
  iterate 3 (refine OkOps.ev tab_ok rfl (by simp only [kev, ktab, klen, kcv] <;> rfl) (by simp only [kput] <;> rfl) ?_)
  refine OkOps.S rfl (OpS.weak' rfl (by simp only [kev, ktab, klen, kcv] <;> rfl) (by simp only [kev, ktab, klen, kcv] <;> rfl) cl68 (w_impl_within _ _ _)) (by simp only [kput] <;> rfl) ?_
  refine OkOps.ev tab_ok rfl (by simp only [kev, ktab, klen, kcv] <;> rfl) (by simp only [kput] <;> rfl) ?_
  refine OkOps.nil ?_
  refine Ok.cond (b := _) (by simp only [kev, ktab, klen, kcv] <;> rfl) (fun hb1 => ?_) (fun hb1 => ?_)
  · try simp only [bsimp] at hb1
    rw [readVar, if_neg (by simp [hb1])]
    refine Ok.seq ?_
    refine Ok.region ?_
    iterate 3 (refine OkOps.ev tab_ok rfl (by simp only [kev, ktab, klen, kcv] <;> rfl) (by simp only [kput] <;> rfl) ?_)
    refine OkOps.nil ?_
    refine Ok.ret ?_
    repeat (first | with_reducible refine thenQ_ret ?_ | with_reducible refine blockQ_ret ?_)
    refine retQ.end (by show resVs tab _ [.tmp 4, .tmp 5, .tmp 6] = _; simp only [kev, ktab, klen, kcv] <;> rfl) rfl ?_
    rfl
  · try simp only [bsimp] at hb1
    rw [readVar, if_pos hb1]
    obtain ⟨p, rfl⟩ : ∃ p : Nat, z = p := ⟨z.toNat, by have := inR_t.1 hb1; omega⟩
    have hp : p ≤ s.length := by have := inR_t.1 hb1; omega
    rw [Int.toNat_natCast]
    refine Ok.skip ?_
    refine Ok.seq ?_
    refine Ok.region ?_
    refine OkOps.ev tab_ok rfl (by simp only [kev, ktab, klen, kcv] <;> rfl) (by simp only [kput] <;> rfl) ?_
    refine OkOps.nil ?_
    refine Ok.seq ?_
    refine Ok.seq ?_
    refine Ok.region ?_
    refine OkOps.ev tab_ok rfl (by simp only [kev, ktab, klen, kcv] <;> rfl) (by simp only [kput] <;> rfl) ?_
    refine OkOps.nil ?_
    refine Ok.block ?_
    refine Ok.loopW (τ := Nat × Nat) (fun x => [(7, .int .i64 (x.2 : Int)), (8, .int .i64 (x.1 : Int))]) [4, 5, 6, 9, 10, 16, 17, 18, 19, 20, 21, 22, 23, 24, 25, 26, 27, 28, 29, 30, 31, 32, 33, 34, 35, 36, 37, 38, 39, 40, 41, 42, 43, 44, 45, 46, 47, 48, 49, 50, 51, 52, 53, 54, 55, 56, 57, 58, 59, 60, 61, 62, 63, 64, 65, 66, 67, 68] (fun x => by simp only [kover] <;> rfl) (fun x => rdV s p (5 - x.1) x.1 x.2 = rdV s p 5 0 0 ∧ x.2 < 128 ^ x.1 ∧ x.1 ≤ 5) (fun x => 5 - x.1) (0, 0) (by refine ⟨?_, ?_, ?_, ?_, ?_, ?_, ?_, ?_, ?_, ?_, ?_, ?_, ?_, ?_, ?_, ?_, ?_, ?_, ?_, ?_, ?_, ?_, ?_, ?_, ?_, ?_, ?_, ?_, ?_, ?_, ?_, ?_, ?_, ?_, ?_, ?_, ?_, ?_, ?_, ?_, ?_, ?_, ?_, ?_, ?_, ?_, ?_, ?_, ?_, ?_, ?_, ?_, ?_, ?_, ?_, ?_, ?_, ?_, ?_, ?_, ?_, ?_, ?_, ?_, ?_, ?_, ?_, ?_, ?_, trivial⟩ <;> first | exact le_any _ | exact le_rfl' _ | (exact le_rfl' _)) (⟨rfl, by decide, by decide⟩) ?_
    rintro ⟨i, n⟩ ⟨h1, h2, h3⟩
    have h1 : rdV s p (5 - i) i n = rdV s p 5 0 0 := h1
    have h2 : n < 128 ^ i := h2
    have h3 : i ≤ 5 := h3
    refine Ok.seq ?_
    refine Ok.seqC [(25, .bool (decide (i < 5 ∧ p + i < s.length)))] [16, 17, 18, 19, 20, 21, 22, 23, 24] (by simp only [kover] <;> rfl) ?_ ?_
    · skip
      refine Ok.region ?_
      iterate 3 (refine OkOps.ev tab_ok rfl (by simp only [kev, ktab, klen, kcv] <;> rfl) (by simp only [kput] <;> rfl) ?_)
      refine OkOps.split (d := 18) (by simp only [kev, ktab, klen, kcv] <;> rfl) (by simp only [kput] <;> rfl) (by simp only [kput] <;> rfl) (fun hg5_2 => ?_) (fun hg5_2 => ?_)
      · try simp only [bsimp] at hg5_2
        refine OkOps.on rfl rfl (by simp only [kev, ktab, klen, kcv]) ?_
        refine OkOps.ev tab_ok rfl (by simp only [kev, ktab, klen, kcv] <;> rfl) (by simp only [kput] <;> rfl) ?_
        refine OkOps.on rfl rfl (by simp only [kev, ktab, klen, kcv]) ?_
        refine OkOps.ev tab_ok rfl (by simp only [kev, ktab, klen, kcv] <;> rfl) (by simp only [kput] <;> rfl) ?_
        refine OkOps.on rfl rfl (by simp only [kev, ktab, klen, kcv]) ?_
        refine OkOps.ev tab_ok rfl (by simp only [kev, ktab, klen, kcv, wrap_add_nat (show p + i ≤ 9223372036854775807 by omega)] <;> rfl) (by simp only [kput] <;> rfl) ?_
        refine OkOps.on rfl rfl (by simp only [kev, ktab, klen, kcv]) ?_
        refine OkOps.ev tab_ok rfl (by simp only [kev, ktab, klen, kcv] <;> rfl) (by simp only [kput] <;> rfl) ?_
        refine OkOps.on rfl rfl (by simp only [kev, ktab, klen, kcv]) ?_
        refine OkOps.ev tab_ok rfl (by simp only [kev, ktab, klen, kcv] <;> rfl) (by simp only [kput] <;> rfl) ?_
        refine OkOps.on rfl rfl (by simp only [kev, ktab, klen, kcv]) ?_
        iterate 2 (refine OkOps.ev tab_ok rfl (by simp only [kev, ktab, klen, kcv] <;> rfl) (by simp only [kput] <;> rfl) ?_)
        refine OkOps.nil ?_
        refine ⟨rfl, ?_, rfl, rfl⟩
        refine ⟨?_, ?_, ?_, ?_, ?_, ?_, ?_, ?_, ?_, ?_, ?_, ?_, ?_, ?_, ?_, ?_, ?_, ?_, ?_, ?_, ?_, ?_, ?_, ?_, ?_, ?_, ?_, ?_, ?_, ?_, ?_, ?_, ?_, ?_, ?_, ?_, ?_, ?_, ?_, ?_, ?_, ?_, ?_, ?_, ?_, ?_, ?_, ?_, ?_, ?_, ?_, ?_, ?_, ?_, ?_, ?_, ?_, ?_, ?_, ?_, ?_, ?_, ?_, ?_, ?_, ?_, ?_, ?_, ?_, trivial⟩ <;> first | exact le_any _ | exact le_rfl' _ | (refine .inl (congrArg V.bool ?_); rw [Bool.eq_iff_iff]; simp only [Bool.false_eq_true, false_iff, decide_eq_true_eq] at *; omega)
      · try simp only [bsimp] at hg5_2
        refine OkOps.offU rfl rfl (.inl (by simp only [kev, ktab, klen, kcv, Bool.not_true, Bool.not_false])) (by simp only [kput] <;> rfl) ?_
        refine OkOps.offU rfl rfl (.inl (by simp only [kev, ktab, klen, kcv, Bool.not_true, Bool.not_false])) (by simp only [kput] <;> rfl) ?_
        refine OkOps.offU rfl rfl (.inl (by simp only [kev, ktab, klen, kcv, Bool.not_true, Bool.not_false])) (by simp only [kput] <;> rfl) ?_
        refine OkOps.offU rfl rfl (.inl (by simp only [kev, ktab, klen, kcv, Bool.not_true, Bool.not_false])) (by simp only [kput] <;> rfl) ?_
        refine OkOps.offU rfl rfl (.inl (by simp only [kev, ktab, klen, kcv, Bool.not_true, Bool.not_false])) (by simp only [kput] <;> rfl) ?_
        refine OkOps.offU rfl rfl (.inl (by simp only [kev, ktab, klen, kcv, Bool.not_true, Bool.not_false])) (by simp only [kput] <;> rfl) ?_
        refine OkOps.ev tab_ok rfl (by simp only [kev, ktab, klen, kcv] <;> rfl) (by simp only [kput] <;> rfl) ?_
        refine OkOps.nil ?_
        refine ⟨rfl, ?_, rfl, rfl⟩
        refine ⟨?_, ?_, ?_, ?_, ?_, ?_, ?_, ?_, ?_, ?_, ?_, ?_, ?_, ?_, ?_, ?_, ?_, ?_, ?_, ?_, ?_, ?_, ?_, ?_, ?_, ?_, ?_, ?_, ?_, ?_, ?_, ?_, ?_, ?_, ?_, ?_, ?_, ?_, ?_, ?_, ?_, ?_, ?_, ?_, ?_, ?_, ?_, ?_, ?_, ?_, ?_, ?_, ?_, ?_, ?_, ?_, ?_, ?_, ?_, ?_, ?_, ?_, ?_, ?_, ?_, ?_, ?_, ?_, ?_, trivial⟩ <;> first | exact le_any _ | exact le_rfl' _ | (refine .inl (congrArg V.bool ?_); rw [Bool.eq_iff_iff]; simp only [Bool.false_eq_true, false_iff, decide_eq_true_eq] at *; omega)
    · skip
      refine Ok.cond (b := _) (by simp only [kev, ktab, klen, kcv] <;> rfl) (fun hb5 => ?_) (fun hb5 => ?_)
      · try simp only [bsimp] at hb5
        obtain ⟨hi5, hpi⟩ : i < 5 ∧ p + i < s.length := hb5
        have hgl := grp_lt (b := s[p + i].toNat) hi5 h2
        have hf : 5 - i = (5 - (i + 1)) + 1 := by omega
        refine Ok.skip ?_
        refine Ok.seq ?_
        refine Ok.block ?_
        refine Ok.seq ?_
        refine Ok.region ?_
        iterate 4 (refine OkOps.ev tab_ok rfl (by simp only [kev, ktab, klen, kcv] <;> rfl) (by simp only [kput] <;> rfl) ?_)
        refine OkOps.ev tab_ok rfl (by simp only [kev, ktab, klen, kcv, wrap_add_nat (show p + i ≤ 9223372036854775807 by omega)] <;> rfl) (by simp only [kput] <;> rfl) ?_
        refine OkOps.ev tab_ok rfl (ev_byte_lt (by simp only [kev, ktab, klen, kcv] <;> rfl) (by simp only [kev, ktab, klen, kcv] <;> rfl) (by omega) rfl) (by simp only [kput] <;> rfl) ?_
        refine OkOps.ev tab_ok rfl (by simp only [kev, ktab, klen, kcv, and_byte] <;> rfl) (by simp only [kput] <;> rfl) ?_
        refine OkOps.ev tab_ok rfl (by simp only [kev, ktab, klen, kcv, wrap_nat (show s[p + i].toNat % 128 ≤ 9223372036854775807 by omega)] <;> rfl) (by simp only [kput] <;> rfl) ?_
        refine OkOps.ev tab_ok rfl (by simp only [kev, ktab, klen, kcv] <;> rfl) (by simp only [kput] <;> rfl) ?_
        refine OkOps.ev tab_ok rfl (by simp only [kev, ktab, klen, kcv, mul7 hi5] <;> rfl) (by simp only [kput] <;> rfl) ?_
        refine OkOps.ev tab_ok rfl ((ev_shl (by simp only [kev, ktab, klen, kcv] <;> rfl) (by simp only [kev, ktab, klen, kcv] <;> rfl) (by omega)).trans (by simp only [shl_grp hi5] <;> rfl)) (by simp only [kput] <;> rfl) ?_
        refine OkOps.ev tab_ok rfl (by simp only [kev, ktab, klen, kcv, or_grp hi5 h2] <;> rfl) (by simp only [kput] <;> rfl) ?_
        refine OkOps.ev tab_ok rfl (by simp only [kev, ktab, klen, kcv] <;> rfl) (by simp only [kput] <;> rfl) ?_
        refine OkOps.nil ?_
        refine Ok.seq ?_
        refine Ok.seq ?_
        refine Ok.region ?_
        iterate 3 (refine OkOps.ev tab_ok rfl (by simp only [kev, ktab, klen, kcv] <;> rfl) (by simp only [kput] <;> rfl) ?_)
        refine OkOps.ev tab_ok rfl (by simp only [kev, ktab, klen, kcv, wrap_add_nat (show p + i ≤ 9223372036854775807 by omega)] <;> rfl) (by simp only [kput] <;> rfl) ?_
        refine OkOps.ev tab_ok rfl (ev_byte_lt (by simp only [kev, ktab, klen, kcv] <;> rfl) (by simp only [kev, ktab, klen, kcv] <;> rfl) (by omega) rfl) (by simp only [kput] <;> rfl) ?_
        refine OkOps.ev tab_ok rfl (by simp only [kev, ktab, klen, kcv] <;> rfl) (by simp only [kput] <;> rfl) ?_
        refine OkOps.nil ?_
        refine Ok.cond (b := _) (by simp only [kev, ktab, klen, kcv] <;> rfl) (fun hb8 => ?_) (fun hb8 => ?_)
        · try simp only [bsimp] at hb8
          have hb : ¬ s[p + i].toNat < 128 := by omega
          rw [hf, rdV_hi hpi hb] at h1
          refine Ok.exit ?_
          refine Ok.region ?_
          iterate 3 (refine OkOps.ev tab_ok rfl (by simp only [kev, ktab, klen, kcv] <;> rfl) (by simp only [kput] <;> rfl) ?_)
          refine OkOps.nil ?_
          refine ⟨(i + 1, n + s[p + i].toNat % 128 * 128 ^ i), ?_, rfl, rfl, ⟨h1, hgl.1, by omega⟩, by show 5 - (i + 1) < 5 - i; omega⟩
          refine ⟨?_, ?_, ?_, ?_, ?_, ?_, ?_, ?_, ?_, ?_, ?_, ?_, ?_, ?_, ?_, ?_, ?_, ?_, ?_, ?_, ?_, ?_, ?_, ?_, ?_, ?_, ?_, ?_, ?_, ?_, ?_, ?_, ?_, ?_, ?_, ?_, ?_, ?_, ?_, ?_, ?_, ?_, ?_, ?_, ?_, ?_, ?_, ?_, ?_, ?_, ?_, ?_, ?_, ?_, ?_, ?_, ?_, ?_, ?_, ?_, ?_, ?_, ?_, ?_, ?_, ?_, ?_, ?_, ?_, trivial⟩ <;> first | exact le_any _ | exact le_rfl' _ | (first | exact le_rfl' _ | (rw [wrap_add_one (by omega)]; exact le_rfl' _))
        · try simp only [bsimp] at hb8
          have hb : s[p + i].toNat < 128 := by omega
          rw [hf, rdV_lo hpi hb] at h1
          refine Ok.skip ?_
          refine Ok.seq ?_
          refine Ok.seq ?_
          refine Ok.region ?_
          refine OkOps.ev tab_ok rfl (by simp only [kev, ktab, klen, kcv] <;> rfl) (by simp only [kput] <;> rfl) ?_
          refine OkOps.S rfl (OpS.weak' rfl (by simp only [kev, ktab, klen, kcv] <;> rfl) (by simp only [kev, ktab, klen, kcv] <;> rfl) cl112 (w_impl_VarText _)) (by simp only [kput] <;> rfl) ?_
          iterate 5 (refine OkOps.ev tab_ok rfl (by simp only [kev, ktab, klen, kcv] <;> rfl) (by simp only [kput] <;> rfl) ?_)
          refine OkOps.nil ?_
          refine Ok.seqC [(63, .bool (!decide (n + s[p + i].toNat % 128 * 128 ^ i ≤ 1000000000 ∧ varT (n + s[p + i].toNat % 128 * 128 ^ i) = (s.take (p + i + 1)).drop p)))] [51, 52, 53, 54, 55, 56, 57, 58, 59, 60, 61, 62] (by simp only [kover] <;> rfl) ?_ ?_
          · skip
            refine Ok.region ?_
            iterate 3 (refine OkOps.ev tab_ok rfl (by simp only [kev, ktab, klen, kcv] <;> rfl) (by simp only [kput] <;> rfl) ?_)
            refine OkOps.split (d := 53) (by simp only [kev, ktab, klen, kcv] <;> rfl) (by simp only [kput] <;> rfl) (by simp only [kput] <;> rfl) (fun hg10_2 => ?_) (fun hg10_2 => ?_)
            · try simp only [bsimp] at hg10_2
              have hn9 : ¬ n + s[p + i].toNat % 128 * 128 ^ i ≤ 1000000000 := fun hq => by rw [varText_t (inR_t.2 (by omega))] at hg10_2; simp at hg10_2
              refine OkOps.offU rfl rfl (.inl (by simp only [kev, ktab, klen, kcv, Bool.not_true, Bool.not_false])) (by simp only [kput] <;> rfl) ?_
              refine OkOps.offU rfl rfl (.inl (by simp only [kev, ktab, klen, kcv, Bool.not_true, Bool.not_false])) (by simp only [kput] <;> rfl) ?_
              refine OkOps.offU rfl rfl (.inl (by simp only [kev, ktab, klen, kcv, Bool.not_true, Bool.not_false])) (by simp only [kput] <;> rfl) ?_
              refine OkOps.offU rfl rfl (.inl (by simp only [kev, ktab, klen, kcv, Bool.not_true, Bool.not_false])) (by simp only [kput] <;> rfl) ?_
              refine OkOps.offU rfl rfl (.inl (by simp only [kev, ktab, klen, kcv, Bool.not_true, Bool.not_false])) (by simp only [kput] <;> rfl) ?_
              refine OkOps.offU rfl rfl (.inl (by simp only [kev, ktab, klen, kcv, Bool.not_true, Bool.not_false])) (by simp only [kput] <;> rfl) ?_
              refine OkOps.offU rfl rfl (.inl (by simp only [kev, ktab, klen, kcv, Bool.not_true, Bool.not_false])) (by simp only [kput] <;> rfl) ?_
              refine OkOps.offU rfl rfl (.inl (by simp only [kev, ktab, klen, kcv, Bool.not_true, Bool.not_false])) (by simp only [kput] <;> rfl) ?_
              refine OkOps.offU rfl rfl (.inl (by simp only [kev, ktab, klen, kcv, Bool.not_true, Bool.not_false])) (by simp only [kput] <;> rfl) ?_
              refine OkOps.ev tab_ok rfl (by simp only [kev, ktab, klen, kcv] <;> rfl) (by simp only [kput] <;> rfl) ?_
              refine OkOps.nil ?_
              refine ⟨rfl, ?_, rfl, rfl⟩
              refine ⟨?_, ?_, ?_, ?_, ?_, ?_, ?_, ?_, ?_, ?_, ?_, ?_, ?_, ?_, ?_, ?_, ?_, ?_, ?_, ?_, ?_, ?_, ?_, ?_, ?_, ?_, ?_, ?_, ?_, ?_, ?_, ?_, ?_, ?_, ?_, ?_, ?_, ?_, ?_, ?_, ?_, ?_, ?_, ?_, ?_, ?_, ?_, ?_, ?_, ?_, ?_, ?_, ?_, ?_, ?_, ?_, ?_, ?_, ?_, ?_, ?_, ?_, ?_, ?_, ?_, ?_, ?_, ?_, ?_, trivial⟩ <;> first | exact le_any _ | exact le_rfl' _ | (refine .inl (congrArg V.bool ?_); first | (simp only [varText_t hk, Option.getD_some, Int.toNat_natCast]; simp [hn9]; done) | (simp only [Bool.true_eq, Bool.not_eq_true', decide_eq_false_iff_not]; exact fun hq => hn9 hq.1) | (simp [hn9]; done))
            · try simp only [bsimp] at hg10_2
              have hk : inR ((n + s[p + i].toNat % 128 * 128 ^ i : Nat) : Int) 0 1000000000 = true := by cases hq : inR ((n + s[p + i].toNat % 128 * 128 ^ i : Nat) : Int) 0 1000000000 with | true => rfl | false => rw [varText_f hq] at hg10_2; simp at hg10_2
              have hn9 : n + s[p + i].toNat % 128 * 128 ^ i ≤ 1000000000 := by have := inR_t.1 hk; omega
              refine OkOps.on rfl rfl (by simp only [kev, ktab, klen, kcv]) ?_
              refine OkOps.ev tab_ok rfl (by simp only [kev, ktab, klen, kcv] <;> rfl) (by simp only [kput] <;> rfl) ?_
              refine OkOps.on rfl rfl (by simp only [kev, ktab, klen, kcv]) ?_
              refine OkOps.ev tab_ok rfl (by simp only [kev, ktab, klen, kcv] <;> rfl) (by simp only [kput] <;> rfl) ?_
              refine OkOps.on rfl rfl (by simp only [kev, ktab, klen, kcv]) ?_
              refine OkOps.ev tab_ok rfl (by simp only [kev, ktab, klen, kcv] <;> rfl) (by simp only [kput] <;> rfl) ?_
              refine OkOps.on rfl rfl (by simp only [kev, ktab, klen, kcv]) ?_
              refine OkOps.ev tab_ok rfl (by simp only [kev, ktab, klen, kcv] <;> rfl) (by simp only [kput] <;> rfl) ?_
              refine OkOps.on rfl rfl (by simp only [kev, ktab, klen, kcv]) ?_
              refine OkOps.ev tab_ok rfl (by simp only [kev, ktab, klen, kcv] <;> rfl) (by simp only [kput] <;> rfl) ?_
              refine OkOps.on rfl rfl (by simp only [kev, ktab, klen, kcv]) ?_
              refine OkOps.ev tab_ok rfl (by simp only [kev, ktab, klen, kcv, wrap_add_nat (show p + i ≤ 9223372036854775807 by omega)] <;> rfl) (by simp only [kput] <;> rfl) ?_
              refine OkOps.on rfl rfl (by simp only [kev, ktab, klen, kcv]) ?_
              refine OkOps.ev tab_ok rfl (by simp only [kev, ktab, klen, kcv, wrap_add_one (show p + i + 1 ≤ 9223372036854775807 by omega)] <;> rfl) (by simp only [kput] <;> rfl) ?_
              refine OkOps.on rfl rfl (by simp only [kev, ktab, klen, kcv]) ?_
              refine OkOps.ev tab_ok rfl (ev_cut (by simp only [kev, ktab, klen, kcv] <;> rfl) (by simp only [kev, ktab, klen, kcv] <;> rfl) (by simp only [kev, ktab, klen, kcv] <;> rfl) rfl (by omega) (by omega)) (by simp only [kput] <;> rfl) ?_
              refine OkOps.on rfl rfl (by simp only [kev, ktab, klen, kcv]) ?_
              iterate 2 (refine OkOps.ev tab_ok rfl (by simp only [kev, ktab, klen, kcv] <;> rfl) (by simp only [kput] <;> rfl) ?_)
              refine OkOps.nil ?_
              refine ⟨rfl, ?_, rfl, rfl⟩
              refine ⟨?_, ?_, ?_, ?_, ?_, ?_, ?_, ?_, ?_, ?_, ?_, ?_, ?_, ?_, ?_, ?_, ?_, ?_, ?_, ?_, ?_, ?_, ?_, ?_, ?_, ?_, ?_, ?_, ?_, ?_, ?_, ?_, ?_, ?_, ?_, ?_, ?_, ?_, ?_, ?_, ?_, ?_, ?_, ?_, ?_, ?_, ?_, ?_, ?_, ?_, ?_, ?_, ?_, ?_, ?_, ?_, ?_, ?_, ?_, ?_, ?_, ?_, ?_, ?_, ?_, ?_, ?_, ?_, ?_, trivial⟩ <;> first | exact le_any _ | exact le_rfl' _ | (refine .inl (congrArg V.bool ?_); first | (simp only [varText_t hk, Option.getD_some, Int.toNat_natCast]; simp [hn9]; done) | (simp only [Bool.true_eq, Bool.not_eq_true', decide_eq_false_iff_not]; exact fun hq => hn9 hq.1) | (simp [hn9]; done))
          · skip
            refine Ok.cond (b := _) (by simp only [kev, ktab, klen, kcv] <;> rfl) (fun hb10 => ?_) (fun hb10 => ?_)
            · try simp only [bsimp] at hb10
              rw [if_neg (by simpa using hb10)] at h1
              rw [← h1]
              refine Ok.seq ?_
              refine Ok.region ?_
              iterate 3 (refine OkOps.ev tab_ok rfl (by simp only [kev, ktab, klen, kcv] <;> rfl) (by simp only [kput] <;> rfl) ?_)
              refine OkOps.nil ?_
              refine Ok.ret ?_
              repeat (first | with_reducible refine thenQ_ret ?_ | with_reducible refine blockQ_ret ?_)
              refine retQ.end (by show resVs tab _ [.tmp 4, .tmp 5, .tmp 6] = _; simp only [kev, ktab, klen, kcv] <;> rfl) rfl ?_
              rfl
            · try simp only [bsimp] at hb10
              have hc : n + s[p + i].toNat % 128 * 128 ^ i ≤ 1000000000 ∧ varT (n + s[p + i].toNat % 128 * 128 ^ i) = (s.take (p + i + 1)).drop p := by simpa using hb10
              rw [if_pos hc] at h1
              rw [← h1]
              refine Ok.skip ?_
              refine Ok.seq ?_
              refine Ok.region ?_
              iterate 3 (refine OkOps.ev tab_ok rfl (by simp only [kev, ktab, klen, kcv] <;> rfl) (by simp only [kput] <;> rfl) ?_)
              refine OkOps.ev tab_ok rfl (by simp only [kev, ktab, klen, kcv, wrap_add_nat (show p + i ≤ 9223372036854775807 by omega)] <;> rfl) (by simp only [kput] <;> rfl) ?_
              refine OkOps.ev tab_ok rfl (by simp only [kev, ktab, klen, kcv, wrap_add_one (show p + i + 1 ≤ 9223372036854775807 by omega)] <;> rfl) (by simp only [kput] <;> rfl) ?_
              iterate 3 (refine OkOps.ev tab_ok rfl (by simp only [kev, ktab, klen, kcv] <;> rfl) (by simp only [kput] <;> rfl) ?_)
              refine OkOps.nil ?_
              refine Ok.ret ?_
              repeat (first | with_reducible refine thenQ_ret ?_ | with_reducible refine blockQ_ret ?_)
              refine retQ.end (by show resVs tab _ [.tmp 4, .tmp 5, .tmp 6] = _; simp only [kev, ktab, klen, kcv] <;> rfl) rfl ?_
              rfl
      · try simp only [bsimp] at hb5
        have he : ¬ (i < 5 ∧ p + i < s.length) := hb5
        have hr : rdV s p (5 - i) i n = none := by by_cases h : p + i < s.length; (rw [show 5 - i = 0 by omega]; rfl); exact rdV_end h
        refine Ok.exit ?_
        refine Ok.seq ?_
        refine Ok.region ?_
        iterate 3 (refine OkOps.ev tab_ok rfl (by simp only [kev, ktab, klen, kcv] <;> rfl) (by simp only [kput] <;> rfl) ?_)
        refine OkOps.nil ?_
        refine Ok.ret ?_
        repeat (first | with_reducible refine thenQ_ret ?_ | with_reducible refine blockQ_ret ?_)
        refine retQ.end (by show resVs tab _ [.tmp 4, .tmp 5, .tmp 6] = _; simp only [kev, ktab, klen, kcv] <;> rfl) rfl ?_
        rw [← h1, hr]; rfl
theorem w_spec_ReadShort (s : Str) (z : Int) (hs : s.length ≤ 4611686018427387904) : Weak Try.prog 115 [.str s, .int .i64 z] (vS (readShort s z)) := by
  refine Weak.enter tab_ok Try.func115 rfl (.inr (by simp [V.labelsL, V.labels, zz])) (t := [.str s, .int .i64 z, .any, .any, .any, .any, .any, .any, .any, .any, .any, .any, .any, .any, .any, .any, .any, .any, .any, .any, .any, .any, .any, .any, .any, .any, .any, .any, .any, .any, .any, .any, .any, .any, .any, .any, .any, .any, .any, .any]) rfl ?_
  refine Ok.seq ?_
  refine Ok.region ?_
  iterate 3 (refine OkOps.ev tab_ok rfl (by simp only [kev, ktab, klen, kcv] <;> rfl) (by simp only [kput] <;> rfl) ?_)
  refine OkOps.nil ?_
  refine Ok.seq ?_
  refine Ok.region ?_
  iterate 2 (refine OkOps.ev tab_ok rfl (by simp only [kev, ktab, klen, kcv] <;> rfl) (by simp only [kput] <;> rfl) ?_)
  refine OkOps.S rfl (OpS.weak' rfl (by simp only [kev, ktab, klen, kcv] <;> rfl) (by simp only [kev, ktab, klen, kcv] <;> rfl) cl114 (w_spec_ReadVar s z hs)) (by simp only [kput] <;> rfl) ?_
  iterate 7 (refine OkOps.ev tab_ok rfl (by simp only [kev, ktab, klen, kcv] <;> rfl) (by simp only [kput] <;> rfl) ?_)
  refine OkOps.nil ?_
  refine Ok.seq ?_
  refine Ok.seqC [(30, .bool (!(readShort s z).isSome))] [17, 18, 19, 20, 21, 22, 23, 24, 25, 26, 27, 28, 29] (by simp only [kover] <;> rfl) ?_ ?_
  · skip
    refine Ok.region ?_
    iterate 3 (refine OkOps.ev tab_ok rfl (by simp only [kev, ktab, klen, kcv] <;> rfl) (by simp only [kput] <;> rfl) ?_)
    refine OkOps.split (d := 19) (by simp only [kev, ktab, klen, kcv] <;> rfl) (by simp only [kput] <;> rfl) (by simp only [kput] <;> rfl) (fun hg2_2 => ?_) (fun hg2_2 => ?_)
    · try simp only [bsimp] at hg2_2
      refine OkOps.offU rfl rfl (.inl (by simp only [kev, ktab, klen, kcv, Bool.not_true, Bool.not_false])) (by simp only [kput] <;> rfl) ?_
      refine OkOps.offU rfl rfl (.inl (by simp only [kev, ktab, klen, kcv, Bool.not_true, Bool.not_false])) (by simp only [kput] <;> rfl) ?_
      iterate 2 (refine OkOps.ev tab_ok rfl (by simp only [kev, ktab, klen, kcv] <;> rfl) (by simp only [kput] <;> rfl) ?_)
      refine OkOps.offU rfl rfl (.inl (by simp only [kev, ktab, klen, kcv, Bool.not_true, Bool.not_false])) (by simp only [kput] <;> rfl) ?_
      refine OkOps.offU rfl rfl (.inl (by simp only [kev, ktab, klen, kcv, Bool.not_true, Bool.not_false])) (by simp only [kput] <;> rfl) ?_
      refine OkOps.offU rfl rfl (.inl (by simp only [kev, ktab, klen, kcv, Bool.not_true, Bool.not_false])) (by simp only [kput] <;> rfl) ?_
      refine OkOps.offU rfl rfl (.inl (by simp only [kev, ktab, klen, kcv, Bool.not_true, Bool.not_false])) (by simp only [kput] <;> rfl) ?_
      refine OkOps.offU rfl rfl (.inl (by simp only [kev, ktab, klen, kcv, Bool.not_true, Bool.not_false])) (by simp only [kput] <;> rfl) ?_
      refine OkOps.offU rfl rfl (.inl (by simp only [kev, ktab, klen, kcv, Bool.not_true, Bool.not_false])) (by simp only [kput] <;> rfl) ?_
      refine OkOps.ev tab_ok rfl (by simp only [kev, ktab, klen, kcv] <;> rfl) (by simp only [kput] <;> rfl) ?_
      refine OkOps.nil ?_
      refine ⟨rfl, ?_, rfl, rfl⟩
      refine ⟨?_, ?_, ?_, ?_, ?_, ?_, ?_, ?_, ?_, ?_, ?_, ?_, ?_, ?_, ?_, ?_, ?_, ?_, ?_, ?_, ?_, ?_, ?_, ?_, ?_, ?_, ?_, ?_, ?_, ?_, ?_, ?_, ?_, ?_, ?_, ?_, ?_, ?_, ?_, ?_, trivial⟩ <;> first | exact le_any _ | exact le_rfl' _ | (refine .inl (congrArg V.bool ?_); (rw [short_cond hs]; first | (simp [*]; done) | (simp_all; done)))
    · try simp only [bsimp] at hg2_2
      refine OkOps.on rfl rfl (by simp only [kev, ktab, klen, kcv]) ?_
      refine OkOps.ev tab_ok rfl (by simp only [kev, ktab, klen, kcv] <;> rfl) (by simp only [kput] <;> rfl) ?_
      refine OkOps.on rfl rfl (by simp only [kev, ktab, klen, kcv]) ?_
      iterate 3 (refine OkOps.ev tab_ok rfl (by simp only [kev, ktab, klen, kcv] <;> rfl) (by simp only [kput] <;> rfl) ?_)
      refine OkOps.split (d := 23) (by simp only [kev, ktab, klen, kcv] <;> rfl) (by simp only [kput] <;> rfl) (by simp only [kput] <;> rfl) (fun hg2_6 => ?_) (fun hg2_6 => ?_)
      · try simp only [bsimp] at hg2_6
        refine OkOps.offU rfl rfl (.inl (by simp only [kev, ktab, klen, kcv, Bool.not_true, Bool.not_false])) (by simp only [kput] <;> rfl) ?_
        refine OkOps.offU rfl rfl (.inl (by simp only [kev, ktab, klen, kcv, Bool.not_true, Bool.not_false])) (by simp only [kput] <;> rfl) ?_
        refine OkOps.offU rfl rfl (.inl (by simp only [kev, ktab, klen, kcv, Bool.not_true, Bool.not_false])) (by simp only [kput] <;> rfl) ?_
        refine OkOps.offU rfl rfl (.inl (by simp only [kev, ktab, klen, kcv, Bool.not_true, Bool.not_false])) (by simp only [kput] <;> rfl) ?_
        refine OkOps.offU rfl rfl (.inl (by simp only [kev, ktab, klen, kcv, Bool.not_true, Bool.not_false])) (by simp only [kput] <;> rfl) ?_
        refine OkOps.offU rfl rfl (.inl (by simp only [kev, ktab, klen, kcv, Bool.not_true, Bool.not_false])) (by simp only [kput] <;> rfl) ?_
        refine OkOps.ev tab_ok rfl (by simp only [kev, ktab, klen, kcv] <;> rfl) (by simp only [kput] <;> rfl) ?_
        refine OkOps.nil ?_
        refine ⟨rfl, ?_, rfl, rfl⟩
        refine ⟨?_, ?_, ?_, ?_, ?_, ?_, ?_, ?_, ?_, ?_, ?_, ?_, ?_, ?_, ?_, ?_, ?_, ?_, ?_, ?_, ?_, ?_, ?_, ?_, ?_, ?_, ?_, ?_, ?_, ?_, ?_, ?_, ?_, ?_, ?_, ?_, ?_, ?_, ?_, ?_, trivial⟩ <;> first | exact le_any _ | exact le_rfl' _ | (refine .inl (congrArg V.bool ?_); (rw [short_cond hs]; first | (simp [*]; done) | (simp_all; done)))
      · try simp only [bsimp] at hg2_6
        refine OkOps.on rfl rfl (by simp only [kev, ktab, klen, kcv]) ?_
        refine OkOps.ev tab_ok rfl (by simp only [kev, ktab, klen, kcv] <;> rfl) (by simp only [kput] <;> rfl) ?_
        refine OkOps.on rfl rfl (by simp only [kev, ktab, klen, kcv]) ?_
        refine OkOps.ev tab_ok rfl (by simp only [kev, ktab, klen, kcv] <;> rfl) (by simp only [kput] <;> rfl) ?_
        refine OkOps.on rfl rfl (by simp only [kev, ktab, klen, kcv]) ?_
        refine OkOps.ev tab_ok rfl (by simp only [kev, ktab, klen, kcv] <;> rfl) (by simp only [kput] <;> rfl) ?_
        refine OkOps.on rfl rfl (by simp only [kev, ktab, klen, kcv]) ?_
        refine OkOps.ev tab_ok rfl (by simp only [kev, ktab, klen, kcv] <;> rfl) (by simp only [kput] <;> rfl) ?_
        refine OkOps.on rfl rfl (by simp only [kev, ktab, klen, kcv]) ?_
        refine OkOps.ev tab_ok rfl (by simp only [kev, ktab, klen, kcv] <;> rfl) (by simp only [kput] <;> rfl) ?_
        refine OkOps.on rfl rfl (by simp only [kev, ktab, klen, kcv]) ?_
        iterate 2 (refine OkOps.ev tab_ok rfl (by simp only [kev, ktab, klen, kcv] <;> rfl) (by simp only [kput] <;> rfl) ?_)
        refine OkOps.nil ?_
        refine ⟨rfl, ?_, rfl, rfl⟩
        refine ⟨?_, ?_, ?_, ?_, ?_, ?_, ?_, ?_, ?_, ?_, ?_, ?_, ?_, ?_, ?_, ?_, ?_, ?_, ?_, ?_, ?_, ?_, ?_, ?_, ?_, ?_, ?_, ?_, ?_, ?_, ?_, ?_, ?_, ?_, ?_, ?_, ?_, ?_, ?_, ?_, trivial⟩ <;> first | exact le_any _ | exact le_rfl' _ | (refine .inl (congrArg V.bool ?_); (rw [short_cond hs]; first | (simp [*]; done) | (simp_all; done)))
  · skip
    refine Ok.cond (b := _) (by simp only [kev, ktab, klen, kcv] <;> rfl) (fun hb2 => ?_) (fun hb2 => ?_)
    · try simp only [bsimp] at hb2
      have hn : readShort s z = none := by simpa using hb2
      rw [hn]
      refine Ok.seq ?_
      refine Ok.region ?_
      iterate 3 (refine OkOps.ev tab_ok rfl (by simp only [kev, ktab, klen, kcv] <;> rfl) (by simp only [kput] <;> rfl) ?_)
      refine OkOps.nil ?_
      refine Ok.ret ?_
      repeat (first | with_reducible refine thenQ_ret ?_ | with_reducible refine blockQ_ret ?_)
      refine retQ.end (by show resVs tab _ [.tmp 4, .tmp 5, .tmp 6] = _; simp only [kev, ktab, klen, kcv] <;> rfl) rfl ?_
      rfl
    · try simp only [bsimp] at hb2
      obtain ⟨q, hq⟩ : ∃ q, readShort s z = some q := Option.isSome_iff_exists.1 (by simpa using hb2)
      obtain ⟨m, e, hv, hme, rfl⟩ : ∃ m e, readVar s z = some (m, e) ∧ (m ≤ 20000 ∧ m + e ≤ s.length) ∧ q = ((s.take (e + m)).drop e, e + m) := by
        unfold readShort at hq
        split at hq
        · rename_i m e hv
          split at hq
          · rename_i hme; exact ⟨m, e, hv, hme, (Option.some.inj hq).symm⟩
          · cases hq
        · cases hq
      rw [hq]
      simp only [hv, Option.getD_some, Option.isSome_some]
      refine Ok.skip ?_
      refine Ok.seq ?_
      refine Ok.region ?_
      iterate 4 (refine OkOps.ev tab_ok rfl (by simp only [kev, ktab, klen, kcv] <;> rfl) (by simp only [kput] <;> rfl) ?_)
      refine OkOps.ev tab_ok rfl (by simp only [kev, ktab, klen, kcv, wrap_add_nat (show e + m ≤ 9223372036854775807 by omega)] <;> rfl) (by simp only [kput] <;> rfl) ?_
      refine OkOps.ev tab_ok rfl (ev_cut (by simp only [kev, ktab, klen, kcv] <;> rfl) (by simp only [kev, ktab, klen, kcv] <;> rfl) (by simp only [kev, ktab, klen, kcv] <;> rfl) rfl (by omega) (by omega)) (by simp only [kput] <;> rfl) ?_
      iterate 2 (refine OkOps.ev tab_ok rfl (by simp only [kev, ktab, klen, kcv] <;> rfl) (by simp only [kput] <;> rfl) ?_)
      refine OkOps.ev tab_ok rfl (by simp only [kev, ktab, klen, kcv, wrap_add_nat (show e + m ≤ 9223372036854775807 by omega)] <;> rfl) (by simp only [kput] <;> rfl) ?_
      iterate 3 (refine OkOps.ev tab_ok rfl (by simp only [kev, ktab, klen, kcv] <;> rfl) (by simp only [kput] <;> rfl) ?_)
      refine OkOps.nil ?_
      refine Ok.ret ?_
      repeat (first | with_reducible refine thenQ_ret ?_ | with_reducible refine blockQ_ret ?_)
      refine retQ.end (by show resVs tab _ [.tmp 4, .tmp 5, .tmp 6] = _; simp only [kev, ktab, klen, kcv] <;> rfl) rfl ?_
      rfl
theorem w_impl_ReadShort (s : Str) (z : Int) (hs : s.length ≤ 4611686018427387904) : Weak Try.prog 118 [.str s, .int .i64 z] (vS (readShort s z)) := by
  refine Weak.enter tab_ok Try.func118 rfl (.inr (by simp [V.labelsL, V.labels, zz])) (t := [.str s, .int .i64 z, .any, .any, .any, .any, .any, .any, .any, .any, .any, .any, .any, .any, .any, .any, .any, .any, .any, .any, .any, .any, .any, .any, .any, .any, .any, .any, .any, .any, .any, .any, .any, .any, .any, .any, .any, .any, .any, .any]) rfl ?_
  refine Ok.seq ?_
  refine Ok.region ?_
  iterate 3 (refine OkOps.ev tab_ok rfl (by simp only [kev, ktab, klen, kcv] <;> rfl) (by simp only [kput] <;> rfl) ?_)
  refine OkOps.nil ?_
  refine Ok.seq ?_
  refine Ok.region ?_
  iterate 2 (refine OkOps.ev tab_ok rfl (by simp only [kev, ktab, klen, kcv] <;> rfl) (by simp only [kput] <;> rfl) ?_)
  refine OkOps.S rfl (OpS.weak' rfl (by simp only [kev, ktab, klen, kcv] <;> rfl) (by simp only [kev, ktab, klen, kcv] <;> rfl) cl117 (w_impl_ReadVar s z hs)) (by simp only [kput] <;> rfl) ?_
  iterate 7 (refine OkOps.ev tab_ok rfl (by simp only [kev, ktab, klen, kcv] <;> rfl) (by simp only [kput] <;> rfl) ?_)
  refine OkOps.nil ?_
  refine Ok.seq ?_
  refine Ok.seqC [(30, .bool (!(readShort s z).isSome))] [17, 18, 19, 20, 21, 22, 23, 24, 25, 26, 27, 28, 29] (by simp only [kover] <;> rfl) ?_ ?_
  · skip
    refine Ok.region ?_
    iterate 3 (refine OkOps.ev tab_ok rfl (by simp only [kev, ktab, klen, kcv] <;> rfl) (by simp only [kput] <;> rfl) ?_)
    refine OkOps.split (d := 19) (by simp only [kev, ktab, klen, kcv] <;> rfl) (by simp only [kput] <;> rfl) (by simp only [kput] <;> rfl) (fun hg2_2 => ?_) (fun hg2_2 => ?_)
    · try simp only [bsimp] at hg2_2
      refine OkOps.offU rfl rfl (.inl (by simp only [kev, ktab, klen, kcv, Bool.not_true, Bool.not_false])) (by simp only [kput] <;> rfl) ?_
      refine OkOps.offU rfl rfl (.inl (by simp only [kev, ktab, klen, kcv, Bool.not_true, Bool.not_false])) (by simp only [kput] <;> rfl) ?_
      iterate 2 (refine OkOps.ev tab_ok rfl (by simp only [kev, ktab, klen, kcv] <;> rfl) (by simp only [kput] <;> rfl) ?_)
      refine OkOps.offU rfl rfl (.inl (by simp only [kev, ktab, klen, kcv, Bool.not_true, Bool.not_false])) (by simp only [kput] <;> rfl) ?_
      refine OkOps.offU rfl rfl (.inl (by simp only [kev, ktab, klen, kcv, Bool.not_true, Bool.not_false])) (by simp only [kput] <;> rfl) ?_
      refine OkOps.offU rfl rfl (.inl (by simp only [kev, ktab, klen, kcv, Bool.not_true, Bool.not_false])) (by simp only [kput] <;> rfl) ?_
      refine OkOps.offU rfl rfl (.inl (by simp only [kev, ktab, klen, kcv, Bool.not_true, Bool.not_false])) (by simp only [kput] <;> rfl) ?_
      refine OkOps.offU rfl rfl (.inl (by simp only [kev, ktab, klen, kcv, Bool.not_true, Bool.not_false])) (by simp only [kput] <;> rfl) ?_
      refine OkOps.offU rfl rfl (.inl (by simp only [kev, ktab, klen, kcv, Bool.not_true, Bool.not_false])) (by simp only [kput] <;> rfl) ?_
      refine OkOps.ev tab_ok rfl (by simp only [kev, ktab, klen, kcv] <;> rfl) (by simp only [kput] <;> rfl) ?_
      refine OkOps.nil ?_
      refine ⟨rfl, ?_, rfl, rfl⟩
      refine ⟨?_, ?_, ?_, ?_, ?_, ?_, ?_, ?_, ?_, ?_, ?_, ?_, ?_, ?_, ?_, ?_, ?_, ?_, ?_, ?_, ?_, ?_, ?_, ?_, ?_, ?_, ?_, ?_, ?_, ?_, ?_, ?_, ?_, ?_, ?_, ?_, ?_, ?_, ?_, ?_, trivial⟩ <;> first | exact le_any _ | exact le_rfl' _ | (refine .inl (congrArg V.bool ?_); (rw [short_cond hs]; first | (simp [*]; done) | (simp_all; done)))
    · try simp only [bsimp] at hg2_2
      refine OkOps.on rfl rfl (by simp only [kev, ktab, klen, kcv]) ?_
      refine OkOps.ev tab_ok rfl (by simp only [kev, ktab, klen, kcv] <;> rfl) (by simp only [kput] <;> rfl) ?_
      refine OkOps.on rfl rfl (by simp only [kev, ktab, klen, kcv]) ?_
      iterate 3 (refine OkOps.ev tab_ok rfl (by simp only [kev, ktab, klen, kcv] <;> rfl) (by simp only [kput] <;> rfl) ?_)
      refine OkOps.split (d := 23) (by simp only [kev, ktab, klen, kcv] <;> rfl) (by simp only [kput] <;> rfl) (by simp only [kput] <;> rfl) (fun hg2_6 => ?_) (fun hg2_6 => ?_)
      · try simp only [bsimp] at hg2_6
        refine OkOps.offU rfl rfl (.inl (by simp only [kev, ktab, klen, kcv, Bool.not_true, Bool.not_false])) (by simp only [kput] <;> rfl) ?_
        refine OkOps.offU rfl rfl (.inl (by simp only [kev, ktab, klen, kcv, Bool.not_true, Bool.not_false])) (by simp only [kput] <;> rfl) ?_
        refine OkOps.offU rfl rfl (.inl (by simp only [kev, ktab, klen, kcv, Bool.not_true, Bool.not_false])) (by simp only [kput] <;> rfl) ?_
        refine OkOps.offU rfl rfl (.inl (by simp only [kev, ktab, klen, kcv, Bool.not_true, Bool.not_false])) (by simp only [kput] <;> rfl) ?_
        refine OkOps.offU rfl rfl (.inl (by simp only [kev, ktab, klen, kcv, Bool.not_true, Bool.not_false])) (by simp only [kput] <;> rfl) ?_
        refine OkOps.offU rfl rfl (.inl (by simp only [kev, ktab, klen, kcv, Bool.not_true, Bool.not_false])) (by simp only [kput] <;> rfl) ?_
        refine OkOps.ev tab_ok rfl (by simp only [kev, ktab, klen, kcv] <;> rfl) (by simp only [kput] <;> rfl) ?_
        refine OkOps.nil ?_
        refine ⟨rfl, ?_, rfl, rfl⟩
        refine ⟨?_, ?_, ?_, ?_, ?_, ?_, ?_, ?_, ?_, ?_, ?_, ?_, ?_, ?_, ?_, ?_, ?_, ?_, ?_, ?_, ?_, ?_, ?_, ?_, ?_, ?_, ?_, ?_, ?_, ?_, ?_, ?_, ?_, ?_, ?_, ?_, ?_, ?_, ?_, ?_, trivial⟩ <;> first | exact le_any _ | exact le_rfl' _ | (refine .inl (congrArg V.bool ?_); (rw [short_cond hs]; first | (simp [*]; done) | (simp_all; done)))
      · try simp only [bsimp] at hg2_6
        refine OkOps.on rfl rfl (by simp only [kev, ktab, klen, kcv]) ?_
        refine OkOps.ev tab_ok rfl (by simp only [kev, ktab, klen, kcv] <;> rfl) (by simp only [kput] <;> rfl) ?_
        refine OkOps.on rfl rfl (by simp only [kev, ktab, klen, kcv]) ?_
        refine OkOps.ev tab_ok rfl (by simp only [kev, ktab, klen, kcv] <;> rfl) (by simp only [kput] <;> rfl) ?_
        refine OkOps.on rfl rfl (by simp only [kev, ktab, klen, kcv]) ?_
        refine OkOps.ev tab_ok rfl (by simp only [kev, ktab, klen, kcv] <;> rfl) (by simp only [kput] <;> rfl) ?_
        refine OkOps.on rfl rfl (by simp only [kev, ktab, klen, kcv]) ?_
        refine OkOps.ev tab_ok rfl (by simp only [kev, ktab, klen, kcv] <;> rfl) (by simp only [kput] <;> rfl) ?_
        refine OkOps.on rfl rfl (by simp only [kev, ktab, klen, kcv]) ?_
        refine OkOps.ev tab_ok rfl (by simp only [kev, ktab, klen, kcv] <;> rfl) (by simp only [kput] <;> rfl) ?_
        refine OkOps.on rfl rfl (by simp only [kev, ktab, klen, kcv]) ?_
        iterate 2 (refine OkOps.ev tab_ok rfl (by simp only [kev, ktab, klen, kcv] <;> rfl) (by simp only [kput] <;> rfl) ?_)
        refine OkOps.nil ?_
        refine ⟨rfl, ?_, rfl, rfl⟩
        refine ⟨?_, ?_, ?_, ?_, ?_, ?_, ?_, ?_, ?_, ?_, ?_, ?_, ?_, ?_, ?_, ?_, ?_, ?_, ?_, ?_, ?_, ?_, ?_, ?_, ?_, ?_, ?_, ?_, ?_, ?_, ?_, ?_, ?_, ?_, ?_, ?_, ?_, ?_, ?_, ?_, trivial⟩ <;> first | exact le_any _ | exact le_rfl' _ | (refine .inl (congrArg V.bool ?_); (rw [short_cond hs]; first | (simp [*]; done) | (simp_all; done)))
  · skip
    refine Ok.cond (b := _) (by simp only [kev, ktab, klen, kcv] <;> rfl) (fun hb2 => ?_) (fun hb2 => ?_)
    · try simp only [bsimp] at hb2
      have hn : readShort s z = none := by simpa using hb2
      rw [hn]
      refine Ok.seq ?_
      refine Ok.region ?_
      iterate 3 (refine OkOps.ev tab_ok rfl (by simp only [kev, ktab, klen, kcv] <;> rfl) (by simp only [kput] <;> rfl) ?_)
      refine OkOps.nil ?_
      refine Ok.ret ?_
      repeat (first | with_reducible refine thenQ_ret ?_ | with_reducible refine blockQ_ret ?_)
      refine retQ.end (by show resVs tab _ [.tmp 4, .tmp 5, .tmp 6] = _; simp only [kev, ktab, klen, kcv] <;> rfl) rfl ?_
      rfl
    · try simp only [bsimp] at hb2
      obtain ⟨q, hq⟩ : ∃ q, readShort s z = some q := Option.isSome_iff_exists.1 (by simpa using hb2)
      obtain ⟨m, e, hv, hme, rfl⟩ : ∃ m e, readVar s z = some (m, e) ∧ (m ≤ 20000 ∧ m + e ≤ s.length) ∧ q = ((s.take (e + m)).drop e, e + m) := by
        unfold readShort at hq
        split at hq
        · rename_i m e hv
          split at hq
          · rename_i hme; exact ⟨m, e, hv, hme, (Option.some.inj hq).symm⟩
          · cases hq
        · cases hq
      rw [hq]
      simp only [hv, Option.getD_some, Option.isSome_some]
      refine Ok.skip ?_
      refine Ok.seq ?_
      refine Ok.region ?_
      iterate 4 (refine OkOps.ev tab_ok rfl (by simp only [kev, ktab, klen, kcv] <;> rfl) (by simp only [kput] <;> rfl) ?_)
      refine OkOps.ev tab_ok rfl (by simp only [kev, ktab, klen, kcv, wrap_add_nat (show e + m ≤ 9223372036854775807 by omega)] <;> rfl) (by simp only [kput] <;> rfl) ?_
      refine OkOps.ev tab_ok rfl (ev_cut (by simp only [kev, ktab, klen, kcv] <;> rfl) (by simp only [kev, ktab, klen, kcv] <;> rfl) (by simp only [kev, ktab, klen, kcv] <;> rfl) rfl (by omega) (by omega)) (by simp only [kput] <;> rfl) ?_
      iterate 2 (refine OkOps.ev tab_ok rfl (by simp only [kev, ktab, klen, kcv] <;> rfl) (by simp only [kput] <;> rfl) ?_)
      refine OkOps.ev tab_ok rfl (by simp only [kev, ktab, klen, kcv, wrap_add_nat (show e + m ≤ 9223372036854775807 by omega)] <;> rfl) (by simp only [kput] <;> rfl) ?_
      iterate 3 (refine OkOps.ev tab_ok rfl (by simp only [kev, ktab, klen, kcv] <;> rfl) (by simp only [kput] <;> rfl) ?_)
      refine OkOps.nil ?_
      refine Ok.ret ?_
      repeat (first | with_reducible refine thenQ_ret ?_ | with_reducible refine blockQ_ret ?_)
      refine retQ.end (by show resVs tab _ [.tmp 4, .tmp 5, .tmp 6] = _; simp only [kev, ktab, klen, kcv] <;> rfl) rfl ?_
      rfl
theorem w_impl_fourAt (t : Str) (p : Nat) (hp : p + 4 ≤ t.length) (ht : t.length ≤ 4611686018427387904) : Weak Try.prog 116 [.str t, .int .i64 (p : Int)] (.int .i64 ((fourN (t.drop p) : Nat) : Int)) := by
  refine Weak.enter tab_ok Try.func116 rfl (.inr (by simp [V.labelsL, V.labels, zz])) (t := [.str t, .int .i64 (p : Int), .any, .any, .any, .any, .any, .any, .any, .any, .any, .any, .any, .any, .any, .any, .any, .any, .any, .any, .any, .any, .any, .any, .any, .any, .any, .any, .any, .any]) rfl ?_
  refine Ok.seq ?_
  refine Ok.region ?_
  refine OkOps.ev tab_ok rfl (by simp only [kev, ktab, klen, kcv] <;> rfl) (by simp only [kput] <;> rfl) ?_
  refine OkOps.nil ?_
  refine Ok.seq ?_
  refine Ok.drawn 26 30 [] (by kernel_rfl) (by kernel_rfl) rfl ?_
  refine SOps.ev tab_ok rfl (by simp only [kev, ktab, klen, kcv] <;> rfl) (by simp only [kput] <;> rfl) ?_
  refine SOps.ev tab_ok rfl (by simp only [kev, ktab, klen, kcv] <;> rfl) (by simp only [kput] <;> rfl) ?_
  refine SOps.ev tab_ok rfl (ev_byte_lt (by simp only [kev, ktab, klen, kcv] <;> rfl) (by simp only [kev, ktab, klen, kcv] <;> rfl) (by omega) rfl) (by simp only [kput] <;> rfl) ?_
  refine SOps.ev tab_ok rfl (by simp only [kev, ktab, klen, kcv, four_b] <;> rfl) (by simp only [kput] <;> rfl) ?_
  refine SOps.ev tab_ok rfl ((ev_shl (by simp only [kev, ktab, klen, kcv] <;> rfl) (by simp only [kev, ktab, klen, kcv] <;> rfl) (by omega)).trans (by simp only [four_s1] <;> rfl)) (by simp only [kput] <;> rfl) ?_
  refine SOps.ev tab_ok rfl (by simp only [kev, ktab, klen, kcv] <;> rfl) (by simp only [kput] <;> rfl) ?_
  refine SOps.ev tab_ok rfl (by simp only [kev, ktab, klen, kcv] <;> rfl) (by simp only [kput] <;> rfl) ?_
  refine SOps.ev tab_ok rfl (by simp only [kev, ktab, klen, kcv, wrap_add_one (show p + 1 ≤ 9223372036854775807 by omega)] <;> rfl) (by simp only [kput] <;> rfl) ?_
  refine SOps.ev tab_ok rfl (ev_byte_lt (by simp only [kev, ktab, klen, kcv] <;> rfl) (by simp only [kev, ktab, klen, kcv] <;> rfl) (by omega) rfl) (by simp only [kput] <;> rfl) ?_
  refine SOps.ev tab_ok rfl (by simp only [kev, ktab, klen, kcv, four_b] <;> rfl) (by simp only [kput] <;> rfl) ?_
  refine SOps.ev tab_ok rfl ((ev_shl (by simp only [kev, ktab, klen, kcv] <;> rfl) (by simp only [kev, ktab, klen, kcv] <;> rfl) (by omega)).trans (by simp only [four_s2] <;> rfl)) (by simp only [kput] <;> rfl) ?_
  refine SOps.ev tab_ok rfl (by simp only [kev, ktab, klen, kcv, four_or1] <;> rfl) (by simp only [kput] <;> rfl) ?_
  refine SOps.ev tab_ok rfl (by simp only [kev, ktab, klen, kcv] <;> rfl) (by simp only [kput] <;> rfl) ?_
  refine SOps.ev tab_ok rfl (by simp only [kev, ktab, klen, kcv] <;> rfl) (by simp only [kput] <;> rfl) ?_
  refine SOps.ev tab_ok rfl (by simp only [kev, ktab, klen, kcv, wrap_add_two (show p + 2 ≤ 9223372036854775807 by omega)] <;> rfl) (by simp only [kput] <;> rfl) ?_
  refine SOps.ev tab_ok rfl (ev_byte_lt (by simp only [kev, ktab, klen, kcv] <;> rfl) (by simp only [kev, ktab, klen, kcv] <;> rfl) (by omega) rfl) (by simp only [kput] <;> rfl) ?_
  refine SOps.ev tab_ok rfl (by simp only [kev, ktab, klen, kcv, four_b] <;> rfl) (by simp only [kput] <;> rfl) ?_
  refine SOps.ev tab_ok rfl ((ev_shl (by simp only [kev, ktab, klen, kcv] <;> rfl) (by simp only [kev, ktab, klen, kcv] <;> rfl) (by omega)).trans (by simp only [four_s3] <;> rfl)) (by simp only [kput] <;> rfl) ?_
  refine SOps.ev tab_ok rfl (by simp only [kev, ktab, klen, kcv, four_or2] <;> rfl) (by simp only [kput] <;> rfl) ?_
  refine SOps.ev tab_ok rfl (by simp only [kev, ktab, klen, kcv] <;> rfl) (by simp only [kput] <;> rfl) ?_
  refine SOps.ev tab_ok rfl (by simp only [kev, ktab, klen, kcv] <;> rfl) (by simp only [kput] <;> rfl) ?_
  refine SOps.ev tab_ok rfl (by simp only [kev, ktab, klen, kcv, wrap_add_three (show p + 3 ≤ 9223372036854775807 by omega)] <;> rfl) (by simp only [kput] <;> rfl) ?_
  refine SOps.ev tab_ok rfl (ev_byte_lt (by simp only [kev, ktab, klen, kcv] <;> rfl) (by simp only [kev, ktab, klen, kcv] <;> rfl) (by omega) rfl) (by simp only [kput] <;> rfl) ?_
  refine SOps.ev tab_ok rfl (by simp only [kev, ktab, klen, kcv, four_b] <;> rfl) (by simp only [kput] <;> rfl) ?_
  refine SOps.ev tab_ok rfl (by simp only [kev, ktab, klen, kcv, four_or3] <;> rfl) (by simp only [kput] <;> rfl) ?_
  refine SOps.ev tab_ok rfl (by simp only [kev, ktab, klen, kcv] <;> rfl) (by simp only [kput] <;> rfl) ?_
  refine SOps.nil ?_
  refine TOps.nil ?_
  refine Ok.ret ?_
  repeat (first | with_reducible refine thenQ_ret ?_ | with_reducible refine blockQ_ret ?_)
  refine retQ.end (by show resVs tab _ [.tmp 4] = _; simp only [kev, ktab, klen, kcv] <;> rfl) rfl ?_
  rw [fourN_at hp]; rfl
theorem w_spec_Unsealed (t : Str) (ht : t.length ≤ 4611686018427387904) : Weak Try.prog 85 [.str t] (vO (unsealed t)) := by
  refine Weak.enter tab_ok Try.func85 rfl (.inr (by simp [V.labelsL, V.labels, zz])) (t := [.str t, .any, .any, .any, .any, .any, .any, .any, .any, .any, .any, .any, .any, .any, .any, .any, .any, .any, .any, .any, .any, .any, .any, .any, .any, .any, .any, .any]) rfl ?_
  refine Ok.seq ?_
  refine Ok.region ?_
  iterate 2 (refine OkOps.ev tab_ok rfl (by simp only [kev, ktab, klen, kcv] <;> rfl) (by simp only [kput] <;> rfl) ?_)
  refine OkOps.nil ?_
  refine Ok.seq ?_
  refine Ok.region ?_
  iterate 4 (refine OkOps.ev tab_ok rfl (by simp only [kev, ktab, klen, kcv] <;> rfl) (by simp only [kput] <;> rfl) ?_)
  refine OkOps.nil ?_
  refine Ok.seq ?_
  refine Ok.seqC [(24, .bool (!(unsealed t).isSome))] [8, 9, 10, 11, 12, 13, 14, 15, 16, 17, 18, 19, 20, 21, 22, 23] (by simp only [kover] <;> rfl) ?_ ?_
  · skip
    refine Ok.drawn 17 28 [] (by kernel_rfl) (by kernel_rfl) rfl ?_
    refine SOps.ev tab_ok rfl (by simp only [kev, ktab, klen, kcv] <;> rfl) (by simp only [kput] <;> rfl) ?_
    refine SOps.ev tab_ok rfl (by simp only [kev, ktab, klen, kcv] <;> rfl) (by simp only [kput] <;> rfl) ?_
    refine SOps.ev tab_ok rfl (by simp only [kev, ktab, klen, kcv] <;> rfl) (by simp only [kput] <;> rfl) ?_
    refine SOps.split (d := 10) (by simp only [kev, ktab, klen, kcv] <;> rfl) (by simp only [kput] <;> rfl) (by simp only [kput] <;> rfl) (fun hg2_2 => ?_) (fun hg2_2 => ?_)
    · try simp only [bsimp] at hg2_2
      refine SOps.offU rfl rfl (.inl (by simp only [kev, ktab, klen, kcv, Bool.not_true, Bool.not_false])) (by simp only [kput] <;> rfl) ?_
      refine SOps.offU rfl rfl (.inl (by simp only [kev, ktab, klen, kcv, Bool.not_true, Bool.not_false])) (by simp only [kput] <;> rfl) ?_
      refine SOps.ev tab_ok rfl (by simp only [kev, ktab, klen, kcv] <;> rfl) (by simp only [kput] <;> rfl) ?_
      refine SOps.ev tab_ok rfl (by simp only [kev, ktab, klen, kcv] <;> rfl) (by simp only [kput] <;> rfl) ?_
      refine SOps.offU rfl rfl (.inl (by simp only [kev, ktab, klen, kcv, Bool.not_true, Bool.not_false])) (by simp only [kput] <;> rfl) ?_
      refine SOps.offU rfl rfl (.inl (by simp only [kev, ktab, klen, kcv, Bool.not_true, Bool.not_false])) (by simp only [kput] <;> rfl) ?_
      refine SOps.offU rfl rfl (.inl (by simp only [kev, ktab, klen, kcv, Bool.not_true, Bool.not_false])) (by simp only [kput] <;> rfl) ?_
      refine SOps.offU rfl rfl (.inl (by simp only [kev, ktab, klen, kcv, Bool.not_true, Bool.not_false])) (by simp only [kput] <;> rfl) ?_
      refine SOps.offU rfl rfl (.inl (by simp only [kev, ktab, klen, kcv, Bool.not_true, Bool.not_false])) (by simp only [kput] <;> rfl) ?_
      refine SOps.offU rfl rfl (.inl (by simp only [kev, ktab, klen, kcv, Bool.not_true, Bool.not_false])) (by simp only [kput] <;> rfl) ?_
      refine SOps.offU rfl rfl (.inl (by simp only [kev, ktab, klen, kcv, Bool.not_true, Bool.not_false])) (by simp only [kput] <;> rfl) ?_
      refine SOps.offU rfl rfl (.inl (by simp only [kev, ktab, klen, kcv, Bool.not_true, Bool.not_false])) (by simp only [kput] <;> rfl) ?_
      refine SOps.offU rfl rfl (.inl (by simp only [kev, ktab, klen, kcv, Bool.not_true, Bool.not_false])) (by simp only [kput] <;> rfl) ?_
      refine SOps.ev tab_ok rfl (by simp only [kev, ktab, klen, kcv] <;> rfl) (by simp only [kput] <;> rfl) ?_
      refine SOps.nil ?_
      refine TOps.nil ?_
      refine ⟨rfl, ?_, rfl, rfl⟩
      refine ⟨?_, ?_, ?_, ?_, ?_, ?_, ?_, ?_, ?_, ?_, ?_, ?_, ?_, ?_, ?_, ?_, ?_, ?_, ?_, ?_, ?_, ?_, ?_, ?_, ?_, ?_, ?_, ?_, trivial⟩ <;> first | exact le_any _ | exact le_rfl' _ | (refine .inl (congrArg V.bool ?_); rw [unsealed_condS ht]; first | (simp [*]; done) | (simp [*]; rintro (h | h) <;> omega) | (simp_all; done))
    · try simp only [bsimp] at hg2_2
      have h4 : 4 ≤ t.length := by have := wrap_lt4 ht; omega
      have hsub := wrap_sub4 h4 ht
      refine SOps.onEv tab_ok rfl rfl (by simp only [kev, ktab, klen, kcv]) (by simp only [kev, ktab, klen, kcv] <;> rfl) (by simp only [kput] <;> rfl) ?_
      refine SOps.onEv tab_ok rfl rfl (by simp only [kev, ktab, klen, kcv]) (by simp only [kev, ktab, klen, kcv] <;> rfl) (by simp only [kput] <;> rfl) ?_
      refine SOps.ev tab_ok rfl (by simp only [kev, ktab, klen, kcv] <;> rfl) (by simp only [kput] <;> rfl) ?_
      refine SOps.ev tab_ok rfl (by simp only [kev, ktab, klen, kcv] <;> rfl) (by simp only [kput] <;> rfl) ?_
      refine SOps.split (d := 14) (by simp only [kev, ktab, klen, kcv] <;> rfl) (by simp only [kput] <;> rfl) (by simp only [kput] <;> rfl) (fun hg2_6 => ?_) (fun hg2_6 => ?_)
      · try simp only [bsimp] at hg2_6
        refine SOps.offU rfl rfl (.inl (by simp only [kev, ktab, klen, kcv, Bool.not_true, Bool.not_false])) (by simp only [kput] <;> rfl) ?_
        refine SOps.offU rfl rfl (.inl (by simp only [kev, ktab, klen, kcv, Bool.not_true, Bool.not_false])) (by simp only [kput] <;> rfl) ?_
        refine SOps.offU rfl rfl (.inl (by simp only [kev, ktab, klen, kcv, Bool.not_true, Bool.not_false])) (by simp only [kput] <;> rfl) ?_
        refine SOps.offU rfl rfl (.inl (by simp only [kev, ktab, klen, kcv, Bool.not_true, Bool.not_false])) (by simp only [kput] <;> rfl) ?_
        refine SOps.offU rfl rfl (.inl (by simp only [kev, ktab, klen, kcv, Bool.not_true, Bool.not_false])) (by simp only [kput] <;> rfl) ?_
        refine SOps.offU rfl rfl (.inl (by simp only [kev, ktab, klen, kcv, Bool.not_true, Bool.not_false])) (by simp only [kput] <;> rfl) ?_
        refine SOps.offU rfl rfl (.inl (by simp only [kev, ktab, klen, kcv, Bool.not_true, Bool.not_false])) (by simp only [kput] <;> rfl) ?_
        refine SOps.offU rfl rfl (.inl (by simp only [kev, ktab, klen, kcv, Bool.not_true, Bool.not_false])) (by simp only [kput] <;> rfl) ?_
        refine SOps.offU rfl rfl (.inl (by simp only [kev, ktab, klen, kcv, Bool.not_true, Bool.not_false])) (by simp only [kput] <;> rfl) ?_
        refine SOps.ev tab_ok rfl (by simp only [kev, ktab, klen, kcv] <;> rfl) (by simp only [kput] <;> rfl) ?_
        refine SOps.nil ?_
        refine TOps.nil ?_
        refine ⟨rfl, ?_, rfl, rfl⟩
        refine ⟨?_, ?_, ?_, ?_, ?_, ?_, ?_, ?_, ?_, ?_, ?_, ?_, ?_, ?_, ?_, ?_, ?_, ?_, ?_, ?_, ?_, ?_, ?_, ?_, ?_, ?_, ?_, ?_, trivial⟩ <;> first | exact le_any _ | exact le_rfl' _ | (refine .inl (congrArg V.bool ?_); rw [unsealed_condS ht]; first | (simp [*]; done) | (simp [*]; rintro (h | h) <;> omega) | (simp_all; done))
      · try simp only [bsimp] at hg2_6
        refine SOps.onEv tab_ok rfl rfl (by simp only [kev, ktab, klen, kcv]) (by simp only [kev, ktab, klen, kcv] <;> rfl) (by simp only [kput] <;> rfl) ?_
        refine SOps.onEv tab_ok rfl rfl (by simp only [kev, ktab, klen, kcv]) (by simp only [kev, ktab, klen, kcv, hsub] <;> rfl) (by simp only [kput] <;> rfl) ?_
        refine SOps.onEv tab_ok rfl rfl (by simp only [kev, ktab, klen, kcv]) (ev_cutLo (by simp only [kev, ktab, klen, kcv] <;> rfl) (by simp only [kev, ktab, klen, kcv] <;> rfl) rfl (by omega)) (by simp only [kput] <;> rfl) ?_
        refine SOps.onEv tab_ok rfl rfl (by simp only [kev, ktab, klen, kcv]) (by simp only [kev, ktab, klen, kcv] <;> rfl) (by simp only [kput] <;> rfl) ?_
        refine SOps.onEv tab_ok rfl rfl (by simp only [kev, ktab, klen, kcv]) (by simp only [kev, ktab, klen, kcv, hsub] <;> rfl) (by simp only [kput] <;> rfl) ?_
        refine SOps.onEv tab_ok rfl rfl (by simp only [kev, ktab, klen, kcv]) (ev_cutHi (by simp only [kev, ktab, klen, kcv] <;> rfl) (by simp only [kev, ktab, klen, kcv] <;> rfl) rfl (by omega)) (by simp only [kput] <;> rfl) ?_
        refine SOps.onS rfl rfl (by simp only [kev, ktab, klen, kcv]) (OpS.weakM rfl (by simp only [kev, ktab, klen, kcv] <;> rfl) (by simp only [kev, ktab, klen, kcv] <;> rfl) cl109 (w_spec_SumOf (t.take (t.length - 4)) (by rw [List.length_take]; omega))) (by simp only [kput] <;> rfl) ?_
        refine SOps.onS rfl rfl (by simp only [kev, ktab, klen, kcv]) (OpS.weakM rfl (by simp only [kev, ktab, klen, kcv] <;> rfl) (by simp only [kev, ktab, klen, kcv] <;> rfl) cl108 (w_spec_l02Four _)) (by simp only [kput] <;> rfl) ?_
        refine SOps.onEv tab_ok rfl rfl (by simp only [kev, ktab, klen, kcv]) (by simp only [kev, ktab, klen, kcv] <;> rfl) (by simp only [kput] <;> rfl) ?_
        refine SOps.ev tab_ok rfl (by simp only [kev, ktab, klen, kcv] <;> rfl) (by simp only [kput] <;> rfl) ?_
        refine SOps.nil ?_
        refine TOps.nil ?_
        refine ⟨rfl, ?_, rfl, rfl⟩
        refine ⟨?_, ?_, ?_, ?_, ?_, ?_, ?_, ?_, ?_, ?_, ?_, ?_, ?_, ?_, ?_, ?_, ?_, ?_, ?_, ?_, ?_, ?_, ?_, ?_, ?_, ?_, ?_, ?_, trivial⟩ <;> first | exact le_any _ | exact le_rfl' _ | (refine .inl (congrArg V.bool ?_); rw [unsealed_condS ht]; first | (simp [*]; done) | (simp [*]; rintro (h | h) <;> omega) | (simp_all; done))
  · skip
    refine Ok.cond (b := _) (by simp only [kev, ktab, klen, kcv] <;> rfl) (fun hb2 => ?_) (fun hb2 => ?_)
    · try simp only [bsimp] at hb2
      have hn : unsealed t = none := by simpa using hb2
      rw [hn]
      refine Ok.seq ?_
      refine Ok.region ?_
      iterate 2 (refine OkOps.ev tab_ok rfl (by simp only [kev, ktab, klen, kcv] <;> rfl) (by simp only [kput] <;> rfl) ?_)
      refine OkOps.nil ?_
      refine Ok.ret ?_
      repeat (first | with_reducible refine thenQ_ret ?_ | with_reducible refine blockQ_ret ?_)
      refine retQ.end (by show resVs tab _ [.tmp 2, .tmp 3] = _; simp only [kev, ktab, klen, kcv] <;> rfl) rfl ?_
      rfl
    · try simp only [bsimp] at hb2
      obtain ⟨q, hq⟩ : ∃ q, unsealed t = some q := Option.isSome_iff_exists.1 (by simpa using hb2)
      have hc := unsealed_len hq
      rw [hq, hc.2.2]
      have hsub := wrap_sub4 hc.1 ht
      refine Ok.skip ?_
      refine Ok.seq ?_
      refine Ok.region ?_
      refine OkOps.ev tab_ok rfl (by simp only [kev, ktab, klen, kcv] <;> rfl) (by simp only [kput] <;> rfl) ?_
      refine OkOps.ev tab_ok rfl (by simp only [kev, ktab, klen, kcv, hsub] <;> rfl) (by simp only [kput] <;> rfl) ?_
      refine OkOps.ev tab_ok rfl (ev_cutHi (by simp only [kev, ktab, klen, kcv] <;> rfl) (by simp only [kev, ktab, klen, kcv] <;> rfl) rfl (by omega)) (by simp only [kput] <;> rfl) ?_
      iterate 2 (refine OkOps.ev tab_ok rfl (by simp only [kev, ktab, klen, kcv] <;> rfl) (by simp only [kput] <;> rfl) ?_)
      refine OkOps.nil ?_
      refine Ok.ret ?_
      repeat (first | with_reducible refine thenQ_ret ?_ | with_reducible refine blockQ_ret ?_)
      refine retQ.end (by show resVs tab _ [.tmp 2, .tmp 3] = _; simp only [kev, ktab, klen, kcv] <;> rfl) rfl ?_
      rfl
theorem w_impl_Unsealed (t : Str) (ht : t.length ≤ 4611686018427387904) : Weak Try.prog 88 [.str t] (vO (unsealed t)) := by
  refine Weak.enter tab_ok Try.func88 rfl (.inr (by simp [V.labelsL, V.labels, zz])) (t := [.str t, .any, .any, .any, .any, .any, .any, .any, .any, .any, .any, .any, .any, .any, .any, .any, .any, .any, .any, .any, .any, .any, .any, .any, .any]) rfl ?_
  refine Ok.seq ?_
  refine Ok.region ?_
  iterate 2 (refine OkOps.ev tab_ok rfl (by simp only [kev, ktab, klen, kcv] <;> rfl) (by simp only [kput] <;> rfl) ?_)
  refine OkOps.nil ?_
  refine Ok.seq ?_
  refine Ok.region ?_
  iterate 4 (refine OkOps.ev tab_ok rfl (by simp only [kev, ktab, klen, kcv] <;> rfl) (by simp only [kput] <;> rfl) ?_)
  refine OkOps.nil ?_
  refine Ok.seq ?_
  refine Ok.seqC [(21, .bool (!(unsealed t).isSome))] [8, 9, 10, 11, 12, 13, 14, 15, 16, 17, 18, 19, 20] (by simp only [kover] <;> rfl) ?_ ?_
  · skip
    refine Ok.region ?_
    refine OkOps.ev tab_ok rfl (by simp only [kev, ktab, klen, kcv] <;> rfl) (by simp only [kput] <;> rfl) ?_
    refine OkOps.S rfl (OpS.weak' rfl (by simp only [kev, ktab, klen, kcv] <;> rfl) (by simp only [kev, ktab, klen, kcv] <;> rfl) cl68 (w_impl_within _ _ _)) (by simp only [kput] <;> rfl) ?_
    iterate 2 (refine OkOps.ev tab_ok rfl (by simp only [kev, ktab, klen, kcv] <;> rfl) (by simp only [kput] <;> rfl) ?_)
    refine OkOps.split (d := 11) (by simp only [kev, ktab, klen, kcv] <;> rfl) (by simp only [kput] <;> rfl) (by simp only [kput] <;> rfl) (fun hg2_3 => ?_) (fun hg2_3 => ?_)
    · try simp only [bsimp] at hg2_3
      refine OkOps.offU rfl rfl (.inl (by simp only [kev, ktab, klen, kcv, Bool.not_true, Bool.not_false])) (by simp only [kput] <;> rfl) ?_
      refine OkOps.offU rfl rfl (.inl (by simp only [kev, ktab, klen, kcv, Bool.not_true, Bool.not_false])) (by simp only [kput] <;> rfl) ?_
      refine OkOps.offU rfl rfl (.inl (by simp only [kev, ktab, klen, kcv, Bool.not_true, Bool.not_false])) (by simp only [kput] <;> rfl) ?_
      refine OkOps.offU rfl rfl (.inl (by simp only [kev, ktab, klen, kcv, Bool.not_true, Bool.not_false])) (by simp only [kput] <;> rfl) ?_
      refine OkOps.offU rfl rfl (.inl (by simp only [kev, ktab, klen, kcv, Bool.not_true, Bool.not_false])) (by simp only [kput] <;> rfl) ?_
      refine OkOps.offU rfl rfl (.inl (by simp only [kev, ktab, klen, kcv, Bool.not_true, Bool.not_false])) (by simp only [kput] <;> rfl) ?_
      refine OkOps.offU rfl rfl (.inl (by simp only [kev, ktab, klen, kcv, Bool.not_true, Bool.not_false])) (by simp only [kput] <;> rfl) ?_
      refine OkOps.offU rfl rfl (.inl (by simp only [kev, ktab, klen, kcv, Bool.not_true, Bool.not_false])) (by simp only [kput] <;> rfl) ?_
      refine OkOps.offU rfl rfl (.inl (by simp only [kev, ktab, klen, kcv, Bool.not_true, Bool.not_false])) (by simp only [kput] <;> rfl) ?_
      refine OkOps.ev tab_ok rfl (by simp only [kev, ktab, klen, kcv] <;> rfl) (by simp only [kput] <;> rfl) ?_
      refine OkOps.nil ?_
      refine ⟨rfl, ?_, rfl, rfl⟩
      refine ⟨?_, ?_, ?_, ?_, ?_, ?_, ?_, ?_, ?_, ?_, ?_, ?_, ?_, ?_, ?_, ?_, ?_, ?_, ?_, ?_, ?_, ?_, ?_, ?_, ?_, trivial⟩ <;> first | exact le_any _ | exact le_rfl' _ | (refine .inl (congrArg V.bool ?_); rw [unsealed_condI ht]; first | (simp [*]; done) | (simp [*]; rintro (h | h) <;> omega) | (simp_all; done))
    · try simp only [bsimp] at hg2_3
      have h4 : 4 ≤ t.length := by have := wrap_lt4 ht; have := inR_t.1 hg2_3; omega
      have hsub := wrap_sub4 h4 ht
      refine OkOps.on rfl rfl (by simp only [kev, ktab, klen, kcv]) ?_
      refine OkOps.ev tab_ok rfl (by simp only [kev, ktab, klen, kcv] <;> rfl) (by simp only [kput] <;> rfl) ?_
      refine OkOps.on rfl rfl (by simp only [kev, ktab, klen, kcv]) ?_
      refine OkOps.ev tab_ok rfl (by simp only [kev, ktab, klen, kcv, hsub] <;> rfl) (by simp only [kput] <;> rfl) ?_
      refine OkOps.on rfl rfl (by simp only [kev, ktab, klen, kcv]) ?_
      refine OkOps.ev tab_ok rfl (ev_cutHi (by simp only [kev, ktab, klen, kcv] <;> rfl) (by simp only [kev, ktab, klen, kcv] <;> rfl) rfl (by omega)) (by simp only [kput] <;> rfl) ?_
      refine OkOps.on rfl rfl (by simp only [kev, ktab, klen, kcv]) ?_
      refine OkOps.S rfl (OpS.weak' rfl (by simp only [kev, ktab, klen, kcv] <;> rfl) (by simp only [kev, ktab, klen, kcv] <;> rfl) cl111 (w_impl_SumOf (t.take (t.length - 4)) (by rw [List.length_take]; omega))) (by simp only [kput] <;> rfl) ?_
      refine OkOps.on rfl rfl (by simp only [kev, ktab, klen, kcv]) ?_
      refine OkOps.ev tab_ok rfl (by simp only [kev, ktab, klen, kcv, wrap_sum] <;> rfl) (by simp only [kput] <;> rfl) ?_
      refine OkOps.on rfl rfl (by simp only [kev, ktab, klen, kcv]) ?_
      refine OkOps.ev tab_ok rfl (by simp only [kev, ktab, klen, kcv] <;> rfl) (by simp only [kput] <;> rfl) ?_
      refine OkOps.on rfl rfl (by simp only [kev, ktab, klen, kcv]) ?_
      refine OkOps.ev tab_ok rfl (by simp only [kev, ktab, klen, kcv, hsub] <;> rfl) (by simp only [kput] <;> rfl) ?_
      refine OkOps.on rfl rfl (by simp only [kev, ktab, klen, kcv]) ?_
      refine OkOps.S rfl (OpS.weak' rfl (by simp only [kev, ktab, klen, kcv] <;> rfl) (by simp only [kev, ktab, klen, kcv] <;> rfl) cl116 (w_impl_fourAt t (t.length - 4) (by omega) ht)) (by simp only [kput] <;> rfl) ?_
      refine OkOps.on rfl rfl (by simp only [kev, ktab, klen, kcv]) ?_
      iterate 2 (refine OkOps.ev tab_ok rfl (by simp only [kev, ktab, klen, kcv] <;> rfl) (by simp only [kput] <;> rfl) ?_)
      refine OkOps.nil ?_
      refine ⟨rfl, ?_, rfl, rfl⟩
      refine ⟨?_, ?_, ?_, ?_, ?_, ?_, ?_, ?_, ?_, ?_, ?_, ?_, ?_, ?_, ?_, ?_, ?_, ?_, ?_, ?_, ?_, ?_, ?_, ?_, ?_, trivial⟩ <;> first | exact le_any _ | exact le_rfl' _ | (refine .inl (congrArg V.bool ?_); rw [unsealed_condI ht]; first | (simp [*]; done) | (simp [*]; rintro (h | h) <;> omega) | (simp_all; done))
  · skip
    refine Ok.cond (b := _) (by simp only [kev, ktab, klen, kcv] <;> rfl) (fun hb2 => ?_) (fun hb2 => ?_)
    · try simp only [bsimp] at hb2
      have hn : unsealed t = none := by simpa using hb2
      rw [hn]
      refine Ok.seq ?_
      refine Ok.region ?_
      iterate 2 (refine OkOps.ev tab_ok rfl (by simp only [kev, ktab, klen, kcv] <;> rfl) (by simp only [kput] <;> rfl) ?_)
      refine OkOps.nil ?_
      refine Ok.ret ?_
      repeat (first | with_reducible refine thenQ_ret ?_ | with_reducible refine blockQ_ret ?_)
      refine retQ.end (by show resVs tab _ [.tmp 2, .tmp 3] = _; simp only [kev, ktab, klen, kcv] <;> rfl) rfl ?_
      rfl
    · try simp only [bsimp] at hb2
      obtain ⟨q, hq⟩ : ∃ q, unsealed t = some q := Option.isSome_iff_exists.1 (by simpa using hb2)
      have hc := unsealed_len hq
      rw [hq, hc.2.2]
      have hsub := wrap_sub4 hc.1 ht
      refine Ok.skip ?_
      refine Ok.seq ?_
      refine Ok.region ?_
      refine OkOps.ev tab_ok rfl (by simp only [kev, ktab, klen, kcv] <;> rfl) (by simp only [kput] <;> rfl) ?_
      refine OkOps.ev tab_ok rfl (by simp only [kev, ktab, klen, kcv, hsub] <;> rfl) (by simp only [kput] <;> rfl) ?_
      refine OkOps.ev tab_ok rfl (ev_cutHi (by simp only [kev, ktab, klen, kcv] <;> rfl) (by simp only [kev, ktab, klen, kcv] <;> rfl) rfl (by omega)) (by simp only [kput] <;> rfl) ?_
      iterate 2 (refine OkOps.ev tab_ok rfl (by simp only [kev, ktab, klen, kcv] <;> rfl) (by simp only [kput] <;> rfl) ?_)
      refine OkOps.nil ?_
      refine Ok.ret ?_
      repeat (first | with_reducible refine thenQ_ret ?_ | with_reducible refine blockQ_ret ?_)
      refine retQ.end (by show resVs tab _ [.tmp 2, .tmp 3] = _; simp only [kev, ktab, klen, kcv] <;> rfl) rfl ?_
      rfl
theorem c_spec_l05Var (c : Scan) (L : Nat) (hs : c.text.length ≤ 4611686018427387904) {h : List V} {n : Nat}  : OkCall Try.prog 86 [.ptr (L + 1) 0 0 (cScan c)] h n (fun r h1 n1 => r = .int .i64 ((scanNum c).1 : Int) ∧ h1 = V.updL (L + 1) 0 (cScan (scanNum c).2) h ∧ n1 = n) := by
  refine OkCall.enter' tab_ok Try.func86 rfl (t := [.ptr (L + 1) 0 0 (cScan c), .any, .any, .any, .any, .any, .any, .any, .any, .any, .any, .any, .any, .any, .any, .any, .any, .any, .any, .any, .any, .any, .any, .any, .any, .any, .any, .any, .any, .any, .any, .any, .any, .any, .any]) rfl ?_
  refine Ok.seq ?_
  refine Ok.region ?_
  refine OkOps.ev tab_ok rfl (by simp only [kev, ktab, klen, kcv] <;> rfl) (by simp only [kput] <;> rfl) ?_
  refine OkOps.nil ?_
  refine Ok.seq ?_
  refine Ok.drawn 16 35 [] (by kernel_rfl) (by kernel_rfl) rfl ?_
  refine SOps.ev tab_ok rfl (by simp only [kev, ktab, klen, kcv] <;> rfl) (by simp only [kput] <;> rfl) ?_
  refine SOps.ev tab_ok rfl (by simp only [kev, ktab, klen, kcv] <;> rfl) (by simp only [kput] <;> rfl) ?_
  refine SOps.ev tab_ok rfl (by simp only [kev, ktab, klen, kcv] <;> rfl) (by simp only [kput] <;> rfl) ?_
  refine SOps.ev tab_ok rfl (by simp only [kev, ktab, klen, kcv] <;> rfl) (by simp only [kput] <;> rfl) ?_
  refine SOps.ev tab_ok rfl (by simp only [kev, ktab, klen, kcv] <;> rfl) (by simp only [kput] <;> rfl) ?_
  refine SOps.ev tab_ok rfl (by simp only [kev, ktab, klen, kcv] <;> rfl) (by simp only [kput] <;> rfl) ?_
  refine SOps.ev tab_ok rfl (by simp only [kev, ktab, klen, kcv] <;> rfl) (by simp only [kput] <;> rfl) ?_
  refine SOps.ev tab_ok rfl (by simp only [kev, ktab, klen, kcv] <;> rfl) (by simp only [kput] <;> rfl) ?_
  refine SOps.S rfl (OpS.weakM rfl (by simp only [kev, ktab, klen, kcv] <;> rfl) (by simp only [kev, ktab, klen, kcv] <;> rfl) cl114 (w_spec_ReadVar c.text c.pos hs)) (by simp only [kput] <;> rfl) ?_
  refine SOps.ev tab_ok rfl (by simp only [kev, ktab, klen, kcv] <;> rfl) (by simp only [kput] <;> rfl) ?_
  refine SOps.ev tab_ok rfl (by simp only [kev, ktab, klen, kcv] <;> rfl) (by simp only [kput] <;> rfl) ?_
  refine SOps.ev tab_ok rfl (by simp only [kev, ktab, klen, kcv] <;> rfl) (by simp only [kput] <;> rfl) ?_
  refine SOps.ev tab_ok rfl (by simp only [kev, ktab, klen, kcv] <;> rfl) (by simp only [kput] <;> rfl) ?_
  refine SOps.ev tab_ok rfl (by simp only [kev, ktab, klen, kcv] <;> rfl) (by simp only [kput] <;> rfl) ?_
  refine SOps.ev tab_ok rfl (by simp only [kev, ktab, klen, kcv] <;> rfl) (by simp only [kput] <;> rfl) ?_
  refine SOps.ev tab_ok rfl (by simp only [kev, ktab, klen, kcv] <;> rfl) (by simp only [kput] <;> rfl) ?_
  refine SOps.nil ?_
  refine TOps.nil ?_
  refine Ok.seq ?_
  refine Ok.seqC [(26, .bool (c.bad || !(readVar c.text c.pos).isSome))] [19, 20, 21, 22, 23, 24, 25] (by simp only [kover] <;> rfl) ?_ ?_
  · skip
    refine Ok.region ?_
    iterate 5 (refine OkOps.ev tab_ok rfl (by simp only [kev, ktab, klen, kcv] <;> rfl) (by simp only [kput] <;> rfl) ?_)
    refine OkOps.split (d := 23) (by simp only [kev, ktab, klen, kcv] <;> rfl) (by simp only [kput] <;> rfl) (by simp only [kput] <;> rfl) (fun hg2_4 => ?_) (fun hg2_4 => ?_)
    · try simp only [bsimp] at hg2_4
      refine OkOps.offU rfl rfl (.inl (by simp only [kev, ktab, klen, kcv, Bool.not_true, Bool.not_false])) (by simp only [kput] <;> rfl) ?_
      refine OkOps.offU rfl rfl (.inl (by simp only [kev, ktab, klen, kcv, Bool.not_true, Bool.not_false])) (by simp only [kput] <;> rfl) ?_
      refine OkOps.ev tab_ok rfl (by simp only [kev, ktab, klen, kcv] <;> rfl) (by simp only [kput] <;> rfl) ?_
      refine OkOps.nil ?_
      refine ⟨rfl, ?_, rfl, rfl⟩
      refine ⟨?_, ?_, ?_, ?_, ?_, ?_, ?_, ?_, ?_, ?_, ?_, ?_, ?_, ?_, ?_, ?_, ?_, ?_, ?_, ?_, ?_, ?_, ?_, ?_, ?_, ?_, ?_, ?_, ?_, ?_, ?_, ?_, ?_, ?_, ?_, trivial⟩ <;> first | exact le_any _ | exact le_rfl' _ | (refine .inl (congrArg V.bool ?_); first | (simp [*]; done) | (simp_all; done))
    · try simp only [bsimp] at hg2_4
      refine OkOps.on rfl rfl (by simp only [kev, ktab, klen, kcv]) ?_
      refine OkOps.ev tab_ok rfl (by simp only [kev, ktab, klen, kcv] <;> rfl) (by simp only [kput] <;> rfl) ?_
      refine OkOps.on rfl rfl (by simp only [kev, ktab, klen, kcv]) ?_
      iterate 2 (refine OkOps.ev tab_ok rfl (by simp only [kev, ktab, klen, kcv] <;> rfl) (by simp only [kput] <;> rfl) ?_)
      refine OkOps.nil ?_
      refine ⟨rfl, ?_, rfl, rfl⟩
      refine ⟨?_, ?_, ?_, ?_, ?_, ?_, ?_, ?_, ?_, ?_, ?_, ?_, ?_, ?_, ?_, ?_, ?_, ?_, ?_, ?_, ?_, ?_, ?_, ?_, ?_, ?_, ?_, ?_, ?_, ?_, ?_, ?_, ?_, ?_, ?_, trivial⟩ <;> first | exact le_any _ | exact le_rfl' _ | (refine .inl (congrArg V.bool ?_); first | (simp [*]; done) | (simp_all; done))
  · skip
    refine Ok.cond (b := _) (by simp only [kev, ktab, klen, kcv] <;> rfl) (fun hb2 => ?_) (fun hb2 => ?_)
    · try simp only [bsimp] at hb2
      have hsc := scanNum_t hb2
      rw [hsc]
      refine Ok.seq ?_
      refine Ok.region ?_
      iterate 3 (refine OkOps.ev tab_ok rfl (by simp only [kev, ktab, klen, kcv] <;> rfl) (by simp only [kput] <;> rfl) ?_)
      refine OkOps.storeE tab_ok rfl rfl (by simp only [kev, ktab, klen, kcv] <;> rfl) ⟨_, _, by simp only [kev]; rfl⟩ (by simp [V.labelsL, V.labels, zz]) (by simp only [eq_self, V.updL, V.travL, V.travLL, V.trav, updS, updP, and_self, true_and, and_true, false_and, and_false, Nat.reduceEqDiff, Nat.reduceSub, Nat.le_refl, Nat.zero_le, ↓reduceIte, if_true, if_false, kput, zz] <;> rfl) (rfl) ?_
      refine OkOps.nil ?_
      refine Ok.seq ?_
      refine Ok.region ?_
      refine OkOps.ev tab_ok rfl (by simp only [kev, ktab, klen, kcv] <;> rfl) (by simp only [kput] <;> rfl) ?_
      refine OkOps.nil ?_
      refine Ok.ret ?_
      repeat (first | with_reducible refine thenQ_ret ?_ | with_reducible refine blockQ_ret ?_)
      refine retQ.end (by show resVs tab _ [.tmp 2] = _; simp only [kev, ktab, klen, kcv] <;> rfl) rfl ?_
      exact ⟨rfl, rfl, rfl⟩
    · try simp only [bsimp] at hb2
      obtain ⟨m, e, hv, hsc⟩ := scanNum_f hb2
      rw [hsc]
      simp only [hv, Option.getD_some, Option.isSome_some]
      refine Ok.skip ?_
      refine Ok.seq ?_
      refine Ok.region ?_
      iterate 4 (refine OkOps.ev tab_ok rfl (by simp only [kev, ktab, klen, kcv] <;> rfl) (by simp only [kput] <;> rfl) ?_)
      refine OkOps.storeE tab_ok rfl rfl (by simp only [kev, ktab, klen, kcv] <;> rfl) ⟨_, _, by simp only [kev]; rfl⟩ (by simp [V.labelsL, V.labels, zz]) (by simp only [eq_self, V.updL, V.travL, V.travLL, V.trav, updS, updP, and_self, true_and, and_true, false_and, and_false, Nat.reduceEqDiff, Nat.reduceSub, Nat.le_refl, Nat.zero_le, ↓reduceIte, if_true, if_false, kput, zz] <;> rfl) (rfl) ?_
      refine OkOps.nil ?_
      refine Ok.seq ?_
      refine Ok.region ?_
      iterate 2 (refine OkOps.ev tab_ok rfl (by simp only [kev, ktab, klen, kcv] <;> rfl) (by simp only [kput] <;> rfl) ?_)
      refine OkOps.nil ?_
      refine Ok.ret ?_
      repeat (first | with_reducible refine thenQ_ret ?_ | with_reducible refine blockQ_ret ?_)
      refine retQ.end (by show resVs tab _ [.tmp 2] = _; simp only [kev, ktab, klen, kcv] <;> rfl) rfl ?_
      exact ⟨rfl, rfl, rfl⟩
theorem c_impl_scan_num (c : Scan) (L : Nat) (hs : c.text.length ≤ 4611686018427387904) {h : List V} {n : Nat}  : OkCall Try.prog 89 [.ptr (L + 1) 0 0 (cScan c)] h n (fun r h1 n1 => r = .int .i64 ((scanNum c).1 : Int) ∧ h1 = V.updL (L + 1) 0 (cScan (scanNum c).2) h ∧ n1 = n) := by
  refine OkCall.enter' tab_ok Try.func89 rfl (t := [.ptr (L + 1) 0 0 (cScan c), .any, .any, .any, .any, .any, .any, .any, .any, .any, .any, .any, .any, .any, .any, .any, .any, .any, .any, .any, .any, .any, .any, .any, .any, .any, .any, .any, .any, .any, .any, .any, .any, .any, .any]) rfl ?_
  refine Ok.seq ?_
  refine Ok.region ?_
  refine OkOps.ev tab_ok rfl (by simp only [kev, ktab, klen, kcv] <;> rfl) (by simp only [kput] <;> rfl) ?_
  refine OkOps.nil ?_
  refine Ok.seq ?_
  refine Ok.drawn 16 35 [] (by kernel_rfl) (by kernel_rfl) rfl ?_
  refine SOps.ev tab_ok rfl (by simp only [kev, ktab, klen, kcv] <;> rfl) (by simp only [kput] <;> rfl) ?_
  refine SOps.ev tab_ok rfl (by simp only [kev, ktab, klen, kcv] <;> rfl) (by simp only [kput] <;> rfl) ?_
  refine SOps.ev tab_ok rfl (by simp only [kev, ktab, klen, kcv] <;> rfl) (by simp only [kput] <;> rfl) ?_
  refine SOps.ev tab_ok rfl (by simp only [kev, ktab, klen, kcv] <;> rfl) (by simp only [kput] <;> rfl) ?_
  refine SOps.ev tab_ok rfl (by simp only [kev, ktab, klen, kcv] <;> rfl) (by simp only [kput] <;> rfl) ?_
  refine SOps.ev tab_ok rfl (by simp only [kev, ktab, klen, kcv] <;> rfl) (by simp only [kput] <;> rfl) ?_
  refine SOps.ev tab_ok rfl (by simp only [kev, ktab, klen, kcv] <;> rfl) (by simp only [kput] <;> rfl) ?_
  refine SOps.ev tab_ok rfl (by simp only [kev, ktab, klen, kcv] <;> rfl) (by simp only [kput] <;> rfl) ?_
  refine SOps.S rfl (OpS.weakM rfl (by simp only [kev, ktab, klen, kcv] <;> rfl) (by simp only [kev, ktab, klen, kcv] <;> rfl) cl117 (w_impl_ReadVar c.text c.pos hs)) (by simp only [kput] <;> rfl) ?_
  refine SOps.ev tab_ok rfl (by simp only [kev, ktab, klen, kcv] <;> rfl) (by simp only [kput] <;> rfl) ?_
  refine SOps.ev tab_ok rfl (by simp only [kev, ktab, klen, kcv] <;> rfl) (by simp only [kput] <;> rfl) ?_
  refine SOps.ev tab_ok rfl (by simp only [kev, ktab, klen, kcv] <;> rfl) (by simp only [kput] <;> rfl) ?_
  refine SOps.ev tab_ok rfl (by simp only [kev, ktab, klen, kcv] <;> rfl) (by simp only [kput] <;> rfl) ?_
  refine SOps.ev tab_ok rfl (by simp only [kev, ktab, klen, kcv] <;> rfl) (by simp only [kput] <;> rfl) ?_
  refine SOps.ev tab_ok rfl (by simp only [kev, ktab, klen, kcv] <;> rfl) (by simp only [kput] <;> rfl) ?_
  refine SOps.ev tab_ok rfl (by simp only [kev, ktab, klen, kcv] <;> rfl) (by simp only [kput] <;> rfl) ?_
  refine SOps.nil ?_
  refine TOps.nil ?_
  refine Ok.seq ?_
  refine Ok.seqC [(26, .bool (c.bad || !(readVar c.text c.pos).isSome))] [19, 20, 21, 22, 23, 24, 25] (by simp only [kover] <;> rfl) ?_ ?_
  · skip
    refine Ok.region ?_
    iterate 5 (refine OkOps.ev tab_ok rfl (by simp only [kev, ktab, klen, kcv] <;> rfl) (by simp only [kput] <;> rfl) ?_)
    refine OkOps.split (d := 23) (by simp only [kev, ktab, klen, kcv] <;> rfl) (by simp only [kput] <;> rfl) (by simp only [kput] <;> rfl) (fun hg2_4 => ?_) (fun hg2_4 => ?_)
    · try simp only [bsimp] at hg2_4
      refine OkOps.offU rfl rfl (.inl (by simp only [kev, ktab, klen, kcv, Bool.not_true, Bool.not_false])) (by simp only [kput] <;> rfl) ?_
      refine OkOps.offU rfl rfl (.inl (by simp only [kev, ktab, klen, kcv, Bool.not_true, Bool.not_false])) (by simp only [kput] <;> rfl) ?_
      refine OkOps.ev tab_ok rfl (by simp only [kev, ktab, klen, kcv] <;> rfl) (by simp only [kput] <;> rfl) ?_
      refine OkOps.nil ?_
      refine ⟨rfl, ?_, rfl, rfl⟩
      refine ⟨?_, ?_, ?_, ?_, ?_, ?_, ?_, ?_, ?_, ?_, ?_, ?_, ?_, ?_, ?_, ?_, ?_, ?_, ?_, ?_, ?_, ?_, ?_, ?_, ?_, ?_, ?_, ?_, ?_, ?_, ?_, ?_, ?_, ?_, ?_, trivial⟩ <;> first | exact le_any _ | exact le_rfl' _ | (refine .inl (congrArg V.bool ?_); first | (simp [*]; done) | (simp_all; done))
    · try simp only [bsimp] at hg2_4
      refine OkOps.on rfl rfl (by simp only [kev, ktab, klen, kcv]) ?_
      refine OkOps.ev tab_ok rfl (by simp only [kev, ktab, klen, kcv] <;> rfl) (by simp only [kput] <;> rfl) ?_
      refine OkOps.on rfl rfl (by simp only [kev, ktab, klen, kcv]) ?_
      iterate 2 (refine OkOps.ev tab_ok rfl (by simp only [kev, ktab, klen, kcv] <;> rfl) (by simp only [kput] <;> rfl) ?_)
      refine OkOps.nil ?_
      refine ⟨rfl, ?_, rfl, rfl⟩
      refine ⟨?_, ?_, ?_, ?_, ?_, ?_, ?_, ?_, ?_, ?_, ?_, ?_, ?_, ?_, ?_, ?_, ?_, ?_, ?_, ?_, ?_, ?_, ?_, ?_, ?_, ?_, ?_, ?_, ?_, ?_, ?_, ?_, ?_, ?_, ?_, trivial⟩ <;> first | exact le_any _ | exact le_rfl' _ | (refine .inl (congrArg V.bool ?_); first | (simp [*]; done) | (simp_all; done))
  · skip
    refine Ok.cond (b := _) (by simp only [kev, ktab, klen, kcv] <;> rfl) (fun hb2 => ?_) (fun hb2 => ?_)
    · try simp only [bsimp] at hb2
      have hsc := scanNum_t hb2
      rw [hsc]
      refine Ok.seq ?_
      refine Ok.region ?_
      iterate 3 (refine OkOps.ev tab_ok rfl (by simp only [kev, ktab, klen, kcv] <;> rfl) (by simp only [kput] <;> rfl) ?_)
      refine OkOps.storeE tab_ok rfl rfl (by simp only [kev, ktab, klen, kcv] <;> rfl) ⟨_, _, by simp only [kev]; rfl⟩ (by simp [V.labelsL, V.labels, zz]) (by simp only [eq_self, V.updL, V.travL, V.travLL, V.trav, updS, updP, and_self, true_and, and_true, false_and, and_false, Nat.reduceEqDiff, Nat.reduceSub, Nat.le_refl, Nat.zero_le, ↓reduceIte, if_true, if_false, kput, zz] <;> rfl) (rfl) ?_
      refine OkOps.nil ?_
      refine Ok.seq ?_
      refine Ok.region ?_
      refine OkOps.ev tab_ok rfl (by simp only [kev, ktab, klen, kcv] <;> rfl) (by simp only [kput] <;> rfl) ?_
      refine OkOps.nil ?_
      refine Ok.ret ?_
      repeat (first | with_reducible refine thenQ_ret ?_ | with_reducible refine blockQ_ret ?_)
      refine retQ.end (by show resVs tab _ [.tmp 2] = _; simp only [kev, ktab, klen, kcv] <;> rfl) rfl ?_
      exact ⟨rfl, rfl, rfl⟩
    · try simp only [bsimp] at hb2
      obtain ⟨m, e, hv, hsc⟩ := scanNum_f hb2
      rw [hsc]
      simp only [hv, Option.getD_some, Option.isSome_some]
      refine Ok.skip ?_
      refine Ok.seq ?_
      refine Ok.region ?_
      iterate 4 (refine OkOps.ev tab_ok rfl (by simp only [kev, ktab, klen, kcv] <;> rfl) (by simp only [kput] <;> rfl) ?_)
      refine OkOps.storeE tab_ok rfl rfl (by simp only [kev, ktab, klen, kcv] <;> rfl) ⟨_, _, by simp only [kev]; rfl⟩ (by simp [V.labelsL, V.labels, zz]) (by simp only [eq_self, V.updL, V.travL, V.travLL, V.trav, updS, updP, and_self, true_and, and_true, false_and, and_false, Nat.reduceEqDiff, Nat.reduceSub, Nat.le_refl, Nat.zero_le, ↓reduceIte, if_true, if_false, kput, zz] <;> rfl) (rfl) ?_
      refine OkOps.nil ?_
      refine Ok.seq ?_
      refine Ok.region ?_
      iterate 2 (refine OkOps.ev tab_ok rfl (by simp only [kev, ktab, klen, kcv] <;> rfl) (by simp only [kput] <;> rfl) ?_)
      refine OkOps.nil ?_
      refine Ok.ret ?_
      repeat (first | with_reducible refine thenQ_ret ?_ | with_reducible refine blockQ_ret ?_)
      refine retQ.end (by show resVs tab _ [.tmp 2] = _; simp only [kev, ktab, klen, kcv] <;> rfl) rfl ?_
      exact ⟨rfl, rfl, rfl⟩
theorem c_spec_l05Short (c : Scan) (L : Nat) (hs : c.text.length ≤ 4611686018427387904) {h : List V} {n : Nat}  : OkCall Try.prog 87 [.ptr (L + 1) 0 0 (cScan c)] h n (fun r h1 n1 => r = .str (scanShort c).1 ∧ h1 = V.updL (L + 1) 0 (cScan (scanShort c).2) h ∧ n1 = n) := by
  refine OkCall.enter' tab_ok Try.func87 rfl (t := [.ptr (L + 1) 0 0 (cScan c), .any, .any, .any, .any, .any, .any, .any, .any, .any, .any, .any, .any, .any, .any, .any, .any, .any, .any, .any, .any, .any, .any, .any, .any, .any, .any, .any, .any, .any, .any, .any, .any, .any, .any]) rfl ?_
  refine Ok.seq ?_
  refine Ok.region ?_
  refine OkOps.ev tab_ok rfl (by simp only [kev, ktab, klen, kcv] <;> rfl) (by simp only [kput] <;> rfl) ?_
  refine OkOps.nil ?_
  refine Ok.seq ?_
  refine Ok.drawn 16 35 [] (by kernel_rfl) (by kernel_rfl) rfl ?_
  refine SOps.ev tab_ok rfl (by simp only [kev, ktab, klen, kcv] <;> rfl) (by simp only [kput] <;> rfl) ?_
  refine SOps.ev tab_ok rfl (by simp only [kev, ktab, klen, kcv] <;> rfl) (by simp only [kput] <;> rfl) ?_
  refine SOps.ev tab_ok rfl (by simp only [kev, ktab, klen, kcv] <;> rfl) (by simp only [kput] <;> rfl) ?_
  refine SOps.ev tab_ok rfl (by simp only [kev, ktab, klen, kcv] <;> rfl) (by simp only [kput] <;> rfl) ?_
  refine SOps.ev tab_ok rfl (by simp only [kev, ktab, klen, kcv] <;> rfl) (by simp only [kput] <;> rfl) ?_
  refine SOps.ev tab_ok rfl (by simp only [kev, ktab, klen, kcv] <;> rfl) (by simp only [kput] <;> rfl) ?_
  refine SOps.ev tab_ok rfl (by simp only [kev, ktab, klen, kcv] <;> rfl) (by simp only [kput] <;> rfl) ?_
  refine SOps.ev tab_ok rfl (by simp only [kev, ktab, klen, kcv] <;> rfl) (by simp only [kput] <;> rfl) ?_
  refine SOps.S rfl (OpS.weakM rfl (by simp only [kev, ktab, klen, kcv] <;> rfl) (by simp only [kev, ktab, klen, kcv] <;> rfl) cl115 (w_spec_ReadShort c.text c.pos hs)) (by simp only [kput] <;> rfl) ?_
  refine SOps.ev tab_ok rfl (by simp only [kev, ktab, klen, kcv] <;> rfl) (by simp only [kput] <;> rfl) ?_
  refine SOps.ev tab_ok rfl (by simp only [kev, ktab, klen, kcv] <;> rfl) (by simp only [kput] <;> rfl) ?_
  refine SOps.ev tab_ok rfl (by simp only [kev, ktab, klen, kcv] <;> rfl) (by simp only [kput] <;> rfl) ?_
  refine SOps.ev tab_ok rfl (by simp only [kev, ktab, klen, kcv] <;> rfl) (by simp only [kput] <;> rfl) ?_
  refine SOps.ev tab_ok rfl (by simp only [kev, ktab, klen, kcv] <;> rfl) (by simp only [kput] <;> rfl) ?_
  refine SOps.ev tab_ok rfl (by simp only [kev, ktab, klen, kcv] <;> rfl) (by simp only [kput] <;> rfl) ?_
  refine SOps.ev tab_ok rfl (by simp only [kev, ktab, klen, kcv] <;> rfl) (by simp only [kput] <;> rfl) ?_
  refine SOps.nil ?_
  refine TOps.nil ?_
  refine Ok.seq ?_
  refine Ok.seqC [(26, .bool (c.bad || !(readShort c.text c.pos).isSome))] [19, 20, 21, 22, 23, 24, 25] (by simp only [kover] <;> rfl) ?_ ?_
  · skip
    refine Ok.region ?_
    iterate 5 (refine OkOps.ev tab_ok rfl (by simp only [kev, ktab, klen, kcv] <;> rfl) (by simp only [kput] <;> rfl) ?_)
    refine OkOps.split (d := 23) (by simp only [kev, ktab, klen, kcv] <;> rfl) (by simp only [kput] <;> rfl) (by simp only [kput] <;> rfl) (fun hg2_4 => ?_) (fun hg2_4 => ?_)
    · try simp only [bsimp] at hg2_4
      refine OkOps.offU rfl rfl (.inl (by simp only [kev, ktab, klen, kcv, Bool.not_true, Bool.not_false])) (by simp only [kput] <;> rfl) ?_
      refine OkOps.offU rfl rfl (.inl (by simp only [kev, ktab, klen, kcv, Bool.not_true, Bool.not_false])) (by simp only [kput] <;> rfl) ?_
      refine OkOps.ev tab_ok rfl (by simp only [kev, ktab, klen, kcv] <;> rfl) (by simp only [kput] <;> rfl) ?_
      refine OkOps.nil ?_
      refine ⟨rfl, ?_, rfl, rfl⟩
      refine ⟨?_, ?_, ?_, ?_, ?_, ?_, ?_, ?_, ?_, ?_, ?_, ?_, ?_, ?_, ?_, ?_, ?_, ?_, ?_, ?_, ?_, ?_, ?_, ?_, ?_, ?_, ?_, ?_, ?_, ?_, ?_, ?_, ?_, ?_, ?_, trivial⟩ <;> first | exact le_any _ | exact le_rfl' _ | (refine .inl (congrArg V.bool ?_); first | (simp [*]; done) | (simp_all; done))
    · try simp only [bsimp] at hg2_4
      refine OkOps.on rfl rfl (by simp only [kev, ktab, klen, kcv]) ?_
      refine OkOps.ev tab_ok rfl (by simp only [kev, ktab, klen, kcv] <;> rfl) (by simp only [kput] <;> rfl) ?_
      refine OkOps.on rfl rfl (by simp only [kev, ktab, klen, kcv]) ?_
      iterate 2 (refine OkOps.ev tab_ok rfl (by simp only [kev, ktab, klen, kcv] <;> rfl) (by simp only [kput] <;> rfl) ?_)
      refine OkOps.nil ?_
      refine ⟨rfl, ?_, rfl, rfl⟩
      refine ⟨?_, ?_, ?_, ?_, ?_, ?_, ?_, ?_, ?_, ?_, ?_, ?_, ?_, ?_, ?_, ?_, ?_, ?_, ?_, ?_, ?_, ?_, ?_, ?_, ?_, ?_, ?_, ?_, ?_, ?_, ?_, ?_, ?_, ?_, ?_, trivial⟩ <;> first | exact le_any _ | exact le_rfl' _ | (refine .inl (congrArg V.bool ?_); first | (simp [*]; done) | (simp_all; done))
  · skip
    refine Ok.cond (b := _) (by simp only [kev, ktab, klen, kcv] <;> rfl) (fun hb2 => ?_) (fun hb2 => ?_)
    · try simp only [bsimp] at hb2
      have hsc := scanShort_t hb2
      rw [hsc]
      refine Ok.seq ?_
      refine Ok.region ?_
      iterate 3 (refine OkOps.ev tab_ok rfl (by simp only [kev, ktab, klen, kcv] <;> rfl) (by simp only [kput] <;> rfl) ?_)
      refine OkOps.storeE tab_ok rfl rfl (by simp only [kev, ktab, klen, kcv] <;> rfl) ⟨_, _, by simp only [kev]; rfl⟩ (by simp [V.labelsL, V.labels, zz]) (by simp only [eq_self, V.updL, V.travL, V.travLL, V.trav, updS, updP, and_self, true_and, and_true, false_and, and_false, Nat.reduceEqDiff, Nat.reduceSub, Nat.le_refl, Nat.zero_le, ↓reduceIte, if_true, if_false, kput, zz] <;> rfl) (rfl) ?_
      refine OkOps.nil ?_
      refine Ok.seq ?_
      refine Ok.region ?_
      refine OkOps.ev tab_ok rfl (by simp only [kev, ktab, klen, kcv] <;> rfl) (by simp only [kput] <;> rfl) ?_
      refine OkOps.nil ?_
      refine Ok.ret ?_
      repeat (first | with_reducible refine thenQ_ret ?_ | with_reducible refine blockQ_ret ?_)
      refine retQ.end (by show resVs tab _ [.tmp 2] = _; simp only [kev, ktab, klen, kcv] <;> rfl) rfl ?_
      exact ⟨rfl, rfl, rfl⟩
    · try simp only [bsimp] at hb2
      obtain ⟨m, e, hv, hsc⟩ := scanShort_f hb2
      rw [hsc]
      simp only [hv, Option.getD_some, Option.isSome_some]
      refine Ok.skip ?_
      refine Ok.seq ?_
      refine Ok.region ?_
      iterate 4 (refine OkOps.ev tab_ok rfl (by simp only [kev, ktab, klen, kcv] <;> rfl) (by simp only [kput] <;> rfl) ?_)
      refine OkOps.storeE tab_ok rfl rfl (by simp only [kev, ktab, klen, kcv] <;> rfl) ⟨_, _, by simp only [kev]; rfl⟩ (by simp [V.labelsL, V.labels, zz]) (by simp only [eq_self, V.updL, V.travL, V.travLL, V.trav, updS, updP, and_self, true_and, and_true, false_and, and_false, Nat.reduceEqDiff, Nat.reduceSub, Nat.le_refl, Nat.zero_le, ↓reduceIte, if_true, if_false, kput, zz] <;> rfl) (rfl) ?_
      refine OkOps.nil ?_
      refine Ok.seq ?_
      refine Ok.region ?_
      iterate 2 (refine OkOps.ev tab_ok rfl (by simp only [kev, ktab, klen, kcv] <;> rfl) (by simp only [kput] <;> rfl) ?_)
      refine OkOps.nil ?_
      refine Ok.ret ?_
      repeat (first | with_reducible refine thenQ_ret ?_ | with_reducible refine blockQ_ret ?_)
      refine retQ.end (by show resVs tab _ [.tmp 2] = _; simp only [kev, ktab, klen, kcv] <;> rfl) rfl ?_
      exact ⟨rfl, rfl, rfl⟩
theorem c_impl_scan_short (c : Scan) (L : Nat) (hs : c.text.length ≤ 4611686018427387904) {h : List V} {n : Nat}  : OkCall Try.prog 90 [.ptr (L + 1) 0 0 (cScan c)] h n (fun r h1 n1 => r = .str (scanShort c).1 ∧ h1 = V.updL (L + 1) 0 (cScan (scanShort c).2) h ∧ n1 = n) := by
  refine OkCall.enter' tab_ok Try.func90 rfl (t := [.ptr (L + 1) 0 0 (cScan c), .any, .any, .any, .any, .any, .any, .any, .any, .any, .any, .any, .any, .any, .any, .any, .any, .any, .any, .any, .any, .any, .any, .any, .any, .any, .any, .any, .any, .any, .any, .any, .any, .any, .any]) rfl ?_
  refine Ok.seq ?_
  refine Ok.region ?_
  refine OkOps.ev tab_ok rfl (by simp only [kev, ktab, klen, kcv] <;> rfl) (by simp only [kput] <;> rfl) ?_
  refine OkOps.nil ?_
  refine Ok.seq ?_
  refine Ok.drawn 16 35 [] (by kernel_rfl) (by kernel_rfl) rfl ?_
  refine SOps.ev tab_ok rfl (by simp only [kev, ktab, klen, kcv] <;> rfl) (by simp only [kput] <;> rfl) ?_
  refine SOps.ev tab_ok rfl (by simp only [kev, ktab, klen, kcv] <;> rfl) (by simp only [kput] <;> rfl) ?_
  refine SOps.ev tab_ok rfl (by simp only [kev, ktab, klen, kcv] <;> rfl) (by simp only [kput] <;> rfl) ?_
  refine SOps.ev tab_ok rfl (by simp only [kev, ktab, klen, kcv] <;> rfl) (by simp only [kput] <;> rfl) ?_
  refine SOps.ev tab_ok rfl (by simp only [kev, ktab, klen, kcv] <;> rfl) (by simp only [kput] <;> rfl) ?_
  refine SOps.ev tab_ok rfl (by simp only [kev, ktab, klen, kcv] <;> rfl) (by simp only [kput] <;> rfl) ?_
  refine SOps.ev tab_ok rfl (by simp only [kev, ktab, klen, kcv] <;> rfl) (by simp only [kput] <;> rfl) ?_
  refine SOps.ev tab_ok rfl (by simp only [kev, ktab, klen, kcv] <;> rfl) (by simp only [kput] <;> rfl) ?_
  refine SOps.S rfl (OpS.weakM rfl (by simp only [kev, ktab, klen, kcv] <;> rfl) (by simp only [kev, ktab, klen, kcv] <;> rfl) cl118 (w_impl_ReadShort c.text c.pos hs)) (by simp only [kput] <;> rfl) ?_
  refine SOps.ev tab_ok rfl (by simp only [kev, ktab, klen, kcv] <;> rfl) (by simp only [kput] <;> rfl) ?_
  refine SOps.ev tab_ok rfl (by simp only [kev, ktab, klen, kcv] <;> rfl) (by simp only [kput] <;> rfl) ?_
  refine SOps.ev tab_ok rfl (by simp only [kev, ktab, klen, kcv] <;> rfl) (by simp only [kput] <;> rfl) ?_
  refine SOps.ev tab_ok rfl (by simp only [kev, ktab, klen, kcv] <;> rfl) (by simp only [kput] <;> rfl) ?_
  refine SOps.ev tab_ok rfl (by simp only [kev, ktab, klen, kcv] <;> rfl) (by simp only [kput] <;> rfl) ?_
  refine SOps.ev tab_ok rfl (by simp only [kev, ktab, klen, kcv] <;> rfl) (by simp only [kput] <;> rfl) ?_
  refine SOps.ev tab_ok rfl (by simp only [kev, ktab, klen, kcv] <;> rfl) (by simp only [kput] <;> rfl) ?_
  refine SOps.nil ?_
  refine TOps.nil ?_
  refine Ok.seq ?_
  refine Ok.seqC [(26, .bool (c.bad || !(readShort c.text c.pos).isSome))] [19, 20, 21, 22, 23, 24, 25] (by simp only [kover] <;> rfl) ?_ ?_
  · skip
    refine Ok.region ?_
    iterate 5 (refine OkOps.ev tab_ok rfl (by simp only [kev, ktab, klen, kcv] <;> rfl) (by simp only [kput] <;> rfl) ?_)
    refine OkOps.split (d := 23) (by simp only [kev, ktab, klen, kcv] <;> rfl) (by simp only [kput] <;> rfl) (by simp only [kput] <;> rfl) (fun hg2_4 => ?_) (fun hg2_4 => ?_)
    · try simp only [bsimp] at hg2_4
      refine OkOps.offU rfl rfl (.inl (by simp only [kev, ktab, klen, kcv, Bool.not_true, Bool.not_false])) (by simp only [kput] <;> rfl) ?_
      refine OkOps.offU rfl rfl (.inl (by simp only [kev, ktab, klen, kcv, Bool.not_true, Bool.not_false])) (by simp only [kput] <;> rfl) ?_
      refine OkOps.ev tab_ok rfl (by simp only [kev, ktab, klen, kcv] <;> rfl) (by simp only [kput] <;> rfl) ?_
      refine OkOps.nil ?_
      refine ⟨rfl, ?_, rfl, rfl⟩
      refine ⟨?_, ?_, ?_, ?_, ?_, ?_, ?_, ?_, ?_, ?_, ?_, ?_, ?_, ?_, ?_, ?_, ?_, ?_, ?_, ?_, ?_, ?_, ?_, ?_, ?_, ?_, ?_, ?_, ?_, ?_, ?_, ?_, ?_, ?_, ?_, trivial⟩ <;> first | exact le_any _ | exact le_rfl' _ | (refine .inl (congrArg V.bool ?_); first | (simp [*]; done) | (simp_all; done))
    · try simp only [bsimp] at hg2_4
      refine OkOps.on rfl rfl (by simp only [kev, ktab, klen, kcv]) ?_
      refine OkOps.ev tab_ok rfl (by simp only [kev, ktab, klen, kcv] <;> rfl) (by simp only [kput] <;> rfl) ?_
      refine OkOps.on rfl rfl (by simp only [kev, ktab, klen, kcv]) ?_
      iterate 2 (refine OkOps.ev tab_ok rfl (by simp only [kev, ktab, klen, kcv] <;> rfl) (by simp only [kput] <;> rfl) ?_)
      refine OkOps.nil ?_
      refine ⟨rfl, ?_, rfl, rfl⟩
      refine ⟨?_, ?_, ?_, ?_, ?_, ?_, ?_, ?_, ?_, ?_, ?_, ?_, ?_, ?_, ?_, ?_, ?_, ?_, ?_, ?_, ?_, ?_, ?_, ?_, ?_, ?_, ?_, ?_, ?_, ?_, ?_, ?_, ?_, ?_, ?_, trivial⟩ <;> first | exact le_any _ | exact le_rfl' _ | (refine .inl (congrArg V.bool ?_); first | (simp [*]; done) | (simp_all; done))
  · skip
    refine Ok.cond (b := _) (by simp only [kev, ktab, klen, kcv] <;> rfl) (fun hb2 => ?_) (fun hb2 => ?_)
    · try simp only [bsimp] at hb2
      have hsc := scanShort_t hb2
      rw [hsc]
      refine Ok.seq ?_
      refine Ok.region ?_
      iterate 3 (refine OkOps.ev tab_ok rfl (by simp only [kev, ktab, klen, kcv] <;> rfl) (by simp only [kput] <;> rfl) ?_)
      refine OkOps.storeE tab_ok rfl rfl (by simp only [kev, ktab, klen, kcv] <;> rfl) ⟨_, _, by simp only [kev]; rfl⟩ (by simp [V.labelsL, V.labels, zz]) (by simp only [eq_self, V.updL, V.travL, V.travLL, V.trav, updS, updP, and_self, true_and, and_true, false_and, and_false, Nat.reduceEqDiff, Nat.reduceSub, Nat.le_refl, Nat.zero_le, ↓reduceIte, if_true, if_false, kput, zz] <;> rfl) (rfl) ?_
      refine OkOps.nil ?_
      refine Ok.seq ?_
      refine Ok.region ?_
      refine OkOps.ev tab_ok rfl (by simp only [kev, ktab, klen, kcv] <;> rfl) (by simp only [kput] <;> rfl) ?_
      refine OkOps.nil ?_
      refine Ok.ret ?_
      repeat (first | with_reducible refine thenQ_ret ?_ | with_reducible refine blockQ_ret ?_)
      refine retQ.end (by show resVs tab _ [.tmp 2] = _; simp only [kev, ktab, klen, kcv] <;> rfl) rfl ?_
      exact ⟨rfl, rfl, rfl⟩
    · try simp only [bsimp] at hb2
      obtain ⟨m, e, hv, hsc⟩ := scanShort_f hb2
      rw [hsc]
      simp only [hv, Option.getD_some, Option.isSome_some]
      refine Ok.skip ?_
      refine Ok.seq ?_
      refine Ok.region ?_
      iterate 4 (refine OkOps.ev tab_ok rfl (by simp only [kev, ktab, klen, kcv] <;> rfl) (by simp only [kput] <;> rfl) ?_)
      refine OkOps.storeE tab_ok rfl rfl (by simp only [kev, ktab, klen, kcv] <;> rfl) ⟨_, _, by simp only [kev]; rfl⟩ (by simp [V.labelsL, V.labels, zz]) (by simp only [eq_self, V.updL, V.travL, V.travLL, V.trav, updS, updP, and_self, true_and, and_true, false_and, and_false, Nat.reduceEqDiff, Nat.reduceSub, Nat.le_refl, Nat.zero_le, ↓reduceIte, if_true, if_false, kput, zz] <;> rfl) (rfl) ?_
      refine OkOps.nil ?_
      refine Ok.seq ?_
      refine Ok.region ?_
      iterate 2 (refine OkOps.ev tab_ok rfl (by simp only [kev, ktab, klen, kcv] <;> rfl) (by simp only [kput] <;> rfl) ?_)
      refine OkOps.nil ?_
      refine Ok.ret ?_
      repeat (first | with_reducible refine thenQ_ret ?_ | with_reducible refine blockQ_ret ?_)
      refine retQ.end (by show resVs tab _ [.tmp 2] = _; simp only [kev, ktab, klen, kcv] <;> rfl) rfl ?_
      exact ⟨rfl, rfl, rfl⟩
theorem w_laws_eqPacket (a b : Packet) : Weak Try.prog 33 [.agg (cPacket a), .agg (cPacket b)] (.bool (decide (a = b))) := by
  refine Weak.enter tab_ok Try.func33 rfl (.inr (by simp [V.labelsL, V.labels, zz])) (t := [.agg (cPacket a), .agg (cPacket b), .any, .any, .any, .any, .any, .any, .any, .any, .any, .any, .any, .any, .any, .any, .any, .any, .any, .any, .any, .any, .any, .any, .any]) rfl ?_
  refine Ok.seq ?_
  refine Ok.region ?_
  iterate 3 (refine OkOps.ev tab_ok rfl (by simp only [kev, ktab, klen, kcv] <;> rfl) (by simp only [kput] <;> rfl) ?_)
  refine OkOps.nil ?_
  refine Ok.seq ?_
  refine Ok.seq ?_
  refine Ok.region ?_
  iterate 5 (refine OkOps.ev tab_ok rfl (by simp only [kev, ktab, klen, kcv] <;> rfl) (by simp only [kput] <;> rfl) ?_)
  refine OkOps.nil ?_
  refine Ok.cond (b := _) (by simp only [kev, ktab, klen, kcv] <;> rfl) (fun hb1 => ?_) (fun hb1 => ?_)
  · try simp only [bsimp] at hb1
    refine Ok.seq ?_
    refine Ok.region ?_
    refine OkOps.ev tab_ok rfl (by simp only [kev, ktab, klen, kcv] <;> rfl) (by simp only [kput] <;> rfl) ?_
    refine OkOps.nil ?_
    refine Ok.ret ?_
    repeat (first | with_reducible refine thenQ_ret ?_ | with_reducible refine blockQ_ret ?_)
    refine retQ.end (by show resVs tab _ [.tmp 4] = _; simp only [kev, ktab, klen, kcv] <;> rfl) rfl ?_
    first | (rw [decide_eq_true (by cases a; cases b; simp_all)]; rfl) | (rw [decide_eq_false (by intro h; subst h; simp_all)]; rfl)
  · try simp only [bsimp] at hb1
    refine Ok.skip ?_
    refine Ok.seq ?_
    refine Ok.seq ?_
    refine Ok.region ?_
    iterate 5 (refine OkOps.ev tab_ok rfl (by simp only [kev, ktab, klen, kcv] <;> rfl) (by simp only [kput] <;> rfl) ?_)
    refine OkOps.nil ?_
    refine Ok.cond (b := _) (by simp only [kev, ktab, klen, kcv] <;> rfl) (fun hb3 => ?_) (fun hb3 => ?_)
    · try simp only [bsimp] at hb3
      refine Ok.seq ?_
      refine Ok.region ?_
      refine OkOps.ev tab_ok rfl (by simp only [kev, ktab, klen, kcv] <;> rfl) (by simp only [kput] <;> rfl) ?_
      refine OkOps.nil ?_
      refine Ok.ret ?_
      repeat (first | with_reducible refine thenQ_ret ?_ | with_reducible refine blockQ_ret ?_)
      refine retQ.end (by show resVs tab _ [.tmp 4] = _; simp only [kev, ktab, klen, kcv] <;> rfl) rfl ?_
      first | (rw [decide_eq_true (by cases a; cases b; simp_all)]; rfl) | (rw [decide_eq_false (by intro h; subst h; simp_all)]; rfl)
    · try simp only [bsimp] at hb3
      refine Ok.skip ?_
      refine Ok.seq ?_
      refine Ok.seq ?_
      refine Ok.region ?_
      iterate 5 (refine OkOps.ev tab_ok rfl (by simp only [kev, ktab, klen, kcv] <;> rfl) (by simp only [kput] <;> rfl) ?_)
      refine OkOps.nil ?_
      refine Ok.cond (b := _) (by simp only [kev, ktab, klen, kcv] <;> rfl) (fun hb5 => ?_) (fun hb5 => ?_)
      · try simp only [bsimp] at hb5
        refine Ok.seq ?_
        refine Ok.region ?_
        refine OkOps.ev tab_ok rfl (by simp only [kev, ktab, klen, kcv] <;> rfl) (by simp only [kput] <;> rfl) ?_
        refine OkOps.nil ?_
        refine Ok.ret ?_
        repeat (first | with_reducible refine thenQ_ret ?_ | with_reducible refine blockQ_ret ?_)
        refine retQ.end (by show resVs tab _ [.tmp 4] = _; simp only [kev, ktab, klen, kcv] <;> rfl) rfl ?_
        first | (rw [decide_eq_true (by cases a; cases b; simp_all)]; rfl) | (rw [decide_eq_false (by intro h; subst h; simp_all)]; rfl)
      · try simp only [bsimp] at hb5
        refine Ok.skip ?_
        refine Ok.seq ?_
        refine Ok.seq ?_
        refine Ok.region ?_
        iterate 5 (refine OkOps.ev tab_ok rfl (by simp only [kev, ktab, klen, kcv] <;> rfl) (by simp only [kput] <;> rfl) ?_)
        refine OkOps.nil ?_
        refine Ok.cond (b := _) (by simp only [kev, ktab, klen, kcv] <;> rfl) (fun hb7 => ?_) (fun hb7 => ?_)
        · try simp only [bsimp] at hb7
          refine Ok.seq ?_
          refine Ok.region ?_
          refine OkOps.ev tab_ok rfl (by simp only [kev, ktab, klen, kcv] <;> rfl) (by simp only [kput] <;> rfl) ?_
          refine OkOps.nil ?_
          refine Ok.ret ?_
          repeat (first | with_reducible refine thenQ_ret ?_ | with_reducible refine blockQ_ret ?_)
          refine retQ.end (by show resVs tab _ [.tmp 4] = _; simp only [kev, ktab, klen, kcv] <;> rfl) rfl ?_
          first | (rw [decide_eq_true (by cases a; cases b; simp_all)]; rfl) | (rw [decide_eq_false (by intro h; subst h; simp_all)]; rfl)
        · try simp only [bsimp] at hb7
          refine Ok.skip ?_
          refine Ok.seq ?_
          refine Ok.region ?_
          refine OkOps.ev tab_ok rfl (by simp only [kev, ktab, klen, kcv] <;> rfl) (by simp only [kput] <;> rfl) ?_
          refine OkOps.nil ?_
          refine Ok.ret ?_
          repeat (first | with_reducible refine thenQ_ret ?_ | with_reducible refine blockQ_ret ?_)
          refine retQ.end (by show resVs tab _ [.tmp 4] = _; simp only [kev, ktab, klen, kcv] <;> rfl) rfl ?_
          first | (rw [decide_eq_true (by cases a; cases b; simp_all)]; rfl) | (rw [decide_eq_false (by intro h; subst h; simp_all)]; rfl)
theorem w_impl_ReadPacket (t : Str) (ht : t.length ≤ 4611686018427387904) : Weak Try.prog 55 [.str t] (vP (readS t)) := by
  rw [← read_same]
  refine Weak.enter tab_ok Try.func55 rfl (.inr (by simp [V.labelsL, V.labels, zz])) (t := [.str t, .any, .any, .any, .any, .any, .any, .any, .any, .any, .any, .any, .any, .any, .any, .any, .any, .any, .any, .any, .any, .any, .any, .any, .any, .any, .any, .any, .any, .any, .any, .any, .any, .any, .any, .any, .any, .any, .any, .any, .any, .any, .any, .any, .any, .any, .any, .any, .any, .any, .any, .any, .any]) rfl ?_
  refine Ok.seq ?_
  refine Ok.region ?_
  iterate 2 (refine OkOps.ev tab_ok rfl (by simp only [kev, ktab, klen, kcv] <;> rfl) (by simp only [kput] <;> rfl) ?_)
  refine OkOps.nil ?_
  refine Ok.seq ?_
  refine Ok.region ?_
  refine OkOps.ev tab_ok rfl (by simp only [kev, ktab, klen, kcv] <;> rfl) (by simp only [kput] <;> rfl) ?_
  refine OkOps.S rfl (OpS.weak' rfl (by simp only [kev, ktab, klen, kcv] <;> rfl) (by simp only [kev, ktab, klen, kcv] <;> rfl) cl88 (w_impl_Unsealed t ht)) (by simp only [kput] <;> rfl) ?_
  iterate 5 (refine OkOps.ev tab_ok rfl (by simp only [kev, ktab, klen, kcv] <;> rfl) (by simp only [kput] <;> rfl) ?_)
  refine OkOps.nil ?_
  refine Ok.seq ?_
  refine Ok.region ?_
  refine OkOps.ev tab_ok rfl (by simp only [kev, ktab, klen, kcv] <;> rfl) (by simp only [kput] <;> rfl) ?_
  refine OkOps.ev tab_ok rfl (by simp [ev1, fillV, kev, ktab, klen] <;> first | rfl | exact ⟨rfl, rfl⟩) (by simp only [kput] <;> rfl) ?_
  iterate 2 (refine OkOps.ev tab_ok rfl (by simp only [kev, ktab, klen, kcv] <;> rfl) (by simp only [kput] <;> rfl) ?_)
  refine OkOps.nil ?_
  refine Ok.seq ?_
  refine Ok.region ?_
  refine OkOps.ev tab_ok rfl (by simp only [kev, ktab, klen, kcv] <;> rfl) (by simp only [kput] <;> rfl) ?_
  refine OkOps.upd rfl rfl (by simp only [kev, ktab, klen, kcv] <;> rfl) (by simp only [kev, ktab, klen, kcv] <;> rfl) cl89 (fun h => c_impl_scan_num (⟨(unsealed t).getD [], 0, false⟩ : Scan) 1 (Nat.le_trans body_len (by decide))) (by simp only [eq_self, V.updL, V.travL, V.travLL, V.trav, updS, updP, and_self, true_and, and_true, false_and, and_false, Nat.reduceEqDiff, Nat.reduceSub, Nat.le_refl, Nat.zero_le, ↓reduceIte, if_true, if_false, kput, zz] <;> rfl) (rfl) ?_
  refine OkOps.ev tab_ok rfl (by simp [ev1, fillV, kev, ktab, klen] <;> first | rfl | exact ⟨rfl, rfl⟩) (by simp only [kput] <;> rfl) ?_
  refine OkOps.ev tab_ok rfl (by simp only [kev, ktab, klen, kcv] <;> rfl) (by simp only [kput] <;> rfl) ?_
  refine OkOps.storeE tab_ok rfl rfl (by simp only [kev, ktab, klen, kcv] <;> rfl) ⟨_, _, by simp only [kev]; rfl⟩ (by simp [V.labelsL, V.labels, zz]) (by simp only [eq_self, V.updL, V.travL, V.travLL, V.trav, updS, updP, and_self, true_and, and_true, false_and, and_false, Nat.reduceEqDiff, Nat.reduceSub, Nat.le_refl, Nat.zero_le, ↓reduceIte, if_true, if_false, kput, zz] <;> rfl) (rfl) ?_
  refine OkOps.nil ?_
  refine Ok.seq ?_
  refine Ok.region ?_
  refine OkOps.ev tab_ok rfl (by simp only [kev, ktab, klen, kcv] <;> rfl) (by simp only [kput] <;> rfl) ?_
  refine OkOps.upd rfl rfl (by simp only [kev, ktab, klen, kcv] <;> rfl) (by simp only [kev, ktab, klen, kcv] <;> rfl) cl89 (fun h => c_impl_scan_num (scan1 ((unsealed t).getD []) false).2 1 (by rw [scan1_text]; exact Nat.le_trans body_len (by decide))) (by simp only [eq_self, V.updL, V.travL, V.travLL, V.trav, updS, updP, and_self, true_and, and_true, false_and, and_false, Nat.reduceEqDiff, Nat.reduceSub, Nat.le_refl, Nat.zero_le, ↓reduceIte, if_true, if_false, kput, zz] <;> rfl) (rfl) ?_
  refine OkOps.ev tab_ok rfl (by simp only [kev, ktab, klen, kcv] <;> rfl) (by simp only [kput] <;> rfl) ?_
  refine OkOps.storeE tab_ok rfl rfl (by simp only [kev, ktab, klen, kcv] <;> rfl) ⟨_, _, by simp only [kev]; rfl⟩ (by simp [V.labelsL, V.labels, zz]) (by simp only [eq_self, V.updL, V.travL, V.travLL, V.trav, updS, updP, and_self, true_and, and_true, false_and, and_false, Nat.reduceEqDiff, Nat.reduceSub, Nat.le_refl, Nat.zero_le, ↓reduceIte, if_true, if_false, kput, zz] <;> rfl) (rfl) ?_
  refine OkOps.nil ?_
  refine Ok.seq ?_
  refine Ok.region ?_
  refine OkOps.ev tab_ok rfl (by simp only [kev, ktab, klen, kcv] <;> rfl) (by simp only [kput] <;> rfl) ?_
  refine OkOps.upd rfl rfl (by simp only [kev, ktab, klen, kcv] <;> rfl) (by simp only [kev, ktab, klen, kcv] <;> rfl) cl89 (fun h => c_impl_scan_num (scan2 ((unsealed t).getD []) false).2 1 (by rw [scan2_text]; exact Nat.le_trans body_len (by decide))) (by simp only [eq_self, V.updL, V.travL, V.travLL, V.trav, updS, updP, and_self, true_and, and_true, false_and, and_false, Nat.reduceEqDiff, Nat.reduceSub, Nat.le_refl, Nat.zero_le, ↓reduceIte, if_true, if_false, kput, zz] <;> rfl) (rfl) ?_
  refine OkOps.ev tab_ok rfl (by simp only [kev, ktab, klen, kcv] <;> rfl) (by simp only [kput] <;> rfl) ?_
  refine OkOps.storeE tab_ok rfl rfl (by simp only [kev, ktab, klen, kcv] <;> rfl) ⟨_, _, by simp only [kev]; rfl⟩ (by simp [V.labelsL, V.labels, zz]) (by simp only [eq_self, V.updL, V.travL, V.travLL, V.trav, updS, updP, and_self, true_and, and_true, false_and, and_false, Nat.reduceEqDiff, Nat.reduceSub, Nat.le_refl, Nat.zero_le, ↓reduceIte, if_true, if_false, kput, zz] <;> rfl) (rfl) ?_
  refine OkOps.nil ?_
  refine Ok.seq ?_
  refine Ok.region ?_
  refine OkOps.ev tab_ok rfl (by simp only [kev, ktab, klen, kcv] <;> rfl) (by simp only [kput] <;> rfl) ?_
  refine OkOps.upd rfl rfl (by simp only [kev, ktab, klen, kcv] <;> rfl) (by simp only [kev, ktab, klen, kcv] <;> rfl) cl90 (fun h => c_impl_scan_short (scan3 ((unsealed t).getD []) false).2 1 (by rw [scan3_text]; exact Nat.le_trans body_len (by decide))) (by simp only [eq_self, V.updL, V.travL, V.travLL, V.trav, updS, updP, and_self, true_and, and_true, false_and, and_false, Nat.reduceEqDiff, Nat.reduceSub, Nat.le_refl, Nat.zero_le, ↓reduceIte, if_true, if_false, kput, zz] <;> rfl) (rfl) ?_
  refine OkOps.ev tab_ok rfl (by simp only [kev, ktab, klen, kcv] <;> rfl) (by simp only [kput] <;> rfl) ?_
  refine OkOps.storeE tab_ok rfl rfl (by simp only [kev, ktab, klen, kcv] <;> rfl) ⟨_, _, by simp only [kev]; rfl⟩ (by simp [V.labelsL, V.labels, zz]) (by simp only [eq_self, V.updL, V.travL, V.travLL, V.trav, updS, updP, and_self, true_and, and_true, false_and, and_false, Nat.reduceEqDiff, Nat.reduceSub, Nat.le_refl, Nat.zero_le, ↓reduceIte, if_true, if_false, kput, zz] <;> rfl) (rfl) ?_
  refine OkOps.nil ?_
  refine Ok.seq ?_
  refine Ok.seqC [(50, .bool (!(readI t).isSome))] [28, 29, 30, 31, 32, 33, 34, 35, 36, 37, 38, 39, 40, 41, 42, 43, 44, 45, 46, 47, 48, 49] (by simp only [kover] <;> rfl) ?_ ?_
  · skip
    refine Ok.region ?_
    iterate 3 (refine OkOps.ev tab_ok rfl (by simp only [kev, ktab, klen, kcv] <;> rfl) (by simp only [kput] <;> rfl) ?_)
    refine OkOps.split (d := 30) (by simp only [kev, ktab, klen, kcv] <;> rfl) (by simp only [kput] <;> rfl) (by simp only [kput] <;> rfl) (fun hg7_2 => ?_) (fun hg7_2 => ?_)
    · try simp only [bsimp] at hg7_2
      refine OkOps.offU rfl rfl (.inl (by simp only [kev, ktab, klen, kcv, Bool.not_true, Bool.not_false])) (by simp only [kput] <;> rfl) ?_
      refine OkOps.offU rfl rfl (.inl (by simp only [kev, ktab, klen, kcv, Bool.not_true, Bool.not_false])) (by simp only [kput] <;> rfl) ?_
      refine OkOps.offU rfl rfl (.inl (by simp only [kev, ktab, klen, kcv, Bool.not_true, Bool.not_false])) (by simp only [kput] <;> rfl) ?_
      refine OkOps.offU rfl rfl (.inl (by simp only [kev, ktab, klen, kcv, Bool.not_true, Bool.not_false])) (by simp only [kput] <;> rfl) ?_
      iterate 2 (refine OkOps.ev tab_ok rfl (by simp only [kev, ktab, klen, kcv] <;> rfl) (by simp only [kput] <;> rfl) ?_)
      refine OkOps.offU rfl rfl (.inl (by simp only [kev, ktab, klen, kcv, Bool.not_true, Bool.not_false])) (by simp only [kput] <;> rfl) ?_
      refine OkOps.offU rfl rfl (.inl (by simp only [kev, ktab, klen, kcv, Bool.not_true, Bool.not_false])) (by simp only [kput] <;> rfl) ?_
      refine OkOps.offU rfl rfl (.inl (by simp only [kev, ktab, klen, kcv, Bool.not_true, Bool.not_false])) (by simp only [kput] <;> rfl) ?_
      refine OkOps.offU rfl rfl (.inl (by simp only [kev, ktab, klen, kcv, Bool.not_true, Bool.not_false])) (by simp only [kput] <;> rfl) ?_
      refine OkOps.offU rfl rfl (.inl (by simp only [kev, ktab, klen, kcv, Bool.not_true, Bool.not_false])) (by simp only [kput] <;> rfl) ?_
      refine OkOps.offU rfl rfl (.inl (by simp only [kev, ktab, klen, kcv, Bool.not_true, Bool.not_false])) (by simp only [kput] <;> rfl) ?_
      refine OkOps.offU rfl rfl (.inl (by simp only [kev, ktab, klen, kcv, Bool.not_true, Bool.not_false])) (by simp only [kput] <;> rfl) ?_
      iterate 2 (refine OkOps.ev tab_ok rfl (by simp only [kev, ktab, klen, kcv] <;> rfl) (by simp only [kput] <;> rfl) ?_)
      refine OkOps.offU rfl rfl (.inl (by simp only [kev, ktab, klen, kcv, Bool.not_true, Bool.not_false])) (by simp only [kput] <;> rfl) ?_
      refine OkOps.offU rfl rfl (.inl (by simp only [kev, ktab, klen, kcv, Bool.not_true, Bool.not_false])) (by simp only [kput] <;> rfl) ?_
      refine OkOps.offU rfl rfl (.inl (by simp only [kev, ktab, klen, kcv, Bool.not_true, Bool.not_false])) (by simp only [kput] <;> rfl) ?_
      refine OkOps.offU rfl rfl (.inl (by simp only [kev, ktab, klen, kcv, Bool.not_true, Bool.not_false])) (by simp only [kput] <;> rfl) ?_
      refine OkOps.ev tab_ok rfl (by simp only [kev, ktab, klen, kcv] <;> rfl) (by simp only [kput] <;> rfl) ?_
      refine OkOps.nil ?_
      refine ⟨rfl, ?_, rfl, rfl⟩
      refine ⟨?_, ?_, ?_, ?_, ?_, ?_, ?_, ?_, ?_, ?_, ?_, ?_, ?_, ?_, ?_, ?_, ?_, ?_, ?_, ?_, ?_, ?_, ?_, ?_, ?_, ?_, ?_, ?_, ?_, ?_, ?_, ?_, ?_, ?_, ?_, ?_, ?_, ?_, ?_, ?_, ?_, ?_, ?_, ?_, ?_, ?_, ?_, ?_, ?_, ?_, ?_, ?_, ?_, trivial⟩ <;> first | exact le_any _ | exact le_rfl' _ | (refine .inl (congrArg V.bool ?_); rw [readI_cond]; simp only [scan4, scan3, scan2, scan1] at *; first | (simp [*]; done) | (simp_all; done))
    · try simp only [bsimp] at hg7_2
      refine OkOps.on rfl rfl (by simp only [kev, ktab, klen, kcv]) ?_
      refine OkOps.ev tab_ok rfl (by simp only [kev, ktab, klen, kcv] <;> rfl) (by simp only [kput] <;> rfl) ?_
      refine OkOps.on rfl rfl (by simp only [kev, ktab, klen, kcv]) ?_
      refine OkOps.ev tab_ok rfl (by simp only [kev, ktab, klen, kcv] <;> rfl) (by simp only [kput] <;> rfl) ?_
      refine OkOps.on rfl rfl (by simp only [kev, ktab, klen, kcv]) ?_
      refine OkOps.ev tab_ok rfl (by simp only [kev, ktab, klen, kcv] <;> rfl) (by simp only [kput] <;> rfl) ?_
      refine OkOps.on rfl rfl (by simp only [kev, ktab, klen, kcv]) ?_
      iterate 3 (refine OkOps.ev tab_ok rfl (by simp only [kev, ktab, klen, kcv] <;> rfl) (by simp only [kput] <;> rfl) ?_)
      refine OkOps.split (d := 36) (by simp only [kev, ktab, klen, kcv] <;> rfl) (by simp only [kput] <;> rfl) (by simp only [kput] <;> rfl) (fun hg7_8 => ?_) (fun hg7_8 => ?_)
      · try simp only [bsimp] at hg7_8
        refine OkOps.offU rfl rfl (.inl (by simp only [kev, ktab, klen, kcv, Bool.not_true, Bool.not_false])) (by simp only [kput] <;> rfl) ?_
        refine OkOps.offU rfl rfl (.inl (by simp only [kev, ktab, klen, kcv, Bool.not_true, Bool.not_false])) (by simp only [kput] <;> rfl) ?_
        refine OkOps.offU rfl rfl (.inl (by simp only [kev, ktab, klen, kcv, Bool.not_true, Bool.not_false])) (by simp only [kput] <;> rfl) ?_
        refine OkOps.offU rfl rfl (.inl (by simp only [kev, ktab, klen, kcv, Bool.not_true, Bool.not_false])) (by simp only [kput] <;> rfl) ?_
        refine OkOps.offU rfl rfl (.inl (by simp only [kev, ktab, klen, kcv, Bool.not_true, Bool.not_false])) (by simp only [kput] <;> rfl) ?_
        refine OkOps.offU rfl rfl (.inl (by simp only [kev, ktab, klen, kcv, Bool.not_true, Bool.not_false])) (by simp only [kput] <;> rfl) ?_
        refine OkOps.offU rfl rfl (.inl (by simp only [kev, ktab, klen, kcv, Bool.not_true, Bool.not_false])) (by simp only [kput] <;> rfl) ?_
        iterate 2 (refine OkOps.ev tab_ok rfl (by simp only [kev, ktab, klen, kcv] <;> rfl) (by simp only [kput] <;> rfl) ?_)
        refine OkOps.offU rfl rfl (.inl (by simp only [kev, ktab, klen, kcv, Bool.not_true, Bool.not_false])) (by simp only [kput] <;> rfl) ?_
        refine OkOps.offU rfl rfl (.inl (by simp only [kev, ktab, klen, kcv, Bool.not_true, Bool.not_false])) (by simp only [kput] <;> rfl) ?_
        refine OkOps.offU rfl rfl (.inl (by simp only [kev, ktab, klen, kcv, Bool.not_true, Bool.not_false])) (by simp only [kput] <;> rfl) ?_
        refine OkOps.offU rfl rfl (.inl (by simp only [kev, ktab, klen, kcv, Bool.not_true, Bool.not_false])) (by simp only [kput] <;> rfl) ?_
        refine OkOps.ev tab_ok rfl (by simp only [kev, ktab, klen, kcv] <;> rfl) (by simp only [kput] <;> rfl) ?_
        refine OkOps.nil ?_
        refine ⟨rfl, ?_, rfl, rfl⟩
        refine ⟨?_, ?_, ?_, ?_, ?_, ?_, ?_, ?_, ?_, ?_, ?_, ?_, ?_, ?_, ?_, ?_, ?_, ?_, ?_, ?_, ?_, ?_, ?_, ?_, ?_, ?_, ?_, ?_, ?_, ?_, ?_, ?_, ?_, ?_, ?_, ?_, ?_, ?_, ?_, ?_, ?_, ?_, ?_, ?_, ?_, ?_, ?_, ?_, ?_, ?_, ?_, ?_, ?_, trivial⟩ <;> first | exact le_any _ | exact le_rfl' _ | (refine .inl (congrArg V.bool ?_); rw [readI_cond]; simp only [scan4, scan3, scan2, scan1] at *; first | (simp [*]; done) | (simp_all; done))
      · try simp only [bsimp] at hg7_8
        refine OkOps.on rfl rfl (by simp only [kev, ktab, klen, kcv]) ?_
        refine OkOps.ev tab_ok rfl (by simp only [kev, ktab, klen, kcv] <;> rfl) (by simp only [kput] <;> rfl) ?_
        refine OkOps.on rfl rfl (by simp only [kev, ktab, klen, kcv]) ?_
        refine OkOps.ev tab_ok rfl (by simp only [kev, ktab, klen, kcv] <;> rfl) (by simp only [kput] <;> rfl) ?_
        refine OkOps.on rfl rfl (by simp only [kev, ktab, klen, kcv]) ?_
        refine OkOps.ev tab_ok rfl (by simp only [kev, ktab, klen, kcv] <;> rfl) (by simp only [kput] <;> rfl) ?_
        refine OkOps.on rfl rfl (by simp only [kev, ktab, klen, kcv]) ?_
        refine OkOps.ev tab_ok rfl (by simp only [kev, ktab, klen, kcv] <;> rfl) (by simp only [kput] <;> rfl) ?_
        refine OkOps.on rfl rfl (by simp only [kev, ktab, klen, kcv]) ?_
        refine OkOps.ev tab_ok rfl (by simp only [kev, ktab, klen, kcv] <;> rfl) (by simp only [kput] <;> rfl) ?_
        refine OkOps.on rfl rfl (by simp only [kev, ktab, klen, kcv]) ?_
        refine OkOps.ev tab_ok rfl (by simp only [kev, ktab, klen, kcv] <;> rfl) (by simp only [kput] <;> rfl) ?_
        refine OkOps.on rfl rfl (by simp only [kev, ktab, klen, kcv]) ?_
        iterate 3 (refine OkOps.ev tab_ok rfl (by simp only [kev, ktab, klen, kcv] <;> rfl) (by simp only [kput] <;> rfl) ?_)
        refine OkOps.split (d := 45) (by simp only [kev, ktab, klen, kcv] <;> rfl) (by simp only [kput] <;> rfl) (by simp only [kput] <;> rfl) (fun hg7_17 => ?_) (fun hg7_17 => ?_)
        · try simp only [bsimp] at hg7_17
          refine OkOps.offU rfl rfl (.inl (by simp only [kev, ktab, klen, kcv, Bool.not_true, Bool.not_false])) (by simp only [kput] <;> rfl) ?_
          refine OkOps.offU rfl rfl (.inl (by simp only [kev, ktab, klen, kcv, Bool.not_true, Bool.not_false])) (by simp only [kput] <;> rfl) ?_
          refine OkOps.offU rfl rfl (.inl (by simp only [kev, ktab, klen, kcv, Bool.not_true, Bool.not_false])) (by simp only [kput] <;> rfl) ?_
          refine OkOps.offU rfl rfl (.inl (by simp only [kev, ktab, klen, kcv, Bool.not_true, Bool.not_false])) (by simp only [kput] <;> rfl) ?_
          refine OkOps.ev tab_ok rfl (by simp only [kev, ktab, klen, kcv] <;> rfl) (by simp only [kput] <;> rfl) ?_
          refine OkOps.nil ?_
          refine ⟨rfl, ?_, rfl, rfl⟩
          refine ⟨?_, ?_, ?_, ?_, ?_, ?_, ?_, ?_, ?_, ?_, ?_, ?_, ?_, ?_, ?_, ?_, ?_, ?_, ?_, ?_, ?_, ?_, ?_, ?_, ?_, ?_, ?_, ?_, ?_, ?_, ?_, ?_, ?_, ?_, ?_, ?_, ?_, ?_, ?_, ?_, ?_, ?_, ?_, ?_, ?_, ?_, ?_, ?_, ?_, ?_, ?_, ?_, ?_, trivial⟩ <;> first | exact le_any _ | exact le_rfl' _ | (refine .inl (congrArg V.bool ?_); rw [readI_cond]; simp only [scan4, scan3, scan2, scan1] at *; first | (simp [*]; done) | (simp_all; done))
        · try simp only [bsimp] at hg7_17
          refine OkOps.on rfl rfl (by simp only [kev, ktab, klen, kcv]) ?_
          refine OkOps.ev tab_ok rfl (by simp only [kev, ktab, klen, kcv] <;> rfl) (by simp only [kput] <;> rfl) ?_
          refine OkOps.on rfl rfl (by simp only [kev, ktab, klen, kcv]) ?_
          refine OkOps.ev tab_ok rfl (by simp only [kev, ktab, klen, kcv] <;> rfl) (by simp only [kput] <;> rfl) ?_
          refine OkOps.on rfl rfl (by simp only [kev, ktab, klen, kcv]) ?_
          refine OkOps.ev tab_ok rfl (by simp only [kev, ktab, klen, kcv] <;> rfl) (by simp only [kput] <;> rfl) ?_
          refine OkOps.on rfl rfl (by simp only [kev, ktab, klen, kcv]) ?_
          iterate 2 (refine OkOps.ev tab_ok rfl (by simp only [kev, ktab, klen, kcv] <;> rfl) (by simp only [kput] <;> rfl) ?_)
          refine OkOps.nil ?_
          refine ⟨rfl, ?_, rfl, rfl⟩
          refine ⟨?_, ?_, ?_, ?_, ?_, ?_, ?_, ?_, ?_, ?_, ?_, ?_, ?_, ?_, ?_, ?_, ?_, ?_, ?_, ?_, ?_, ?_, ?_, ?_, ?_, ?_, ?_, ?_, ?_, ?_, ?_, ?_, ?_, ?_, ?_, ?_, ?_, ?_, ?_, ?_, ?_, ?_, ?_, ?_, ?_, ?_, ?_, ?_, ?_, ?_, ?_, ?_, ?_, trivial⟩ <;> first | exact le_any _ | exact le_rfl' _ | (refine .inl (congrArg V.bool ?_); rw [readI_cond]; simp only [scan4, scan3, scan2, scan1] at *; first | (simp [*]; done) | (simp_all; done))
  · skip
    refine Ok.cond (b := _) (by simp only [kev, ktab, klen, kcv] <;> rfl) (fun hb7 => ?_) (fun hb7 => ?_)
    · try simp only [bsimp] at hb7
      have hn : readI t = none := by simpa using hb7
      rw [hn]
      refine Ok.seq ?_
      refine Ok.region ?_
      refine OkOps.ev tab_ok rfl (by simp [ev1, fillV, kev, ktab, klen] <;> first | rfl | exact ⟨rfl, rfl⟩) (by simp only [kput] <;> rfl) ?_
      refine OkOps.storeE tab_ok rfl rfl (by simp only [kev, ktab, klen, kcv] <;> rfl) ⟨_, _, by simp only [kev]; rfl⟩ (by simp [V.labelsL, V.labels, zz]) (by simp only [eq_self, V.updL, V.travL, V.travLL, V.trav, updS, updP, and_self, true_and, and_true, false_and, and_false, Nat.reduceEqDiff, Nat.reduceSub, Nat.le_refl, Nat.zero_le, ↓reduceIte, if_true, if_false, kput, zz] <;> rfl) (rfl) ?_
      refine OkOps.ev tab_ok rfl (by simp only [kev, ktab, klen, kcv] <;> rfl) (by simp only [kput] <;> rfl) ?_
      refine OkOps.nil ?_
      refine Ok.ret ?_
      repeat (first | with_reducible refine thenQ_ret ?_ | with_reducible refine blockQ_ret ?_)
      refine retQ.end (by show resVs tab _ [.cell 2 43, .tmp 3] = _; simp only [kev, ktab, klen, kcv] <;> rfl) rfl ?_
      rfl
    · try simp only [bsimp] at hb7
      rw [readI_some (by simpa using hb7)]
      refine Ok.skip ?_
      refine Ok.seq ?_
      refine Ok.region ?_
      refine OkOps.ev tab_ok rfl (by simp only [kev, ktab, klen, kcv] <;> rfl) (by simp only [kput] <;> rfl) ?_
      refine OkOps.storeE tab_ok rfl rfl (by simp only [kev, ktab, klen, kcv] <;> rfl) ⟨_, _, by simp only [kev]; rfl⟩ (by simp [V.labelsL, V.labels, zz]) (by simp only [eq_self, V.updL, V.travL, V.travLL, V.trav, updS, updP, and_self, true_and, and_true, false_and, and_false, Nat.reduceEqDiff, Nat.reduceSub, Nat.le_refl, Nat.zero_le, ↓reduceIte, if_true, if_false, kput, zz] <;> rfl) (rfl) ?_
      refine OkOps.ev tab_ok rfl (by simp only [kev, ktab, klen, kcv] <;> rfl) (by simp only [kput] <;> rfl) ?_
      refine OkOps.nil ?_
      refine Ok.ret ?_
      repeat (first | with_reducible refine thenQ_ret ?_ | with_reducible refine blockQ_ret ?_)
      refine retQ.end (by show resVs tab _ [.cell 2 43, .tmp 3] = _; simp only [kev, ktab, klen, kcv] <;> rfl) rfl ?_
      rfl
theorem w_spec_ReadPacket (t : Str) (ht : t.length ≤ 4611686018427387904) : Weak Try.prog 54 [.str t] (vP (readS t)) := by
  refine Weak.enter tab_ok Try.func54 rfl (.inr (by simp [V.labelsL, V.labels, zz])) (t := [.str t, .any, .any, .any, .any, .any, .any, .any, .any, .any, .any, .any, .any, .any, .any, .any, .any, .any, .any, .any, .any, .any, .any, .any, .any, .any, .any, .any, .any, .any, .any, .any, .any, .any, .any, .any, .any, .any, .any, .any, .any, .any, .any, .any, .any, .any, .any, .any, .any, .any, .any, .any]) rfl ?_
  refine Ok.seq ?_
  refine Ok.region ?_
  iterate 2 (refine OkOps.ev tab_ok rfl (by simp only [kev, ktab, klen, kcv] <;> rfl) (by simp only [kput] <;> rfl) ?_)
  refine OkOps.nil ?_
  refine Ok.seq ?_
  refine Ok.region ?_
  refine OkOps.ev tab_ok rfl (by simp only [kev, ktab, klen, kcv] <;> rfl) (by simp only [kput] <;> rfl) ?_
  refine OkOps.S rfl (OpS.weak' rfl (by simp only [kev, ktab, klen, kcv] <;> rfl) (by simp only [kev, ktab, klen, kcv] <;> rfl) cl85 (w_spec_Unsealed t ht)) (by simp only [kput] <;> rfl) ?_
  iterate 5 (refine OkOps.ev tab_ok rfl (by simp only [kev, ktab, klen, kcv] <;> rfl) (by simp only [kput] <;> rfl) ?_)
  refine OkOps.nil ?_
  refine Ok.seq ?_
  refine Ok.region ?_
  iterate 3 (refine OkOps.ev tab_ok rfl (by simp only [kev, ktab, klen, kcv] <;> rfl) (by simp only [kput] <;> rfl) ?_)
  refine OkOps.ev tab_ok rfl (by simp [ev1, fillV, kev, ktab, klen] <;> first | rfl | exact ⟨rfl, rfl⟩) (by simp only [kput] <;> rfl) ?_
  iterate 2 (refine OkOps.ev tab_ok rfl (by simp only [kev, ktab, klen, kcv] <;> rfl) (by simp only [kput] <;> rfl) ?_)
  refine OkOps.nil ?_
  refine Ok.seq ?_
  refine Ok.region ?_
  refine OkOps.ev tab_ok rfl (by simp only [kev, ktab, klen, kcv] <;> rfl) (by simp only [kput] <;> rfl) ?_
  refine OkOps.upd rfl rfl (by simp only [kev, ktab, klen, kcv] <;> rfl) (by simp only [kev, ktab, klen, kcv] <;> rfl) cl86 (fun h => c_spec_l05Var (⟨(unsealed t).getD [], 0, (unsealed t).isNone⟩ : Scan) 1 (Nat.le_trans body_len (by decide))) (by simp only [eq_self, V.updL, V.travL, V.travLL, V.trav, updS, updP, and_self, true_and, and_true, false_and, and_false, Nat.reduceEqDiff, Nat.reduceSub, Nat.le_refl, Nat.zero_le, ↓reduceIte, if_true, if_false, kput, zz] <;> rfl) (rfl) ?_
  refine OkOps.ev tab_ok rfl (by simp [ev1, fillV, kev, ktab, klen] <;> first | rfl | exact ⟨rfl, rfl⟩) (by simp only [kput] <;> rfl) ?_
  refine OkOps.ev tab_ok rfl (by simp only [kev, ktab, klen, kcv] <;> rfl) (by simp only [kput] <;> rfl) ?_
  refine OkOps.storeE tab_ok rfl rfl (by simp only [kev, ktab, klen, kcv] <;> rfl) ⟨_, _, by simp only [kev]; rfl⟩ (by simp [V.labelsL, V.labels, zz]) (by simp only [eq_self, V.updL, V.travL, V.travLL, V.trav, updS, updP, and_self, true_and, and_true, false_and, and_false, Nat.reduceEqDiff, Nat.reduceSub, Nat.le_refl, Nat.zero_le, ↓reduceIte, if_true, if_false, kput, zz] <;> rfl) (rfl) ?_
  refine OkOps.nil ?_
  refine Ok.seq ?_
  refine Ok.region ?_
  refine OkOps.ev tab_ok rfl (by simp only [kev, ktab, klen, kcv] <;> rfl) (by simp only [kput] <;> rfl) ?_
  refine OkOps.upd rfl rfl (by simp only [kev, ktab, klen, kcv] <;> rfl) (by simp only [kev, ktab, klen, kcv] <;> rfl) cl86 (fun h => c_spec_l05Var (scan1 ((unsealed t).getD []) (unsealed t).isNone).2 1 (by rw [scan1_text]; exact Nat.le_trans body_len (by decide))) (by simp only [eq_self, V.updL, V.travL, V.travLL, V.trav, updS, updP, and_self, true_and, and_true, false_and, and_false, Nat.reduceEqDiff, Nat.reduceSub, Nat.le_refl, Nat.zero_le, ↓reduceIte, if_true, if_false, kput, zz] <;> rfl) (rfl) ?_
  refine OkOps.ev tab_ok rfl (by simp only [kev, ktab, klen, kcv] <;> rfl) (by simp only [kput] <;> rfl) ?_
  refine OkOps.storeE tab_ok rfl rfl (by simp only [kev, ktab, klen, kcv] <;> rfl) ⟨_, _, by simp only [kev]; rfl⟩ (by simp [V.labelsL, V.labels, zz]) (by simp only [eq_self, V.updL, V.travL, V.travLL, V.trav, updS, updP, and_self, true_and, and_true, false_and, and_false, Nat.reduceEqDiff, Nat.reduceSub, Nat.le_refl, Nat.zero_le, ↓reduceIte, if_true, if_false, kput, zz] <;> rfl) (rfl) ?_
  refine OkOps.nil ?_
  refine Ok.seq ?_
  refine Ok.region ?_
  refine OkOps.ev tab_ok rfl (by simp only [kev, ktab, klen, kcv] <;> rfl) (by simp only [kput] <;> rfl) ?_
  refine OkOps.upd rfl rfl (by simp only [kev, ktab, klen, kcv] <;> rfl) (by simp only [kev, ktab, klen, kcv] <;> rfl) cl86 (fun h => c_spec_l05Var (scan2 ((unsealed t).getD []) (unsealed t).isNone).2 1 (by rw [scan2_text]; exact Nat.le_trans body_len (by decide))) (by simp only [eq_self, V.updL, V.travL, V.travLL, V.trav, updS, updP, and_self, true_and, and_true, false_and, and_false, Nat.reduceEqDiff, Nat.reduceSub, Nat.le_refl, Nat.zero_le, ↓reduceIte, if_true, if_false, kput, zz] <;> rfl) (rfl) ?_
  refine OkOps.ev tab_ok rfl (by simp only [kev, ktab, klen, kcv] <;> rfl) (by simp only [kput] <;> rfl) ?_
  refine OkOps.storeE tab_ok rfl rfl (by simp only [kev, ktab, klen, kcv] <;> rfl) ⟨_, _, by simp only [kev]; rfl⟩ (by simp [V.labelsL, V.labels, zz]) (by simp only [eq_self, V.updL, V.travL, V.travLL, V.trav, updS, updP, and_self, true_and, and_true, false_and, and_false, Nat.reduceEqDiff, Nat.reduceSub, Nat.le_refl, Nat.zero_le, ↓reduceIte, if_true, if_false, kput, zz] <;> rfl) (rfl) ?_
  refine OkOps.nil ?_
  refine Ok.seq ?_
  refine Ok.region ?_
  refine OkOps.ev tab_ok rfl (by simp only [kev, ktab, klen, kcv] <;> rfl) (by simp only [kput] <;> rfl) ?_
  refine OkOps.upd rfl rfl (by simp only [kev, ktab, klen, kcv] <;> rfl) (by simp only [kev, ktab, klen, kcv] <;> rfl) cl87 (fun h => c_spec_l05Short (scan3 ((unsealed t).getD []) (unsealed t).isNone).2 1 (by rw [scan3_text]; exact Nat.le_trans body_len (by decide))) (by simp only [eq_self, V.updL, V.travL, V.travLL, V.trav, updS, updP, and_self, true_and, and_true, false_and, and_false, Nat.reduceEqDiff, Nat.reduceSub, Nat.le_refl, Nat.zero_le, ↓reduceIte, if_true, if_false, kput, zz] <;> rfl) (rfl) ?_
  refine OkOps.ev tab_ok rfl (by simp only [kev, ktab, klen, kcv] <;> rfl) (by simp only [kput] <;> rfl) ?_
  refine OkOps.storeE tab_ok rfl rfl (by simp only [kev, ktab, klen, kcv] <;> rfl) ⟨_, _, by simp only [kev]; rfl⟩ (by simp [V.labelsL, V.labels, zz]) (by simp only [eq_self, V.updL, V.travL, V.travLL, V.trav, updS, updP, and_self, true_and, and_true, false_and, and_false, Nat.reduceEqDiff, Nat.reduceSub, Nat.le_refl, Nat.zero_le, ↓reduceIte, if_true, if_false, kput, zz] <;> rfl) (rfl) ?_
  refine OkOps.nil ?_
  refine Ok.seq ?_
  refine Ok.region ?_
  refine OkOps.ev tab_ok rfl (by simp only [kev, ktab, klen, kcv] <;> rfl) (by simp only [kput] <;> rfl) ?_
  refine OkOps.S rfl (OpS.weak' rfl (by simp only [kev, ktab, klen, kcv] <;> rfl) (by simp only [kev, ktab, klen, kcv] <;> rfl) cl46 (w_spec_PacketText (scanP ((unsealed t).getD []) (unsealed t).isNone))) (by simp only [kput] <;> rfl) ?_
  iterate 5 (refine OkOps.ev tab_ok rfl (by simp only [kev, ktab, klen, kcv] <;> rfl) (by simp only [kput] <;> rfl) ?_)
  refine OkOps.nil ?_
  refine Ok.seq ?_
  refine Ok.seqC [(49, .bool (!(readS t).isSome))] [37, 38, 39, 40, 41, 42, 43, 44, 45, 46, 47, 48] (by simp only [kover] <;> rfl) ?_ ?_
  · skip
    refine Ok.region ?_
    iterate 5 (refine OkOps.ev tab_ok rfl (by simp only [kev, ktab, klen, kcv] <;> rfl) (by simp only [kput] <;> rfl) ?_)
    refine OkOps.split (d := 41) (by simp only [kev, ktab, klen, kcv] <;> rfl) (by simp only [kput] <;> rfl) (by simp only [kput] <;> rfl) (fun hg8_4 => ?_) (fun hg8_4 => ?_)
    · try simp only [bsimp] at hg8_4
      refine OkOps.offU rfl rfl (.inl (by simp only [kev, ktab, klen, kcv, Bool.not_true, Bool.not_false])) (by simp only [kput] <;> rfl) ?_
      refine OkOps.offU rfl rfl (.inl (by simp only [kev, ktab, klen, kcv, Bool.not_true, Bool.not_false])) (by simp only [kput] <;> rfl) ?_
      iterate 2 (refine OkOps.ev tab_ok rfl (by simp only [kev, ktab, klen, kcv] <;> rfl) (by simp only [kput] <;> rfl) ?_)
      refine OkOps.offU rfl rfl (.inl (by simp only [kev, ktab, klen, kcv, Bool.not_true, Bool.not_false])) (by simp only [kput] <;> rfl) ?_
      refine OkOps.offU rfl rfl (.inl (by simp only [kev, ktab, klen, kcv, Bool.not_true, Bool.not_false])) (by simp only [kput] <;> rfl) ?_
      refine OkOps.offU rfl rfl (.inl (by simp only [kev, ktab, klen, kcv, Bool.not_true, Bool.not_false])) (by simp only [kput] <;> rfl) ?_
      refine OkOps.ev tab_ok rfl (by simp only [kev, ktab, klen, kcv] <;> rfl) (by simp only [kput] <;> rfl) ?_
      refine OkOps.nil ?_
      refine ⟨rfl, ?_, rfl, rfl⟩
      refine ⟨?_, ?_, ?_, ?_, ?_, ?_, ?_, ?_, ?_, ?_, ?_, ?_, ?_, ?_, ?_, ?_, ?_, ?_, ?_, ?_, ?_, ?_, ?_, ?_, ?_, ?_, ?_, ?_, ?_, ?_, ?_, ?_, ?_, ?_, ?_, ?_, ?_, ?_, ?_, ?_, ?_, ?_, ?_, ?_, ?_, ?_, ?_, ?_, ?_, ?_, ?_, ?_, trivial⟩ <;> first | exact le_any _ | exact le_rfl' _ | (refine .inl (congrArg V.bool ?_); rw [readS_cond]; simp only [scan4, scan3, scan2, scan1] at *; first | (simp [*]; done) | (simp_all; done))
    · try simp only [bsimp] at hg8_4
      refine OkOps.on rfl rfl (by simp only [kev, ktab, klen, kcv]) ?_
      refine OkOps.ev tab_ok rfl (by simp only [kev, ktab, klen, kcv] <;> rfl) (by simp only [kput] <;> rfl) ?_
      refine OkOps.on rfl rfl (by simp only [kev, ktab, klen, kcv]) ?_
      iterate 3 (refine OkOps.ev tab_ok rfl (by simp only [kev, ktab, klen, kcv] <;> rfl) (by simp only [kput] <;> rfl) ?_)
      refine OkOps.split (d := 45) (by simp only [kev, ktab, klen, kcv] <;> rfl) (by simp only [kput] <;> rfl) (by simp only [kput] <;> rfl) (fun hg8_8 => ?_) (fun hg8_8 => ?_)
      · try simp only [bsimp] at hg8_8
        refine OkOps.offU rfl rfl (.inl (by simp only [kev, ktab, klen, kcv, Bool.not_true, Bool.not_false])) (by simp only [kput] <;> rfl) ?_
        refine OkOps.offU rfl rfl (.inl (by simp only [kev, ktab, klen, kcv, Bool.not_true, Bool.not_false])) (by simp only [kput] <;> rfl) ?_
        refine OkOps.offU rfl rfl (.inl (by simp only [kev, ktab, klen, kcv, Bool.not_true, Bool.not_false])) (by simp only [kput] <;> rfl) ?_
        refine OkOps.ev tab_ok rfl (by simp only [kev, ktab, klen, kcv] <;> rfl) (by simp only [kput] <;> rfl) ?_
        refine OkOps.nil ?_
        refine ⟨rfl, ?_, rfl, rfl⟩
        refine ⟨?_, ?_, ?_, ?_, ?_, ?_, ?_, ?_, ?_, ?_, ?_, ?_, ?_, ?_, ?_, ?_, ?_, ?_, ?_, ?_, ?_, ?_, ?_, ?_, ?_, ?_, ?_, ?_, ?_, ?_, ?_, ?_, ?_, ?_, ?_, ?_, ?_, ?_, ?_, ?_, ?_, ?_, ?_, ?_, ?_, ?_, ?_, ?_, ?_, ?_, ?_, ?_, trivial⟩ <;> first | exact le_any _ | exact le_rfl' _ | (refine .inl (congrArg V.bool ?_); rw [readS_cond]; simp only [scan4, scan3, scan2, scan1] at *; first | (simp [*]; done) | (simp_all; done))
      · try simp only [bsimp] at hg8_8
        refine OkOps.on rfl rfl (by simp only [kev, ktab, klen, kcv]) ?_
        refine OkOps.ev tab_ok rfl (by simp only [kev, ktab, klen, kcv] <;> rfl) (by simp only [kput] <;> rfl) ?_
        refine OkOps.on rfl rfl (by simp only [kev, ktab, klen, kcv]) ?_
        refine OkOps.ev tab_ok rfl (by simp only [kev, ktab, klen, kcv] <;> rfl) (by simp only [kput] <;> rfl) ?_
        refine OkOps.on rfl rfl (by simp only [kev, ktab, klen, kcv]) ?_
        iterate 2 (refine OkOps.ev tab_ok rfl (by simp only [kev, ktab, klen, kcv] <;> rfl) (by simp only [kput] <;> rfl) ?_)
        refine OkOps.nil ?_
        refine ⟨rfl, ?_, rfl, rfl⟩
        refine ⟨?_, ?_, ?_, ?_, ?_, ?_, ?_, ?_, ?_, ?_, ?_, ?_, ?_, ?_, ?_, ?_, ?_, ?_, ?_, ?_, ?_, ?_, ?_, ?_, ?_, ?_, ?_, ?_, ?_, ?_, ?_, ?_, ?_, ?_, ?_, ?_, ?_, ?_, ?_, ?_, ?_, ?_, ?_, ?_, ?_, ?_, ?_, ?_, ?_, ?_, ?_, ?_, trivial⟩ <;> first | exact le_any _ | exact le_rfl' _ | (refine .inl (congrArg V.bool ?_); rw [readS_cond]; simp only [scan4, scan3, scan2, scan1] at *; first | (simp [*]; done) | (simp_all; done))
  · skip
    refine Ok.cond (b := _) (by simp only [kev, ktab, klen, kcv] <;> rfl) (fun hb8 => ?_) (fun hb8 => ?_)
    · try simp only [bsimp] at hb8
      have hn : readS t = none := by simpa using hb8
      rw [hn]
      refine Ok.seq ?_
      refine Ok.region ?_
      refine OkOps.ev tab_ok rfl (by simp [ev1, fillV, kev, ktab, klen] <;> first | rfl | exact ⟨rfl, rfl⟩) (by simp only [kput] <;> rfl) ?_
      refine OkOps.storeE tab_ok rfl rfl (by simp only [kev, ktab, klen, kcv] <;> rfl) ⟨_, _, by simp only [kev]; rfl⟩ (by simp [V.labelsL, V.labels, zz]) (by simp only [eq_self, V.updL, V.travL, V.travLL, V.trav, updS, updP, and_self, true_and, and_true, false_and, and_false, Nat.reduceEqDiff, Nat.reduceSub, Nat.le_refl, Nat.zero_le, ↓reduceIte, if_true, if_false, kput, zz] <;> rfl) (rfl) ?_
      refine OkOps.ev tab_ok rfl (by simp only [kev, ktab, klen, kcv] <;> rfl) (by simp only [kput] <;> rfl) ?_
      refine OkOps.nil ?_
      refine Ok.ret ?_
      repeat (first | with_reducible refine thenQ_ret ?_ | with_reducible refine blockQ_ret ?_)
      refine retQ.end (by show resVs tab _ [.cell 2 43, .tmp 3] = _; simp only [kev, ktab, klen, kcv] <;> rfl) rfl ?_
      rfl
    · try simp only [bsimp] at hb8
      rw [readS_some (by simpa using hb8)]
      refine Ok.skip ?_
      refine Ok.seq ?_
      refine Ok.region ?_
      refine OkOps.ev tab_ok rfl (by simp only [kev, ktab, klen, kcv] <;> rfl) (by simp only [kput] <;> rfl) ?_
      refine OkOps.storeE tab_ok rfl rfl (by simp only [kev, ktab, klen, kcv] <;> rfl) ⟨_, _, by simp only [kev]; rfl⟩ (by simp [V.labelsL, V.labels, zz]) (by simp only [eq_self, V.updL, V.travL, V.travLL, V.trav, updS, updP, and_self, true_and, and_true, false_and, and_false, Nat.reduceEqDiff, Nat.reduceSub, Nat.le_refl, Nat.zero_le, ↓reduceIte, if_true, if_false, kput, zz] <;> rfl) (rfl) ?_
      refine OkOps.ev tab_ok rfl (by simp only [kev, ktab, klen, kcv] <;> rfl) (by simp only [kput] <;> rfl) ?_
      refine OkOps.nil ?_
      refine Ok.ret ?_
      repeat (first | with_reducible refine thenQ_ret ?_ | with_reducible refine blockQ_ret ?_)
      refine retQ.end (by show resVs tab _ [.cell 2 43, .tmp 3] = _; simp only [kev, ktab, klen, kcv] <;> rfl) rfl ?_
      rfl
theorem w_laws_FnExactReadPacket (t : Str) (ht : t.length ≤ BB) : Weak Try.prog 12 [.str t] (.bool true) := by
  refine Weak.enter tab_ok Try.func12 rfl (.inr (by simp [V.labelsL, V.labels, zz])) (t := [.str t, .any, .any, .any, .any, .any, .any, .any, .any, .any, .any, .any, .any, .any, .any, .any, .any, .any, .any, .any, .any, .any, .any, .any, .any, .any, .any, .any, .any]) rfl ?_
  refine Ok.seq ?_
  refine Ok.region ?_
  refine OkOps.ev tab_ok rfl (by simp only [kev, ktab, klen, kcv] <;> rfl) (by simp only [kput] <;> rfl) ?_
  refine OkOps.nil ?_
  refine Ok.seq ?_
  refine Ok.seq ?_
  refine Ok.region ?_
  iterate 3 (refine OkOps.ev tab_ok rfl (by simp only [kev, ktab, klen, kcv] <;> rfl) (by simp only [kput] <;> rfl) ?_)
  refine OkOps.nil ?_
  refine Ok.cond (b := _) (by simp only [kev, ktab, klen, kcv] <;> rfl) (fun hb1 => ?_) (fun hb1 => ?_)
  · try simp only [bsimp] at hb1
    refine Ok.seq ?_
    refine Ok.region ?_
    refine OkOps.ev tab_ok rfl (by simp only [kev, ktab, klen, kcv] <;> rfl) (by simp only [kput] <;> rfl) ?_
    refine OkOps.nil ?_
    refine Ok.ret ?_
    repeat (first | with_reducible refine thenQ_ret ?_ | with_reducible refine blockQ_ret ?_)
    refine retQ.end (by show resVs tab _ [.tmp 2] = _; simp only [kev, ktab, klen, kcv] <;> rfl) rfl ?_
    rfl
  · try simp only [bsimp] at hb1
    refine Ok.skip ?_
    refine Ok.seq ?_
    refine Ok.region ?_
    refine OkOps.ev tab_ok rfl (by simp only [kev, ktab, klen, kcv] <;> rfl) (by simp only [kput] <;> rfl) ?_
    refine OkOps.S rfl (OpS.weak' rfl (by simp only [kev, ktab, klen, kcv] <;> rfl) (by simp only [kev, ktab, klen, kcv] <;> rfl) cl54 (w_spec_ReadPacket t (Nat.le_trans ht (by decide)))) (by simp only [kput] <;> rfl) ?_
    iterate 4 (refine OkOps.ev tab_ok rfl (by simp only [kev, ktab, klen, kcv] <;> rfl) (by simp only [kput] <;> rfl) ?_)
    refine OkOps.storeE tab_ok rfl rfl (by simp only [kev, ktab, klen, kcv] <;> rfl) ⟨_, _, by simp only [kev]; rfl⟩ (by simp [V.labelsL, V.labels, zz]) (by simp only [eq_self, V.updL, V.travL, V.travLL, V.trav, updS, updP, and_self, true_and, and_true, false_and, and_false, Nat.reduceEqDiff, Nat.reduceSub, Nat.le_refl, Nat.zero_le, ↓reduceIte, if_true, if_false, kput, zz] <;> rfl) (rfl) ?_
    refine OkOps.ev tab_ok rfl (by simp only [kev, ktab, klen, kcv] <;> rfl) (by simp only [kput] <;> rfl) ?_
    refine OkOps.nil ?_
    refine Ok.seq ?_
    refine Ok.region ?_
    refine OkOps.ev tab_ok rfl (by simp only [kev, ktab, klen, kcv] <;> rfl) (by simp only [kput] <;> rfl) ?_
    refine OkOps.S rfl (OpS.weak' rfl (by simp only [kev, ktab, klen, kcv] <;> rfl) (by simp only [kev, ktab, klen, kcv] <;> rfl) cl55 (w_impl_ReadPacket t (Nat.le_trans ht (by decide)))) (by simp only [kput] <;> rfl) ?_
    iterate 4 (refine OkOps.ev tab_ok rfl (by simp only [kev, ktab, klen, kcv] <;> rfl) (by simp only [kput] <;> rfl) ?_)
    refine OkOps.storeE tab_ok rfl rfl (by simp only [kev, ktab, klen, kcv] <;> rfl) ⟨_, _, by simp only [kev]; rfl⟩ (by simp [V.labelsL, V.labels, zz]) (by simp only [eq_self, V.updL, V.travL, V.travLL, V.trav, updS, updP, and_self, true_and, and_true, false_and, and_false, Nat.reduceEqDiff, Nat.reduceSub, Nat.le_refl, Nat.zero_le, ↓reduceIte, if_true, if_false, kput, zz] <;> rfl) (rfl) ?_
    refine OkOps.ev tab_ok rfl (by simp only [kev, ktab, klen, kcv] <;> rfl) (by simp only [kput] <;> rfl) ?_
    refine OkOps.nil ?_
    refine Ok.seq ?_
    refine Ok.seq ?_
    refine Ok.region ?_
    iterate 2 (refine OkOps.ev tab_ok rfl (by simp only [kev, ktab, klen, kcv] <;> rfl) (by simp only [kput] <;> rfl) ?_)
    refine OkOps.S rfl (OpS.weak' rfl (by simp only [kev, ktab, klen, kcv] <;> rfl) (by simp only [kev, ktab, klen, kcv] <;> rfl) cl33 (w_laws_eqPacket ((readS t).getD ⟨0, 0, 0, []⟩) ((readS t).getD ⟨0, 0, 0, []⟩))) (by simp only [kput] <;> rfl) ?_
    iterate 2 (refine OkOps.ev tab_ok rfl (by simp only [kev, ktab, klen, kcv] <;> rfl) (by simp only [kput] <;> rfl) ?_)
    refine OkOps.split (d := 24) (by simp only [kev, ktab, klen, kcv] <;> rfl) (by simp only [kput] <;> rfl) (by simp only [kput] <;> rfl) (fun hg5_4 => ?_) (fun hg5_4 => ?_)
    · try simp only [bsimp] at hg5_4
      exact absurd trivial hg5_4
    · try simp only [bsimp] at hg5_4
      refine OkOps.on rfl rfl (by simp only [kev, ktab, klen, kcv]) ?_
      refine OkOps.ev tab_ok rfl (by simp only [kev, ktab, klen, kcv] <;> rfl) (by simp only [kput] <;> rfl) ?_
      refine OkOps.on rfl rfl (by simp only [kev, ktab, klen, kcv]) ?_
      refine OkOps.ev tab_ok rfl (by simp only [kev, ktab, klen, kcv] <;> rfl) (by simp only [kput] <;> rfl) ?_
      refine OkOps.on rfl rfl (by simp only [kev, ktab, klen, kcv]) ?_
      iterate 2 (refine OkOps.ev tab_ok rfl (by simp only [kev, ktab, klen, kcv] <;> rfl) (by simp only [kput] <;> rfl) ?_)
      refine OkOps.nil ?_
      refine Ok.cond_false (by simp only [kev, ktab, klen, kcv] <;> simp) ?_
      refine Ok.skip ?_
      refine Ok.seq ?_
      refine Ok.region ?_
      refine OkOps.ev tab_ok rfl (by simp only [kev, ktab, klen, kcv] <;> rfl) (by simp only [kput] <;> rfl) ?_
      refine OkOps.nil ?_
      refine Ok.ret ?_
      repeat (first | with_reducible refine thenQ_ret ?_ | with_reducible refine blockQ_ret ?_)
      refine retQ.end (by show resVs tab _ [.tmp 2] = _; simp only [kev, ktab, klen, kcv] <;> rfl) rfl ?_
      rfl
end Go.Proofs.Ytglodjbknjfmjaa.K
