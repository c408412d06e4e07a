/- Walks: numbers as bytes, sums, packets' texts. Printed by w2.py. -/
import Derived.Test.YtglodjbknjfmjaaY5
namespace Go.Proofs.Ytglodjbknjfmjaa.K
open Go Go.RowKit
set_option linter.unusedVariables false
set_option linter.unusedSimpArgs false
set_option maxHeartbeats 4000000
set_option maxRecDepth 20000
theorem w_spec_l01Var (z : Int) (hz : 0 ≤ z ∧ z ≤ 34359738367) : Weak Try.prog 78 [.int .i64 z] (.str (varT z.toNat)) := by
  obtain ⟨n, rfl⟩ : ∃ n : Nat, z = n := ⟨z.toNat, by omega⟩
  rw [Int.toNat_natCast]
  have h : n ≤ 34359738367 := by omega
  refine Weak.enter tab_ok Try.func78 rfl (.inr (by simp [V.labelsL, V.labels, zz])) (t := [.int .i64 (n : Int), .any, .any, .any, .any, .any, .any, .any, .any, .any, .any, .any, .any, .any, .any, .any, .any, .any, .any, .any, .any, .any]) rfl ?_
  refine Ok.seq ?_
  refine Ok.region ?_
  refine OkOps.ev tab_ok rfl (by simp only [kev, ktab, klen, kcv] <;> rfl) (by simp only [kput] <;> rfl) ?_
  refine OkOps.nil ?_
  refine Ok.seq ?_
  refine Ok.region ?_
  iterate 2 (refine OkOps.ev tab_ok rfl (by simp only [kev, ktab, klen, kcv] <;> rfl) (by simp only [kput] <;> rfl) ?_)
  refine OkOps.nil ?_
  refine Ok.seq ?_
  refine Ok.block ?_
  refine Ok.bump (n' := 2) (by omega) ?_
  refine Ok.loopWZ (τ := Str × Nat) (fun x => [(0, .int .i64 (x.2 : Int)), (3, .sl 1 1 0 (x.1.map cB))]) [5, 6, 7, 8, 9, 10, 11, 12, 13, 14, 15] (fun x => by simp only [kover] <;> rfl) (fun x => x.1 ++ varT x.2 = varT n ∧ x.2 ≤ 34359738367 ∧ x.1.length ≤ 5) (fun x => x.2) ([], n) (by omega) (by refine ⟨?_, ?_, ?_, ?_, ?_, ?_, ?_, ?_, ?_, ?_, ?_, ?_, ?_, ?_, ?_, ?_, ?_, ?_, ?_, ?_, ?_, ?_, trivial⟩ <;> first | exact le_any _ | with_reducible exact le_rfl' _ | (exact le_nil 1 1) | exact le_rfl' _) (⟨rfl, h, Nat.zero_le _⟩) ?_
  rintro ⟨xs, m⟩ ⟨h1, h2, h3⟩
  have hx : xs.length + (varT m).length ≤ 5 := by have := congrArg List.length h1; have := varT_len5 h; simp only [List.length_append] at *; omega
  refine Ok.seq ?_
  refine Ok.seq ?_
  refine Ok.region ?_
  iterate 2 (refine OkOps.ev tab_ok rfl (by simp only [kev, ktab, klen, kcv] <;> rfl) (by simp only [kput] <;> rfl) ?_)
  refine OkOps.nil ?_
  refine Ok.cond (b := _) (by simp only [kev, ktab, klen, kcv] <;> rfl) (fun hb2 => ?_) (fun hb2 => ?_)
  · try simp only [bsimp] at hb2
    have hm : 127 < m := by omega
    refine Ok.skip ?_
    refine Ok.block ?_
    refine Ok.seq ?_
    refine Ok.region ?_
    iterate 4 (refine OkOps.ev tab_ok rfl (by simp only [kev, ktab, klen, kcv] <;> rfl) (by simp only [kput] <;> rfl) ?_)
    refine OkOps.ev tab_ok rfl (by simp only [kev, ktab, klen, kcv, byte_hi] <;> rfl) (by simp only [kput] <;> rfl) ?_
    refine OkOps.ev tab_ok rfl (ev_bs (by simp only [ktab] <;> rfl) (by simp only [ktab] <;> rfl) (by decide) (by decide) (by simp only [kev, ktab, klen, kcv, List.map_cons, List.map_nil] <;> rfl) (by simp only [kfe, beq_self_eq_true, Bool.and_true, Bool.true_and, decide_true, Nat.zero_add, Nat.lt_add_one, Nat.reduceLT, Nat.reduceAdd, Nat.zero_lt_succ, if_true, ↓reduceIte] <;> rfl)) (by simp only [kput] <;> rfl) ?_
    refine OkOps.append tab_ok rfl rfl (by simp only [ktab] <;> rfl) (by simp only [ktab] <;> rfl) (by decide) rfl (by simp only [kev, ktab, klen, kcv] <;> rfl) (.inl ⟨_, _, by simp only [kev, ktab, klen, kcv] <;> rfl⟩) (by omega) (by omega) (by simp; omega) (by simp; omega) (by simp [V.one]) (by simp only [V.killL, V.killLL, V.travL, V.travLL, V.trav, killS, killP, Nat.reduceEqDiff, ↓reduceIte, reduceCtorEq, if_true, if_false, List.append_nil, List.nil_append, List.cons_append, zz] <;> rfl) (by simp only [V.killL, V.killLL, V.travL, V.travLL, V.trav, killS, killP, Nat.reduceEqDiff, ↓reduceIte, reduceCtorEq, if_true, if_false, List.append_nil, List.nil_append, List.cons_append, zz, kput] <;> rfl) (rfl) ?_
    refine OkOps.ev tab_ok rfl (by simp only [kev, ktab, klen, kcv] <;> rfl) (by simp only [kput] <;> rfl) ?_
    refine OkOps.nil ?_
    refine Ok.region ?_
    refine OkOps.ev tab_ok rfl (by simp only [kev, ktab, klen, kcv] <;> rfl) (by simp only [kput] <;> rfl) ?_
    refine OkOps.ev tab_ok rfl (by simp only [kev, ktab, klen, kcv, quo128 (show m ≤ 9223372036854775807 by omega)] <;> rfl) (by simp only [kput] <;> rfl) ?_
    refine OkOps.ev tab_ok rfl (by simp only [kev, ktab, klen, kcv] <;> rfl) (by simp only [kput] <;> rfl) ?_
    refine OkOps.nil ?_
    refine ⟨(xs ++ [UInt8.ofNat (m % 128 + 128)], m / 128), ?_, rfl, ⟨by rw [← h1, varT_hi hm]; simp, by omega, by rw [varT_hi hm] at hx; simp only [List.length_append, List.length_cons, List.length_nil] at *; omega⟩, by show m / 128 < m; omega⟩
    simp only [V.renL, V.travL, V.travLL, V.trav, frz, zz, Nat.reduceLeDiff, ↓reduceIte]
    refine ⟨?_, ?_, ?_, ?_, ?_, ?_, ?_, ?_, ?_, ?_, ?_, ?_, ?_, ?_, ?_, ?_, ?_, ?_, ?_, ?_, ?_, ?_, trivial⟩ <;> first | exact le_any _ | with_reducible exact le_rfl' _ | (simp only [List.map_append, List.map_cons, List.map_nil]; exact le_rfl' _) | exact le_rfl' _
  · try simp only [bsimp] at hb2
    have hm : m ≤ 127 := by omega
    refine Ok.exit ?_
    refine Ok.seq ?_
    refine Ok.region ?_
    iterate 2 (refine OkOps.ev tab_ok rfl (by simp only [kev, ktab, klen, kcv] <;> rfl) (by simp only [kput] <;> rfl) ?_)
    refine OkOps.ev tab_ok rfl (by simp only [kev, ktab, klen, kcv, wrap_u8_nat] <;> rfl) (by simp only [kput] <;> rfl) ?_
    refine OkOps.ev tab_ok rfl (ev_bs (by simp only [ktab] <;> rfl) (by simp only [ktab] <;> rfl) (by decide) (by decide) (by simp only [kev, ktab, klen, kcv, List.map_cons, List.map_nil] <;> rfl) (by simp only [kfe, beq_self_eq_true, Bool.and_true, Bool.true_and, decide_true, Nat.zero_add, Nat.lt_add_one, Nat.reduceLT, Nat.reduceAdd, Nat.zero_lt_succ, if_true, ↓reduceIte] <;> rfl)) (by simp only [kput] <;> rfl) ?_
    refine OkOps.append tab_ok rfl rfl (by simp only [ktab] <;> rfl) (by simp only [ktab] <;> rfl) (by decide) rfl (by simp only [kev, ktab, klen, kcv] <;> rfl) (.inl ⟨_, _, by simp only [kev, ktab, klen, kcv] <;> rfl⟩) (by omega) (by omega) (by simp; omega) (by simp; omega) (by simp [V.one]) (by simp only [V.killL, V.killLL, V.travL, V.travLL, V.trav, killS, killP, Nat.reduceEqDiff, ↓reduceIte, reduceCtorEq, if_true, if_false, List.append_nil, List.nil_append, List.cons_append, zz] <;> rfl) (by simp only [V.killL, V.killLL, V.travL, V.travLL, V.trav, killS, killP, Nat.reduceEqDiff, ↓reduceIte, reduceCtorEq, if_true, if_false, List.append_nil, List.nil_append, List.cons_append, zz, kput] <;> rfl) (rfl) ?_
    refine OkOps.ev tab_ok rfl (ev_text' (by simp only [kev, ktab, klen, kcv] <;> rfl) rfl rfl rfl (by simp only [kby, Option.map_some, List.append_assoc, List.cons_append, List.nil_append] <;> rfl)) (by simp only [kput] <;> rfl) ?_
    refine OkOps.ev tab_ok rfl (by simp only [kev, ktab, klen, kcv] <;> rfl) (by simp only [kput] <;> rfl) ?_
    refine OkOps.nil ?_
    refine Ok.ret ?_
    repeat (first | with_reducible refine thenQ_ret ?_ | with_reducible refine blockQ_ret ?_)
    refine retQ.end (by show resVs tab _ [.tmp 2] = _; simp only [kev, ktab, klen, kcv] <;> rfl) rfl ?_
    rw [← h1, varT_lo hm]; rfl
theorem w_impl_VarText (z : Int) : Weak Try.prog 112 [.int .i64 z] (vO (varText z)) := by
  refine Weak.enter tab_ok Try.func112 rfl (.inr (by simp [V.labelsL, V.labels, zz])) (t := [.int .i64 z, .any, .any, .any, .any, .any, .any, .any, .any, .any, .any, .any, .any, .any, .any, .any, .any, .any, .any, .any, .any, .any, .any, .any, .any, .any]) rfl ?_
  refine Ok.seq ?_
  refine Ok.region ?_
  iterate 2 (refine OkOps.ev tab_ok rfl (by simp only [kev, ktab, klen, kcv] <;> rfl) (by simp only [kput] <;> rfl) ?_)
  refine OkOps.nil ?_
  refine Ok.seq ?_
  refine Ok.seq ?_
  refine Ok.region ?_
  refine OkOps.ev tab_ok rfl (by simp only [kev, ktab, klen, kcv] <;> rfl) (by simp only [kput] <;> rfl) ?_
  refine OkOps.S0 rfl (OpS.weak' rfl (by simp only [kev, ktab, klen, kcv] <;> rfl) (by simp only [kev, ktab, klen, kcv] <;> rfl) cl68 (w_impl_within _ _ _)) (by simp only [kput] <;> rfl) ?_
  refine OkOps.ev tab_ok rfl (by simp only [kev, ktab, klen, kcv] <;> rfl) (by simp only [kput] <;> rfl) ?_
  refine OkOps.nil ?_
  refine Ok.cond (b := _) (by simp only [kev, ktab, klen, kcv] <;> rfl) (fun hb1 => ?_) (fun hb1 => ?_)
  · try simp only [bsimp] at hb1
    rw [varText_f hb1]
    refine Ok.seq ?_
    refine Ok.region ?_
    iterate 2 (refine OkOps.ev tab_ok rfl (by simp only [kev, ktab, klen, kcv] <;> rfl) (by simp only [kput] <;> rfl) ?_)
    refine OkOps.nil ?_
    refine Ok.ret ?_
    repeat (first | with_reducible refine thenQ_ret ?_ | with_reducible refine blockQ_ret ?_)
    refine retQ.end (by show resVs tab _ [.tmp 2, .tmp 3] = _; simp only [kev, ktab, klen, kcv] <;> rfl) rfl ?_
    rfl
  · try simp only [bsimp] at hb1
    rw [varText_t hb1]
    obtain ⟨n, rfl⟩ : ∃ n : Nat, z = n := ⟨z.toNat, by have := inR_t.1 hb1; omega⟩
    have h : n ≤ 34359738367 := by have := inR_t.1 hb1; omega
    rw [Int.toNat_natCast]
    refine Ok.skip ?_
    refine Ok.seq ?_
    refine Ok.region ?_
    iterate 2 (refine OkOps.ev tab_ok rfl (by simp only [kev, ktab, klen, kcv] <;> rfl) (by simp only [kput] <;> rfl) ?_)
    refine OkOps.nil ?_
    refine Ok.seq ?_
    refine Ok.block ?_
    refine Ok.bump (n' := 2) (by omega) ?_
    refine Ok.loopWZ (τ := Str × Nat) (fun x => [(0, .int .i64 (x.2 : Int)), (4, .sl 1 1 0 (x.1.map cB))]) [9, 10, 11, 12, 13, 14, 15, 16, 17, 18, 19] (fun x => by simp only [kover] <;> rfl) (fun x => x.1 ++ varT x.2 = varT n ∧ x.2 ≤ 34359738367 ∧ x.1.length ≤ 5) (fun x => x.2) ([], n) (by omega) (by refine ⟨?_, ?_, ?_, ?_, ?_, ?_, ?_, ?_, ?_, ?_, ?_, ?_, ?_, ?_, ?_, ?_, ?_, ?_, ?_, ?_, ?_, ?_, ?_, ?_, ?_, ?_, trivial⟩ <;> first | exact le_any _ | with_reducible exact le_rfl' _ | (exact le_nil 1 1) | exact le_rfl' _) (⟨rfl, h, Nat.zero_le _⟩) ?_
    rintro ⟨xs, m⟩ ⟨h1, h2, h3⟩
    have hx : xs.length + (varT m).length ≤ 5 := by have := congrArg List.length h1; have := varT_len5 h; simp only [List.length_append] at *; omega
    refine Ok.seq ?_
    refine Ok.seq ?_
    refine Ok.region ?_
    iterate 2 (refine OkOps.ev tab_ok rfl (by simp only [kev, ktab, klen, kcv] <;> rfl) (by simp only [kput] <;> rfl) ?_)
    refine OkOps.nil ?_
    refine Ok.cond (b := _) (by simp only [kev, ktab, klen, kcv] <;> rfl) (fun hb4 => ?_) (fun hb4 => ?_)
    · try simp only [bsimp] at hb4
      have hm : 127 < m := by omega
      refine Ok.skip ?_
      refine Ok.block ?_
      refine Ok.seq ?_
      refine Ok.region ?_
      iterate 2 (refine OkOps.ev tab_ok rfl (by simp only [kev, ktab, klen, kcv] <;> rfl) (by simp only [kput] <;> rfl) ?_)
      refine OkOps.ev tab_ok rfl (by simp only [kev, ktab, klen, kcv, bits_and127 (show m < 9223372036854775808 by omega)] <;> rfl) (by simp only [kput] <;> rfl) ?_
      refine OkOps.ev tab_ok rfl (by simp only [kev, ktab, klen, kcv, bits_or128 (show m % 128 < 128 by omega)] <;> rfl) (by simp only [kput] <;> rfl) ?_
      refine OkOps.ev tab_ok rfl (by simp only [kev, ktab, klen, kcv, wrap_u8_nat] <;> rfl) (by simp only [kput] <;> rfl) ?_
      refine OkOps.ev tab_ok rfl (ev_bs (by simp only [ktab] <;> rfl) (by simp only [ktab] <;> rfl) (by decide) (by decide) (by simp only [kev, ktab, klen, kcv, List.map_cons, List.map_nil] <;> rfl) (by simp only [kfe, beq_self_eq_true, Bool.and_true, Bool.true_and, decide_true, Nat.zero_add, Nat.lt_add_one, Nat.reduceLT, Nat.reduceAdd, Nat.zero_lt_succ, if_true, ↓reduceIte] <;> rfl)) (by simp only [kput] <;> rfl) ?_
      refine OkOps.append tab_ok rfl rfl (by simp only [ktab] <;> rfl) (by simp only [ktab] <;> rfl) (by decide) rfl (by simp only [kev, ktab, klen, kcv] <;> rfl) (.inl ⟨_, _, by simp only [kev, ktab, klen, kcv] <;> rfl⟩) (by omega) (by omega) (by simp; omega) (by simp; omega) (by simp [V.one]) (by simp only [V.killL, V.killLL, V.travL, V.travLL, V.trav, killS, killP, Nat.reduceEqDiff, ↓reduceIte, reduceCtorEq, if_true, if_false, List.append_nil, List.nil_append, List.cons_append, zz] <;> rfl) (by simp only [V.killL, V.killLL, V.travL, V.travLL, V.trav, killS, killP, Nat.reduceEqDiff, ↓reduceIte, reduceCtorEq, if_true, if_false, List.append_nil, List.nil_append, List.cons_append, zz, kput] <;> rfl) (rfl) ?_
      refine OkOps.ev tab_ok rfl (by simp only [kev, ktab, klen, kcv] <;> rfl) (by simp only [kput] <;> rfl) ?_
      refine OkOps.nil ?_
      refine Ok.region ?_
      refine OkOps.ev tab_ok rfl (by simp only [kev, ktab, klen, kcv] <;> rfl) (by simp only [kput] <;> rfl) ?_
      refine OkOps.ev tab_ok rfl (by simp only [kev, ktab, klen, kcv, shr7] <;> rfl) (by simp only [kput] <;> rfl) ?_
      refine OkOps.ev tab_ok rfl (by simp only [kev, ktab, klen, kcv] <;> rfl) (by simp only [kput] <;> rfl) ?_
      refine OkOps.nil ?_
      refine ⟨(xs ++ [UInt8.ofNat (m % 128 + 128)], m / 128), ?_, rfl, ⟨by rw [← h1, varT_hi hm]; simp, by omega, by rw [varT_hi hm] at hx; simp only [List.length_append, List.length_cons, List.length_nil] at *; omega⟩, by show m / 128 < m; omega⟩
      simp only [V.renL, V.travL, V.travLL, V.trav, frz, zz, Nat.reduceLeDiff, ↓reduceIte]
      refine ⟨?_, ?_, ?_, ?_, ?_, ?_, ?_, ?_, ?_, ?_, ?_, ?_, ?_, ?_, ?_, ?_, ?_, ?_, ?_, ?_, ?_, ?_, ?_, ?_, ?_, ?_, trivial⟩ <;> first | exact le_any _ | with_reducible exact le_rfl' _ | (simp only [List.map_append, List.map_cons, List.map_nil]; exact le_rfl' _) | exact le_rfl' _
    · try simp only [bsimp] at hb4
      have hm : m ≤ 127 := by omega
      refine Ok.exit ?_
      refine Ok.seq ?_
      refine Ok.region ?_
      iterate 2 (refine OkOps.ev tab_ok rfl (by simp only [kev, ktab, klen, kcv] <;> rfl) (by simp only [kput] <;> rfl) ?_)
      refine OkOps.ev tab_ok rfl (by simp only [kev, ktab, klen, kcv, wrap_u8_nat] <;> rfl) (by simp only [kput] <;> rfl) ?_
      refine OkOps.ev tab_ok rfl (ev_bs (by simp only [ktab] <;> rfl) (by simp only [ktab] <;> rfl) (by decide) (by decide) (by simp only [kev, ktab, klen, kcv, List.map_cons, List.map_nil] <;> rfl) (by simp only [kfe, beq_self_eq_true, Bool.and_true, Bool.true_and, decide_true, Nat.zero_add, Nat.lt_add_one, Nat.reduceLT, Nat.reduceAdd, Nat.zero_lt_succ, if_true, ↓reduceIte] <;> rfl)) (by simp only [kput] <;> rfl) ?_
      refine OkOps.append tab_ok rfl rfl (by simp only [ktab] <;> rfl) (by simp only [ktab] <;> rfl) (by decide) rfl (by simp only [kev, ktab, klen, kcv] <;> rfl) (.inl ⟨_, _, by simp only [kev, ktab, klen, kcv] <;> rfl⟩) (by omega) (by omega) (by simp; omega) (by simp; omega) (by simp [V.one]) (by simp only [V.killL, V.killLL, V.travL, V.travLL, V.trav, killS, killP, Nat.reduceEqDiff, ↓reduceIte, reduceCtorEq, if_true, if_false, List.append_nil, List.nil_append, List.cons_append, zz] <;> rfl) (by simp only [V.killL, V.killLL, V.travL, V.travLL, V.trav, killS, killP, Nat.reduceEqDiff, ↓reduceIte, reduceCtorEq, if_true, if_false, List.append_nil, List.nil_append, List.cons_append, zz, kput] <;> rfl) (rfl) ?_
      refine OkOps.ev tab_ok rfl (ev_text' (by simp only [kev, ktab, klen, kcv] <;> rfl) rfl rfl rfl (by simp only [kby, Option.map_some, List.append_assoc, List.cons_append, List.nil_append] <;> rfl)) (by simp only [kput] <;> rfl) ?_
      iterate 2 (refine OkOps.ev tab_ok rfl (by simp only [kev, ktab, klen, kcv] <;> rfl) (by simp only [kput] <;> rfl) ?_)
      refine OkOps.nil ?_
      refine Ok.ret ?_
      repeat (first | with_reducible refine thenQ_ret ?_ | with_reducible refine blockQ_ret ?_)
      refine retQ.end (by show resVs tab _ [.tmp 2, .tmp 3] = _; simp only [kev, ktab, klen, kcv] <;> rfl) rfl ?_
      rw [← h1, varT_lo hm]; rfl
theorem w_impl_ShortText (s : Str) : Weak Try.prog 113 [.str s] (vO (shortText s)) := by
  refine Weak.enter tab_ok Try.func113 rfl (.inr (by simp [V.labelsL, V.labels, zz])) (t := [.str s, .any, .any, .any, .any, .any, .any, .any, .any, .any, .any, .any, .any, .any, .any, .any, .any, .any]) rfl ?_
  refine Ok.seq ?_
  refine Ok.region ?_
  iterate 2 (refine OkOps.ev tab_ok rfl (by simp only [kev, ktab, klen, kcv] <;> rfl) (by simp only [kput] <;> rfl) ?_)
  refine OkOps.nil ?_
  refine Ok.seq ?_
  refine Ok.seq ?_
  refine Ok.region ?_
  iterate 3 (refine OkOps.ev tab_ok rfl (by simp only [kev, ktab, klen, kcv] <;> rfl) (by simp only [kput] <;> rfl) ?_)
  refine OkOps.nil ?_
  refine Ok.cond (b := _) (by simp only [kev, ktab, klen, kcv] <;> rfl) (fun hb1 => ?_) (fun hb1 => ?_)
  · try simp only [bsimp] at hb1
    rw [shortText, if_pos (by omega)]
    refine Ok.seq ?_
    refine Ok.region ?_
    iterate 2 (refine OkOps.ev tab_ok rfl (by simp only [kev, ktab, klen, kcv] <;> rfl) (by simp only [kput] <;> rfl) ?_)
    refine OkOps.nil ?_
    refine Ok.ret ?_
    repeat (first | with_reducible refine thenQ_ret ?_ | with_reducible refine blockQ_ret ?_)
    refine retQ.end (by show resVs tab _ [.tmp 2, .tmp 3] = _; simp only [kev, ktab, klen, kcv] <;> rfl) rfl ?_
    rfl
  · try simp only [bsimp] at hb1
    rw [shortText, if_neg (by omega)]
    have hv := varText_t (z := (s.length : Int)) (inR_t.2 (by omega))
    have hl := varT_len5 (n := s.length) (by omega)
    refine Ok.skip ?_
    refine Ok.seq ?_
    refine Ok.region ?_
    iterate 2 (refine OkOps.ev tab_ok rfl (by simp only [kev, ktab, klen, kcv] <;> rfl) (by simp only [kput] <;> rfl) ?_)
    refine OkOps.S0 rfl (OpS.weak' rfl (by simp only [kev, ktab, klen, kcv] <;> rfl) (by simp only [kev, ktab, klen, kcv] <;> rfl) cl112 (w_impl_VarText _)) (by simp only [kput] <;> rfl) ?_
    refine OkOps.ev tab_ok rfl (by simp only [kev, ktab, klen, kcv] <;> rfl) (by simp only [kput] <;> rfl) ?_
    refine OkOps.ev tab_ok rfl (by simp only [kev, ktab, klen, kcv, hv, Option.getD_some, Int.toNat_natCast] <;> rfl) (by simp only [kput] <;> rfl) ?_
    refine OkOps.ev tab_ok rfl (by simp only [kev, ktab, klen, kcv, hv, Option.isSome_some] <;> rfl) (by simp only [kput] <;> rfl) ?_
    iterate 2 (refine OkOps.ev tab_ok rfl (by simp only [kev, ktab, klen, kcv] <;> rfl) (by simp only [kput] <;> rfl) ?_)
    refine OkOps.nil ?_
    refine Ok.seq ?_
    refine Ok.region ?_
    iterate 2 (refine OkOps.ev tab_ok rfl (by simp only [kev, ktab, klen, kcv] <;> rfl) (by simp only [kput] <;> rfl) ?_)
    refine OkOps.ev tab_ok rfl (ev_cat (by simp only [kev, ktab, klen, kcv] <;> rfl) (by simp only [kev, ktab, klen, kcv] <;> rfl) (by first | omega | (simp only [List.length_append, List.length_cons, List.length_nil] at *; omega))) (by simp only [kput] <;> rfl) ?_
    iterate 2 (refine OkOps.ev tab_ok rfl (by simp only [kev, ktab, klen, kcv] <;> rfl) (by simp only [kput] <;> rfl) ?_)
    refine OkOps.nil ?_
    refine Ok.ret ?_
    repeat (first | with_reducible refine thenQ_ret ?_ | with_reducible refine blockQ_ret ?_)
    refine retQ.end (by show resVs tab _ [.tmp 2, .tmp 3] = _; simp only [kev, ktab, klen, kcv] <;> rfl) rfl ?_
    rfl
theorem w_impl_short (s : Str) (h : s.length ≤ 20000) : Weak Try.prog 81 [.str s] (.str (varT s.length ++ s)) := by
  have hv : shortText s = some (varT s.length ++ s) := if_neg (by omega)
  refine Weak.enter tab_ok Try.func81 rfl (.inr (by simp [V.labelsL, V.labels, zz])) (t := [.str s, .any, .any, .any, .any, .any, .any, .any, .any, .any, .any]) rfl ?_
  refine Ok.seq ?_
  refine Ok.region ?_
  refine OkOps.ev tab_ok rfl (by simp only [kev, ktab, klen, kcv] <;> rfl) (by simp only [kput] <;> rfl) ?_
  refine OkOps.nil ?_
  refine Ok.seq ?_
  refine Ok.region ?_
  refine OkOps.ev tab_ok rfl (by simp only [kev, ktab, klen, kcv] <;> rfl) (by simp only [kput] <;> rfl) ?_
  refine OkOps.S0 rfl (OpS.weak' rfl (by simp only [kev, ktab, klen, kcv] <;> rfl) (by simp only [kev, ktab, klen, kcv] <;> rfl) cl113 (w_impl_ShortText _)) (by simp only [kput] <;> rfl) ?_
  refine OkOps.ev tab_ok rfl (by simp only [kev, ktab, klen, kcv] <;> rfl) (by simp only [kput] <;> rfl) ?_
  refine OkOps.ev tab_ok rfl (by simp only [kev, ktab, klen, kcv, hv, Option.getD_some] <;> rfl) (by simp only [kput] <;> rfl) ?_
  refine OkOps.ev tab_ok rfl (by simp only [kev, ktab, klen, kcv, hv, Option.isSome_some] <;> rfl) (by simp only [kput] <;> rfl) ?_
  iterate 2 (refine OkOps.ev tab_ok rfl (by simp only [kev, ktab, klen, kcv] <;> rfl) (by simp only [kput] <;> rfl) ?_)
  refine OkOps.nil ?_
  refine Ok.seq ?_
  refine Ok.region ?_
  iterate 2 (refine OkOps.ev tab_ok rfl (by simp only [kev, ktab, klen, kcv] <;> rfl) (by simp only [kput] <;> rfl) ?_)
  refine OkOps.nil ?_
  refine Ok.ret ?_
  repeat (first | with_reducible refine thenQ_ret ?_ | with_reducible refine blockQ_ret ?_)
  refine retQ.end (by show resVs tab _ [.tmp 2] = _; simp only [kev, ktab, klen, kcv] <;> rfl) rfl ?_
  rfl
theorem w_impl_vars (zs : List Int) (h : ∀ z ∈ zs, inR z 0 1000000000 = true) (hl : zs.length ≤ 1000000000) : Weak Try.prog 80 [.sl 0 1 0 (zs.map cZ)] (.str (varsZ zs)) := by
  refine Weak.enter tab_ok Try.func80 rfl (.inr (by simp [V.labelsL, V.labels, zz])) (t := [.sl 0 1 0 (zs.map cZ), .any, .any, .any, .any, .any, .any, .any, .any, .any, .any, .any, .any, .any, .any, .any, .any, .any, .any, .any, .any, .any, .any, .any]) rfl ?_
  refine Ok.seq ?_
  refine Ok.region ?_
  refine OkOps.ev tab_ok rfl (by simp only [kev, ktab, klen, kcv] <;> rfl) (by simp only [kput] <;> rfl) ?_
  refine OkOps.nil ?_
  refine Ok.seq ?_
  refine Ok.region ?_
  refine OkOps.ev tab_ok rfl (by simp only [kev, ktab, klen, kcv] <;> rfl) (by simp only [kput] <;> rfl) ?_
  refine OkOps.nil ?_
  refine Ok.seq ?_
  refine Ok.seq ?_
  refine Ok.region ?_
  iterate 3 (refine OkOps.ev tab_ok rfl (by simp only [kev, ktab, klen, kcv] <;> rfl) (by simp only [kput] <;> rfl) ?_)
  refine OkOps.nil ?_
  refine Ok.block ?_
  refine Ok.loopW (τ := Nat) (fun x => [(3, .str (varsZ (zs.take x))), (10, .int .i64 (x : Int))]) [5, 6, 7, 11, 12, 13, 14, 15, 16, 17, 18, 19, 20, 21, 22] (fun x => by simp only [kover] <;> rfl) (fun x => x ≤ zs.length) (fun x => zs.length - x) 0 (by refine ⟨?_, ?_, ?_, ?_, ?_, ?_, ?_, ?_, ?_, ?_, ?_, ?_, ?_, ?_, ?_, ?_, ?_, ?_, ?_, ?_, ?_, ?_, ?_, ?_, trivial⟩ <;> first | exact le_any _ | with_reducible exact le_rfl' _ | (first | exact le_rfl' _ | (rw [List.take_zero]; exact le_rfl' _)) | exact le_rfl' _) (Nat.zero_le _) ?_
  rintro i h1
  have hv := varsZ_len (a := zs.take i) fun z hz => h z (List.mem_of_mem_take hz)
  rw [List.length_take] at hv
  refine Ok.seq ?_
  refine Ok.region ?_
  refine OkOps.ev tab_ok rfl (by simp only [kev, ktab, klen, kcv] <;> rfl) (by simp only [kput] <;> rfl) ?_
  refine OkOps.nil ?_
  refine Ok.seq ?_
  refine Ok.cond (b := _) (by simp only [kev, ktab, klen, kcv] <;> rfl) (fun hb3 => ?_) (fun hb3 => ?_)
  · try simp only [bsimp] at hb3
    have hi : i < zs.length := by omega
    have hz := h _ (List.getElem_mem hi)
    have hz2 := inR_t.1 hz
    have hz3 := varText_t hz
    have hz4 := varT_len5 (n := zs[i].toNat) (by omega)
    refine Ok.skip ?_
    refine Ok.seq ?_
    refine Ok.block ?_
    refine Ok.seq ?_
    refine Ok.region ?_
    refine OkOps.ev tab_ok rfl (ev_idx_map (by simp only [kev, ktab, klen, kcv] <;> rfl) (by simp only [kev, ktab, klen, kcv] <;> rfl) (by omega) (by simp only [kev, ktab, klen, kcv] <;> rfl)) (by simp only [kput] <;> rfl) ?_
    iterate 2 (refine OkOps.ev tab_ok rfl (by simp only [kev, ktab, klen, kcv] <;> rfl) (by simp only [kput] <;> rfl) ?_)
    refine OkOps.nil ?_
    refine Ok.seq ?_
    refine Ok.region ?_
    refine OkOps.ev tab_ok rfl (by simp only [kev, ktab, klen, kcv] <;> rfl) (by simp only [kput] <;> rfl) ?_
    refine OkOps.S0 rfl (OpS.weak' rfl (by simp only [kev, ktab, klen, kcv] <;> rfl) (by simp only [kev, ktab, klen, kcv] <;> rfl) cl112 (w_impl_VarText _)) (by simp only [kput] <;> rfl) ?_
    refine OkOps.ev tab_ok rfl (by simp only [kev, ktab, klen, kcv] <;> rfl) (by simp only [kput] <;> rfl) ?_
    refine OkOps.ev tab_ok rfl (by simp only [kev, ktab, klen, kcv, hz3, Option.getD_some] <;> rfl) (by simp only [kput] <;> rfl) ?_
    refine OkOps.ev tab_ok rfl (by simp only [kev, ktab, klen, kcv, hz3, Option.isSome_some] <;> rfl) (by simp only [kput] <;> rfl) ?_
    iterate 2 (refine OkOps.ev tab_ok rfl (by simp only [kev, ktab, klen, kcv] <;> rfl) (by simp only [kput] <;> rfl) ?_)
    refine OkOps.nil ?_
    refine Ok.region ?_
    iterate 2 (refine OkOps.ev tab_ok rfl (by simp only [kev, ktab, klen, kcv] <;> rfl) (by simp only [kput] <;> rfl) ?_)
    refine OkOps.ev tab_ok rfl (ev_cat (by simp only [kev, ktab, klen, kcv] <;> rfl) (by simp only [kev, ktab, klen, kcv] <;> rfl) (by omega)) (by simp only [kput] <;> rfl) ?_
    refine OkOps.ev tab_ok rfl (by simp only [kev, ktab, klen, kcv] <;> rfl) (by simp only [kput] <;> rfl) ?_
    refine OkOps.nil ?_
    refine Ok.region ?_
    iterate 2 (refine OkOps.ev tab_ok rfl (by simp only [kev, ktab, klen, kcv] <;> rfl) (by simp only [kput] <;> rfl) ?_)
    refine OkOps.nil ?_
    refine ⟨i + 1, ?_, rfl, rfl, hi, by omega⟩
    refine ⟨?_, ?_, ?_, ?_, ?_, ?_, ?_, ?_, ?_, ?_, ?_, ?_, ?_, ?_, ?_, ?_, ?_, ?_, ?_, ?_, ?_, ?_, ?_, ?_, trivial⟩ <;> first | exact le_any _ | with_reducible exact le_rfl' _ | (first | (rw [wrap_succ (by omega)]; exact le_rfl' _) | (rw [varsZ_next hi]; exact le_rfl' _)) | exact le_rfl' _
  · try simp only [bsimp] at hb3
    have hi : i = zs.length := by omega
    refine Ok.exit ?_
    refine Ok.seq ?_
    refine Ok.region ?_
    iterate 2 (refine OkOps.ev tab_ok rfl (by simp only [kev, ktab, klen, kcv] <;> rfl) (by simp only [kput] <;> rfl) ?_)
    refine OkOps.nil ?_
    refine Ok.ret ?_
    repeat (first | with_reducible refine thenQ_ret ?_ | with_reducible refine blockQ_ret ?_)
    refine retQ.end (by show resVs tab _ [.tmp 2] = _; simp only [kev, ktab, klen, kcv] <;> rfl) rfl ?_
    rw [hi, List.take_length]; rfl
theorem w_spec_SumMore (y : BitVec 32) (s : Str) (hs : s.length ≤ 4611686018427387904) : Weak Try.prog 129 [.int .u32 (y.toNat : Int), .str s] (.int .u32 ((sumS y s).toNat : Int)) := by
  refine Weak.enter tab_ok Try.func129 rfl (.inr (by simp [V.labelsL, V.labels, zz])) (t := [.int .u32 (y.toNat : Int), .str s, .any, .any, .any, .any, .any, .any, .any, .any, .any, .any, .any, .any, .any, .any, .any, .any, .any, .any, .any, .any, .any, .any, .any, .any, .any, .any, .any, .any, .any, .any, .any]) rfl ?_
  refine Ok.seq ?_
  refine Ok.region ?_
  refine OkOps.ev tab_ok rfl (by simp only [kev, ktab, klen, kcv] <;> rfl) (by simp only [kput] <;> rfl) ?_
  refine OkOps.nil ?_
  refine Ok.seq ?_
  refine Ok.seq ?_
  refine Ok.region ?_
  refine OkOps.ev tab_ok rfl (by simp only [kev, ktab, klen, kcv] <;> rfl) (by simp only [kput] <;> rfl) ?_
  refine OkOps.nil ?_
  refine Ok.block ?_
  refine Ok.loopW (τ := BitVec 32 × Nat) (fun x => [(0, .int .u32 (x.1.toNat : Int)), (5, .int .i64 (x.2 : Int))]) [6, 7, 8, 9, 10, 11, 12, 13, 14, 15, 16, 17, 18, 19, 20, 21, 22, 23, 24, 25, 26, 27, 28, 29, 30, 31] (fun x => by simp only [kover] <;> rfl) (fun x => sumS x.1 (s.drop x.2) = sumS y s ∧ x.2 ≤ s.length) (fun x => s.length - x.2) (y, 0) (by refine ⟨?_, ?_, ?_, ?_, ?_, ?_, ?_, ?_, ?_, ?_, ?_, ?_, ?_, ?_, ?_, ?_, ?_, ?_, ?_, ?_, ?_, ?_, ?_, ?_, ?_, ?_, ?_, ?_, ?_, ?_, ?_, ?_, ?_, trivial⟩ <;> first | exact le_any _ | with_reducible exact le_rfl' _ | (fail) | exact le_rfl' _) (⟨rfl, Nat.zero_le _⟩) ?_
  rintro ⟨a, i⟩ ⟨h1, h2⟩
  refine Ok.seq ?_
  refine Ok.seq ?_
  refine Ok.region ?_
  iterate 4 (refine OkOps.ev tab_ok rfl (by simp only [kev, ktab, klen, kcv] <;> rfl) (by simp only [kput] <;> rfl) ?_)
  refine OkOps.nil ?_
  refine Ok.cond (b := _) (by simp only [kev, ktab, klen, kcv] <;> rfl) (fun hb2 => ?_) (fun hb2 => ?_)
  · try simp only [bsimp] at hb2
    have hi : i < s.length := by omega
    refine Ok.skip ?_
    refine Ok.seq ?_
    refine Ok.block ?_
    refine Ok.seq ?_
    refine Ok.region ?_
    iterate 3 (refine OkOps.ev tab_ok rfl (by simp only [kev, ktab, klen, kcv] <;> rfl) (by simp only [kput] <;> rfl) ?_)
    refine OkOps.ev tab_ok rfl (ev_byte_lt (by simp only [kev, ktab, klen, kcv] <;> rfl) (by simp only [kev, ktab, klen, kcv] <;> rfl) (hi) rfl) (by simp only [kput] <;> rfl) ?_
    refine OkOps.ev tab_ok rfl (by simp only [kev, ktab, klen, kcv] <;> rfl) (by simp only [kput] <;> rfl) ?_
    refine OkOps.ev tab_ok rfl (by simp only [kev, ktab, klen, kcv, xor_byte] <;> rfl) (by simp only [kput] <;> rfl) ?_
    refine OkOps.ev tab_ok rfl (by simp only [kev, ktab, klen, kcv] <;> rfl) (by simp only [kput] <;> rfl) ?_
    refine OkOps.nil ?_
    refine Ok.seq ?_
    refine Ok.region ?_
    refine OkOps.ev tab_ok rfl (by simp only [kev, ktab, klen, kcv] <;> rfl) (by simp only [kput] <;> rfl) ?_
    refine OkOps.nil ?_
    refine Ok.block ?_
    refine Ok.loopW (τ := BitVec 32 × Nat) (fun x => [(0, .int .u32 (x.1.toNat : Int)), (6, .int .i64 (x.2 : Int))]) [7, 20, 21, 22, 23, 24, 25, 26, 27, 28, 29, 30, 31] (fun x => by simp only [kover] <;> rfl) (fun x => bitsS (8 - x.2) x.1 = bitsS 8 (a ^^^ BitVec.ofNat 32 s[i].toNat) ∧ x.2 ≤ 8) (fun x => 8 - x.2) (a ^^^ BitVec.ofNat 32 s[i].toNat, 0) (by refine ⟨?_, ?_, ?_, ?_, ?_, ?_, ?_, ?_, ?_, ?_, ?_, ?_, ?_, ?_, ?_, ?_, ?_, ?_, ?_, ?_, ?_, ?_, ?_, ?_, ?_, ?_, ?_, ?_, ?_, ?_, ?_, ?_, ?_, trivial⟩ <;> first | exact le_any _ | with_reducible exact le_rfl' _ | (fail) | exact le_rfl' _) (⟨rfl, Nat.zero_le _⟩) ?_
    rintro ⟨b, j⟩ ⟨h3, h4⟩
    refine Ok.seq ?_
    refine Ok.seq ?_
    refine Ok.region ?_
    iterate 2 (refine OkOps.ev tab_ok rfl (by simp only [kev, ktab, klen, kcv] <;> rfl) (by simp only [kput] <;> rfl) ?_)
    refine OkOps.nil ?_
    refine Ok.cond (b := _) (by simp only [kev, ktab, klen, kcv] <;> rfl) (fun hb6 => ?_) (fun hb6 => ?_)
    · try simp only [bsimp] at hb6
      have hj : j < 8 := by omega
      refine Ok.skip ?_
      refine Ok.seq ?_
      refine Ok.block ?_
      refine Ok.seq ?_
      refine Ok.region ?_
      refine OkOps.ev tab_ok rfl (by simp only [kev, ktab, klen, kcv] <;> rfl) (by simp only [kput] <;> rfl) ?_
      refine OkOps.ev tab_ok rfl (by simp only [kev, ktab, klen, kcv, rem2_u32] <;> rfl) (by simp only [kput] <;> rfl) ?_
      refine OkOps.ev tab_ok rfl (by simp only [kev, ktab, klen, kcv, nat_one] <;> rfl) (by simp only [kput] <;> rfl) ?_
      refine OkOps.ev tab_ok rfl (by simp only [kev, ktab, klen, kcv] <;> rfl) (by simp only [kput] <;> rfl) ?_
      refine OkOps.nil ?_
      refine Ok.seq ?_
      refine Ok.region ?_
      refine OkOps.ev tab_ok rfl (by simp only [kev, ktab, klen, kcv] <;> rfl) (by simp only [kput] <;> rfl) ?_
      refine OkOps.ev tab_ok rfl (by simp only [kev, ktab, klen, kcv, half_u32] <;> rfl) (by simp only [kput] <;> rfl) ?_
      refine OkOps.ev tab_ok rfl (by simp only [kev, ktab, klen, kcv] <;> rfl) (by simp only [kput] <;> rfl) ?_
      refine OkOps.nil ?_
      refine Ok.seq ?_
      refine Ok.region ?_
      refine OkOps.ev tab_ok rfl (by simp only [kev, ktab, klen, kcv] <;> rfl) (by simp only [kput] <;> rfl) ?_
      refine OkOps.nil ?_
      refine Ok.cond (b := _) (by simp only [kev, ktab, klen, kcv] <;> rfl) (fun hb10 => ?_) (fun hb10 => ?_)
      · try simp only [bsimp] at hb10
        have hbs := bitS_t hb10
        refine Ok.region ?_
        refine OkOps.ev tab_ok rfl (by simp only [kev, ktab, klen, kcv] <;> rfl) (by simp only [kput] <;> rfl) ?_
        refine OkOps.ev tab_ok rfl (by simp only [kev, ktab, klen, kcv, xor_key] <;> rfl) (by simp only [kput] <;> rfl) ?_
        refine OkOps.ev tab_ok rfl (by simp only [kev, ktab, klen, kcv] <;> rfl) (by simp only [kput] <;> rfl) ?_
        refine OkOps.nil ?_
        refine Ok.region ?_
        iterate 3 (refine OkOps.ev tab_ok rfl (by simp only [kev, ktab, klen, kcv] <;> rfl) (by simp only [kput] <;> rfl) ?_)
        refine OkOps.nil ?_
        refine ⟨(bitS b, j + 1), ?_, rfl, rfl, ⟨by rw [← h3, ← bitsS_next hj], hj⟩, by show 8 - (j + 1) < 8 - j; omega⟩
        refine ⟨?_, ?_, ?_, ?_, ?_, ?_, ?_, ?_, ?_, ?_, ?_, ?_, ?_, ?_, ?_, ?_, ?_, ?_, ?_, ?_, ?_, ?_, ?_, ?_, ?_, ?_, ?_, ?_, ?_, ?_, ?_, ?_, ?_, trivial⟩ <;> first | exact le_any _ | with_reducible exact le_rfl' _ | (first | (rw [wrap_succ (by omega)]; exact le_rfl' _) | (rw [hbs]; exact le_rfl' _)) | exact le_rfl' _
      · try simp only [bsimp] at hb10
        have hbs := bitS_f hb10
        refine Ok.skip ?_
        refine Ok.region ?_
        iterate 3 (refine OkOps.ev tab_ok rfl (by simp only [kev, ktab, klen, kcv] <;> rfl) (by simp only [kput] <;> rfl) ?_)
        refine OkOps.nil ?_
        refine ⟨(bitS b, j + 1), ?_, rfl, rfl, ⟨by rw [← h3, ← bitsS_next hj], hj⟩, by show 8 - (j + 1) < 8 - j; omega⟩
        refine ⟨?_, ?_, ?_, ?_, ?_, ?_, ?_, ?_, ?_, ?_, ?_, ?_, ?_, ?_, ?_, ?_, ?_, ?_, ?_, ?_, ?_, ?_, ?_, ?_, ?_, ?_, ?_, ?_, ?_, ?_, ?_, ?_, ?_, trivial⟩ <;> first | exact le_any _ | with_reducible exact le_rfl' _ | (first | (rw [wrap_succ (by omega)]; exact le_rfl' _) | (rw [hbs]; exact le_rfl' _)) | exact le_rfl' _
    · try simp only [bsimp] at hb6
      have hj : j = 8 := by omega
      subst hj
      have h3 : b = bitsS 8 (a ^^^ BitVec.ofNat 32 s[i].toNat) := h3
      subst h3
      refine Ok.exit ?_
      refine Ok.region ?_
      iterate 3 (refine OkOps.ev tab_ok rfl (by simp only [kev, ktab, klen, kcv] <;> rfl) (by simp only [kput] <;> rfl) ?_)
      refine OkOps.nil ?_
      refine ⟨(bitsS 8 (a ^^^ BitVec.ofNat 32 s[i].toNat), i + 1), ?_, rfl, rfl, ⟨by rw [← h1, sumS_next hi], hi⟩, by show s.length - (i + 1) < s.length - i; omega⟩
      refine ⟨?_, ?_, ?_, ?_, ?_, ?_, ?_, ?_, ?_, ?_, ?_, ?_, ?_, ?_, ?_, ?_, ?_, ?_, ?_, ?_, ?_, ?_, ?_, ?_, ?_, ?_, ?_, ?_, ?_, ?_, ?_, ?_, ?_, trivial⟩ <;> first | exact le_any _ | with_reducible exact le_rfl' _ | (rw [wrap_succ (by omega)]; exact le_rfl' _) | exact le_rfl' _
  · try simp only [bsimp] at hb2
    have hi : i = s.length := by omega
    refine Ok.exit ?_
    refine Ok.seq ?_
    refine Ok.region ?_
    iterate 2 (refine OkOps.ev tab_ok rfl (by simp only [kev, ktab, klen, kcv] <;> rfl) (by simp only [kput] <;> rfl) ?_)
    refine OkOps.nil ?_
    refine Ok.ret ?_
    repeat (first | with_reducible refine thenQ_ret ?_ | with_reducible refine blockQ_ret ?_)
    refine retQ.end (by show resVs tab _ [.tmp 4] = _; simp only [kev, ktab, klen, kcv] <;> rfl) rfl ?_
    rw [← h1, hi, List.drop_length]; rfl
theorem w_impl_SumMore (y : BitVec 32) (s : Str) (hs : s.length ≤ 4611686018427387904) : Weak Try.prog 130 [.int .u32 (y.toNat : Int), .str s] (.int .u32 ((sumS y s).toNat : Int)) := by
  refine Weak.enter tab_ok Try.func130 rfl (.inr (by simp [V.labelsL, V.labels, zz])) (t := [.int .u32 (y.toNat : Int), .str s, .any, .any, .any, .any, .any, .any, .any, .any, .any, .any, .any, .any, .any, .any, .any, .any, .any, .any, .any, .any, .any, .any, .any, .any, .any, .any, .any, .any, .any]) rfl ?_
  refine Ok.seq ?_
  refine Ok.region ?_
  refine OkOps.ev tab_ok rfl (by simp only [kev, ktab, klen, kcv] <;> rfl) (by simp only [kput] <;> rfl) ?_
  refine OkOps.nil ?_
  refine Ok.seq ?_
  refine Ok.seq ?_
  refine Ok.region ?_
  refine OkOps.ev tab_ok rfl (by simp only [kev, ktab, klen, kcv] <;> rfl) (by simp only [kput] <;> rfl) ?_
  refine OkOps.nil ?_
  refine Ok.block ?_
  refine Ok.loopW (τ := BitVec 32 × Nat) (fun x => [(0, .int .u32 (x.1.toNat : Int)), (5, .int .i64 (x.2 : Int))]) [6, 7, 8, 9, 10, 11, 12, 13, 14, 15, 16, 17, 18, 19, 20, 21, 22, 23, 24, 25, 26, 27, 28, 29] (fun x => by simp only [kover] <;> rfl) (fun x => sumS x.1 (s.drop x.2) = sumS y s ∧ x.2 ≤ s.length) (fun x => s.length - x.2) (y, 0) (by refine ⟨?_, ?_, ?_, ?_, ?_, ?_, ?_, ?_, ?_, ?_, ?_, ?_, ?_, ?_, ?_, ?_, ?_, ?_, ?_, ?_, ?_, ?_, ?_, ?_, ?_, ?_, ?_, ?_, ?_, ?_, ?_, trivial⟩ <;> first | exact le_any _ | with_reducible exact le_rfl' _ | (fail) | exact le_rfl' _) (⟨rfl, Nat.zero_le _⟩) ?_
  rintro ⟨a, i⟩ ⟨h1, h2⟩
  refine Ok.seq ?_
  refine Ok.seq ?_
  refine Ok.region ?_
  iterate 4 (refine OkOps.ev tab_ok rfl (by simp only [kev, ktab, klen, kcv] <;> rfl) (by simp only [kput] <;> rfl) ?_)
  refine OkOps.nil ?_
  refine Ok.cond (b := _) (by simp only [kev, ktab, klen, kcv] <;> rfl) (fun hb2 => ?_) (fun hb2 => ?_)
  · try simp only [bsimp] at hb2
    have hi : i < s.length := by omega
    refine Ok.skip ?_
    refine Ok.seq ?_
    refine Ok.block ?_
    refine Ok.seq ?_
    refine Ok.region ?_
    iterate 3 (refine OkOps.ev tab_ok rfl (by simp only [kev, ktab, klen, kcv] <;> rfl) (by simp only [kput] <;> rfl) ?_)
    refine OkOps.ev tab_ok rfl (ev_byte_lt (by simp only [kev, ktab, klen, kcv] <;> rfl) (by simp only [kev, ktab, klen, kcv] <;> rfl) (hi) rfl) (by simp only [kput] <;> rfl) ?_
    refine OkOps.ev tab_ok rfl (by simp only [kev, ktab, klen, kcv] <;> rfl) (by simp only [kput] <;> rfl) ?_
    refine OkOps.ev tab_ok rfl (by simp only [kev, ktab, klen, kcv, xor_byte] <;> rfl) (by simp only [kput] <;> rfl) ?_
    refine OkOps.ev tab_ok rfl (by simp only [kev, ktab, klen, kcv] <;> rfl) (by simp only [kput] <;> rfl) ?_
    refine OkOps.nil ?_
    refine Ok.seq ?_
    refine Ok.region ?_
    refine OkOps.ev tab_ok rfl (by simp only [kev, ktab, klen, kcv] <;> rfl) (by simp only [kput] <;> rfl) ?_
    refine OkOps.nil ?_
    refine Ok.block ?_
    refine Ok.loopW (τ := BitVec 32 × Nat) (fun x => [(0, .int .u32 (x.1.toNat : Int)), (19, .int .i64 (x.2 : Int))]) [6, 20, 21, 22, 23, 24, 25, 26, 27, 28, 29] (fun x => by simp only [kover] <;> rfl) (fun x => bitsS (8 - x.2) x.1 = bitsS 8 (a ^^^ BitVec.ofNat 32 s[i].toNat) ∧ x.2 ≤ 8) (fun x => 8 - x.2) (a ^^^ BitVec.ofNat 32 s[i].toNat, 0) (by refine ⟨?_, ?_, ?_, ?_, ?_, ?_, ?_, ?_, ?_, ?_, ?_, ?_, ?_, ?_, ?_, ?_, ?_, ?_, ?_, ?_, ?_, ?_, ?_, ?_, ?_, ?_, ?_, ?_, ?_, ?_, ?_, trivial⟩ <;> first | exact le_any _ | with_reducible exact le_rfl' _ | (fail) | exact le_rfl' _) (⟨rfl, Nat.zero_le _⟩) ?_
    rintro ⟨b, j⟩ ⟨h3, h4⟩
    refine Ok.seq ?_
    refine Ok.region ?_
    refine OkOps.ev tab_ok rfl (by simp only [kev, ktab, klen, kcv] <;> rfl) (by simp only [kput] <;> rfl) ?_
    refine OkOps.nil ?_
    refine Ok.seq ?_
    refine Ok.cond (b := _) (by simp only [kev, ktab, klen, kcv] <;> rfl) (fun hb6 => ?_) (fun hb6 => ?_)
    · try simp only [bsimp] at hb6
      have hj : j < 8 := by omega
      refine Ok.skip ?_
      refine Ok.seq ?_
      refine Ok.block ?_
      refine Ok.seq ?_
      refine Ok.region ?_
      refine OkOps.ev tab_ok rfl (by simp only [kev, ktab, klen, kcv] <;> rfl) (by simp only [kput] <;> rfl) ?_
      refine OkOps.ev tab_ok rfl (by simp only [kev, ktab, klen, kcv, and1_u32] <;> rfl) (by simp only [kput] <;> rfl) ?_
      refine OkOps.ev tab_ok rfl (by simp only [kev, ktab, klen, kcv] <;> rfl) (by simp only [kput] <;> rfl) ?_
      refine OkOps.nil ?_
      refine Ok.seq ?_
      refine Ok.region ?_
      refine OkOps.ev tab_ok rfl (by simp only [kev, ktab, klen, kcv] <;> rfl) (by simp only [kput] <;> rfl) ?_
      refine OkOps.ev tab_ok rfl (by simp only [kev, ktab, klen, kcv, shr1_u32] <;> rfl) (by simp only [kput] <;> rfl) ?_
      refine OkOps.ev tab_ok rfl (by simp only [kev, ktab, klen, kcv] <;> rfl) (by simp only [kput] <;> rfl) ?_
      refine OkOps.nil ?_
      refine Ok.seq ?_
      refine Ok.region ?_
      refine OkOps.ev tab_ok rfl (by simp only [kev, ktab, klen, kcv] <;> rfl) (by simp only [kput] <;> rfl) ?_
      refine OkOps.ev tab_ok rfl (by simp only [kev, ktab, klen, kcv, nat_one] <;> rfl) (by simp only [kput] <;> rfl) ?_
      refine OkOps.nil ?_
      refine Ok.cond (b := _) (by simp only [kev, ktab, klen, kcv] <;> rfl) (fun hb9 => ?_) (fun hb9 => ?_)
      · try simp only [bsimp] at hb9
        have hbs := bitS_t hb9
        refine Ok.region ?_
        refine OkOps.ev tab_ok rfl (by simp only [kev, ktab, klen, kcv] <;> rfl) (by simp only [kput] <;> rfl) ?_
        refine OkOps.ev tab_ok rfl (by simp only [kev, ktab, klen, kcv, xor_key] <;> rfl) (by simp only [kput] <;> rfl) ?_
        refine OkOps.ev tab_ok rfl (by simp only [kev, ktab, klen, kcv] <;> rfl) (by simp only [kput] <;> rfl) ?_
        refine OkOps.nil ?_
        refine Ok.region ?_
        iterate 2 (refine OkOps.ev tab_ok rfl (by simp only [kev, ktab, klen, kcv] <;> rfl) (by simp only [kput] <;> rfl) ?_)
        refine OkOps.nil ?_
        refine ⟨(bitS b, j + 1), ?_, rfl, rfl, ⟨by rw [← h3, ← bitsS_next hj], hj⟩, by show 8 - (j + 1) < 8 - j; omega⟩
        refine ⟨?_, ?_, ?_, ?_, ?_, ?_, ?_, ?_, ?_, ?_, ?_, ?_, ?_, ?_, ?_, ?_, ?_, ?_, ?_, ?_, ?_, ?_, ?_, ?_, ?_, ?_, ?_, ?_, ?_, ?_, ?_, trivial⟩ <;> first | exact le_any _ | with_reducible exact le_rfl' _ | (first | (rw [wrap_succ (by omega)]; exact le_rfl' _) | (rw [hbs]; exact le_rfl' _)) | exact le_rfl' _
      · try simp only [bsimp] at hb9
        have hbs := bitS_f hb9
        refine Ok.skip ?_
        refine Ok.region ?_
        iterate 2 (refine OkOps.ev tab_ok rfl (by simp only [kev, ktab, klen, kcv] <;> rfl) (by simp only [kput] <;> rfl) ?_)
        refine OkOps.nil ?_
        refine ⟨(bitS b, j + 1), ?_, rfl, rfl, ⟨by rw [← h3, ← bitsS_next hj], hj⟩, by show 8 - (j + 1) < 8 - j; omega⟩
        refine ⟨?_, ?_, ?_, ?_, ?_, ?_, ?_, ?_, ?_, ?_, ?_, ?_, ?_, ?_, ?_, ?_, ?_, ?_, ?_, ?_, ?_, ?_, ?_, ?_, ?_, ?_, ?_, ?_, ?_, ?_, ?_, trivial⟩ <;> first | exact le_any _ | with_reducible exact le_rfl' _ | (first | (rw [wrap_succ (by omega)]; exact le_rfl' _) | (rw [hbs]; exact le_rfl' _)) | exact le_rfl' _
    · try simp only [bsimp] at hb6
      have hj : j = 8 := by omega
      subst hj
      have h3 : b = bitsS 8 (a ^^^ BitVec.ofNat 32 s[i].toNat) := h3
      subst h3
      refine Ok.exit ?_
      refine Ok.region ?_
      iterate 3 (refine OkOps.ev tab_ok rfl (by simp only [kev, ktab, klen, kcv] <;> rfl) (by simp only [kput] <;> rfl) ?_)
      refine OkOps.nil ?_
      refine ⟨(bitsS 8 (a ^^^ BitVec.ofNat 32 s[i].toNat), i + 1), ?_, rfl, rfl, ⟨by rw [← h1, sumS_next hi], hi⟩, by show s.length - (i + 1) < s.length - i; omega⟩
      refine ⟨?_, ?_, ?_, ?_, ?_, ?_, ?_, ?_, ?_, ?_, ?_, ?_, ?_, ?_, ?_, ?_, ?_, ?_, ?_, ?_, ?_, ?_, ?_, ?_, ?_, ?_, ?_, ?_, ?_, ?_, ?_, trivial⟩ <;> first | exact le_any _ | with_reducible exact le_rfl' _ | (rw [wrap_succ (by omega)]; exact le_rfl' _) | exact le_rfl' _
  · try simp only [bsimp] at hb2
    have hi : i = s.length := by omega
    refine Ok.exit ?_
    refine Ok.seq ?_
    refine Ok.region ?_
    iterate 2 (refine OkOps.ev tab_ok rfl (by simp only [kev, ktab, klen, kcv] <;> rfl) (by simp only [kput] <;> rfl) ?_)
    refine OkOps.nil ?_
    refine Ok.ret ?_
    repeat (first | with_reducible refine thenQ_ret ?_ | with_reducible refine blockQ_ret ?_)
    refine retQ.end (by show resVs tab _ [.tmp 4] = _; simp only [kev, ktab, klen, kcv] <;> rfl) rfl ?_
    rw [← h1, hi, List.drop_length]; rfl
theorem w_spec_SumOf (s : Str) (hs : s.length ≤ 4611686018427387904) : Weak Try.prog 109 [.str s] (.int .u32 ((sumOf s).toNat : Int)) := by
  refine Weak.enter tab_ok Try.func109 rfl (.inr (by simp [V.labelsL, V.labels, zz])) (t := [.str s, .any, .any, .any, .any]) rfl ?_
  refine Ok.seq ?_
  refine Ok.region ?_
  refine OkOps.ev tab_ok rfl (by simp only [kev, ktab, klen, kcv] <;> rfl) (by simp only [kput] <;> rfl) ?_
  refine OkOps.nil ?_
  refine Ok.seq ?_
  refine Ok.region ?_
  refine OkOps.ev tab_ok rfl (by simp only [kev, ktab, klen, kcv] <;> rfl) (by simp only [kput] <;> rfl) ?_
  refine OkOps.S0 rfl (OpS.weak' rfl (by simp only [kev, ktab, klen, kcv] <;> rfl) (by simp only [kev, ktab, klen, kcv] <;> rfl) cl129 (w_spec_SumMore 4294967295#32 s hs)) (by simp only [kput] <;> rfl) ?_
  refine OkOps.ev tab_ok rfl (by simp only [kev, ktab, klen, kcv] <;> rfl) (by simp only [kput] <;> rfl) ?_
  refine OkOps.nil ?_
  refine Ok.ret ?_
  repeat (first | with_reducible refine thenQ_ret ?_ | with_reducible refine blockQ_ret ?_)
  refine retQ.end (by show resVs tab _ [.tmp 2] = _; simp only [kev, ktab, klen, kcv] <;> rfl) rfl ?_
  rfl
theorem w_impl_SumOf (s : Str) (hs : s.length ≤ 4611686018427387904) : Weak Try.prog 111 [.str s] (.int .u32 ((sumOf s).toNat : Int)) := by
  refine Weak.enter tab_ok Try.func111 rfl (.inr (by simp [V.labelsL, V.labels, zz])) (t := [.str s, .any, .any, .any, .any]) rfl ?_
  refine Ok.seq ?_
  refine Ok.region ?_
  refine OkOps.ev tab_ok rfl (by simp only [kev, ktab, klen, kcv] <;> rfl) (by simp only [kput] <;> rfl) ?_
  refine OkOps.nil ?_
  refine Ok.seq ?_
  refine Ok.region ?_
  refine OkOps.ev tab_ok rfl (by simp only [kev, ktab, klen, kcv] <;> rfl) (by simp only [kput] <;> rfl) ?_
  refine OkOps.S0 rfl (OpS.weak' rfl (by simp only [kev, ktab, klen, kcv] <;> rfl) (by simp only [kev, ktab, klen, kcv] <;> rfl) cl130 (w_impl_SumMore 4294967295#32 s hs)) (by simp only [kput] <;> rfl) ?_
  refine OkOps.ev tab_ok rfl (by simp only [kev, ktab, klen, kcv] <;> rfl) (by simp only [kput] <;> rfl) ?_
  refine OkOps.nil ?_
  refine Ok.ret ?_
  repeat (first | with_reducible refine thenQ_ret ?_ | with_reducible refine blockQ_ret ?_)
  refine retQ.end (by show resVs tab _ [.tmp 2] = _; simp only [kev, ktab, klen, kcv] <;> rfl) rfl ?_
  rfl
theorem w_spec_l02Four (x : BitVec 32) : Weak Try.prog 108 [.int .u32 (x.toNat : Int)] (.str (fourT x)) := by
  refine Weak.enter tab_ok Try.func108 rfl (.inr (by simp [V.labelsL, V.labels, zz])) (t := [.int .u32 (x.toNat : Int), .any, .any, .any, .any, .any, .any, .any, .any, .any, .any, .any, .any, .any, .any, .any]) rfl ?_
  refine Ok.seq ?_
  refine Ok.region ?_
  refine OkOps.ev tab_ok rfl (by simp only [kev, ktab, klen, kcv] <;> rfl) (by simp only [kput] <;> rfl) ?_
  refine OkOps.nil ?_
  refine Ok.seq ?_
  refine Ok.region ?_
  iterate 2 (refine OkOps.ev tab_ok rfl (by simp only [kev, ktab, klen, kcv] <;> rfl) (by simp only [kput] <;> rfl) ?_)
  refine OkOps.ev tab_ok rfl (by simp only [kev, ktab, klen, kcv, by_shr x, wrap_u8_nat] <;> rfl) (by simp only [kput] <;> rfl) ?_
  iterate 2 (refine OkOps.ev tab_ok rfl (by simp only [kev, ktab, klen, kcv] <;> rfl) (by simp only [kput] <;> rfl) ?_)
  refine OkOps.ev tab_ok rfl (by simp only [kev, ktab, klen, kcv, by_shr x, wrap_u8_nat] <;> rfl) (by simp only [kput] <;> rfl) ?_
  iterate 2 (refine OkOps.ev tab_ok rfl (by simp only [kev, ktab, klen, kcv] <;> rfl) (by simp only [kput] <;> rfl) ?_)
  refine OkOps.ev tab_ok rfl (by simp only [kev, ktab, klen, kcv, by_shr x, wrap_u8_nat] <;> rfl) (by simp only [kput] <;> rfl) ?_
  refine OkOps.ev tab_ok rfl (by simp only [kev, ktab, klen, kcv] <;> rfl) (by simp only [kput] <;> rfl) ?_
  refine OkOps.ev tab_ok rfl (by simp only [kev, ktab, klen, kcv, by_shr x, wrap_u8_nat] <;> rfl) (by simp only [kput] <;> rfl) ?_
  refine OkOps.ev tab_ok rfl (ev_bs (by simp only [ktab] <;> rfl) (by simp only [ktab] <;> rfl) (by decide) (by decide) (by simp only [kev, ktab, klen, kcv, List.map_cons, List.map_nil] <;> rfl) (by simp only [kfe, beq_self_eq_true, Bool.and_true, Bool.true_and, decide_true, Nat.zero_add, Nat.lt_add_one, Nat.reduceLT, Nat.reduceAdd, Nat.zero_lt_succ, if_true, ↓reduceIte] <;> rfl)) (by simp only [kput] <;> rfl) ?_
  refine OkOps.ev tab_ok rfl (ev_text' (by simp only [kev, ktab, klen, kcv] <;> rfl) rfl rfl rfl (by simp only [kby, Option.map_some, List.append_assoc, List.cons_append, List.nil_append] <;> rfl)) (by simp only [kput] <;> rfl) ?_
  refine OkOps.ev tab_ok rfl (by simp only [kev, ktab, klen, kcv] <;> rfl) (by simp only [kput] <;> rfl) ?_
  refine OkOps.nil ?_
  refine Ok.ret ?_
  repeat (first | with_reducible refine thenQ_ret ?_ | with_reducible refine blockQ_ret ?_)
  refine retQ.end (by show resVs tab _ [.tmp 2] = _; simp only [kev, ktab, klen, kcv] <;> rfl) rfl ?_
  rfl
theorem w_impl_four (x : BitVec 32) : Weak Try.prog 110 [.int .i64 (x.toNat : Int)] (.str (fourT x)) := by
  refine Weak.enter tab_ok Try.func110 rfl (.inr (by simp [V.labelsL, V.labels, zz])) (t := [.int .i64 (x.toNat : Int), .any, .any, .any, .any, .any, .any, .any, .any, .any, .any, .any, .any, .any, .any, .any]) rfl ?_
  refine Ok.seq ?_
  refine Ok.region ?_
  refine OkOps.ev tab_ok rfl (by simp only [kev, ktab, klen, kcv] <;> rfl) (by simp only [kput] <;> rfl) ?_
  refine OkOps.nil ?_
  refine Ok.seq ?_
  refine Ok.region ?_
  iterate 2 (refine OkOps.ev tab_ok rfl (by simp only [kev, ktab, klen, kcv] <;> rfl) (by simp only [kput] <;> rfl) ?_)
  refine OkOps.ev tab_ok rfl (by simp only [kev, ktab, klen, kcv, by_shr64 x, wrap_u8_nat] <;> rfl) (by simp only [kput] <;> rfl) ?_
  iterate 2 (refine OkOps.ev tab_ok rfl (by simp only [kev, ktab, klen, kcv] <;> rfl) (by simp only [kput] <;> rfl) ?_)
  refine OkOps.ev tab_ok rfl (by simp only [kev, ktab, klen, kcv, by_shr64 x, wrap_u8_nat] <;> rfl) (by simp only [kput] <;> rfl) ?_
  iterate 2 (refine OkOps.ev tab_ok rfl (by simp only [kev, ktab, klen, kcv] <;> rfl) (by simp only [kput] <;> rfl) ?_)
  refine OkOps.ev tab_ok rfl (by simp only [kev, ktab, klen, kcv, by_shr64 x, wrap_u8_nat] <;> rfl) (by simp only [kput] <;> rfl) ?_
  refine OkOps.ev tab_ok rfl (by simp only [kev, ktab, klen, kcv] <;> rfl) (by simp only [kput] <;> rfl) ?_
  refine OkOps.ev tab_ok rfl (by simp only [kev, ktab, klen, kcv, by_shr64 x, wrap_u8_nat] <;> rfl) (by simp only [kput] <;> rfl) ?_
  refine OkOps.ev tab_ok rfl (ev_bs (by simp only [ktab] <;> rfl) (by simp only [ktab] <;> rfl) (by decide) (by decide) (by simp only [kev, ktab, klen, kcv, List.map_cons, List.map_nil] <;> rfl) (by simp only [kfe, beq_self_eq_true, Bool.and_true, Bool.true_and, decide_true, Nat.zero_add, Nat.lt_add_one, Nat.reduceLT, Nat.reduceAdd, Nat.zero_lt_succ, if_true, ↓reduceIte] <;> rfl)) (by simp only [kput] <;> rfl) ?_
  refine OkOps.ev tab_ok rfl (ev_text' (by simp only [kev, ktab, klen, kcv] <;> rfl) rfl rfl rfl (by simp only [kby, Option.map_some, List.append_assoc, List.cons_append, List.nil_append] <;> rfl)) (by simp only [kput] <;> rfl) ?_
  refine OkOps.ev tab_ok rfl (by simp only [kev, ktab, klen, kcv] <;> rfl) (by simp only [kput] <;> rfl) ?_
  refine OkOps.nil ?_
  refine Ok.ret ?_
  repeat (first | with_reducible refine thenQ_ret ?_ | with_reducible refine blockQ_ret ?_)
  refine retQ.end (by show resVs tab _ [.tmp 2] = _; simp only [kev, ktab, klen, kcv] <;> rfl) rfl ?_
  rfl
theorem w_spec_Sealed (s : Str) : Weak Try.prog 77 [.str s] (vO (sealed s)) := by
  refine Weak.enter tab_ok Try.func77 rfl (.inr (by simp [V.labelsL, V.labels, zz])) (t := [.str s, .any, .any, .any, .any, .any, .any, .any, .any, .any, .any, .any]) rfl ?_
  refine Ok.seq ?_
  refine Ok.region ?_
  iterate 2 (refine OkOps.ev tab_ok rfl (by simp only [kev, ktab, klen, kcv] <;> rfl) (by simp only [kput] <;> rfl) ?_)
  refine OkOps.nil ?_
  refine Ok.seq ?_
  refine Ok.seq ?_
  refine Ok.region ?_
  iterate 3 (refine OkOps.ev tab_ok rfl (by simp only [kev, ktab, klen, kcv] <;> rfl) (by simp only [kput] <;> rfl) ?_)
  refine OkOps.nil ?_
  refine Ok.cond (b := _) (by simp only [kev, ktab, klen, kcv] <;> rfl) (fun hb1 => ?_) (fun hb1 => ?_)
  · try simp only [bsimp] at hb1
    rw [sealed, if_pos (by omega)]
    refine Ok.seq ?_
    refine Ok.region ?_
    iterate 2 (refine OkOps.ev tab_ok rfl (by simp only [kev, ktab, klen, kcv] <;> rfl) (by simp only [kput] <;> rfl) ?_)
    refine OkOps.nil ?_
    refine Ok.ret ?_
    repeat (first | with_reducible refine thenQ_ret ?_ | with_reducible refine blockQ_ret ?_)
    refine retQ.end (by show resVs tab _ [.tmp 2, .tmp 3] = _; simp only [kev, ktab, klen, kcv] <;> rfl) rfl ?_
    rfl
  · try simp only [bsimp] at hb1
    rw [sealed, if_neg (by omega)]
    refine Ok.skip ?_
    refine Ok.seq ?_
    refine Ok.region ?_
    iterate 2 (refine OkOps.ev tab_ok rfl (by simp only [kev, ktab, klen, kcv] <;> rfl) (by simp only [kput] <;> rfl) ?_)
    refine OkOps.S0 rfl (OpS.weak' rfl (by simp only [kev, ktab, klen, kcv] <;> rfl) (by simp only [kev, ktab, klen, kcv] <;> rfl) cl109 (w_spec_SumOf s (by omega))) (by simp only [kput] <;> rfl) ?_
    refine OkOps.S0 rfl (OpS.weak' rfl (by simp only [kev, ktab, klen, kcv] <;> rfl) (by simp only [kev, ktab, klen, kcv] <;> rfl) cl108 (w_spec_l02Four (sumOf s))) (by simp only [kput] <;> rfl) ?_
    refine OkOps.ev tab_ok rfl (ev_cat (by simp only [kev, ktab, klen, kcv] <;> rfl) (by simp only [kev, ktab, klen, kcv] <;> rfl) (by have := fourT_len (sumOf s); omega)) (by simp only [kput] <;> rfl) ?_
    iterate 2 (refine OkOps.ev tab_ok rfl (by simp only [kev, ktab, klen, kcv] <;> rfl) (by simp only [kput] <;> rfl) ?_)
    refine OkOps.nil ?_
    refine Ok.ret ?_
    repeat (first | with_reducible refine thenQ_ret ?_ | with_reducible refine blockQ_ret ?_)
    refine retQ.end (by show resVs tab _ [.tmp 2, .tmp 3] = _; simp only [kev, ktab, klen, kcv] <;> rfl) rfl ?_
    rfl
theorem w_impl_Sealed (s : Str) : Weak Try.prog 79 [.str s] (vO (sealed s)) := by
  refine Weak.enter tab_ok Try.func79 rfl (.inr (by simp [V.labelsL, V.labels, zz])) (t := [.str s, .any, .any, .any, .any, .any, .any, .any, .any, .any, .any, .any, .any]) rfl ?_
  refine Ok.seq ?_
  refine Ok.region ?_
  iterate 2 (refine OkOps.ev tab_ok rfl (by simp only [kev, ktab, klen, kcv] <;> rfl) (by simp only [kput] <;> rfl) ?_)
  refine OkOps.nil ?_
  refine Ok.seq ?_
  refine Ok.seq ?_
  refine Ok.region ?_
  iterate 3 (refine OkOps.ev tab_ok rfl (by simp only [kev, ktab, klen, kcv] <;> rfl) (by simp only [kput] <;> rfl) ?_)
  refine OkOps.nil ?_
  refine Ok.cond (b := _) (by simp only [kev, ktab, klen, kcv] <;> rfl) (fun hb1 => ?_) (fun hb1 => ?_)
  · try simp only [bsimp] at hb1
    rw [sealed, if_pos (by omega)]
    refine Ok.seq ?_
    refine Ok.region ?_
    iterate 2 (refine OkOps.ev tab_ok rfl (by simp only [kev, ktab, klen, kcv] <;> rfl) (by simp only [kput] <;> rfl) ?_)
    refine OkOps.nil ?_
    refine Ok.ret ?_
    repeat (first | with_reducible refine thenQ_ret ?_ | with_reducible refine blockQ_ret ?_)
    refine retQ.end (by show resVs tab _ [.tmp 2, .tmp 3] = _; simp only [kev, ktab, klen, kcv] <;> rfl) rfl ?_
    rfl
  · try simp only [bsimp] at hb1
    rw [sealed, if_neg (by omega)]
    refine Ok.skip ?_
    refine Ok.seq ?_
    refine Ok.region ?_
    iterate 2 (refine OkOps.ev tab_ok rfl (by simp only [kev, ktab, klen, kcv] <;> rfl) (by simp only [kput] <;> rfl) ?_)
    refine OkOps.S0 rfl (OpS.weak' rfl (by simp only [kev, ktab, klen, kcv] <;> rfl) (by simp only [kev, ktab, klen, kcv] <;> rfl) cl111 (w_impl_SumOf s (by omega))) (by simp only [kput] <;> rfl) ?_
    refine OkOps.ev tab_ok rfl (by simp only [kev, ktab, klen, kcv, wrap_sum] <;> rfl) (by simp only [kput] <;> rfl) ?_
    refine OkOps.S0 rfl (OpS.weak' rfl (by simp only [kev, ktab, klen, kcv] <;> rfl) (by simp only [kev, ktab, klen, kcv] <;> rfl) cl110 (w_impl_four (sumOf s))) (by simp only [kput] <;> rfl) ?_
    refine OkOps.ev tab_ok rfl (ev_cat (by simp only [kev, ktab, klen, kcv] <;> rfl) (by simp only [kev, ktab, klen, kcv] <;> rfl) (by have := fourT_len (sumOf s); omega)) (by simp only [kput] <;> rfl) ?_
    iterate 2 (refine OkOps.ev tab_ok rfl (by simp only [kev, ktab, klen, kcv] <;> rfl) (by simp only [kput] <;> rfl) ?_)
    refine OkOps.nil ?_
    refine Ok.ret ?_
    repeat (first | with_reducible refine thenQ_ret ?_ | with_reducible refine blockQ_ret ?_)
    refine retQ.end (by show resVs tab _ [.tmp 2, .tmp 3] = _; simp only [kev, ktab, klen, kcv] <;> rfl) rfl ?_
    rfl
end Go.Proofs.Ytglodjbknjfmjaa.K
