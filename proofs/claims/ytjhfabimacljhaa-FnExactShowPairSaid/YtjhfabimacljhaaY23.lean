/- Walks: what is shown. Printed by w2.py. -/
import Derived.Test.YtjhfabimacljhaaYg
import Derived.Test.YtjhfabimacljhaaY21
namespace Go.Proofs.Ytjhfabimacljhaa.K
open Go Go.RowKit
set_option linter.unusedVariables false
set_option linter.unusedSimpArgs false
set_option maxHeartbeats 4000000
set_option maxRecDepth 20000
theorem w_spec_l01Figure (d : Nat) (hd : d < 16) : Weak Try.prog 139 [.int .i64 (d : Int)] (.int .u8 ((fig d).toNat : Int)) := by
  refine Weak.enter tab_ok Try.func139 rfl (.inr (by simp [V.labelsL, V.labels, zz, zf, zy])) (t := [.int .i64 (d : Int), .any, .any, .any, .any, .any, .any, .any, .any, .any, .any, .any]) rfl ?_
  refine Ok.seq ?_
  refine Ok.region ?_
  refine OkOps.ev tab_ok rfl (by simp only [kev, ktab, klen, kcv] <;> rfl) (by simp only [kput] <;> rfl) ?_
  refine OkOps.nil ?_
  refine Ok.seq ?_
  refine Ok.seq ?_
  refine Ok.region ?_
  iterate 2 (refine OkOps.ev tab_ok rfl (by simp only [kev, ktab, klen, kcv] <;> rfl) (by simp only [kput] <;> rfl) ?_)
  refine OkOps.nil ?_
  refine Ok.cond (b := _) (by simp only [kev, ktab, klen, kcv] <;> rfl) (fun hb1 => ?_) (fun hb1 => ?_)
  · try simp only [bsimp] at hb1
    have h1 : d < 10 := by omega
    rw [fig_lt h1]
    refine Ok.seq ?_
    refine Ok.region ?_
    iterate 2 (refine OkOps.ev tab_ok rfl (by simp only [kev, ktab, klen, kcv] <;> rfl) (by simp only [kput] <;> rfl) ?_)
    refine OkOps.ev tab_ok rfl (by simp only [kev, ktab, klen, kcv, fig_byte h1] <;> rfl) (by simp only [kput] <;> rfl) ?_
    refine OkOps.ev tab_ok rfl (by simp only [kev, ktab, klen, kcv] <;> rfl) (by simp only [kput] <;> rfl) ?_
    refine OkOps.nil ?_
    refine Ok.ret ?_
    repeat (first | with_reducible refine thenQ_ret ?_ | with_reducible refine blockQ_ret ?_)
    refine retQ.end (by show resVs tab _ [.tmp 2] = _; simp only [kev, ktab, klen, kcv] <;> rfl) rfl ?_
    rfl
  · try simp only [bsimp] at hb1
    have h1 : ¬ d < 10 := by omega
    rw [fig_ge h1]
    refine Ok.skip ?_
    refine Ok.seq ?_
    refine Ok.region ?_
    iterate 3 (refine OkOps.ev tab_ok rfl (by simp only [kev, ktab, klen, kcv] <;> rfl) (by simp only [kput] <;> rfl) ?_)
    refine OkOps.ev tab_ok rfl (by simp only [kev, ktab, klen, kcv, fig_byte2 hd h1] <;> rfl) (by simp only [kput] <;> rfl) ?_
    refine OkOps.ev tab_ok rfl (by simp only [kev, ktab, klen, kcv] <;> rfl) (by simp only [kput] <;> rfl) ?_
    refine OkOps.nil ?_
    refine Ok.ret ?_
    repeat (first | with_reducible refine thenQ_ret ?_ | with_reducible refine blockQ_ret ?_)
    refine retQ.end (by show resVs tab _ [.tmp 2] = _; simp only [kev, ktab, klen, kcv] <;> rfl) rfl ?_
    rfl
theorem w_spec_Decimal (v : Int) : Weak Try.prog 125 [.int .i64 v] (.str (decimal v)) := by
  refine Weak.enter tab_ok Try.func125 rfl (.inr (by simp [V.labelsL, V.labels, zz, zf, zy])) (t := [.int .i64 v, .any, .any, .any, .any, .any, .any, .any, .any, .any, .any, .any, .any, .any, .any, .any, .any, .any, .any, .any, .any, .any, .any, .any, .any, .any, .any, .any, .any, .any]) rfl ?_
  refine Ok.seq ?_
  refine Ok.region ?_
  refine OkOps.ev tab_ok rfl (by simp only [kev, ktab, klen, kcv] <;> rfl) (by simp only [kput] <;> rfl) ?_
  refine OkOps.nil ?_
  refine Ok.seq ?_
  refine Ok.seq ?_
  refine Ok.region ?_
  iterate 2 (refine OkOps.ev tab_ok rfl (by simp only [kev, ktab, klen, kcv] <;> rfl) (by simp only [kput] <;> rfl) ?_)
  refine OkOps.nil ?_
  refine Ok.cond (b := _) (by simp only [kev, ktab, klen, kcv] <;> rfl) (fun hb1 => ?_) (fun hb1 => ?_)
  · try simp only [bsimp] at hb1
    have hz : v = 0 := by simpa using hb1
    rw [decimal_zero hz]
    refine Ok.seq ?_
    refine Ok.region ?_
    refine OkOps.ev tab_ok rfl (by simp only [kev, ktab, klen, kcv] <;> rfl) (by simp only [kput] <;> rfl) ?_
    refine OkOps.nil ?_
    refine Ok.ret ?_
    repeat (first | with_reducible refine thenQ_ret ?_ | with_reducible refine blockQ_ret ?_)
    refine retQ.end (by show resVs tab _ [.tmp 2] = _; simp only [kev, ktab, klen, kcv] <;> rfl) rfl ?_
    rfl
  · try simp only [bsimp] at hb1
    have hz : ¬ v = 0 := by simpa using hb1
    refine Ok.skip ?_
    refine Ok.seq ?_
    refine Ok.region ?_
    iterate 3 (refine OkOps.ev tab_ok rfl (by simp only [kev, ktab, klen, kcv] <;> rfl) (by simp only [kput] <;> rfl) ?_)
    refine OkOps.nil ?_
    refine Ok.seq ?_
    refine Ok.region ?_
    refine OkOps.ev tab_ok rfl (by simp only [kev, ktab, klen, kcv] <;> rfl) (by simp only [kput] <;> rfl) ?_
    refine OkOps.nil ?_
    refine Ok.seq ?_
    refine Ok.block ?_
    refine Ok.loopWZ (τ := Int × Str) (fun x => [(0, .int .i64 x.1), (4, .str x.2)]) [5, 10, 11, 12, 13, 14, 15, 16, 17, 18, 19, 20, 21, 22, 23, 24, 25] (fun x => by simp only [kover] <;> rfl) (fun x => decV x.1 x.2 = decV v []) (fun x => x.1.natAbs) (v, []) (by omega) (by refine ⟨?_, ?_, ?_, ?_, ?_, ?_, ?_, ?_, ?_, ?_, ?_, ?_, ?_, ?_, ?_, ?_, ?_, ?_, ?_, ?_, ?_, ?_, ?_, ?_, ?_, ?_, ?_, ?_, ?_, ?_, trivial⟩ <;> first | exact le_any _ | with_reducible exact le_rfl' _ | (exact le_rfl' _) | exact le_rfl' _) (rfl) ?_
    rintro ⟨m, acc⟩ h1
    have h1 : decV m acc = decV v [] := h1
    have h2 := decV_acc h1
    refine Ok.seq ?_
    refine Ok.seq ?_
    refine Ok.region ?_
    iterate 2 (refine OkOps.ev tab_ok rfl (by simp only [kev, ktab, klen, kcv] <;> rfl) (by simp only [kput] <;> rfl) ?_)
    refine OkOps.nil ?_
    refine Ok.cond (b := _) (by simp only [kev, ktab, klen, kcv] <;> rfl) (fun hb5 => ?_) (fun hb5 => ?_)
    · try simp only [bsimp] at hb5
      have hm : ¬ m = 0 := by simpa using hb5
      refine Ok.skip ?_
      refine Ok.block ?_
      refine Ok.seq ?_
      refine Ok.region ?_
      iterate 3 (refine OkOps.ev tab_ok rfl (by simp only [kev, ktab, klen, kcv] <;> rfl) (by simp only [kput] <;> rfl) ?_)
      refine OkOps.nil ?_
      refine Ok.seq ?_
      refine Ok.seq ?_
      refine Ok.region ?_
      iterate 2 (refine OkOps.ev tab_ok rfl (by simp only [kev, ktab, klen, kcv] <;> rfl) (by simp only [kput] <;> rfl) ?_)
      refine OkOps.nil ?_
      refine Ok.cond (b := _) (by simp only [kev, ktab, klen, kcv] <;> rfl) (fun hb7 => ?_) (fun hb7 => ?_)
      · try simp only [bsimp] at hb7
        have hdg := dg_neg (show m.tmod 10 < 0 by omega)
        refine Ok.region ?_
        refine OkOps.ev tab_ok rfl (by simp only [kev, ktab, klen, kcv] <;> rfl) (by simp only [kput] <;> rfl) ?_
        refine OkOps.ev tab_ok rfl (by simp only [kev, ktab, klen, kcv, hdg] <;> rfl) (by simp only [kput] <;> rfl) ?_
        refine OkOps.ev tab_ok rfl (by simp only [kev, ktab, klen, kcv] <;> rfl) (by simp only [kput] <;> rfl) ?_
        refine OkOps.nil ?_
        refine Ok.seq ?_
        refine Ok.region ?_
        refine OkOps.ev tab_ok rfl (by simp only [kev, ktab, klen, kcv, hdg] <;> rfl) (by simp only [kput] <;> rfl) ?_
        refine OkOps.S0 rfl (OpS.weak' rfl (by simp only [kev, ktab, klen, kcv] <;> rfl) (by simp only [kev, ktab, klen, kcv] <;> rfl) cl139 (w_spec_l01Figure (dg m) (by have := dg_lt m; omega))) (by simp only [kput] <;> rfl) ?_
        refine OkOps.ev tab_ok rfl (ev_bs (by simp only [ktab] <;> rfl) (by simp only [ktab] <;> rfl) (by decide) (by decide) (by simp only [kev, ktab, klen, kcv, List.map_cons, List.map_nil] <;> rfl) (by simp only [kfe, beq_self_eq_true, Bool.and_true, Bool.true_and, decide_true, Nat.zero_add, Nat.lt_add_one, Nat.reduceLT, Nat.reduceAdd, Nat.zero_lt_succ, if_true, ↓reduceIte] <;> rfl)) (by simp only [kput] <;> rfl) ?_
        refine OkOps.ev tab_ok rfl (ev_text' (by simp only [kev, ktab, klen, kcv] <;> rfl) rfl rfl rfl (by simp only [kby, Option.map_some, List.append_assoc, List.cons_append, List.nil_append] <;> rfl)) (by simp only [kput] <;> rfl) ?_
        refine OkOps.ev tab_ok rfl (by simp only [kev, ktab, klen, kcv] <;> rfl) (by simp only [kput] <;> rfl) ?_
        refine OkOps.ev tab_ok rfl (ev_cat (by simp only [kev, ktab, klen, kcv] <;> rfl) (by simp only [kev, ktab, klen, kcv] <;> rfl) (by first | omega | (simp only [List.length_cons, List.length_nil]; omega))) (by simp only [kput] <;> rfl) ?_
        refine OkOps.ev tab_ok rfl (by simp only [kev, ktab, klen, kcv] <;> rfl) (by simp only [kput] <;> rfl) ?_
        refine OkOps.nil ?_
        refine Ok.region ?_
        iterate 3 (refine OkOps.ev tab_ok rfl (by simp only [kev, ktab, klen, kcv] <;> rfl) (by simp only [kput] <;> rfl) ?_)
        refine OkOps.nil ?_
        refine ⟨(IntKind.i64.wrap (m.tdiv 10), fig (dg m) :: acc), ?_, rfl, by show decV _ _ = _; rw [← h1, decV_pos hm], quo_abs_lt hm⟩
        simp only [V.renL, V.travL, V.travLL, V.trav, frz, zz, zf, zy, Nat.reduceLeDiff, ↓reduceIte]
        refine ⟨?_, ?_, ?_, ?_, ?_, ?_, ?_, ?_, ?_, ?_, ?_, ?_, ?_, ?_, ?_, ?_, ?_, ?_, ?_, ?_, ?_, ?_, ?_, ?_, ?_, ?_, ?_, ?_, ?_, ?_, trivial⟩ <;> first | exact le_any _ | with_reducible exact le_rfl' _ | (exact le_rfl' _) | exact le_rfl' _
      · try simp only [bsimp] at hb7
        have hdg := dg_pos (show ¬ m.tmod 10 < 0 by omega)
        refine Ok.skip ?_
        refine Ok.seq ?_
        refine Ok.region ?_
        refine OkOps.ev tab_ok rfl (by simp only [kev, ktab, klen, kcv, hdg] <;> rfl) (by simp only [kput] <;> rfl) ?_
        refine OkOps.S0 rfl (OpS.weak' rfl (by simp only [kev, ktab, klen, kcv] <;> rfl) (by simp only [kev, ktab, klen, kcv] <;> rfl) cl139 (w_spec_l01Figure (dg m) (by have := dg_lt m; omega))) (by simp only [kput] <;> rfl) ?_
        refine OkOps.ev tab_ok rfl (ev_bs (by simp only [ktab] <;> rfl) (by simp only [ktab] <;> rfl) (by decide) (by decide) (by simp only [kev, ktab, klen, kcv, List.map_cons, List.map_nil] <;> rfl) (by simp only [kfe, beq_self_eq_true, Bool.and_true, Bool.true_and, decide_true, Nat.zero_add, Nat.lt_add_one, Nat.reduceLT, Nat.reduceAdd, Nat.zero_lt_succ, if_true, ↓reduceIte] <;> rfl)) (by simp only [kput] <;> rfl) ?_
        refine OkOps.ev tab_ok rfl (ev_text' (by simp only [kev, ktab, klen, kcv] <;> rfl) rfl rfl rfl (by simp only [kby, Option.map_some, List.append_assoc, List.cons_append, List.nil_append] <;> rfl)) (by simp only [kput] <;> rfl) ?_
        refine OkOps.ev tab_ok rfl (by simp only [kev, ktab, klen, kcv] <;> rfl) (by simp only [kput] <;> rfl) ?_
        refine OkOps.ev tab_ok rfl (ev_cat (by simp only [kev, ktab, klen, kcv] <;> rfl) (by simp only [kev, ktab, klen, kcv] <;> rfl) (by first | omega | (simp only [List.length_cons, List.length_nil]; omega))) (by simp only [kput] <;> rfl) ?_
        refine OkOps.ev tab_ok rfl (by simp only [kev, ktab, klen, kcv] <;> rfl) (by simp only [kput] <;> rfl) ?_
        refine OkOps.nil ?_
        refine Ok.region ?_
        iterate 3 (refine OkOps.ev tab_ok rfl (by simp only [kev, ktab, klen, kcv] <;> rfl) (by simp only [kput] <;> rfl) ?_)
        refine OkOps.nil ?_
        refine ⟨(IntKind.i64.wrap (m.tdiv 10), fig (dg m) :: acc), ?_, rfl, by show decV _ _ = _; rw [← h1, decV_pos hm], quo_abs_lt hm⟩
        simp only [V.renL, V.travL, V.travLL, V.trav, frz, zz, zf, zy, Nat.reduceLeDiff, ↓reduceIte]
        refine ⟨?_, ?_, ?_, ?_, ?_, ?_, ?_, ?_, ?_, ?_, ?_, ?_, ?_, ?_, ?_, ?_, ?_, ?_, ?_, ?_, ?_, ?_, ?_, ?_, ?_, ?_, ?_, ?_, ?_, ?_, trivial⟩ <;> first | exact le_any _ | with_reducible exact le_rfl' _ | (exact le_rfl' _) | exact le_rfl' _
    · try simp only [bsimp] at hb5
      have hm : m = 0 := by simpa using hb5
      rw [decV_zero hm] at h1
      subst h1
      refine Ok.exit ?_
      refine Ok.seq ?_
      refine Ok.seq ?_
      refine Ok.region ?_
      refine OkOps.ev tab_ok rfl (by simp only [kev, ktab, klen, kcv] <;> rfl) (by simp only [kput] <;> rfl) ?_
      refine OkOps.nil ?_
      refine Ok.cond (b := _) (by simp only [kev, ktab, klen, kcv] <;> rfl) (fun hb11 => ?_) (fun hb11 => ?_)
      · try simp only [bsimp] at hb11
        rw [decimal_neg (show v < 0 by omega)]
        refine Ok.seq ?_
        refine Ok.region ?_
        refine OkOps.ev tab_ok rfl (by simp only [kev, ktab, klen, kcv] <;> rfl) (by simp only [kput] <;> rfl) ?_
        refine OkOps.ev tab_ok rfl (ev_cat (by simp only [kev, ktab, klen, kcv] <;> rfl) (by simp only [kev, ktab, klen, kcv] <;> rfl) (by first | omega | (simp only [List.length_cons, List.length_nil]; omega))) (by simp only [kput] <;> rfl) ?_
        refine OkOps.ev tab_ok rfl (by simp only [kev, ktab, klen, kcv] <;> rfl) (by simp only [kput] <;> rfl) ?_
        refine OkOps.nil ?_
        refine Ok.ret ?_
        repeat (first | with_reducible refine thenQ_ret ?_ | with_reducible refine blockQ_ret ?_)
        refine retQ.end (by show resVs tab _ [.tmp 2] = _; simp only [kev, ktab, klen, kcv] <;> rfl) rfl ?_
        rfl
      · try simp only [bsimp] at hb11
        rw [decimal_pos hz (show ¬ v < 0 by omega)]
        refine Ok.skip ?_
        refine Ok.seq ?_
        refine Ok.region ?_
        iterate 2 (refine OkOps.ev tab_ok rfl (by simp only [kev, ktab, klen, kcv] <;> rfl) (by simp only [kput] <;> rfl) ?_)
        refine OkOps.nil ?_
        refine Ok.ret ?_
        repeat (first | with_reducible refine thenQ_ret ?_ | with_reducible refine blockQ_ret ?_)
        refine retQ.end (by show resVs tab _ [.tmp 2] = _; simp only [kev, ktab, klen, kcv] <;> rfl) rfl ?_
        rfl
theorem w_impl_Decimal (v : Int) : Weak Try.prog 128 [.int .i64 v] (.str (decimal v)) := by
  refine Weak.enter tab_ok Try.func128 rfl (.inr (by simp [V.labelsL, V.labels, zz, zf, zy])) (t := [.int .i64 v, .any, .any, .any, .any, .any, .any, .any, .any, .any, .any, .any, .any, .any, .any, .any, .any, .any, .any, .any, .any, .any, .any, .any, .any, .any, .any, .any, .any, .any]) rfl ?_
  refine Ok.seq ?_
  refine Ok.region ?_
  refine OkOps.ev tab_ok rfl (by simp only [kev, ktab, klen, kcv] <;> rfl) (by simp only [kput] <;> rfl) ?_
  refine OkOps.nil ?_
  refine Ok.seq ?_
  refine Ok.seq ?_
  refine Ok.region ?_
  iterate 2 (refine OkOps.ev tab_ok rfl (by simp only [kev, ktab, klen, kcv] <;> rfl) (by simp only [kput] <;> rfl) ?_)
  refine OkOps.nil ?_
  refine Ok.cond (b := _) (by simp only [kev, ktab, klen, kcv] <;> rfl) (fun hb1 => ?_) (fun hb1 => ?_)
  · try simp only [bsimp] at hb1
    have hz : v = 0 := by simpa using hb1
    rw [decimal_zero hz]
    refine Ok.seq ?_
    refine Ok.region ?_
    refine OkOps.ev tab_ok rfl (by simp only [kev, ktab, klen, kcv] <;> rfl) (by simp only [kput] <;> rfl) ?_
    refine OkOps.nil ?_
    refine Ok.ret ?_
    repeat (first | with_reducible refine thenQ_ret ?_ | with_reducible refine blockQ_ret ?_)
    refine retQ.end (by show resVs tab _ [.tmp 2] = _; simp only [kev, ktab, klen, kcv] <;> rfl) rfl ?_
    rfl
  · try simp only [bsimp] at hb1
    have hz : ¬ v = 0 := by simpa using hb1
    refine Ok.skip ?_
    refine Ok.seq ?_
    refine Ok.region ?_
    refine OkOps.ev tab_ok rfl (by simp only [kev, ktab, klen, kcv] <;> rfl) (by simp only [kput] <;> rfl) ?_
    refine OkOps.nil ?_
    refine Ok.seq ?_
    refine Ok.seq ?_
    refine Ok.region ?_
    iterate 2 (refine OkOps.ev tab_ok rfl (by simp only [kev, ktab, klen, kcv] <;> rfl) (by simp only [kput] <;> rfl) ?_)
    refine OkOps.nil ?_
    refine Ok.block ?_
    refine Ok.loopW (τ := Int × Str) (fun x => [(3, .str x.2), (4, .int .i64 x.1)]) [5, 9, 10, 11, 12, 13, 14, 15, 16, 17, 18, 19, 20, 21, 22, 23, 24] (fun x => by simp only [kover] <;> rfl) (fun x => decV x.1 x.2 = decV v []) (fun x => x.1.natAbs) (v, []) (by refine ⟨?_, ?_, ?_, ?_, ?_, ?_, ?_, ?_, ?_, ?_, ?_, ?_, ?_, ?_, ?_, ?_, ?_, ?_, ?_, ?_, ?_, ?_, ?_, ?_, ?_, ?_, ?_, ?_, ?_, ?_, trivial⟩ <;> first | exact le_any _ | with_reducible exact le_rfl' _ | (exact le_rfl' _) | exact le_rfl' _) (rfl) ?_
    rintro ⟨m, acc⟩ h1
    have h1 : decV m acc = decV v [] := h1
    have h2 := decV_acc h1
    refine Ok.seq ?_
    refine Ok.seq ?_
    refine Ok.region ?_
    iterate 2 (refine OkOps.ev tab_ok rfl (by simp only [kev, ktab, klen, kcv] <;> rfl) (by simp only [kput] <;> rfl) ?_)
    refine OkOps.nil ?_
    refine Ok.cond (b := _) (by simp only [kev, ktab, klen, kcv] <;> rfl) (fun hb5 => ?_) (fun hb5 => ?_)
    · try simp only [bsimp] at hb5
      have hm : ¬ m = 0 := by simpa using hb5
      have hdl := dg_lt m
      refine Ok.skip ?_
      refine Ok.seq ?_
      refine Ok.block ?_
      refine Ok.seq ?_
      refine Ok.region ?_
      iterate 3 (refine OkOps.ev tab_ok rfl (by simp only [kev, ktab, klen, kcv] <;> rfl) (by simp only [kput] <;> rfl) ?_)
      refine OkOps.nil ?_
      refine Ok.seq ?_
      refine Ok.region ?_
      iterate 4 (refine OkOps.ev tab_ok rfl (by simp only [kev, ktab, klen, kcv] <;> rfl) (by simp only [kput] <;> rfl) ?_)
      refine OkOps.ev tab_ok rfl (by simp only [kev, ktab, klen, kcv, if_true, dg_max] <;> rfl) (by simp only [kput] <;> rfl) ?_
      refine OkOps.nil ?_
      refine Ok.region ?_
      iterate 2 (refine OkOps.ev tab_ok rfl (by simp only [kev, ktab, klen, kcv, if_true, dg_max] <;> rfl) (by simp only [kput] <;> rfl) ?_)
      refine OkOps.ev tab_ok rfl (by simp only [kev, ktab, klen, kcv, wrap_add_one (show dg m + 1 ≤ 9223372036854775807 by omega)] <;> rfl) (by simp only [kput] <;> rfl) ?_
      refine OkOps.ev tab_ok rfl (ev_cut (by simp only [kev, ktab, klen, kcv] <;> rfl) (by simp only [kev, ktab, klen, kcv] <;> rfl) (by simp only [kev, ktab, klen, kcv] <;> rfl) rfl (by omega) (by simp only [List.length_cons, List.length_nil]; omega)) (by simp only [kput] <;> rfl) ?_
      refine OkOps.ev tab_ok rfl (by simp only [kev, ktab, klen, kcv] <;> rfl) (by simp only [kput] <;> rfl) ?_
      refine OkOps.ev tab_ok rfl (ev_cat (by simp only [kev, ktab, klen, kcv, fig_cut (show dg m < 16 by omega)] <;> rfl) (by simp only [kev, ktab, klen, kcv, fig_cut (show dg m < 16 by omega)] <;> rfl) (by first | omega | (simp only [List.length_cons, List.length_nil]; omega) | (rw [fig_cut (by omega)]; simp only [List.length_cons, List.length_nil]; omega))) (by simp only [kput] <;> rfl) ?_
      refine OkOps.ev tab_ok rfl (by simp only [kev, ktab, klen, kcv] <;> rfl) (by simp only [kput] <;> rfl) ?_
      refine OkOps.nil ?_
      refine Ok.region ?_
      iterate 3 (refine OkOps.ev tab_ok rfl (by simp only [kev, ktab, klen, kcv] <;> rfl) (by simp only [kput] <;> rfl) ?_)
      refine OkOps.nil ?_
      refine ⟨(IntKind.i64.wrap (m.tdiv 10), fig (dg m) :: acc), ?_, rfl, rfl, by show decV _ _ = _; rw [← h1, decV_pos hm], quo_abs_lt hm⟩
      refine ⟨?_, ?_, ?_, ?_, ?_, ?_, ?_, ?_, ?_, ?_, ?_, ?_, ?_, ?_, ?_, ?_, ?_, ?_, ?_, ?_, ?_, ?_, ?_, ?_, ?_, ?_, ?_, ?_, ?_, ?_, trivial⟩ <;> first | exact le_any _ | with_reducible exact le_rfl' _ | (exact le_rfl' _) | exact le_rfl' _
    · try simp only [bsimp] at hb5
      have hm : m = 0 := by simpa using hb5
      rw [decV_zero hm] at h1
      subst h1
      refine Ok.exit ?_
      refine Ok.seq ?_
      refine Ok.seq ?_
      refine Ok.region ?_
      iterate 2 (refine OkOps.ev tab_ok rfl (by simp only [kev, ktab, klen, kcv] <;> rfl) (by simp only [kput] <;> rfl) ?_)
      refine OkOps.nil ?_
      refine Ok.cond (b := _) (by simp only [kev, ktab, klen, kcv] <;> rfl) (fun hb10 => ?_) (fun hb10 => ?_)
      · try simp only [bsimp] at hb10
        rw [decimal_neg (show v < 0 by omega)]
        refine Ok.region ?_
        refine OkOps.ev tab_ok rfl (by simp only [kev, ktab, klen, kcv] <;> rfl) (by simp only [kput] <;> rfl) ?_
        refine OkOps.ev tab_ok rfl (ev_cat (by simp only [kev, ktab, klen, kcv] <;> rfl) (by simp only [kev, ktab, klen, kcv] <;> rfl) (by first | omega | (simp only [List.length_cons, List.length_nil]; omega) | (rw [fig_cut (by omega)]; simp only [List.length_cons, List.length_nil]; omega))) (by simp only [kput] <;> rfl) ?_
        refine OkOps.ev tab_ok rfl (by simp only [kev, ktab, klen, kcv] <;> rfl) (by simp only [kput] <;> rfl) ?_
        refine OkOps.nil ?_
        refine Ok.seq ?_
        refine Ok.region ?_
        iterate 2 (refine OkOps.ev tab_ok rfl (by simp only [kev, ktab, klen, kcv] <;> rfl) (by simp only [kput] <;> rfl) ?_)
        refine OkOps.nil ?_
        refine Ok.ret ?_
        repeat (first | with_reducible refine thenQ_ret ?_ | with_reducible refine blockQ_ret ?_)
        refine retQ.end (by show resVs tab _ [.tmp 2] = _; simp only [kev, ktab, klen, kcv] <;> rfl) rfl ?_
        rfl
      · try simp only [bsimp] at hb10
        rw [decimal_pos hz (show ¬ v < 0 by omega)]
        refine Ok.skip ?_
        refine Ok.seq ?_
        refine Ok.region ?_
        iterate 2 (refine OkOps.ev tab_ok rfl (by simp only [kev, ktab, klen, kcv] <;> rfl) (by simp only [kput] <;> rfl) ?_)
        refine OkOps.nil ?_
        refine Ok.ret ?_
        repeat (first | with_reducible refine thenQ_ret ?_ | with_reducible refine blockQ_ret ?_)
        refine retQ.end (by show resVs tab _ [.tmp 2] = _; simp only [kev, ktab, klen, kcv] <;> rfl) rfl ?_
        rfl
theorem w_spec_l09Num (v : Int) : Weak Try.prog 102 [.int .i64 v] (.str (numS v)) := by
  refine Weak.enter tab_ok Try.func102 rfl (.inr (by simp [V.labelsL, V.labels, zz, zf, zy])) (t := [.int .i64 v, .any, .any, .any, .any, .any, .any]) rfl ?_
  refine Ok.seq ?_
  refine Ok.region ?_
  refine OkOps.ev tab_ok rfl (by simp only [kev, ktab, klen, kcv] <;> rfl) (by simp only [kput] <;> rfl) ?_
  refine OkOps.nil ?_
  refine Ok.seq ?_
  refine Ok.seq ?_
  refine Ok.region ?_
  iterate 2 (refine OkOps.ev tab_ok rfl (by simp only [kev, ktab, klen, kcv] <;> rfl) (by simp only [kput] <;> rfl) ?_)
  refine OkOps.nil ?_
  refine Ok.cond (b := _) (by simp only [kev, ktab, klen, kcv] <;> rfl) (fun hb1 => ?_) (fun hb1 => ?_)
  · try simp only [bsimp] at hb1
    rw [numS_neg (show v < 0 by omega)]
    refine Ok.seq ?_
    refine Ok.region ?_
    refine OkOps.ev tab_ok rfl (by simp only [kev, ktab, klen, kcv] <;> rfl) (by simp only [kput] <;> rfl) ?_
    refine OkOps.nil ?_
    refine Ok.ret ?_
    repeat (first | with_reducible refine thenQ_ret ?_ | with_reducible refine blockQ_ret ?_)
    refine retQ.end (by show resVs tab _ [.tmp 2] = _; simp only [kev, ktab, klen, kcv] <;> rfl) rfl ?_
    rfl
  · try simp only [bsimp] at hb1
    rw [numS_pos (show ¬ v < 0 by omega)]
    refine Ok.skip ?_
    refine Ok.seq ?_
    refine Ok.region ?_
    refine OkOps.ev tab_ok rfl (by simp only [kev, ktab, klen, kcv] <;> rfl) (by simp only [kput] <;> rfl) ?_
    refine OkOps.S0 rfl (OpS.weak' rfl (by simp only [kev, ktab, klen, kcv] <;> rfl) (by simp only [kev, ktab, klen, kcv] <;> rfl) cl125 (w_spec_Decimal v)) (by simp only [kput] <;> rfl) ?_
    refine OkOps.ev tab_ok rfl (by simp only [kev, ktab, klen, kcv] <;> rfl) (by simp only [kput] <;> rfl) ?_
    refine OkOps.nil ?_
    refine Ok.ret ?_
    repeat (first | with_reducible refine thenQ_ret ?_ | with_reducible refine blockQ_ret ?_)
    refine retQ.end (by show resVs tab _ [.tmp 2] = _; simp only [kev, ktab, klen, kcv] <;> rfl) rfl ?_
    rfl
theorem w_impl_told (v : Int) : Weak Try.prog 104 [.int .i64 v] (.str (numS v)) := by
  refine Weak.enter tab_ok Try.func104 rfl (.inr (by simp [V.labelsL, V.labels, zz, zf, zy])) (t := [.int .i64 v, .any, .any, .any, .any, .any]) rfl ?_
  refine Ok.seq ?_
  refine Ok.region ?_
  refine OkOps.ev tab_ok rfl (by simp only [kev, ktab, klen, kcv] <;> rfl) (by simp only [kput] <;> rfl) ?_
  refine OkOps.nil ?_
  refine Ok.seq ?_
  refine Ok.region ?_
  iterate 2 (refine OkOps.ev tab_ok rfl (by simp only [kev, ktab, klen, kcv] <;> rfl) (by simp only [kput] <;> rfl) ?_)
  refine OkOps.S0 rfl (OpS.weak' rfl (by simp only [kev, ktab, klen, kcv] <;> rfl) (by simp only [kev, ktab, klen, kcv] <;> rfl) cl128 (w_impl_Decimal (if v > 0 then v else 0))) (by simp only [kput] <;> rfl) ?_
  refine OkOps.ev tab_ok rfl (by simp only [kev, ktab, klen, kcv] <;> rfl) (by simp only [kput] <;> rfl) ?_
  refine OkOps.nil ?_
  refine Ok.ret ?_
  repeat (first | with_reducible refine thenQ_ret ?_ | with_reducible refine blockQ_ret ?_)
  refine retQ.end (by show resVs tab _ [.tmp 2] = _; simp only [kev, ktab, klen, kcv] <;> rfl) rfl ?_
  rfl
theorem w_spec_Hex (s : Str) : Weak Try.prog 126 [.str s] (.tup [.str (hexS s), .bool (!decide (s.length > 20000))]) := by
  refine Weak.enter tab_ok Try.func126 rfl (.inr (by simp [V.labelsL, V.labels, zz, zf, zy])) (t := [.str s, .any, .any, .any, .any, .any, .any, .any, .any, .any, .any, .any, .any, .any, .any, .any, .any, .any, .any, .any, .any, .any, .any, .any, .any, .any, .any, .any, .any, .any, .any, .any, .any]) rfl ?_
  refine Ok.seq ?_
  refine Ok.region ?_
  iterate 2 (refine OkOps.ev tab_ok rfl (by simp only [kev, ktab, klen, kcv] <;> rfl) (by simp only [kput] <;> rfl) ?_)
  refine OkOps.nil ?_
  refine Ok.seq ?_
  refine Ok.seq ?_
  refine Ok.region ?_
  iterate 3 (refine OkOps.ev tab_ok rfl (by simp only [kev, ktab, klen, kcv] <;> rfl) (by simp only [kput] <;> rfl) ?_)
  refine OkOps.nil ?_
  refine Ok.cond (b := _) (by simp only [kev, ktab, klen, kcv] <;> rfl) (fun hb1 => ?_) (fun hb1 => ?_)
  · try simp only [bsimp] at hb1
    have hl : s.length > 20000 := by omega
    rw [hexS_off hl, decide_eq_true hl]
    refine Ok.seq ?_
    refine Ok.region ?_
    iterate 2 (refine OkOps.ev tab_ok rfl (by simp only [kev, ktab, klen, kcv] <;> rfl) (by simp only [kput] <;> rfl) ?_)
    refine OkOps.nil ?_
    refine Ok.ret ?_
    repeat (first | with_reducible refine thenQ_ret ?_ | with_reducible refine blockQ_ret ?_)
    refine retQ.end (by show resVs tab _ [.tmp 2, .tmp 3] = _; simp only [kev, ktab, klen, kcv] <;> rfl) rfl ?_
    first | rfl | (simp [V.erase, V.trav, packV]; done)
  · try simp only [bsimp] at hb1
    have hl : ¬ s.length > 20000 := by omega
    rw [hexS_on hl, decide_eq_false hl]
    refine Ok.skip ?_
    refine Ok.seq ?_
    refine Ok.region ?_
    iterate 2 (refine OkOps.ev tab_ok rfl (by simp only [kev, ktab, klen, kcv] <;> rfl) (by simp only [kput] <;> rfl) ?_)
    refine OkOps.nil ?_
    refine Ok.seq ?_
    refine Ok.seq ?_
    refine Ok.region ?_
    refine OkOps.ev tab_ok rfl (by simp only [kev, ktab, klen, kcv] <;> rfl) (by simp only [kput] <;> rfl) ?_
    refine OkOps.nil ?_
    refine Ok.block ?_
    refine Ok.bump (n' := 2) (by omega) ?_
    refine Ok.loopWZ (τ := Nat) (fun x => [(4, .sl 1 1 0 ((hexL (s.take x)).map cB)), (5, .int .i64 (x : Int))]) [10, 11, 12, 13, 14, 15, 16, 17, 18, 19, 20, 21, 22, 23, 24, 25, 26, 27, 28, 29, 30] (fun x => by simp only [kover] <;> rfl) (fun x => x ≤ s.length) (fun x => s.length - x) 0 (by omega) (by refine ⟨?_, ?_, ?_, ?_, ?_, ?_, ?_, ?_, ?_, ?_, ?_, ?_, ?_, ?_, ?_, ?_, ?_, ?_, ?_, ?_, ?_, ?_, ?_, ?_, ?_, ?_, ?_, ?_, ?_, ?_, ?_, ?_, ?_, trivial⟩ <;> first | exact le_any _ | with_reducible exact le_rfl' _ | (first | exact le_rfl' _ | exact le_nil 1 1) | exact le_rfl' _) (Nat.zero_le _) ?_
    rintro i h1
    refine Ok.seq ?_
    refine Ok.seq ?_
    refine Ok.region ?_
    iterate 4 (refine OkOps.ev tab_ok rfl (by simp only [kev, ktab, klen, kcv] <;> rfl) (by simp only [kput] <;> rfl) ?_)
    refine OkOps.nil ?_
    refine Ok.cond (b := _) (by simp only [kev, ktab, klen, kcv] <;> rfl) (fun hb5 => ?_) (fun hb5 => ?_)
    · try simp only [bsimp] at hb5
      have hi : i < s.length := by omega
      have hn := flat_next (f := hexC) hi
      have hll := hexL_len (s.take i)
      have hlt : (s.take i).length = i := by rw [List.length_take]; omega
      have hc1 : s[i].toNat / 16 < 16 := by have := s[i].toNat_lt; omega
      refine Ok.skip ?_
      refine Ok.seq ?_
      refine Ok.block ?_
      refine Ok.drawn 14 33 [] (by kernel_rfl) (by kernel_rfl) rfl ?_
      refine SOps.ev tab_ok rfl (by simp only [kev, ktab, klen, kcv] <;> rfl) (by simp only [kput] <;> rfl) ?_
      refine SOps.ev tab_ok rfl (by simp only [kev, ktab, klen, kcv] <;> rfl) (by simp only [kput] <;> rfl) ?_
      refine SOps.ev tab_ok rfl (by simp only [kev, ktab, klen, kcv] <;> rfl) (by simp only [kput] <;> rfl) ?_
      refine SOps.ev tab_ok rfl (ev_byte_lt (by simp only [kev, ktab, klen, kcv] <;> rfl) (by simp only [kev, ktab, klen, kcv] <;> rfl) (hi) rfl) (by simp only [kput] <;> rfl) ?_
      refine SOps.ev tab_ok rfl (by simp only [kev, ktab, klen, kcv, four_b] <;> rfl) (by simp only [kput] <;> rfl) ?_
      refine SOps.ev tab_ok rfl (by simp only [kev, ktab, klen, kcv, quo16] <;> rfl) (by simp only [kput] <;> rfl) ?_
      refine SOps.S0 rfl (OpS.weakM rfl (by simp only [kev, ktab, klen, kcv] <;> rfl) (by simp only [kev, ktab, klen, kcv] <;> rfl) cl139 (w_spec_l01Figure (s[i].toNat / 16) hc1)) (by simp only [kput] <;> rfl) ?_
      refine SOps.ev tab_ok rfl (by simp only [kev, ktab, klen, kcv] <;> rfl) (by simp only [kput] <;> rfl) ?_
      refine SOps.ev tab_ok rfl (by simp only [kev, ktab, klen, kcv] <;> rfl) (by simp only [kput] <;> rfl) ?_
      refine SOps.ev tab_ok rfl (ev_byte_lt (by simp only [kev, ktab, klen, kcv] <;> rfl) (by simp only [kev, ktab, klen, kcv] <;> rfl) (hi) rfl) (by simp only [kput] <;> rfl) ?_
      refine SOps.ev tab_ok rfl (by simp only [kev, ktab, klen, kcv, four_b] <;> rfl) (by simp only [kput] <;> rfl) ?_
      refine SOps.ev tab_ok rfl (by simp only [kev, ktab, klen, kcv, rem16] <;> rfl) (by simp only [kput] <;> rfl) ?_
      refine SOps.S0 rfl (OpS.weakM rfl (by simp only [kev, ktab, klen, kcv] <;> rfl) (by simp only [kev, ktab, klen, kcv] <;> rfl) cl139 (w_spec_l01Figure (s[i].toNat % 16) (Nat.mod_lt _ (by decide)))) (by simp only [kput] <;> rfl) ?_
      refine SOps.ev tab_ok rfl (ev_bs (by simp only [ktab] <;> rfl) (by simp only [ktab] <;> rfl) (by decide) (by decide) (by simp only [kev, ktab, klen, kcv, List.map_cons, List.map_nil] <;> rfl) (by simp only [kfe, beq_self_eq_true, Bool.and_true, Bool.true_and, decide_true, Nat.zero_add, Nat.lt_add_one, Nat.reduceLT, Nat.reduceAdd, Nat.zero_lt_succ, if_true, ↓reduceIte] <;> rfl)) (by simp only [kput] <;> rfl) ?_
      refine SOps.nil ?_
      refine TOps.append tab_ok rfl rfl (by simp only [ktab] <;> rfl) (by simp only [ktab] <;> rfl) (by decide) rfl (by simp only [kev, ktab, klen, kcv] <;> rfl) (.inl ⟨_, _, by simp only [kev, ktab, klen, kcv] <;> rfl⟩) (by omega) (by omega) (by simp only [List.length_map, List.length_cons, List.length_nil]; omega) (by simp only [List.length_map, List.length_cons, List.length_nil]; omega) (by simp [V.one]) (by simp only [V.killL, V.killLL, V.travL, V.travLL, V.trav, killS, killP, Nat.reduceEqDiff, ↓reduceIte, reduceCtorEq, if_true, if_false, List.append_nil, List.nil_append, List.cons_append, zz, zf, zy] <;> rfl) (by simp only [V.killL, V.killLL, V.travL, V.travLL, V.trav, killS, killP, Nat.reduceEqDiff, ↓reduceIte, reduceCtorEq, if_true, if_false, List.append_nil, List.nil_append, List.cons_append, zz, zf, zy, kput] <;> rfl) (rfl) ?_
      refine TOps.ev tab_ok rfl (by simp only [kev, ktab, klen, kcv] <;> rfl) (by simp only [kput] <;> rfl) ?_
      refine TOps.nil ?_
      refine Ok.region ?_
      iterate 3 (refine OkOps.ev tab_ok rfl (by simp only [kev, ktab, klen, kcv] <;> rfl) (by simp only [kput] <;> rfl) ?_)
      refine OkOps.nil ?_
      refine ⟨i + 1, ?_, rfl, by omega, by omega⟩
      simp only [V.renL, V.travL, V.travLL, V.trav, frz, zz, zf, zy, Nat.reduceLeDiff, ↓reduceIte]
      refine ⟨?_, ?_, ?_, ?_, ?_, ?_, ?_, ?_, ?_, ?_, ?_, ?_, ?_, ?_, ?_, ?_, ?_, ?_, ?_, ?_, ?_, ?_, ?_, ?_, ?_, ?_, ?_, ?_, ?_, ?_, ?_, ?_, ?_, trivial⟩ <;> first | exact le_any _ | with_reducible exact le_rfl' _ | (first | exact le_rfl' _ | (rw [wrap_add_one (by omega)]; exact le_rfl' _) | (refine le_eq ?_; unfold hexL at *; rw [hn]; simp [hexC, cB])) | exact le_rfl' _
    · try simp only [bsimp] at hb5
      obtain rfl : i = s.length := by omega
      have hll := hexL_len s
      rw [List.take_length] at *
      refine Ok.exit ?_
      refine Ok.seq ?_
      refine Ok.region ?_
      refine OkOps.ev tab_ok rfl (by simp only [kev, ktab, klen, kcv] <;> rfl) (by simp only [kput] <;> rfl) ?_
      refine OkOps.ev tab_ok rfl (ev_text' (by simp only [kev, ktab, klen, kcv] <;> rfl) rfl rfl rfl (by simp only [kby, Option.map_some, List.append_assoc, List.cons_append, List.nil_append] <;> rfl)) (by simp only [kput] <;> rfl) ?_
      iterate 2 (refine OkOps.ev tab_ok rfl (by simp only [kev, ktab, klen, kcv] <;> rfl) (by simp only [kput] <;> rfl) ?_)
      refine OkOps.nil ?_
      refine Ok.ret ?_
      repeat (first | with_reducible refine thenQ_ret ?_ | with_reducible refine blockQ_ret ?_)
      refine retQ.end (by show resVs tab _ [.tmp 2, .tmp 3] = _; simp only [kev, ktab, klen, kcv] <;> rfl) rfl ?_
      first | rfl | (simp [V.erase, V.trav, packV]; done)
theorem w_impl_Hex (s : Str) : Weak Try.prog 129 [.str s] (.tup [.str (hexS s), .bool (!decide (s.length > 20000))]) := by
  refine Weak.enter tab_ok Try.func129 rfl (.inr (by simp [V.labelsL, V.labels, zz, zf, zy])) (t := [.str s, .any, .any, .any, .any, .any, .any, .any, .any, .any, .any, .any, .any, .any, .any, .any, .any, .any, .any, .any, .any, .any, .any, .any, .any, .any, .any, .any, .any, .any, .any, .any, .any, .any]) rfl ?_
  refine Ok.seq ?_
  refine Ok.region ?_
  iterate 2 (refine OkOps.ev tab_ok rfl (by simp only [kev, ktab, klen, kcv] <;> rfl) (by simp only [kput] <;> rfl) ?_)
  refine OkOps.nil ?_
  refine Ok.seq ?_
  refine Ok.seq ?_
  refine Ok.region ?_
  iterate 3 (refine OkOps.ev tab_ok rfl (by simp only [kev, ktab, klen, kcv] <;> rfl) (by simp only [kput] <;> rfl) ?_)
  refine OkOps.nil ?_
  refine Ok.cond (b := _) (by simp only [kev, ktab, klen, kcv] <;> rfl) (fun hb1 => ?_) (fun hb1 => ?_)
  · try simp only [bsimp] at hb1
    have hl : s.length > 20000 := by omega
    rw [hexS_off hl, decide_eq_true hl]
    refine Ok.seq ?_
    refine Ok.region ?_
    iterate 2 (refine OkOps.ev tab_ok rfl (by simp only [kev, ktab, klen, kcv] <;> rfl) (by simp only [kput] <;> rfl) ?_)
    refine OkOps.nil ?_
    refine Ok.ret ?_
    repeat (first | with_reducible refine thenQ_ret ?_ | with_reducible refine blockQ_ret ?_)
    refine retQ.end (by show resVs tab _ [.tmp 2, .tmp 3] = _; simp only [kev, ktab, klen, kcv] <;> rfl) rfl ?_
    first | rfl | (simp [V.erase, V.trav, packV]; done)
  · try simp only [bsimp] at hb1
    have hl : ¬ s.length > 20000 := by omega
    rw [hexS_on hl, decide_eq_false hl]
    refine Ok.skip ?_
    refine Ok.seq ?_
    refine Ok.region ?_
    iterate 2 (refine OkOps.ev tab_ok rfl (by simp only [kev, ktab, klen, kcv] <;> rfl) (by simp only [kput] <;> rfl) ?_)
    refine OkOps.ev tab_ok rfl (by simp only [kev, ktab, klen, kcv, two_len hl] <;> rfl) (by simp only [kput] <;> rfl) ?_
    refine OkOps.S' rfl (ok_makeSlice (a := 0) (b := ((2 * s.length : Nat) : Int)) tab_ok (by simp only [ktab] <;> rfl) (by simp only [ktab] <;> rfl) (by decide) rfl rfl (by simp only [kev, klen] <;> rfl) (by simp only [kev, klen, two_len hl] <;> rfl) (by omega) (by omega) (by omega) (by show ((1 : Nat) : Int) * _ ≤ _; omega)) (by simp only [Nat.reduceAdd] <;> rfl) (by simp only [kput, Int.toNat_zero, List.replicate_zero] <;> rfl) ?_
    refine OkOps.ev tab_ok rfl (by simp only [kev, ktab, klen, kcv] <;> rfl) (by simp only [kput] <;> rfl) ?_
    refine OkOps.nil ?_
    refine Ok.seq ?_
    refine Ok.seq ?_
    refine Ok.region ?_
    refine OkOps.ev tab_ok rfl (by simp only [kev, ktab, klen, kcv] <;> rfl) (by simp only [kput] <;> rfl) ?_
    refine OkOps.nil ?_
    refine Ok.block ?_
    refine Ok.bump (n' := 2) (by omega) ?_
    refine Ok.loopWZ (τ := Nat) (fun x => [(4, .sl 1 1 0 ((hexL (s.take x)).map cB)), (5, .int .i64 (x : Int))]) [12, 13, 14, 15, 16, 17, 18, 19, 20, 21, 22, 23, 24, 25, 26, 27, 28, 29, 30, 31] (fun x => by simp only [kover] <;> rfl) (fun x => x ≤ s.length) (fun x => s.length - x) 0 (by omega) (by refine ⟨?_, ?_, ?_, ?_, ?_, ?_, ?_, ?_, ?_, ?_, ?_, ?_, ?_, ?_, ?_, ?_, ?_, ?_, ?_, ?_, ?_, ?_, ?_, ?_, ?_, ?_, ?_, ?_, ?_, ?_, ?_, ?_, ?_, ?_, trivial⟩ <;> first | exact le_any _ | with_reducible exact le_rfl' _ | (first | exact le_rfl' _ | exact le_nil 1 1) | exact le_rfl' _) (Nat.zero_le _) ?_
    rintro i h1
    refine Ok.seq ?_
    refine Ok.seq ?_
    refine Ok.region ?_
    iterate 4 (refine OkOps.ev tab_ok rfl (by simp only [kev, ktab, klen, kcv] <;> rfl) (by simp only [kput] <;> rfl) ?_)
    refine OkOps.nil ?_
    refine Ok.cond (b := _) (by simp only [kev, ktab, klen, kcv] <;> rfl) (fun hb5 => ?_) (fun hb5 => ?_)
    · try simp only [bsimp] at hb5
      have hi : i < s.length := by omega
      have hn := flat_next (f := hexC) hi
      have hll := hexL_len (s.take i)
      have hlt : (s.take i).length = i := by rw [List.length_take]; omega
      have hc1 : s[i].toNat / 16 < 16 := by have := s[i].toNat_lt; omega
      refine Ok.skip ?_
      refine Ok.seq ?_
      refine Ok.block ?_
      refine Ok.drawn 12 34 [] (by kernel_rfl) (by kernel_rfl) rfl ?_
      refine SOps.ev tab_ok rfl (by simp only [kev, ktab, klen, kcv] <;> rfl) (by simp only [kput] <;> rfl) ?_
      refine SOps.ev tab_ok rfl (by simp only [kev, ktab, klen, kcv] <;> rfl) (by simp only [kput] <;> rfl) ?_
      refine SOps.ev tab_ok rfl (by simp only [kev, ktab, klen, kcv] <;> rfl) (by simp only [kput] <;> rfl) ?_
      refine SOps.ev tab_ok rfl (ev_byte_lt (by simp only [kev, ktab, klen, kcv] <;> rfl) (by simp only [kev, ktab, klen, kcv] <;> rfl) (hi) rfl) (by simp only [kput] <;> rfl) ?_
      refine SOps.ev tab_ok rfl (by simp only [kev, ktab, klen, kcv, hi_nib] <;> rfl) (by simp only [kput] <;> rfl) ?_
      refine SOps.ev tab_ok rfl (ev_byte_lt (by simp only [kev, ktab, klen, kcv] <;> rfl) (by simp only [kev, ktab, klen, kcv] <;> rfl) ((by simpa using hc1)) rfl) (by simp only [kput] <;> rfl) ?_
      refine SOps.ev tab_ok rfl (by simp only [kev, ktab, klen, kcv] <;> rfl) (by simp only [kput] <;> rfl) ?_
      refine SOps.ev tab_ok rfl (by simp only [kev, ktab, klen, kcv] <;> rfl) (by simp only [kput] <;> rfl) ?_
      refine SOps.ev tab_ok rfl (ev_byte_lt (by simp only [kev, ktab, klen, kcv] <;> rfl) (by simp only [kev, ktab, klen, kcv] <;> rfl) (hi) rfl) (by simp only [kput] <;> rfl) ?_
      refine SOps.ev tab_ok rfl (by simp only [kev, ktab, klen, kcv, lo_nib] <;> rfl) (by simp only [kput] <;> rfl) ?_
      refine SOps.ev tab_ok rfl (ev_byte_lt (by simp only [kev, ktab, klen, kcv] <;> rfl) (by simp only [kev, ktab, klen, kcv] <;> rfl) ((by simpa using Nat.mod_lt s[i].toNat (show 0 < 16 by decide))) rfl) (by simp only [kput] <;> rfl) ?_
      refine SOps.ev tab_ok rfl (ev_bs (by simp only [ktab] <;> rfl) (by simp only [ktab] <;> rfl) (by decide) (by decide) (by simp only [kev, ktab, klen, kcv, fig_get hc1, fig_get (Nat.mod_lt s[i].toNat (show 0 < 16 by decide)), List.map_cons, List.map_nil] <;> rfl) (by simp only [kfe, beq_self_eq_true, Bool.and_true, Bool.true_and, decide_true, Nat.zero_add, Nat.lt_add_one, Nat.reduceLT, Nat.reduceAdd, Nat.zero_lt_succ, if_true, ↓reduceIte] <;> rfl)) (by simp only [kput] <;> rfl) ?_
      refine SOps.nil ?_
      refine TOps.append tab_ok rfl rfl (by simp only [ktab] <;> rfl) (by simp only [ktab] <;> rfl) (by decide) rfl (by simp only [kev, ktab, klen, kcv] <;> rfl) (.inl ⟨_, _, by simp only [kev, ktab, klen, kcv] <;> rfl⟩) (by omega) (by omega) (by simp only [List.length_map, List.length_cons, List.length_nil]; omega) (by simp only [List.length_map, List.length_cons, List.length_nil]; omega) (by simp [V.one]) (by simp only [V.killL, V.killLL, V.travL, V.travLL, V.trav, killS, killP, Nat.reduceEqDiff, ↓reduceIte, reduceCtorEq, if_true, if_false, List.append_nil, List.nil_append, List.cons_append, zz, zf, zy] <;> rfl) (by simp only [V.killL, V.killLL, V.travL, V.travLL, V.trav, killS, killP, Nat.reduceEqDiff, ↓reduceIte, reduceCtorEq, if_true, if_false, List.append_nil, List.nil_append, List.cons_append, zz, zf, zy, kput] <;> rfl) (rfl) ?_
      refine TOps.ev tab_ok rfl (by simp only [kev, ktab, klen, kcv] <;> rfl) (by simp only [kput] <;> rfl) ?_
      refine TOps.nil ?_
      refine Ok.region ?_
      iterate 3 (refine OkOps.ev tab_ok rfl (by simp only [kev, ktab, klen, kcv] <;> rfl) (by simp only [kput] <;> rfl) ?_)
      refine OkOps.nil ?_
      refine ⟨i + 1, ?_, rfl, by omega, by omega⟩
      simp only [V.renL, V.travL, V.travLL, V.trav, frz, zz, zf, zy, Nat.reduceLeDiff, ↓reduceIte]
      refine ⟨?_, ?_, ?_, ?_, ?_, ?_, ?_, ?_, ?_, ?_, ?_, ?_, ?_, ?_, ?_, ?_, ?_, ?_, ?_, ?_, ?_, ?_, ?_, ?_, ?_, ?_, ?_, ?_, ?_, ?_, ?_, ?_, ?_, ?_, trivial⟩ <;> first | exact le_any _ | with_reducible exact le_rfl' _ | (first | exact le_rfl' _ | (rw [wrap_add_one (by omega)]; exact le_rfl' _) | (refine le_eq ?_; unfold hexL at *; rw [hn]; simp [hexC, cB])) | exact le_rfl' _
    · try simp only [bsimp] at hb5
      obtain rfl : i = s.length := by omega
      have hll := hexL_len s
      rw [List.take_length] at *
      refine Ok.exit ?_
      refine Ok.seq ?_
      refine Ok.region ?_
      refine OkOps.ev tab_ok rfl (by simp only [kev, ktab, klen, kcv] <;> rfl) (by simp only [kput] <;> rfl) ?_
      refine OkOps.ev tab_ok rfl (ev_text' (by simp only [kev, ktab, klen, kcv] <;> rfl) rfl rfl rfl (by simp only [kby, Option.map_some, List.append_assoc, List.cons_append, List.nil_append] <;> rfl)) (by simp only [kput] <;> rfl) ?_
      iterate 2 (refine OkOps.ev tab_ok rfl (by simp only [kev, ktab, klen, kcv] <;> rfl) (by simp only [kput] <;> rfl) ?_)
      refine OkOps.nil ?_
      refine Ok.ret ?_
      repeat (first | with_reducible refine thenQ_ret ?_ | with_reducible refine blockQ_ret ?_)
      refine retQ.end (by show resVs tab _ [.tmp 2, .tmp 3] = _; simp only [kev, ktab, klen, kcv] <;> rfl) rfl ?_
      first | rfl | (simp [V.erase, V.trav, packV]; done)
theorem w_impl_FlagsOf (a : List Reg) : Weak Try.prog 130 [.sl 0 3 0 (a.map cReg)] (.int .i64 (flN 0 (a.take 3) : Int)) := by
  refine Weak.enter tab_ok Try.func130 rfl (.inr (by simp [V.labelsL, V.labels, V.labelsLL, zz, zf, zy, or_imp, forall_and])) (t := [.sl 0 3 0 (a.map cReg), .any, .any, .any, .any, .any, .any, .any, .any, .any, .any, .any, .any, .any, .any, .any, .any, .any, .any, .any, .any, .any, .any, .any, .any, .any]) rfl ?_
  refine Ok.seq ?_
  refine Ok.region ?_
  refine OkOps.ev tab_ok rfl (by simp only [kev, ktab, klen, kcv] <;> rfl) (by simp only [kput] <;> rfl) ?_
  refine OkOps.nil ?_
  refine Ok.seq ?_
  refine Ok.region ?_
  refine OkOps.ev tab_ok rfl (by simp only [kev, ktab, klen, kcv] <;> rfl) (by simp only [kput] <;> rfl) ?_
  refine OkOps.nil ?_
  refine Ok.seq ?_
  refine Ok.seq ?_
  refine Ok.region ?_
  refine OkOps.ev tab_ok rfl (by simp only [kev, ktab, klen, kcv] <;> rfl) (by simp only [kput] <;> rfl) ?_
  refine OkOps.nil ?_
  refine Ok.block ?_
  refine Ok.loopW (τ := Nat) (fun x => [(3, .int .i64 (flN 0 (a.take x) : Int)), (4, .int .i64 (x : Int))]) [5, 6, 7, 8, 9, 10, 11, 12, 13, 14, 15, 16, 17, 18, 19, 20, 21, 22, 23, 24] (fun x => by simp only [kover] <;> rfl) (fun x => x ≤ a.length ∧ x ≤ 3) (fun x => 3 - x) 0 (by refine ⟨?_, ?_, ?_, ?_, ?_, ?_, ?_, ?_, ?_, ?_, ?_, ?_, ?_, ?_, ?_, ?_, ?_, ?_, ?_, ?_, ?_, ?_, ?_, ?_, ?_, ?_, trivial⟩ <;> first | exact le_any _ | with_reducible exact le_rfl' _ | (exact le_rfl' _) | exact le_rfl' _) (⟨Nat.zero_le _, Nat.zero_le _⟩) ?_
  rintro i ⟨h1, h2⟩
  refine Ok.seq ?_
  refine Ok.seqC [(12, .bool (decide (i < a.length ∧ i < 3)))] [5, 6, 7, 8, 9, 10, 11] (by simp only [kover] <;> rfl) ?_ ?_
  · skip
    refine Ok.region ?_
    iterate 5 (refine OkOps.ev tab_ok rfl (by simp only [kev, ktab, klen, kcv] <;> rfl) (by simp only [kput] <;> rfl) ?_)
    refine OkOps.split (d := 9) (by simp only [kev, ktab, klen, kcv] <;> rfl) (by simp only [kput] <;> rfl) (by simp only [kput] <;> rfl) (fun hg3_4 => ?_) (fun hg3_4 => ?_)
    · try simp only [bsimp] at hg3_4
      refine OkOps.on rfl rfl (by simp only [kev, ktab, klen, kcv]) ?_
      refine OkOps.ev tab_ok rfl (by simp only [kev, ktab, klen, kcv] <;> rfl) (by simp only [kput] <;> rfl) ?_
      refine OkOps.on rfl rfl (by simp only [kev, ktab, klen, kcv]) ?_
      iterate 2 (refine OkOps.ev tab_ok rfl (by simp only [kev, ktab, klen, kcv] <;> rfl) (by simp only [kput] <;> rfl) ?_)
      refine OkOps.nil ?_
      refine ⟨rfl, ?_, rfl, rfl⟩
      refine ⟨?_, ?_, ?_, ?_, ?_, ?_, ?_, ?_, ?_, ?_, ?_, ?_, ?_, ?_, ?_, ?_, ?_, ?_, ?_, ?_, ?_, ?_, ?_, ?_, ?_, ?_, trivial⟩ <;> first | exact le_any _ | with_reducible exact le_rfl' _ | (refine .inl (congrArg V.bool ?_); first | exact decide_eq_decide.2 (by omega) | exact (decide_eq_false (by omega)).symm) | exact le_rfl' _
    · try simp only [bsimp] at hg3_4
      refine OkOps.offU rfl rfl (.inl (by simp only [kev, ktab, klen, kcv, Bool.not_true, Bool.not_false])) (by simp only [kput] <;> rfl) ?_
      refine OkOps.offU rfl rfl (.inl (by simp only [kev, ktab, klen, kcv, Bool.not_true, Bool.not_false])) (by simp only [kput] <;> rfl) ?_
      refine OkOps.ev tab_ok rfl (by simp only [kev, ktab, klen, kcv] <;> rfl) (by simp only [kput] <;> rfl) ?_
      refine OkOps.nil ?_
      refine ⟨rfl, ?_, rfl, rfl⟩
      refine ⟨?_, ?_, ?_, ?_, ?_, ?_, ?_, ?_, ?_, ?_, ?_, ?_, ?_, ?_, ?_, ?_, ?_, ?_, ?_, ?_, ?_, ?_, ?_, ?_, ?_, ?_, trivial⟩ <;> first | exact le_any _ | with_reducible exact le_rfl' _ | (refine .inl (congrArg V.bool ?_); first | exact decide_eq_decide.2 (by omega) | exact (decide_eq_false (by omega)).symm) | exact le_rfl' _
  · skip
    refine Ok.cond (b := _) (by simp only [kev, ktab, klen, kcv] <;> rfl) (fun hb3 => ?_) (fun hb3 => ?_)
    · try simp only [bsimp] at hb3
      obtain ⟨hi, hi3⟩ : i < a.length ∧ i < 3 := hb3
      have hn := flN_next hi
      have hle := flN_le (a := a) (show i + 1 ≤ 3 by omega)
      have hsum : IntKind.i64.wrap ((flN 0 (a.take i) : Int) + ((flB a[i] * 2 ^ i : Nat) : Int)) = (flN 0 (a.take (i + 1)) : Int) := by rw [wrap_add_nat (by omega), hn]
      refine Ok.skip ?_
      refine Ok.seq ?_
      refine Ok.block ?_
      refine Ok.region ?_
      iterate 3 (refine OkOps.ev tab_ok rfl (by simp only [kev, ktab, klen, kcv] <;> rfl) (by simp only [kput] <;> rfl) ?_)
      refine OkOps.ev tab_ok rfl (ev_idx_map (by simp only [kev, ktab, klen, kcv] <;> rfl) (by simp only [kev, ktab, klen, kcv] <;> rfl) (by omega) (by simp only [kev, ktab, klen, kcv] <;> rfl)) (by simp only [kput] <;> rfl) ?_
      iterate 2 (refine OkOps.ev tab_ok rfl (by simp only [kev, ktab, klen, kcv] <;> rfl) (by simp only [kput] <;> rfl) ?_)
      refine OkOps.ev tab_ok rfl (by simp only [kev, ktab, klen, kcv, and_one] <;> rfl) (by simp only [kput] <;> rfl) ?_
      refine OkOps.ev tab_ok rfl (by simp only [kev, ktab, klen, kcv] <;> rfl) (by simp only [kput] <;> rfl) ?_
      refine OkOps.ev tab_ok rfl ((ev_shl (by simp only [kev, ktab, klen, kcv] <;> rfl) (by simp only [kev, ktab, klen, kcv] <;> rfl) (by omega)).trans (by simp only [shl_fl hi3] <;> rfl)) (by simp only [kput] <;> rfl) ?_
      refine OkOps.ev tab_ok rfl (by simp only [kev, ktab, klen, kcv, hsum] <;> rfl) (by simp only [kput] <;> rfl) ?_
      refine OkOps.ev tab_ok rfl (by simp only [kev, ktab, klen, kcv] <;> rfl) (by simp only [kput] <;> rfl) ?_
      refine OkOps.nil ?_
      refine Ok.region ?_
      iterate 3 (refine OkOps.ev tab_ok rfl (by simp only [kev, ktab, klen, kcv] <;> rfl) (by simp only [kput] <;> rfl) ?_)
      refine OkOps.nil ?_
      refine ⟨i + 1, ?_, rfl, rfl, ⟨by omega, by omega⟩, by omega⟩
      refine ⟨?_, ?_, ?_, ?_, ?_, ?_, ?_, ?_, ?_, ?_, ?_, ?_, ?_, ?_, ?_, ?_, ?_, ?_, ?_, ?_, ?_, ?_, ?_, ?_, ?_, ?_, trivial⟩ <;> first | exact le_any _ | with_reducible exact le_rfl' _ | (first | exact le_rfl' _ | (rw [wrap_add_one (by omega)]; exact le_rfl' _) | (refine le_eq ?_; rw [hn, hz, Nat.add_zero])) | exact le_rfl' _
    · try simp only [bsimp] at hb3
      have hni : ¬ (i < a.length ∧ i < 3) := hb3
      have ht : a.take i = a.take 3 := by rcases Nat.lt_or_ge i 3 with h | h; (rw [List.take_of_length_le (by omega), List.take_of_length_le (by omega)]); (rw [show i = 3 by omega])
      rw [ht]
      refine Ok.exit ?_
      refine Ok.seq ?_
      refine Ok.region ?_
      iterate 2 (refine OkOps.ev tab_ok rfl (by simp only [kev, ktab, klen, kcv] <;> rfl) (by simp only [kput] <;> rfl) ?_)
      refine OkOps.nil ?_
      refine Ok.ret ?_
      repeat (first | with_reducible refine thenQ_ret ?_ | with_reducible refine blockQ_ret ?_)
      refine retQ.end (by show resVs tab _ [.tmp 2] = _; simp only [kev, ktab, klen, kcv] <;> rfl) rfl ?_
      rfl
theorem w_spec_FlagsOf (a : List Reg) : Weak Try.prog 127 [.sl 0 3 0 (a.map cReg)] (.int .i64 (flN 0 (a.take 3) : Int)) := by
  refine Weak.enter tab_ok Try.func127 rfl (.inr (by simp [V.labelsL, V.labels, V.labelsLL, zz, zf, zy, or_imp, forall_and])) (t := [.sl 0 3 0 (a.map cReg), .any, .any, .any, .any, .any, .any, .any, .any, .any, .any, .any, .any, .any, .any, .any, .any, .any, .any, .any, .any, .any, .any, .any, .any, .any, .any, .any]) rfl ?_
  refine Ok.seq ?_
  refine Ok.region ?_
  refine OkOps.ev tab_ok rfl (by simp only [kev, ktab, klen, kcv] <;> rfl) (by simp only [kput] <;> rfl) ?_
  refine OkOps.nil ?_
  refine Ok.seq ?_
  refine Ok.region ?_
  refine OkOps.ev tab_ok rfl (by simp only [kev, ktab, klen, kcv] <;> rfl) (by simp only [kput] <;> rfl) ?_
  refine OkOps.nil ?_
  refine Ok.seq ?_
  refine Ok.seq ?_
  refine Ok.region ?_
  refine OkOps.ev tab_ok rfl (by simp only [kev, ktab, klen, kcv] <;> rfl) (by simp only [kput] <;> rfl) ?_
  refine OkOps.nil ?_
  refine Ok.block ?_
  refine Ok.loopW (τ := Nat) (fun x => [(3, .int .i64 (flN 0 (a.take x) : Int)), (4, .int .i64 (x : Int))]) [5, 6, 7, 8, 9, 10, 11, 12, 13, 14, 15, 16, 17, 18, 19, 20, 21, 22, 23, 24, 25, 26] (fun x => by simp only [kover] <;> rfl) (fun x => x ≤ a.length ∧ x ≤ 3) (fun x => 3 - x) 0 (by refine ⟨?_, ?_, ?_, ?_, ?_, ?_, ?_, ?_, ?_, ?_, ?_, ?_, ?_, ?_, ?_, ?_, ?_, ?_, ?_, ?_, ?_, ?_, ?_, ?_, ?_, ?_, ?_, ?_, trivial⟩ <;> first | exact le_any _ | with_reducible exact le_rfl' _ | (exact le_rfl' _) | exact le_rfl' _) (⟨Nat.zero_le _, Nat.zero_le _⟩) ?_
  rintro i ⟨h1, h2⟩
  refine Ok.seq ?_
  refine Ok.seqC [(12, .bool (decide (i < a.length ∧ i < 3)))] [5, 6, 7, 8, 9, 10, 11] (by simp only [kover] <;> rfl) ?_ ?_
  · skip
    refine Ok.region ?_
    iterate 5 (refine OkOps.ev tab_ok rfl (by simp only [kev, ktab, klen, kcv] <;> rfl) (by simp only [kput] <;> rfl) ?_)
    refine OkOps.split (d := 9) (by simp only [kev, ktab, klen, kcv] <;> rfl) (by simp only [kput] <;> rfl) (by simp only [kput] <;> rfl) (fun hg3_4 => ?_) (fun hg3_4 => ?_)
    · try simp only [bsimp] at hg3_4
      refine OkOps.on rfl rfl (by simp only [kev, ktab, klen, kcv]) ?_
      refine OkOps.ev tab_ok rfl (by simp only [kev, ktab, klen, kcv] <;> rfl) (by simp only [kput] <;> rfl) ?_
      refine OkOps.on rfl rfl (by simp only [kev, ktab, klen, kcv]) ?_
      iterate 2 (refine OkOps.ev tab_ok rfl (by simp only [kev, ktab, klen, kcv] <;> rfl) (by simp only [kput] <;> rfl) ?_)
      refine OkOps.nil ?_
      refine ⟨rfl, ?_, rfl, rfl⟩
      refine ⟨?_, ?_, ?_, ?_, ?_, ?_, ?_, ?_, ?_, ?_, ?_, ?_, ?_, ?_, ?_, ?_, ?_, ?_, ?_, ?_, ?_, ?_, ?_, ?_, ?_, ?_, ?_, ?_, trivial⟩ <;> first | exact le_any _ | with_reducible exact le_rfl' _ | (refine .inl (congrArg V.bool ?_); first | exact decide_eq_decide.2 (by omega) | exact (decide_eq_false (by omega)).symm) | exact le_rfl' _
    · try simp only [bsimp] at hg3_4
      refine OkOps.offU rfl rfl (.inl (by simp only [kev, ktab, klen, kcv, Bool.not_true, Bool.not_false])) (by simp only [kput] <;> rfl) ?_
      refine OkOps.offU rfl rfl (.inl (by simp only [kev, ktab, klen, kcv, Bool.not_true, Bool.not_false])) (by simp only [kput] <;> rfl) ?_
      refine OkOps.ev tab_ok rfl (by simp only [kev, ktab, klen, kcv] <;> rfl) (by simp only [kput] <;> rfl) ?_
      refine OkOps.nil ?_
      refine ⟨rfl, ?_, rfl, rfl⟩
      refine ⟨?_, ?_, ?_, ?_, ?_, ?_, ?_, ?_, ?_, ?_, ?_, ?_, ?_, ?_, ?_, ?_, ?_, ?_, ?_, ?_, ?_, ?_, ?_, ?_, ?_, ?_, ?_, ?_, trivial⟩ <;> first | exact le_any _ | with_reducible exact le_rfl' _ | (refine .inl (congrArg V.bool ?_); first | exact decide_eq_decide.2 (by omega) | exact (decide_eq_false (by omega)).symm) | exact le_rfl' _
  · skip
    refine Ok.cond (b := _) (by simp only [kev, ktab, klen, kcv] <;> rfl) (fun hb3 => ?_) (fun hb3 => ?_)
    · try simp only [bsimp] at hb3
      obtain ⟨hi, hi3⟩ : i < a.length ∧ i < 3 := hb3
      have hn := flN_next hi
      have hle := flN_le (a := a) (show i + 1 ≤ 3 by omega)
      have hsum : IntKind.i64.wrap ((flN 0 (a.take i) : Int) + ((flB a[i] * 2 ^ i : Nat) : Int)) = (flN 0 (a.take (i + 1)) : Int) := by rw [wrap_add_nat (by omega), hn]
      refine Ok.skip ?_
      refine Ok.seq ?_
      refine Ok.block ?_
      refine Ok.seq ?_
      refine Ok.region ?_
      iterate 2 (refine OkOps.ev tab_ok rfl (by simp only [kev, ktab, klen, kcv] <;> rfl) (by simp only [kput] <;> rfl) ?_)
      refine OkOps.ev tab_ok rfl (ev_idx_map (by simp only [kev, ktab, klen, kcv] <;> rfl) (by simp only [kev, ktab, klen, kcv] <;> rfl) (by omega) (by simp only [kev, ktab, klen, kcv] <;> rfl)) (by simp only [kput] <;> rfl) ?_
      iterate 4 (refine OkOps.ev tab_ok rfl (by simp only [kev, ktab, klen, kcv] <;> rfl) (by simp only [kput] <;> rfl) ?_)
      refine OkOps.nil ?_
      refine Ok.cond (b := _) (by simp only [kev, ktab, klen, kcv] <;> rfl) (fun hb5 => ?_) (fun hb5 => ?_)
      · try simp only [bsimp] at hb5
        have hne : ¬ a[i].val.tmod 2 = 0 := by simpa using hb5
        refine Ok.region ?_
        iterate 2 (refine OkOps.ev tab_ok rfl (by simp only [kev, ktab, klen, kcv] <;> rfl) (by simp only [kput] <;> rfl) ?_)
        refine OkOps.ev tab_ok rfl (by simp only [kev, ktab, klen, kcv, wrap_u64_nat (show i ≤ 3 by omega)] <;> rfl) (by simp only [kput] <;> rfl) ?_
        refine OkOps.ev tab_ok rfl ((ev_shl (by simp only [kev, ktab, klen, kcv] <;> rfl) (by simp only [kev, ktab, klen, kcv] <;> rfl) (by omega)).trans (by simp only [fl_one hi3 hne] <;> rfl)) (by simp only [kput] <;> rfl) ?_
        refine OkOps.ev tab_ok rfl (by simp only [kev, ktab, klen, kcv, hsum] <;> rfl) (by simp only [kput] <;> rfl) ?_
        refine OkOps.ev tab_ok rfl (by simp only [kev, ktab, klen, kcv] <;> rfl) (by simp only [kput] <;> rfl) ?_
        refine OkOps.nil ?_
        refine Ok.region ?_
        iterate 3 (refine OkOps.ev tab_ok rfl (by simp only [kev, ktab, klen, kcv] <;> rfl) (by simp only [kput] <;> rfl) ?_)
        refine OkOps.nil ?_
        refine ⟨i + 1, ?_, rfl, rfl, ⟨by omega, by omega⟩, by omega⟩
        refine ⟨?_, ?_, ?_, ?_, ?_, ?_, ?_, ?_, ?_, ?_, ?_, ?_, ?_, ?_, ?_, ?_, ?_, ?_, ?_, ?_, ?_, ?_, ?_, ?_, ?_, ?_, ?_, ?_, trivial⟩ <;> first | exact le_any _ | with_reducible exact le_rfl' _ | (first | exact le_rfl' _ | (rw [wrap_add_one (by omega)]; exact le_rfl' _) | (refine le_eq ?_; rw [hn, hz, Nat.add_zero])) | exact le_rfl' _
      · try simp only [bsimp] at hb5
        have hz := fl_none (r := a[i]) (i := i) (by simpa using hb5)
        refine Ok.skip ?_
        refine Ok.region ?_
        iterate 3 (refine OkOps.ev tab_ok rfl (by simp only [kev, ktab, klen, kcv] <;> rfl) (by simp only [kput] <;> rfl) ?_)
        refine OkOps.nil ?_
        refine ⟨i + 1, ?_, rfl, rfl, ⟨by omega, by omega⟩, by omega⟩
        refine ⟨?_, ?_, ?_, ?_, ?_, ?_, ?_, ?_, ?_, ?_, ?_, ?_, ?_, ?_, ?_, ?_, ?_, ?_, ?_, ?_, ?_, ?_, ?_, ?_, ?_, ?_, ?_, ?_, trivial⟩ <;> first | exact le_any _ | with_reducible exact le_rfl' _ | (first | exact le_rfl' _ | (rw [wrap_add_one (by omega)]; exact le_rfl' _) | (refine le_eq ?_; rw [hn, hz, Nat.add_zero])) | exact le_rfl' _
    · try simp only [bsimp] at hb3
      have hni : ¬ (i < a.length ∧ i < 3) := hb3
      have ht : a.take i = a.take 3 := by rcases Nat.lt_or_ge i 3 with h | h; (rw [List.take_of_length_le (by omega), List.take_of_length_le (by omega)]); (rw [show i = 3 by omega])
      rw [ht]
      refine Ok.exit ?_
      refine Ok.seq ?_
      refine Ok.region ?_
      iterate 2 (refine OkOps.ev tab_ok rfl (by simp only [kev, ktab, klen, kcv] <;> rfl) (by simp only [kput] <;> rfl) ?_)
      refine OkOps.nil ?_
      refine Ok.ret ?_
      repeat (first | with_reducible refine thenQ_ret ?_ | with_reducible refine blockQ_ret ?_)
      refine retQ.end (by show resVs tab _ [.tmp 2] = _; simp only [kev, ktab, klen, kcv] <;> rfl) rfl ?_
      rfl
theorem w_impl_SaidOf (s : Store) (h : smStore s) : Weak Try.prog 105 [.agg (cStore s)] (.str (saidS s)) := by
  refine Weak.enter tab_ok Try.func105 rfl (.inr (by simp [V.labelsL, V.labels, V.labelsLL, zz, zf, zy, or_imp, forall_and])) (t := [.agg (cStore s), .any, .any, .any, .any, .any, .any, .any, .any, .any, .any, .any, .any, .any, .any, .any, .any, .any, .any, .any, .any, .any, .any, .any, .any, .any, .any, .any, .any, .any, .any, .any, .any, .any, .any, .any, .any, .any, .any, .any, .any, .any, .any, .any, .any, .any, .any, .any, .any, .any, .any, .any, .any, .any, .any, .any, .any, .any, .any]) rfl ?_
  refine Ok.seq ?_
  refine Ok.region ?_
  iterate 2 (refine OkOps.ev tab_ok rfl (by simp only [kev, ktab, klen, kcv] <;> rfl) (by simp only [kput] <;> rfl) ?_)
  refine OkOps.nil ?_
  refine Ok.seq ?_
  refine Ok.region ?_
  refine OkOps.ev tab_ok rfl (by simp only [kev, ktab, klen, kcv] <;> rfl) (by simp only [kput] <;> rfl) ?_
  refine OkOps.nil ?_
  refine Ok.seq ?_
  refine Ok.seq ?_
  refine Ok.region ?_
  iterate 4 (refine OkOps.ev tab_ok rfl (by simp only [kev, ktab, klen, kcv] <;> rfl) (by simp only [kput] <;> rfl) ?_)
  refine OkOps.nil ?_
  refine Ok.block ?_
  refine Ok.loopWZ (τ := Nat) (fun x => [(3, .str ((s.boxes.take x).flatMap boxS)), (13, .int .i64 (x : Int))]) [5, 7, 8, 9, 14, 15, 16, 17, 18, 19, 20, 21, 22, 23, 24, 25, 26, 27, 28, 29, 30, 31, 32, 33, 34, 35, 36, 37, 38, 39, 40, 41, 42, 43, 44, 45, 46, 47, 48, 49, 50, 51, 52, 53, 54, 55, 56, 57] (fun x => by simp only [kover] <;> rfl) (fun x => x ≤ s.boxes.length) (fun x => s.boxes.length - x) 0 (by omega) (by refine ⟨?_, ?_, ?_, ?_, ?_, ?_, ?_, ?_, ?_, ?_, ?_, ?_, ?_, ?_, ?_, ?_, ?_, ?_, ?_, ?_, ?_, ?_, ?_, ?_, ?_, ?_, ?_, ?_, ?_, ?_, ?_, ?_, ?_, ?_, ?_, ?_, ?_, ?_, ?_, ?_, ?_, ?_, ?_, ?_, ?_, ?_, ?_, ?_, ?_, ?_, ?_, ?_, ?_, ?_, ?_, ?_, ?_, ?_, ?_, trivial⟩ <;> first | exact le_any _ | with_reducible exact le_rfl' _ | (exact le_rfl' _) | exact le_rfl' _) (Nat.zero_le _) ?_
  rintro i h1
  refine Ok.seq ?_
  refine Ok.region ?_
  refine OkOps.ev tab_ok rfl (by simp only [kev, ktab, klen, kcv] <;> rfl) (by simp only [kput] <;> rfl) ?_
  refine OkOps.nil ?_
  refine Ok.seq ?_
  refine Ok.cond (b := _) (by simp only [kev, ktab, klen, kcv] <;> rfl) (fun hb3 => ?_) (fun hb3 => ?_)
  · try simp only [bsimp] at hb3
    have hi : i < s.boxes.length := by omega
    have hB := h.1.2 _ (List.getElem_mem hi)
    have q0 := boxes_len (l := s.boxes.take i) (by rw [List.length_take]; have := h.1.1; omega) (fun b hb => ⟨(h.1.2 b (List.mem_of_mem_take hb)).1, (h.1.2 b (List.mem_of_mem_take hb)).2.1.1⟩)
    have q1 : s.boxes[i].name.length ≤ 1048576 := hB.1
    have q2 := numS_len s.boxes[i].next
    have q3 : s.boxes[i].mails.length ≤ 1048576 := hB.2.1.1
    have hn := flat_next (f := boxS) hi
    obtain ⟨acc, hacc⟩ : ∃ acc, acc = (s.boxes.take i).flatMap boxS := ⟨_, rfl⟩
    rw [← hacc] at q0 hn
    rw [← hacc]
    refine Ok.skip ?_
    refine Ok.seq ?_
    refine Ok.block ?_
    refine Ok.seq ?_
    refine Ok.region ?_
    refine OkOps.ev tab_ok rfl (ev_idx_map (by simp only [kev, ktab, klen, kcv] <;> rfl) (by simp only [kev, ktab, klen, kcv] <;> rfl) (by omega) (by simp only [kev, ktab, klen, kcv] <;> rfl)) (by simp only [kput] <;> rfl) ?_
    iterate 2 (refine OkOps.ev tab_ok rfl (by simp only [kev, ktab, klen, kcv] <;> rfl) (by simp only [kput] <;> rfl) ?_)
    refine OkOps.storeE tab_ok rfl rfl (by simp only [kev, ktab, klen, kcv] <;> rfl) ⟨_, _, by simp only [kev]; rfl⟩ (by first | (simp [V.labelsL, V.labelsLL, V.labels, zz, zf, zy]; done) | (simp [-List.map_map, -List.map_drop, -List.map_take, -List.map_tail, -List.drop_one, V.labelsL, V.labelsLL, V.labels, zz, zf, zy]; done)) (by simp only [eq_self, V.updL, V.travL, V.travLL, V.trav, updS, updP, and_self, true_and, and_true, false_and, and_false, Nat.reduceEqDiff, Nat.reduceSub, Nat.le_refl, Nat.zero_le, ↓reduceIte, if_true, if_false, kput, zz, zf, zy] <;> rfl) (rfl) ?_
    refine OkOps.nil ?_
    refine Ok.seq ?_
    refine Ok.drawn 10 59 [] (by kernel_rfl) (by kernel_rfl) rfl ?_
    refine SOps.ev tab_ok rfl (by simp only [kev, ktab, klen, kcv] <;> rfl) (by simp only [kput] <;> rfl) ?_
    refine SOps.ev tab_ok rfl (by simp only [kev, ktab, klen, kcv] <;> rfl) (by simp only [kput] <;> rfl) ?_
    refine SOps.ev tab_ok rfl (by simp only [kev, ktab, klen, kcv] <;> rfl) (by simp only [kput] <;> rfl) ?_
    refine SOps.ev tab_ok rfl (ev_cat (by simp only [kev, ktab, klen, kcv] <;> rfl) (by simp only [kev, ktab, klen, kcv] <;> rfl) (by first | omega | (simp only [List.length_append, List.length_cons, List.length_nil]; omega) | (simp only [boxH, List.length_append, List.length_cons, List.length_nil]; omega))) (by simp only [kput] <;> rfl) ?_
    refine SOps.ev tab_ok rfl (ev_cat (by simp only [kev, ktab, klen, kcv] <;> rfl) (by simp only [kev, ktab, klen, kcv] <;> rfl) (by first | omega | (simp only [List.length_append, List.length_cons, List.length_nil]; omega) | (simp only [boxH, List.length_append, List.length_cons, List.length_nil]; omega))) (by simp only [kput] <;> rfl) ?_
    refine SOps.ev tab_ok rfl (by simp only [kev, ktab, klen, kcv] <;> rfl) (by simp only [kput] <;> rfl) ?_
    refine SOps.ev tab_ok rfl (by simp only [kev, ktab, klen, kcv] <;> rfl) (by simp only [kput] <;> rfl) ?_
    refine SOps.S0 rfl (OpS.weakM rfl (by simp only [kev, ktab, klen, kcv] <;> rfl) (by simp only [kev, ktab, klen, kcv] <;> rfl) cl104 (w_impl_told s.boxes[i].next)) (by simp only [kput] <;> rfl) ?_
    refine SOps.ev tab_ok rfl (ev_cat (by simp only [kev, ktab, klen, kcv] <;> rfl) (by simp only [kev, ktab, klen, kcv] <;> rfl) (by first | omega | (simp only [List.length_append, List.length_cons, List.length_nil]; omega) | (simp only [boxH, List.length_append, List.length_cons, List.length_nil]; omega))) (by simp only [kput] <;> rfl) ?_
    refine SOps.ev tab_ok rfl (ev_cat (by simp only [kev, ktab, klen, kcv] <;> rfl) (by simp only [kev, ktab, klen, kcv] <;> rfl) (by first | omega | (simp only [List.length_append, List.length_cons, List.length_nil]; omega) | (simp only [boxH, List.length_append, List.length_cons, List.length_nil]; omega))) (by simp only [kput] <;> rfl) ?_
    refine SOps.nil ?_
    refine TOps.ev tab_ok rfl (by simp only [kev, ktab, klen, kcv] <;> rfl) (by simp only [kput] <;> rfl) ?_
    refine TOps.nil ?_
    refine Ok.seq ?_
    refine Ok.region ?_
    iterate 4 (refine OkOps.ev tab_ok rfl (by simp only [kev, ktab, klen, kcv] <;> rfl) (by simp only [kput] <;> rfl) ?_)
    refine OkOps.nil ?_
    refine Ok.block ?_
    refine Ok.loopWZ (τ := Nat) (fun x => [(3, .str (acc ++ (boxH s.boxes[i] ++ (s.boxes[i].mails.take x).flatMap mailS))), (30, .int .i64 (x : Int))]) [7, 8, 9, 31, 32, 33, 34, 35, 36, 37, 38, 39, 40, 41, 42, 43, 44, 45, 46, 47, 48, 49, 50, 51, 52, 53, 54, 55, 56] (fun x => by simp only [kover] <;> rfl) (fun x => x ≤ s.boxes[i].mails.length) (fun x => s.boxes[i].mails.length - x) 0 (by omega) (by refine ⟨?_, ?_, ?_, ?_, ?_, ?_, ?_, ?_, ?_, ?_, ?_, ?_, ?_, ?_, ?_, ?_, ?_, ?_, ?_, ?_, ?_, ?_, ?_, ?_, ?_, ?_, ?_, ?_, ?_, ?_, ?_, ?_, ?_, ?_, ?_, ?_, ?_, ?_, ?_, ?_, ?_, ?_, ?_, ?_, ?_, ?_, ?_, ?_, ?_, ?_, ?_, ?_, ?_, ?_, ?_, ?_, ?_, ?_, ?_, trivial⟩ <;> first | exact le_any _ | with_reducible exact le_rfl' _ | (first | exact le_rfl' _ | (refine le_eq ?_; simp [boxH])) | exact le_rfl' _) (Nat.zero_le _) ?_
    rintro j h2
    refine Ok.seq ?_
    refine Ok.region ?_
    refine OkOps.ev tab_ok rfl (by simp only [kev, ktab, klen, kcv] <;> rfl) (by simp only [kput] <;> rfl) ?_
    refine OkOps.nil ?_
    refine Ok.seq ?_
    refine Ok.cond (b := _) (by simp only [kev, ktab, klen, kcv] <;> rfl) (fun hb7 => ?_) (fun hb7 => ?_)
    · try simp only [bsimp] at hb7
      have hj : j < s.boxes[i].mails.length := by omega
      have r0 := mails_len (l := s.boxes[i].mails.take j) (by rw [List.length_take]; omega)
      have r1 := numS_len s.boxes[i].mails[j].uid
      have r2 := decimal_len (flN 0 (s.boxes[i].mails[j].flags.take 3) : Int)
      have r3 := hexS_len s.boxes[i].mails[j].text
      have hm := flat_next (f := mailS) hj
      refine Ok.skip ?_
      refine Ok.seq ?_
      refine Ok.block ?_
      refine Ok.seq ?_
      refine Ok.region ?_
      refine OkOps.ev tab_ok rfl (ev_idx_map (by simp only [kev, ktab, klen, kcv] <;> rfl) (by simp only [kev, ktab, klen, kcv] <;> rfl) (by omega) (by simp only [kev, ktab, klen, kcv] <;> rfl)) (by simp only [kput] <;> rfl) ?_
      iterate 2 (refine OkOps.ev tab_ok rfl (by simp only [kev, ktab, klen, kcv] <;> rfl) (by simp only [kput] <;> rfl) ?_)
      refine OkOps.storeE tab_ok rfl rfl (by simp only [kev, ktab, klen, kcv] <;> rfl) ⟨_, _, by simp only [kev]; rfl⟩ (by first | (simp [V.labelsL, V.labelsLL, V.labels, zz, zf, zy]; done) | (simp [-List.map_map, -List.map_drop, -List.map_take, -List.map_tail, -List.drop_one, V.labelsL, V.labelsLL, V.labels, zz, zf, zy]; done)) (by simp only [eq_self, V.updL, V.travL, V.travLL, V.trav, updS, updP, and_self, true_and, and_true, false_and, and_false, Nat.reduceEqDiff, Nat.reduceSub, Nat.le_refl, Nat.zero_le, ↓reduceIte, if_true, if_false, kput, zz, zf, zy] <;> rfl) (rfl) ?_
      refine OkOps.nil ?_
      refine Ok.seq ?_
      refine Ok.region ?_
      iterate 2 (refine OkOps.ev tab_ok rfl (by simp only [kev, ktab, klen, kcv] <;> rfl) (by simp only [kput] <;> rfl) ?_)
      refine OkOps.S0 rfl (OpS.weak' rfl (by simp only [kev, ktab, klen, kcv] <;> rfl) (by simp only [kev, ktab, klen, kcv] <;> rfl) cl129 (w_impl_Hex s.boxes[i].mails[j].text)) (by simp only [kput] <;> rfl) ?_
      iterate 5 (refine OkOps.ev tab_ok rfl (by simp only [kev, ktab, klen, kcv] <;> rfl) (by simp only [kput] <;> rfl) ?_)
      refine OkOps.nil ?_
      refine Ok.drawn 16 59 [] (by kernel_rfl) (by kernel_rfl) rfl ?_
      refine SOps.ev tab_ok rfl (by simp only [kev, ktab, klen, kcv] <;> rfl) (by simp only [kput] <;> rfl) ?_
      refine SOps.ev tab_ok rfl (ev_cat (by simp only [kev, ktab, klen, kcv] <;> rfl) (by simp only [kev, ktab, klen, kcv] <;> rfl) (by first | omega | (simp only [List.length_append, List.length_cons, List.length_nil]; omega) | (simp only [boxH, List.length_append, List.length_cons, List.length_nil]; omega))) (by simp only [kput] <;> rfl) ?_
      refine SOps.ev tab_ok rfl (by simp only [kev, ktab, klen, kcv] <;> rfl) (by simp only [kput] <;> rfl) ?_
      refine SOps.ev tab_ok rfl (by simp only [kev, ktab, klen, kcv] <;> rfl) (by simp only [kput] <;> rfl) ?_
      refine SOps.S0 rfl (OpS.weakM rfl (by simp only [kev, ktab, klen, kcv] <;> rfl) (by simp only [kev, ktab, klen, kcv] <;> rfl) cl104 (w_impl_told s.boxes[i].mails[j].uid)) (by simp only [kput] <;> rfl) ?_
      refine SOps.ev tab_ok rfl (ev_cat (by simp only [kev, ktab, klen, kcv] <;> rfl) (by simp only [kev, ktab, klen, kcv] <;> rfl) (by first | omega | (simp only [List.length_append, List.length_cons, List.length_nil]; omega) | (simp only [boxH, List.length_append, List.length_cons, List.length_nil]; omega))) (by simp only [kput] <;> rfl) ?_
      refine SOps.ev tab_ok rfl (ev_cat (by simp only [kev, ktab, klen, kcv] <;> rfl) (by simp only [kev, ktab, klen, kcv] <;> rfl) (by first | omega | (simp only [List.length_append, List.length_cons, List.length_nil]; omega) | (simp only [boxH, List.length_append, List.length_cons, List.length_nil]; omega))) (by simp only [kput] <;> rfl) ?_
      refine SOps.ev tab_ok rfl (by simp only [kev, ktab, klen, kcv] <;> rfl) (by simp only [kput] <;> rfl) ?_
      refine SOps.ev tab_ok rfl (by simp only [kev, ktab, klen, kcv] <;> rfl) (by simp only [kput] <;> rfl) ?_
      refine SOps.S0 rfl (OpS.weakM rfl (by simp only [kev, ktab, klen, kcv] <;> rfl) (by simp only [kev, ktab, klen, kcv] <;> rfl) cl130 (w_impl_FlagsOf s.boxes[i].mails[j].flags)) (by simp only [kput] <;> rfl) ?_
      refine SOps.S0 rfl (OpS.weakM rfl (by simp only [kev, ktab, klen, kcv] <;> rfl) (by simp only [kev, ktab, klen, kcv] <;> rfl) cl104 (w_impl_told ((flN 0 (s.boxes[i].mails[j].flags.take 3) : Nat) : Int))) (by simp only [kput] <;> rfl) ?_
      refine SOps.ev tab_ok rfl (ev_cat (by simp only [kev, ktab, klen, kcv, numS_nat] <;> rfl) (by simp only [kev, ktab, klen, kcv, numS_nat] <;> rfl) (by first | omega | (simp only [List.length_append, List.length_cons, List.length_nil]; omega) | (simp only [boxH, List.length_append, List.length_cons, List.length_nil]; omega))) (by simp only [kput] <;> rfl) ?_
      refine SOps.ev tab_ok rfl (ev_cat (by simp only [kev, ktab, klen, kcv] <;> rfl) (by simp only [kev, ktab, klen, kcv] <;> rfl) (by first | omega | (simp only [List.length_append, List.length_cons, List.length_nil]; omega) | (simp only [boxH, List.length_append, List.length_cons, List.length_nil]; omega))) (by simp only [kput] <;> rfl) ?_
      refine SOps.ev tab_ok rfl (by simp only [kev, ktab, klen, kcv] <;> rfl) (by simp only [kput] <;> rfl) ?_
      refine SOps.ev tab_ok rfl (ev_cat (by simp only [kev, ktab, klen, kcv] <;> rfl) (by simp only [kev, ktab, klen, kcv] <;> rfl) (by first | omega | (simp only [List.length_append, List.length_cons, List.length_nil]; omega) | (simp only [boxH, List.length_append, List.length_cons, List.length_nil]; omega))) (by simp only [kput] <;> rfl) ?_
      refine SOps.ev tab_ok rfl (ev_cat (by simp only [kev, ktab, klen, kcv] <;> rfl) (by simp only [kev, ktab, klen, kcv] <;> rfl) (by first | omega | (simp only [List.length_append, List.length_cons, List.length_nil]; omega) | (simp only [boxH, List.length_append, List.length_cons, List.length_nil]; omega))) (by simp only [kput] <;> rfl) ?_
      refine SOps.nil ?_
      refine TOps.ev tab_ok rfl (by simp only [kev, ktab, klen, kcv] <;> rfl) (by simp only [kput] <;> rfl) ?_
      refine TOps.nil ?_
      refine Ok.region ?_
      iterate 2 (refine OkOps.ev tab_ok rfl (by simp only [kev, ktab, klen, kcv] <;> rfl) (by simp only [kput] <;> rfl) ?_)
      refine OkOps.nil ?_
      refine ⟨j + 1, ?_, rfl, by omega, by omega⟩
      simp only [V.renL, V.travL, V.travLL, V.trav, frz, zz, zf, zy, Nat.reduceLeDiff, ↓reduceIte]
      refine ⟨?_, ?_, ?_, ?_, ?_, ?_, ?_, ?_, ?_, ?_, ?_, ?_, ?_, ?_, ?_, ?_, ?_, ?_, ?_, ?_, ?_, ?_, ?_, ?_, ?_, ?_, ?_, ?_, ?_, ?_, ?_, ?_, ?_, ?_, ?_, ?_, ?_, ?_, ?_, ?_, ?_, ?_, ?_, ?_, ?_, ?_, ?_, ?_, ?_, ?_, ?_, ?_, ?_, ?_, ?_, ?_, ?_, ?_, ?_, trivial⟩ <;> first | exact le_any _ | with_reducible exact le_rfl' _ | (first | exact le_rfl' _ | (rw [wrap_add_one (by omega)]; exact le_rfl' _) | (refine le_eq ?_; rw [hm]; simp [mailS])) | exact le_rfl' _
    · try simp only [bsimp] at hb7
      rw [show j = s.boxes[i].mails.length by omega, List.take_length]
      refine Ok.exit ?_
      refine Ok.region ?_
      iterate 2 (refine OkOps.ev tab_ok rfl (by simp only [kev, ktab, klen, kcv] <;> rfl) (by simp only [kput] <;> rfl) ?_)
      refine OkOps.nil ?_
      refine ⟨i + 1, ?_, rfl, by omega, by omega⟩
      simp only [V.renL, V.travL, V.travLL, V.trav, frz, zz, zf, zy, Nat.reduceLeDiff, ↓reduceIte]
      refine ⟨?_, ?_, ?_, ?_, ?_, ?_, ?_, ?_, ?_, ?_, ?_, ?_, ?_, ?_, ?_, ?_, ?_, ?_, ?_, ?_, ?_, ?_, ?_, ?_, ?_, ?_, ?_, ?_, ?_, ?_, ?_, ?_, ?_, ?_, ?_, ?_, ?_, ?_, ?_, ?_, ?_, ?_, ?_, ?_, ?_, ?_, ?_, ?_, ?_, ?_, ?_, ?_, ?_, ?_, ?_, ?_, ?_, ?_, ?_, trivial⟩ <;> first | exact le_any _ | with_reducible exact le_rfl' _ | (first | exact le_rfl' _ | (rw [wrap_add_one (by have := h.1.1; omega)]; exact le_rfl' _) | (refine le_eq ?_; rw [hn]; simp [boxS, boxH])) | exact le_rfl' _
  · try simp only [bsimp] at hb3
    rw [show i = s.boxes.length by omega, List.take_length]
    refine Ok.exit ?_
    refine Ok.seq ?_
    refine Ok.region ?_
    iterate 2 (refine OkOps.ev tab_ok rfl (by simp only [kev, ktab, klen, kcv] <;> rfl) (by simp only [kput] <;> rfl) ?_)
    refine OkOps.nil ?_
    refine Ok.ret ?_
    repeat (first | with_reducible refine thenQ_ret ?_ | with_reducible refine blockQ_ret ?_)
    refine retQ.end (by show resVs tab _ [.tmp 2] = _; simp only [kev, ktab, klen, kcv] <;> rfl) rfl ?_
    rfl
theorem w_impl_ShowServer (v : Server) (h : smStore v.kept.store) : Weak Try.prog 71 [.agg (cServer v)] (.str (serverS v)) := by
  refine Weak.enter tab_ok Try.func71 rfl (.inr (by simp [V.labelsL, V.labels, V.labelsLL, zz, zf, zy, or_imp, forall_and])) (t := [.agg (cServer v), .any, .any, .any, .any, .any, .any, .any, .any, .any, .any, .any, .any, .any, .any, .any, .any, .any, .any, .any, .any]) rfl ?_
  refine Ok.seq ?_
  refine Ok.region ?_
  iterate 2 (refine OkOps.ev tab_ok rfl (by simp only [kev, ktab, klen, kcv] <;> rfl) (by simp only [kput] <;> rfl) ?_)
  refine OkOps.nil ?_
  refine Ok.seq ?_
  refine Ok.region ?_
  refine OkOps.ev tab_ok rfl (by simp only [kev, ktab, klen, kcv] <;> rfl) (by simp only [kput] <;> rfl) ?_
  refine OkOps.nil ?_
  refine Ok.seq ?_
  refine Ok.seq ?_
  refine Ok.region ?_
  iterate 2 (refine OkOps.ev tab_ok rfl (by simp only [kev, ktab, klen, kcv] <;> rfl) (by simp only [kput] <;> rfl) ?_)
  refine OkOps.nil ?_
  refine Ok.cond (b := _) (by simp only [kev, ktab, klen, kcv] <;> rfl) (fun hb2 => ?_) (fun hb2 => ?_)
  · try simp only [bsimp] at hb2
    have q0 := numS_len v.kept.store.by_
    have q1 := saidS_len h
    refine Ok.region ?_
    refine OkOps.ev tab_ok rfl (by simp only [kev, ktab, klen, kcv] <;> rfl) (by simp only [kput] <;> rfl) ?_
    refine OkOps.nil ?_
    refine Ok.seq ?_
    refine Ok.drawn 16 21 [] (by kernel_rfl) (by kernel_rfl) rfl ?_
    refine SOps.ev tab_ok rfl (by simp only [kev, ktab, klen, kcv] <;> rfl) (by simp only [kput] <;> rfl) ?_
    refine SOps.ev tab_ok rfl (by simp only [kev, ktab, klen, kcv] <;> rfl) (by simp only [kput] <;> rfl) ?_
    refine SOps.ev tab_ok rfl (by simp only [kev, ktab, klen, kcv] <;> rfl) (by simp only [kput] <;> rfl) ?_
    refine SOps.ev tab_ok rfl (by simp only [kev, ktab, klen, kcv] <;> rfl) (by simp only [kput] <;> rfl) ?_
    refine SOps.S0 rfl (OpS.weakM rfl (by simp only [kev, ktab, klen, kcv] <;> rfl) (by simp only [kev, ktab, klen, kcv] <;> rfl) cl104 (w_impl_told v.kept.store.by_)) (by simp only [kput] <;> rfl) ?_
    refine SOps.ev tab_ok rfl (ev_cat (by simp only [kev, ktab, klen, kcv] <;> rfl) (by simp only [kev, ktab, klen, kcv] <;> rfl) (by first | omega | (simp only [List.length_append, List.length_cons, List.length_nil]; omega) | (simp only [boxH, List.length_append, List.length_cons, List.length_nil]; omega))) (by simp only [kput] <;> rfl) ?_
    refine SOps.ev tab_ok rfl (ev_cat (by simp only [kev, ktab, klen, kcv] <;> rfl) (by simp only [kev, ktab, klen, kcv] <;> rfl) (by first | omega | (simp only [List.length_append, List.length_cons, List.length_nil]; omega) | (simp only [boxH, List.length_append, List.length_cons, List.length_nil]; omega))) (by simp only [kput] <;> rfl) ?_
    refine SOps.ev tab_ok rfl (by simp only [kev, ktab, klen, kcv] <;> rfl) (by simp only [kput] <;> rfl) ?_
    refine SOps.ev tab_ok rfl (ev_cat (by simp only [kev, ktab, klen, kcv] <;> rfl) (by simp only [kev, ktab, klen, kcv] <;> rfl) (by first | omega | (simp only [List.length_append, List.length_cons, List.length_nil]; omega) | (simp only [boxH, List.length_append, List.length_cons, List.length_nil]; omega))) (by simp only [kput] <;> rfl) ?_
    refine SOps.ev tab_ok rfl (ev_cat (by simp only [kev, ktab, klen, kcv] <;> rfl) (by simp only [kev, ktab, klen, kcv] <;> rfl) (by first | omega | (simp only [List.length_append, List.length_cons, List.length_nil]; omega) | (simp only [boxH, List.length_append, List.length_cons, List.length_nil]; omega))) (by simp only [kput] <;> rfl) ?_
    refine SOps.ev tab_ok rfl (by simp only [kev, ktab, klen, kcv] <;> rfl) (by simp only [kput] <;> rfl) ?_
    refine SOps.ev tab_ok rfl (by simp only [kev, ktab, klen, kcv] <;> rfl) (by simp only [kput] <;> rfl) ?_
    refine SOps.ev tab_ok rfl (by simp only [kev, ktab, klen, kcv] <;> rfl) (by simp only [kput] <;> rfl) ?_
    refine SOps.S0 rfl (OpS.weakM rfl (by simp only [kev, ktab, klen, kcv] <;> rfl) (by simp only [kev, ktab, klen, kcv] <;> rfl) cl105 (w_impl_SaidOf v.kept.store h)) (by simp only [kput] <;> rfl) ?_
    refine SOps.ev tab_ok rfl (ev_cat (by simp only [kev, ktab, klen, kcv] <;> rfl) (by simp only [kev, ktab, klen, kcv] <;> rfl) (by first | omega | (simp only [List.length_append, List.length_cons, List.length_nil]; omega) | (simp only [boxH, List.length_append, List.length_cons, List.length_nil]; omega))) (by simp only [kput] <;> rfl) ?_
    refine SOps.ev tab_ok rfl (by simp only [kev, ktab, klen, kcv] <;> rfl) (by simp only [kput] <;> rfl) ?_
    refine SOps.nil ?_
    refine TOps.nil ?_
    refine Ok.ret ?_
    repeat (first | with_reducible refine thenQ_ret ?_ | with_reducible refine blockQ_ret ?_)
    refine retQ.end (by show resVs tab _ [.tmp 2] = _; simp only [kev, ktab, klen, kcv] <;> rfl) rfl ?_
    simp_all [serverS, V.erase, V.trav, packV]
  · try simp only [bsimp] at hb2
    have q0 := numS_len v.kept.store.by_
    have q1 := saidS_len h
    refine Ok.skip ?_
    refine Ok.seq ?_
    refine Ok.drawn 16 21 [] (by kernel_rfl) (by kernel_rfl) rfl ?_
    refine SOps.ev tab_ok rfl (by simp only [kev, ktab, klen, kcv] <;> rfl) (by simp only [kput] <;> rfl) ?_
    refine SOps.ev tab_ok rfl (by simp only [kev, ktab, klen, kcv] <;> rfl) (by simp only [kput] <;> rfl) ?_
    refine SOps.ev tab_ok rfl (by simp only [kev, ktab, klen, kcv] <;> rfl) (by simp only [kput] <;> rfl) ?_
    refine SOps.ev tab_ok rfl (by simp only [kev, ktab, klen, kcv] <;> rfl) (by simp only [kput] <;> rfl) ?_
    refine SOps.S0 rfl (OpS.weakM rfl (by simp only [kev, ktab, klen, kcv] <;> rfl) (by simp only [kev, ktab, klen, kcv] <;> rfl) cl104 (w_impl_told v.kept.store.by_)) (by simp only [kput] <;> rfl) ?_
    refine SOps.ev tab_ok rfl (ev_cat (by simp only [kev, ktab, klen, kcv] <;> rfl) (by simp only [kev, ktab, klen, kcv] <;> rfl) (by first | omega | (simp only [List.length_append, List.length_cons, List.length_nil]; omega) | (simp only [boxH, List.length_append, List.length_cons, List.length_nil]; omega))) (by simp only [kput] <;> rfl) ?_
    refine SOps.ev tab_ok rfl (ev_cat (by simp only [kev, ktab, klen, kcv] <;> rfl) (by simp only [kev, ktab, klen, kcv] <;> rfl) (by first | omega | (simp only [List.length_append, List.length_cons, List.length_nil]; omega) | (simp only [boxH, List.length_append, List.length_cons, List.length_nil]; omega))) (by simp only [kput] <;> rfl) ?_
    refine SOps.ev tab_ok rfl (by simp only [kev, ktab, klen, kcv] <;> rfl) (by simp only [kput] <;> rfl) ?_
    refine SOps.ev tab_ok rfl (ev_cat (by simp only [kev, ktab, klen, kcv] <;> rfl) (by simp only [kev, ktab, klen, kcv] <;> rfl) (by first | omega | (simp only [List.length_append, List.length_cons, List.length_nil]; omega) | (simp only [boxH, List.length_append, List.length_cons, List.length_nil]; omega))) (by simp only [kput] <;> rfl) ?_
    refine SOps.ev tab_ok rfl (ev_cat (by simp only [kev, ktab, klen, kcv] <;> rfl) (by simp only [kev, ktab, klen, kcv] <;> rfl) (by first | omega | (simp only [List.length_append, List.length_cons, List.length_nil]; omega) | (simp only [boxH, List.length_append, List.length_cons, List.length_nil]; omega))) (by simp only [kput] <;> rfl) ?_
    refine SOps.ev tab_ok rfl (by simp only [kev, ktab, klen, kcv] <;> rfl) (by simp only [kput] <;> rfl) ?_
    refine SOps.ev tab_ok rfl (by simp only [kev, ktab, klen, kcv] <;> rfl) (by simp only [kput] <;> rfl) ?_
    refine SOps.ev tab_ok rfl (by simp only [kev, ktab, klen, kcv] <;> rfl) (by simp only [kput] <;> rfl) ?_
    refine SOps.S0 rfl (OpS.weakM rfl (by simp only [kev, ktab, klen, kcv] <;> rfl) (by simp only [kev, ktab, klen, kcv] <;> rfl) cl105 (w_impl_SaidOf v.kept.store h)) (by simp only [kput] <;> rfl) ?_
    refine SOps.ev tab_ok rfl (ev_cat (by simp only [kev, ktab, klen, kcv] <;> rfl) (by simp only [kev, ktab, klen, kcv] <;> rfl) (by first | omega | (simp only [List.length_append, List.length_cons, List.length_nil]; omega) | (simp only [boxH, List.length_append, List.length_cons, List.length_nil]; omega))) (by simp only [kput] <;> rfl) ?_
    refine SOps.ev tab_ok rfl (by simp only [kev, ktab, klen, kcv] <;> rfl) (by simp only [kput] <;> rfl) ?_
    refine SOps.nil ?_
    refine TOps.nil ?_
    refine Ok.ret ?_
    repeat (first | with_reducible refine thenQ_ret ?_ | with_reducible refine blockQ_ret ?_)
    refine retQ.end (by show resVs tab _ [.tmp 2] = _; simp only [kev, ktab, klen, kcv] <;> rfl) rfl ?_
    simp_all [serverS, V.erase, V.trav, packV]
theorem w_spec_SaidOf (s : Store) (h : smStore s) : Weak Try.prog 103 [.agg (cStore s)] (.str (saidS s)) := by
  refine Weak.enter tab_ok Try.func103 rfl (.inr (by simp [V.labelsL, V.labels, V.labelsLL, zz, zf, zy, or_imp, forall_and])) (t := [.agg (cStore s), .any, .any, .any, .any, .any, .any, .any, .any, .any, .any, .any, .any, .any, .any, .any, .any, .any, .any, .any, .any, .any, .any, .any, .any, .any, .any, .any, .any, .any, .any, .any, .any, .any, .any, .any, .any, .any, .any, .any, .any, .any, .any, .any, .any, .any, .any, .any, .any, .any, .any, .any, .any, .any, .any, .any, .any, .any, .any, .any, .any, .any, .any, .any, .any, .any, .any]) rfl ?_
  refine Ok.seq ?_
  refine Ok.region ?_
  iterate 2 (refine OkOps.ev tab_ok rfl (by simp only [kev, ktab, klen, kcv] <;> rfl) (by simp only [kput] <;> rfl) ?_)
  refine OkOps.nil ?_
  refine Ok.seq ?_
  refine Ok.region ?_
  refine OkOps.ev tab_ok rfl (by simp only [kev, ktab, klen, kcv] <;> rfl) (by simp only [kput] <;> rfl) ?_
  refine OkOps.nil ?_
  refine Ok.seq ?_
  refine Ok.seq ?_
  refine Ok.region ?_
  refine OkOps.ev tab_ok rfl (by simp only [kev, ktab, klen, kcv] <;> rfl) (by simp only [kput] <;> rfl) ?_
  refine OkOps.nil ?_
  refine Ok.block ?_
  refine Ok.loopWZ (τ := Nat) (fun x => [(3, .str ((s.boxes.take x).flatMap boxS)), (4, .int .i64 (x : Int))]) [5, 6, 7, 8, 9, 10, 11, 12, 13, 14, 15, 16, 17, 18, 19, 20, 21, 22, 23, 24, 25, 26, 27, 28, 29, 30, 31, 32, 33, 34, 35, 36, 37, 38, 39, 40, 41, 42, 43, 44, 45, 46, 47, 48, 49, 50, 51, 52, 53, 54, 55, 56, 57, 58, 59, 60, 61, 62, 63, 64, 65] (fun x => by simp only [kover] <;> rfl) (fun x => x ≤ s.boxes.length) (fun x => s.boxes.length - x) 0 (by omega) (by refine ⟨?_, ?_, ?_, ?_, ?_, ?_, ?_, ?_, ?_, ?_, ?_, ?_, ?_, ?_, ?_, ?_, ?_, ?_, ?_, ?_, ?_, ?_, ?_, ?_, ?_, ?_, ?_, ?_, ?_, ?_, ?_, ?_, ?_, ?_, ?_, ?_, ?_, ?_, ?_, ?_, ?_, ?_, ?_, ?_, ?_, ?_, ?_, ?_, ?_, ?_, ?_, ?_, ?_, ?_, ?_, ?_, ?_, ?_, ?_, ?_, ?_, ?_, ?_, ?_, ?_, ?_, ?_, trivial⟩ <;> first | exact le_any _ | with_reducible exact le_rfl' _ | (exact le_rfl' _) | exact le_rfl' _) (Nat.zero_le _) ?_
  rintro i h1
  refine Ok.seq ?_
  refine Ok.seq ?_
  refine Ok.region ?_
  iterate 5 (refine OkOps.ev tab_ok rfl (by simp only [kev, ktab, klen, kcv] <;> rfl) (by simp only [kput] <;> rfl) ?_)
  refine OkOps.nil ?_
  refine Ok.cond (b := _) (by simp only [kev, ktab, klen, kcv] <;> rfl) (fun hb3 => ?_) (fun hb3 => ?_)
  · try simp only [bsimp] at hb3
    have hi : i < s.boxes.length := by omega
    have hB := h.1.2 _ (List.getElem_mem hi)
    have q0 := boxes_len (l := s.boxes.take i) (by rw [List.length_take]; have := h.1.1; omega) (fun b hb => ⟨(h.1.2 b (List.mem_of_mem_take hb)).1, (h.1.2 b (List.mem_of_mem_take hb)).2.1.1⟩)
    have q1 : s.boxes[i].name.length ≤ 1048576 := hB.1
    have q2 := numS_len s.boxes[i].next
    have q3 : s.boxes[i].mails.length ≤ 1048576 := hB.2.1.1
    have hn := flat_next (f := boxS) hi
    obtain ⟨acc, hacc⟩ : ∃ acc, acc = (s.boxes.take i).flatMap boxS := ⟨_, rfl⟩
    rw [← hacc] at q0 hn
    rw [← hacc]
    refine Ok.skip ?_
    refine Ok.seq ?_
    refine Ok.block ?_
    refine Ok.seq ?_
    refine Ok.region ?_
    iterate 3 (refine OkOps.ev tab_ok rfl (by simp only [kev, ktab, klen, kcv] <;> rfl) (by simp only [kput] <;> rfl) ?_)
    refine OkOps.ev tab_ok rfl (ev_idx_map (by simp only [kev, ktab, klen, kcv] <;> rfl) (by simp only [kev, ktab, klen, kcv] <;> rfl) (by omega) (by simp only [kev, ktab, klen, kcv] <;> rfl)) (by simp only [kput] <;> rfl) ?_
    iterate 2 (refine OkOps.ev tab_ok rfl (by simp only [kev, ktab, klen, kcv] <;> rfl) (by simp only [kput] <;> rfl) ?_)
    refine OkOps.storeE tab_ok rfl rfl (by simp only [kev, ktab, klen, kcv] <;> rfl) ⟨_, _, by simp only [kev]; rfl⟩ (by first | (simp [V.labelsL, V.labelsLL, V.labels, zz, zf, zy]; done) | (simp [-List.map_map, -List.map_drop, -List.map_take, -List.map_tail, -List.drop_one, V.labelsL, V.labelsLL, V.labels, zz, zf, zy]; done)) (by simp only [eq_self, V.updL, V.travL, V.travLL, V.trav, updS, updP, and_self, true_and, and_true, false_and, and_false, Nat.reduceEqDiff, Nat.reduceSub, Nat.le_refl, Nat.zero_le, ↓reduceIte, if_true, if_false, kput, zz, zf, zy] <;> rfl) (rfl) ?_
    refine OkOps.nil ?_
    refine Ok.seq ?_
    refine Ok.drawn 10 67 [] (by kernel_rfl) (by kernel_rfl) rfl ?_
    refine SOps.ev tab_ok rfl (by simp only [kev, ktab, klen, kcv] <;> rfl) (by simp only [kput] <;> rfl) ?_
    refine SOps.ev tab_ok rfl (by simp only [kev, ktab, klen, kcv] <;> rfl) (by simp only [kput] <;> rfl) ?_
    refine SOps.ev tab_ok rfl (by simp only [kev, ktab, klen, kcv] <;> rfl) (by simp only [kput] <;> rfl) ?_
    refine SOps.ev tab_ok rfl (ev_cat (by simp only [kev, ktab, klen, kcv] <;> rfl) (by simp only [kev, ktab, klen, kcv] <;> rfl) (by first | omega | (simp only [List.length_append, List.length_cons, List.length_nil]; omega) | (simp only [boxH, List.length_append, List.length_cons, List.length_nil]; omega))) (by simp only [kput] <;> rfl) ?_
    refine SOps.ev tab_ok rfl (ev_cat (by simp only [kev, ktab, klen, kcv] <;> rfl) (by simp only [kev, ktab, klen, kcv] <;> rfl) (by first | omega | (simp only [List.length_append, List.length_cons, List.length_nil]; omega) | (simp only [boxH, List.length_append, List.length_cons, List.length_nil]; omega))) (by simp only [kput] <;> rfl) ?_
    refine SOps.ev tab_ok rfl (by simp only [kev, ktab, klen, kcv] <;> rfl) (by simp only [kput] <;> rfl) ?_
    refine SOps.ev tab_ok rfl (by simp only [kev, ktab, klen, kcv] <;> rfl) (by simp only [kput] <;> rfl) ?_
    refine SOps.S0 rfl (OpS.weakM rfl (by simp only [kev, ktab, klen, kcv] <;> rfl) (by simp only [kev, ktab, klen, kcv] <;> rfl) cl102 (w_spec_l09Num s.boxes[i].next)) (by simp only [kput] <;> rfl) ?_
    refine SOps.ev tab_ok rfl (ev_cat (by simp only [kev, ktab, klen, kcv] <;> rfl) (by simp only [kev, ktab, klen, kcv] <;> rfl) (by first | omega | (simp only [List.length_append, List.length_cons, List.length_nil]; omega) | (simp only [boxH, List.length_append, List.length_cons, List.length_nil]; omega))) (by simp only [kput] <;> rfl) ?_
    refine SOps.ev tab_ok rfl (ev_cat (by simp only [kev, ktab, klen, kcv] <;> rfl) (by simp only [kev, ktab, klen, kcv] <;> rfl) (by first | omega | (simp only [List.length_append, List.length_cons, List.length_nil]; omega) | (simp only [boxH, List.length_append, List.length_cons, List.length_nil]; omega))) (by simp only [kput] <;> rfl) ?_
    refine SOps.nil ?_
    refine TOps.ev tab_ok rfl (by simp only [kev, ktab, klen, kcv] <;> rfl) (by simp only [kput] <;> rfl) ?_
    refine TOps.nil ?_
    refine Ok.seq ?_
    refine Ok.region ?_
    refine OkOps.ev tab_ok rfl (by simp only [kev, ktab, klen, kcv] <;> rfl) (by simp only [kput] <;> rfl) ?_
    refine OkOps.nil ?_
    refine Ok.block ?_
    refine Ok.loopWZ (τ := Nat) (fun x => [(3, .str (acc ++ (boxH s.boxes[i] ++ (s.boxes[i].mails.take x).flatMap mailS))), (6, .int .i64 (x : Int))]) [7, 8, 9, 32, 33, 34, 35, 36, 37, 38, 39, 40, 41, 42, 43, 44, 45, 46, 47, 48, 49, 50, 51, 52, 53, 54, 55, 56, 57, 58, 59, 60, 61, 62, 63, 64, 65] (fun x => by simp only [kover] <;> rfl) (fun x => x ≤ s.boxes[i].mails.length) (fun x => s.boxes[i].mails.length - x) 0 (by omega) (by refine ⟨?_, ?_, ?_, ?_, ?_, ?_, ?_, ?_, ?_, ?_, ?_, ?_, ?_, ?_, ?_, ?_, ?_, ?_, ?_, ?_, ?_, ?_, ?_, ?_, ?_, ?_, ?_, ?_, ?_, ?_, ?_, ?_, ?_, ?_, ?_, ?_, ?_, ?_, ?_, ?_, ?_, ?_, ?_, ?_, ?_, ?_, ?_, ?_, ?_, ?_, ?_, ?_, ?_, ?_, ?_, ?_, ?_, ?_, ?_, ?_, ?_, ?_, ?_, ?_, ?_, ?_, ?_, trivial⟩ <;> first | exact le_any _ | with_reducible exact le_rfl' _ | (first | exact le_rfl' _ | (refine le_eq ?_; simp [boxH])) | exact le_rfl' _) (Nat.zero_le _) ?_
    rintro j h2
    refine Ok.seq ?_
    refine Ok.seq ?_
    refine Ok.region ?_
    iterate 5 (refine OkOps.ev tab_ok rfl (by simp only [kev, ktab, klen, kcv] <;> rfl) (by simp only [kput] <;> rfl) ?_)
    refine OkOps.nil ?_
    refine Ok.cond (b := _) (by simp only [kev, ktab, klen, kcv] <;> rfl) (fun hb8 => ?_) (fun hb8 => ?_)
    · try simp only [bsimp] at hb8
      have hj : j < s.boxes[i].mails.length := by omega
      have r0 := mails_len (l := s.boxes[i].mails.take j) (by rw [List.length_take]; omega)
      have r1 := numS_len s.boxes[i].mails[j].uid
      have r2 := decimal_len (flN 0 (s.boxes[i].mails[j].flags.take 3) : Int)
      have r3 := hexS_len s.boxes[i].mails[j].text
      have hm := flat_next (f := mailS) hj
      refine Ok.skip ?_
      refine Ok.seq ?_
      refine Ok.block ?_
      refine Ok.seq ?_
      refine Ok.region ?_
      iterate 3 (refine OkOps.ev tab_ok rfl (by simp only [kev, ktab, klen, kcv] <;> rfl) (by simp only [kput] <;> rfl) ?_)
      refine OkOps.ev tab_ok rfl (ev_idx_map (by simp only [kev, ktab, klen, kcv] <;> rfl) (by simp only [kev, ktab, klen, kcv] <;> rfl) (by omega) (by simp only [kev, ktab, klen, kcv] <;> rfl)) (by simp only [kput] <;> rfl) ?_
      iterate 2 (refine OkOps.ev tab_ok rfl (by simp only [kev, ktab, klen, kcv] <;> rfl) (by simp only [kput] <;> rfl) ?_)
      refine OkOps.storeE tab_ok rfl rfl (by simp only [kev, ktab, klen, kcv] <;> rfl) ⟨_, _, by simp only [kev]; rfl⟩ (by first | (simp [V.labelsL, V.labelsLL, V.labels, zz, zf, zy]; done) | (simp [-List.map_map, -List.map_drop, -List.map_take, -List.map_tail, -List.drop_one, V.labelsL, V.labelsLL, V.labels, zz, zf, zy]; done)) (by simp only [eq_self, V.updL, V.travL, V.travLL, V.trav, updS, updP, and_self, true_and, and_true, false_and, and_false, Nat.reduceEqDiff, Nat.reduceSub, Nat.le_refl, Nat.zero_le, ↓reduceIte, if_true, if_false, kput, zz, zf, zy] <;> rfl) (rfl) ?_
      refine OkOps.nil ?_
      refine Ok.seq ?_
      refine Ok.region ?_
      iterate 2 (refine OkOps.ev tab_ok rfl (by simp only [kev, ktab, klen, kcv] <;> rfl) (by simp only [kput] <;> rfl) ?_)
      refine OkOps.S0 rfl (OpS.weak' rfl (by simp only [kev, ktab, klen, kcv] <;> rfl) (by simp only [kev, ktab, klen, kcv] <;> rfl) cl126 (w_spec_Hex s.boxes[i].mails[j].text)) (by simp only [kput] <;> rfl) ?_
      iterate 5 (refine OkOps.ev tab_ok rfl (by simp only [kev, ktab, klen, kcv] <;> rfl) (by simp only [kput] <;> rfl) ?_)
      refine OkOps.nil ?_
      refine Ok.drawn 16 67 [] (by kernel_rfl) (by kernel_rfl) rfl ?_
      refine SOps.ev tab_ok rfl (by simp only [kev, ktab, klen, kcv] <;> rfl) (by simp only [kput] <;> rfl) ?_
      refine SOps.ev tab_ok rfl (ev_cat (by simp only [kev, ktab, klen, kcv] <;> rfl) (by simp only [kev, ktab, klen, kcv] <;> rfl) (by first | omega | (simp only [List.length_append, List.length_cons, List.length_nil]; omega) | (simp only [boxH, List.length_append, List.length_cons, List.length_nil]; omega))) (by simp only [kput] <;> rfl) ?_
      refine SOps.ev tab_ok rfl (by simp only [kev, ktab, klen, kcv] <;> rfl) (by simp only [kput] <;> rfl) ?_
      refine SOps.ev tab_ok rfl (by simp only [kev, ktab, klen, kcv] <;> rfl) (by simp only [kput] <;> rfl) ?_
      refine SOps.S0 rfl (OpS.weakM rfl (by simp only [kev, ktab, klen, kcv] <;> rfl) (by simp only [kev, ktab, klen, kcv] <;> rfl) cl102 (w_spec_l09Num s.boxes[i].mails[j].uid)) (by simp only [kput] <;> rfl) ?_
      refine SOps.ev tab_ok rfl (ev_cat (by simp only [kev, ktab, klen, kcv] <;> rfl) (by simp only [kev, ktab, klen, kcv] <;> rfl) (by first | omega | (simp only [List.length_append, List.length_cons, List.length_nil]; omega) | (simp only [boxH, List.length_append, List.length_cons, List.length_nil]; omega))) (by simp only [kput] <;> rfl) ?_
      refine SOps.ev tab_ok rfl (ev_cat (by simp only [kev, ktab, klen, kcv] <;> rfl) (by simp only [kev, ktab, klen, kcv] <;> rfl) (by first | omega | (simp only [List.length_append, List.length_cons, List.length_nil]; omega) | (simp only [boxH, List.length_append, List.length_cons, List.length_nil]; omega))) (by simp only [kput] <;> rfl) ?_
      refine SOps.ev tab_ok rfl (by simp only [kev, ktab, klen, kcv] <;> rfl) (by simp only [kput] <;> rfl) ?_
      refine SOps.ev tab_ok rfl (by simp only [kev, ktab, klen, kcv] <;> rfl) (by simp only [kput] <;> rfl) ?_
      refine SOps.S0 rfl (OpS.weakM rfl (by simp only [kev, ktab, klen, kcv] <;> rfl) (by simp only [kev, ktab, klen, kcv] <;> rfl) cl127 (w_spec_FlagsOf s.boxes[i].mails[j].flags)) (by simp only [kput] <;> rfl) ?_
      refine SOps.S0 rfl (OpS.weakM rfl (by simp only [kev, ktab, klen, kcv] <;> rfl) (by simp only [kev, ktab, klen, kcv] <;> rfl) cl125 (w_spec_Decimal ((flN 0 (s.boxes[i].mails[j].flags.take 3) : Nat) : Int))) (by simp only [kput] <;> rfl) ?_
      refine SOps.ev tab_ok rfl (ev_cat (by simp only [kev, ktab, klen, kcv] <;> rfl) (by simp only [kev, ktab, klen, kcv] <;> rfl) (by first | omega | (simp only [List.length_append, List.length_cons, List.length_nil]; omega) | (simp only [boxH, List.length_append, List.length_cons, List.length_nil]; omega))) (by simp only [kput] <;> rfl) ?_
      refine SOps.ev tab_ok rfl (ev_cat (by simp only [kev, ktab, klen, kcv] <;> rfl) (by simp only [kev, ktab, klen, kcv] <;> rfl) (by first | omega | (simp only [List.length_append, List.length_cons, List.length_nil]; omega) | (simp only [boxH, List.length_append, List.length_cons, List.length_nil]; omega))) (by simp only [kput] <;> rfl) ?_
      refine SOps.ev tab_ok rfl (by simp only [kev, ktab, klen, kcv] <;> rfl) (by simp only [kput] <;> rfl) ?_
      refine SOps.ev tab_ok rfl (ev_cat (by simp only [kev, ktab, klen, kcv] <;> rfl) (by simp only [kev, ktab, klen, kcv] <;> rfl) (by first | omega | (simp only [List.length_append, List.length_cons, List.length_nil]; omega) | (simp only [boxH, List.length_append, List.length_cons, List.length_nil]; omega))) (by simp only [kput] <;> rfl) ?_
      refine SOps.ev tab_ok rfl (ev_cat (by simp only [kev, ktab, klen, kcv] <;> rfl) (by simp only [kev, ktab, klen, kcv] <;> rfl) (by first | omega | (simp only [List.length_append, List.length_cons, List.length_nil]; omega) | (simp only [boxH, List.length_append, List.length_cons, List.length_nil]; omega))) (by simp only [kput] <;> rfl) ?_
      refine SOps.nil ?_
      refine TOps.ev tab_ok rfl (by simp only [kev, ktab, klen, kcv] <;> rfl) (by simp only [kput] <;> rfl) ?_
      refine TOps.nil ?_
      refine Ok.region ?_
      iterate 3 (refine OkOps.ev tab_ok rfl (by simp only [kev, ktab, klen, kcv] <;> rfl) (by simp only [kput] <;> rfl) ?_)
      refine OkOps.nil ?_
      refine ⟨j + 1, ?_, rfl, by omega, by omega⟩
      simp only [V.renL, V.travL, V.travLL, V.trav, frz, zz, zf, zy, Nat.reduceLeDiff, ↓reduceIte]
      refine ⟨?_, ?_, ?_, ?_, ?_, ?_, ?_, ?_, ?_, ?_, ?_, ?_, ?_, ?_, ?_, ?_, ?_, ?_, ?_, ?_, ?_, ?_, ?_, ?_, ?_, ?_, ?_, ?_, ?_, ?_, ?_, ?_, ?_, ?_, ?_, ?_, ?_, ?_, ?_, ?_, ?_, ?_, ?_, ?_, ?_, ?_, ?_, ?_, ?_, ?_, ?_, ?_, ?_, ?_, ?_, ?_, ?_, ?_, ?_, ?_, ?_, ?_, ?_, ?_, ?_, ?_, ?_, trivial⟩ <;> first | exact le_any _ | with_reducible exact le_rfl' _ | (first | exact le_rfl' _ | (rw [wrap_add_one (by omega)]; exact le_rfl' _) | (refine le_eq ?_; rw [hm]; simp [mailS])) | exact le_rfl' _
    · try simp only [bsimp] at hb8
      rw [show j = s.boxes[i].mails.length by omega, List.take_length]
      refine Ok.exit ?_
      refine Ok.region ?_
      iterate 3 (refine OkOps.ev tab_ok rfl (by simp only [kev, ktab, klen, kcv] <;> rfl) (by simp only [kput] <;> rfl) ?_)
      refine OkOps.nil ?_
      refine ⟨i + 1, ?_, rfl, by omega, by omega⟩
      simp only [V.renL, V.travL, V.travLL, V.trav, frz, zz, zf, zy, Nat.reduceLeDiff, ↓reduceIte]
      refine ⟨?_, ?_, ?_, ?_, ?_, ?_, ?_, ?_, ?_, ?_, ?_, ?_, ?_, ?_, ?_, ?_, ?_, ?_, ?_, ?_, ?_, ?_, ?_, ?_, ?_, ?_, ?_, ?_, ?_, ?_, ?_, ?_, ?_, ?_, ?_, ?_, ?_, ?_, ?_, ?_, ?_, ?_, ?_, ?_, ?_, ?_, ?_, ?_, ?_, ?_, ?_, ?_, ?_, ?_, ?_, ?_, ?_, ?_, ?_, ?_, ?_, ?_, ?_, ?_, ?_, ?_, ?_, trivial⟩ <;> first | exact le_any _ | with_reducible exact le_rfl' _ | (first | exact le_rfl' _ | (rw [wrap_add_one (by have := h.1.1; omega)]; exact le_rfl' _) | (refine le_eq ?_; rw [hn]; simp [boxS, boxH])) | exact le_rfl' _
  · try simp only [bsimp] at hb3
    rw [show i = s.boxes.length by omega, List.take_length]
    refine Ok.exit ?_
    refine Ok.seq ?_
    refine Ok.region ?_
    iterate 2 (refine OkOps.ev tab_ok rfl (by simp only [kev, ktab, klen, kcv] <;> rfl) (by simp only [kput] <;> rfl) ?_)
    refine OkOps.nil ?_
    refine Ok.ret ?_
    repeat (first | with_reducible refine thenQ_ret ?_ | with_reducible refine blockQ_ret ?_)
    refine retQ.end (by show resVs tab _ [.tmp 2] = _; simp only [kev, ktab, klen, kcv] <;> rfl) rfl ?_
    rfl
theorem w_spec_ShowServer (v : Server) (h : smStore v.kept.store) : Weak Try.prog 70 [.agg (cServer v)] (.str (serverS v)) := by
  refine Weak.enter tab_ok Try.func70 rfl (.inr (by simp [V.labelsL, V.labels, V.labelsLL, zz, zf, zy, or_imp, forall_and])) (t := [.agg (cServer v), .any, .any, .any, .any, .any, .any, .any, .any, .any, .any, .any, .any, .any, .any, .any, .any, .any, .any, .any, .any]) rfl ?_
  refine Ok.seq ?_
  refine Ok.region ?_
  iterate 2 (refine OkOps.ev tab_ok rfl (by simp only [kev, ktab, klen, kcv] <;> rfl) (by simp only [kput] <;> rfl) ?_)
  refine OkOps.nil ?_
  refine Ok.seq ?_
  refine Ok.region ?_
  refine OkOps.ev tab_ok rfl (by simp only [kev, ktab, klen, kcv] <;> rfl) (by simp only [kput] <;> rfl) ?_
  refine OkOps.nil ?_
  refine Ok.seq ?_
  refine Ok.seq ?_
  refine Ok.region ?_
  iterate 2 (refine OkOps.ev tab_ok rfl (by simp only [kev, ktab, klen, kcv] <;> rfl) (by simp only [kput] <;> rfl) ?_)
  refine OkOps.nil ?_
  refine Ok.cond (b := _) (by simp only [kev, ktab, klen, kcv] <;> rfl) (fun hb2 => ?_) (fun hb2 => ?_)
  · try simp only [bsimp] at hb2
    have q0 := numS_len v.kept.store.by_
    have q1 := saidS_len h
    refine Ok.region ?_
    refine OkOps.ev tab_ok rfl (by simp only [kev, ktab, klen, kcv] <;> rfl) (by simp only [kput] <;> rfl) ?_
    refine OkOps.nil ?_
    refine Ok.seq ?_
    refine Ok.drawn 16 21 [] (by kernel_rfl) (by kernel_rfl) rfl ?_
    refine SOps.ev tab_ok rfl (by simp only [kev, ktab, klen, kcv] <;> rfl) (by simp only [kput] <;> rfl) ?_
    refine SOps.ev tab_ok rfl (by simp only [kev, ktab, klen, kcv] <;> rfl) (by simp only [kput] <;> rfl) ?_
    refine SOps.ev tab_ok rfl (by simp only [kev, ktab, klen, kcv] <;> rfl) (by simp only [kput] <;> rfl) ?_
    refine SOps.ev tab_ok rfl (by simp only [kev, ktab, klen, kcv] <;> rfl) (by simp only [kput] <;> rfl) ?_
    refine SOps.S0 rfl (OpS.weakM rfl (by simp only [kev, ktab, klen, kcv] <;> rfl) (by simp only [kev, ktab, klen, kcv] <;> rfl) cl102 (w_spec_l09Num v.kept.store.by_)) (by simp only [kput] <;> rfl) ?_
    refine SOps.ev tab_ok rfl (ev_cat (by simp only [kev, ktab, klen, kcv] <;> rfl) (by simp only [kev, ktab, klen, kcv] <;> rfl) (by first | omega | (simp only [List.length_append, List.length_cons, List.length_nil]; omega) | (simp only [boxH, List.length_append, List.length_cons, List.length_nil]; omega))) (by simp only [kput] <;> rfl) ?_
    refine SOps.ev tab_ok rfl (ev_cat (by simp only [kev, ktab, klen, kcv] <;> rfl) (by simp only [kev, ktab, klen, kcv] <;> rfl) (by first | omega | (simp only [List.length_append, List.length_cons, List.length_nil]; omega) | (simp only [boxH, List.length_append, List.length_cons, List.length_nil]; omega))) (by simp only [kput] <;> rfl) ?_
    refine SOps.ev tab_ok rfl (by simp only [kev, ktab, klen, kcv] <;> rfl) (by simp only [kput] <;> rfl) ?_
    refine SOps.ev tab_ok rfl (ev_cat (by simp only [kev, ktab, klen, kcv] <;> rfl) (by simp only [kev, ktab, klen, kcv] <;> rfl) (by first | omega | (simp only [List.length_append, List.length_cons, List.length_nil]; omega) | (simp only [boxH, List.length_append, List.length_cons, List.length_nil]; omega))) (by simp only [kput] <;> rfl) ?_
    refine SOps.ev tab_ok rfl (ev_cat (by simp only [kev, ktab, klen, kcv] <;> rfl) (by simp only [kev, ktab, klen, kcv] <;> rfl) (by first | omega | (simp only [List.length_append, List.length_cons, List.length_nil]; omega) | (simp only [boxH, List.length_append, List.length_cons, List.length_nil]; omega))) (by simp only [kput] <;> rfl) ?_
    refine SOps.ev tab_ok rfl (by simp only [kev, ktab, klen, kcv] <;> rfl) (by simp only [kput] <;> rfl) ?_
    refine SOps.ev tab_ok rfl (by simp only [kev, ktab, klen, kcv] <;> rfl) (by simp only [kput] <;> rfl) ?_
    refine SOps.ev tab_ok rfl (by simp only [kev, ktab, klen, kcv] <;> rfl) (by simp only [kput] <;> rfl) ?_
    refine SOps.S0 rfl (OpS.weakM rfl (by simp only [kev, ktab, klen, kcv] <;> rfl) (by simp only [kev, ktab, klen, kcv] <;> rfl) cl103 (w_spec_SaidOf v.kept.store h)) (by simp only [kput] <;> rfl) ?_
    refine SOps.ev tab_ok rfl (ev_cat (by simp only [kev, ktab, klen, kcv] <;> rfl) (by simp only [kev, ktab, klen, kcv] <;> rfl) (by first | omega | (simp only [List.length_append, List.length_cons, List.length_nil]; omega) | (simp only [boxH, List.length_append, List.length_cons, List.length_nil]; omega))) (by simp only [kput] <;> rfl) ?_
    refine SOps.ev tab_ok rfl (by simp only [kev, ktab, klen, kcv] <;> rfl) (by simp only [kput] <;> rfl) ?_
    refine SOps.nil ?_
    refine TOps.nil ?_
    refine Ok.ret ?_
    repeat (first | with_reducible refine thenQ_ret ?_ | with_reducible refine blockQ_ret ?_)
    refine retQ.end (by show resVs tab _ [.tmp 2] = _; simp only [kev, ktab, klen, kcv] <;> rfl) rfl ?_
    simp_all [serverS, V.erase, V.trav, packV]
  · try simp only [bsimp] at hb2
    have q0 := numS_len v.kept.store.by_
    have q1 := saidS_len h
    refine Ok.skip ?_
    refine Ok.seq ?_
    refine Ok.drawn 16 21 [] (by kernel_rfl) (by kernel_rfl) rfl ?_
    refine SOps.ev tab_ok rfl (by simp only [kev, ktab, klen, kcv] <;> rfl) (by simp only [kput] <;> rfl) ?_
    refine SOps.ev tab_ok rfl (by simp only [kev, ktab, klen, kcv] <;> rfl) (by simp only [kput] <;> rfl) ?_
    refine SOps.ev tab_ok rfl (by simp only [kev, ktab, klen, kcv] <;> rfl) (by simp only [kput] <;> rfl) ?_
    refine SOps.ev tab_ok rfl (by simp only [kev, ktab, klen, kcv] <;> rfl) (by simp only [kput] <;> rfl) ?_
    refine SOps.S0 rfl (OpS.weakM rfl (by simp only [kev, ktab, klen, kcv] <;> rfl) (by simp only [kev, ktab, klen, kcv] <;> rfl) cl102 (w_spec_l09Num v.kept.store.by_)) (by simp only [kput] <;> rfl) ?_
    refine SOps.ev tab_ok rfl (ev_cat (by simp only [kev, ktab, klen, kcv] <;> rfl) (by simp only [kev, ktab, klen, kcv] <;> rfl) (by first | omega | (simp only [List.length_append, List.length_cons, List.length_nil]; omega) | (simp only [boxH, List.length_append, List.length_cons, List.length_nil]; omega))) (by simp only [kput] <;> rfl) ?_
    refine SOps.ev tab_ok rfl (ev_cat (by simp only [kev, ktab, klen, kcv] <;> rfl) (by simp only [kev, ktab, klen, kcv] <;> rfl) (by first | omega | (simp only [List.length_append, List.length_cons, List.length_nil]; omega) | (simp only [boxH, List.length_append, List.length_cons, List.length_nil]; omega))) (by simp only [kput] <;> rfl) ?_
    refine SOps.ev tab_ok rfl (by simp only [kev, ktab, klen, kcv] <;> rfl) (by simp only [kput] <;> rfl) ?_
    refine SOps.ev tab_ok rfl (ev_cat (by simp only [kev, ktab, klen, kcv] <;> rfl) (by simp only [kev, ktab, klen, kcv] <;> rfl) (by first | omega | (simp only [List.length_append, List.length_cons, List.length_nil]; omega) | (simp only [boxH, List.length_append, List.length_cons, List.length_nil]; omega))) (by simp only [kput] <;> rfl) ?_
    refine SOps.ev tab_ok rfl (ev_cat (by simp only [kev, ktab, klen, kcv] <;> rfl) (by simp only [kev, ktab, klen, kcv] <;> rfl) (by first | omega | (simp only [List.length_append, List.length_cons, List.length_nil]; omega) | (simp only [boxH, List.length_append, List.length_cons, List.length_nil]; omega))) (by simp only [kput] <;> rfl) ?_
    refine SOps.ev tab_ok rfl (by simp only [kev, ktab, klen, kcv] <;> rfl) (by simp only [kput] <;> rfl) ?_
    refine SOps.ev tab_ok rfl (by simp only [kev, ktab, klen, kcv] <;> rfl) (by simp only [kput] <;> rfl) ?_
    refine SOps.ev tab_ok rfl (by simp only [kev, ktab, klen, kcv] <;> rfl) (by simp only [kput] <;> rfl) ?_
    refine SOps.S0 rfl (OpS.weakM rfl (by simp only [kev, ktab, klen, kcv] <;> rfl) (by simp only [kev, ktab, klen, kcv] <;> rfl) cl103 (w_spec_SaidOf v.kept.store h)) (by simp only [kput] <;> rfl) ?_
    refine SOps.ev tab_ok rfl (ev_cat (by simp only [kev, ktab, klen, kcv] <;> rfl) (by simp only [kev, ktab, klen, kcv] <;> rfl) (by first | omega | (simp only [List.length_append, List.length_cons, List.length_nil]; omega) | (simp only [boxH, List.length_append, List.length_cons, List.length_nil]; omega))) (by simp only [kput] <;> rfl) ?_
    refine SOps.ev tab_ok rfl (by simp only [kev, ktab, klen, kcv] <;> rfl) (by simp only [kput] <;> rfl) ?_
    refine SOps.nil ?_
    refine TOps.nil ?_
    refine Ok.ret ?_
    repeat (first | with_reducible refine thenQ_ret ?_ | with_reducible refine blockQ_ret ?_)
    refine retQ.end (by show resVs tab _ [.tmp 2] = _; simp only [kev, ktab, klen, kcv] <;> rfl) rfl ?_
    simp_all [serverS, V.erase, V.trav, packV]
theorem w_impl_ShowPair (p : Pair) (h : smPair p) : Weak Try.prog 33 [.agg (cPair p)] (.str (pairS p (agreeP p))) := by
  refine Weak.enter tab_ok Try.func33 rfl (.inr (by simp [V.labelsL, V.labels, V.labelsLL, zz, zf, zy, or_imp, forall_and])) (t := [.agg (cPair p), .any, .any, .any, .any, .any, .any, .any, .any, .any, .any, .any, .any, .any, .any, .any, .any, .any, .any, .any, .any, .any, .any, .any, .any, .any, .any, .any, .any]) rfl ?_
  refine Ok.seq ?_
  refine Ok.region ?_
  iterate 2 (refine OkOps.ev tab_ok rfl (by simp only [kev, ktab, klen, kcv] <;> rfl) (by simp only [kput] <;> rfl) ?_)
  refine OkOps.nil ?_
  refine Ok.seq ?_
  refine Ok.region ?_
  refine OkOps.ev tab_ok rfl (by simp only [kev, ktab, klen, kcv] <;> rfl) (by simp only [kput] <;> rfl) ?_
  refine OkOps.nil ?_
  refine Ok.seq ?_
  refine Ok.seq ?_
  refine Ok.region ?_
  iterate 5 (refine OkOps.ev tab_ok rfl (by simp only [kev, ktab, klen, kcv] <;> rfl) (by simp only [kput] <;> rfl) ?_)
  refine OkOps.ev tab_ok rfl (by simp only [kev, ktab, klen, kcv, Bool.false_eq_true, if_false, min2] <;> rfl) (by simp only [kput] <;> rfl) ?_
  refine OkOps.ev tab_ok rfl (ev_partHi_map (by simp only [kev, ktab, klen, kcv, Bool.false_eq_true, if_false, min2] <;> rfl) (by simp only [kev, ktab, klen, kcv, Bool.false_eq_true, if_false, min2] <;> rfl) (by simp only [ktab] <;> rfl) (by simp only [ktab, Option.map_some] <;> rfl) (by omega)) (by simp only [kput] <;> rfl) ?_
  iterate 2 (refine OkOps.ev tab_ok rfl (by simp only [kev, ktab, klen, kcv] <;> rfl) (by simp only [kput] <;> rfl) ?_)
  refine OkOps.nil ?_
  refine Ok.block ?_
  refine Ok.loopWZ (τ := Nat) (fun x => [(3, .str (((p.servers.take (min 2 p.servers.length)).take x).flatMap serverS)), (14, .int .i64 (x : Int))]) [5, 15, 16, 17, 18, 19, 20, 21, 22] (fun x => by simp only [kover] <;> rfl) (fun x => x ≤ (p.servers.take (min 2 p.servers.length)).length) (fun x => (p.servers.take (min 2 p.servers.length)).length - x) 0 (by omega) (by refine ⟨?_, ?_, ?_, ?_, ?_, ?_, ?_, ?_, ?_, ?_, ?_, ?_, ?_, ?_, ?_, ?_, ?_, ?_, ?_, ?_, ?_, ?_, ?_, ?_, ?_, ?_, ?_, ?_, ?_, trivial⟩ <;> first | exact le_any _ | with_reducible exact le_rfl' _ | (exact le_rfl' _) | exact le_rfl' _) (Nat.zero_le _) ?_
  rintro i h1
  refine Ok.seq ?_
  refine Ok.region ?_
  refine OkOps.ev tab_ok rfl (by simp only [kev, ktab, klen, kcv] <;> rfl) (by simp only [kput] <;> rfl) ?_
  refine OkOps.nil ?_
  refine Ok.seq ?_
  refine Ok.cond (b := _) (by simp only [kev, ktab, klen, kcv] <;> rfl) (fun hb3 => ?_) (fun hb3 => ?_)
  · try simp only [bsimp] at hb3
    have hi : i < (p.servers.take (min 2 p.servers.length)).length := by omega
    have q0 := servers_len (l := (p.servers.take (min 2 p.servers.length)).take i) (by rw [List.length_take, List.length_take]; omega) (fun v hv => (h.1.2 v (List.mem_of_mem_take (List.mem_of_mem_take hv))).1.1)
    have hv := (h.1.2 _ (List.mem_of_mem_take (List.getElem_mem hi))).1.1
    have q1 := serverS_len hv
    have hn := flat_next (f := serverS) hi
    refine Ok.skip ?_
    refine Ok.seq ?_
    refine Ok.block ?_
    refine Ok.seq ?_
    refine Ok.region ?_
    refine OkOps.ev tab_ok rfl (ev_idx_map (by simp only [kev, ktab, klen, kcv] <;> rfl) (by simp only [kev, ktab, klen, kcv] <;> rfl) (by omega) (by simp only [kev, ktab, klen, kcv] <;> rfl)) (by simp only [kput] <;> rfl) ?_
    iterate 2 (refine OkOps.ev tab_ok rfl (by simp only [kev, ktab, klen, kcv] <;> rfl) (by simp only [kput] <;> rfl) ?_)
    refine OkOps.storeE tab_ok rfl rfl (by simp only [kev, ktab, klen, kcv] <;> rfl) ⟨_, _, by simp only [kev]; rfl⟩ (by first | (simp [V.labelsL, V.labelsLL, V.labels, zz, zf, zy]; done) | (simp [-List.map_map, -List.map_drop, -List.map_take, -List.map_tail, -List.drop_one, V.labelsL, V.labelsLL, V.labels, zz, zf, zy]; done)) (by simp only [eq_self, V.updL, V.travL, V.travLL, V.trav, updS, updP, and_self, true_and, and_true, false_and, and_false, Nat.reduceEqDiff, Nat.reduceSub, Nat.le_refl, Nat.zero_le, ↓reduceIte, if_true, if_false, kput, zz, zf, zy] <;> rfl) (rfl) ?_
    refine OkOps.nil ?_
    refine Ok.region ?_
    iterate 2 (refine OkOps.ev tab_ok rfl (by simp only [kev, ktab, klen, kcv] <;> rfl) (by simp only [kput] <;> rfl) ?_)
    refine OkOps.S0 rfl (OpS.weak' rfl (by simp only [kev, ktab, klen, kcv] <;> rfl) (by simp only [kev, ktab, klen, kcv] <;> rfl) cl71 (w_impl_ShowServer (p.servers.take (min 2 p.servers.length))[i] hv)) (by simp only [kput] <;> rfl) ?_
    refine OkOps.ev tab_ok rfl (ev_cat (by simp only [kev, ktab, klen, kcv] <;> rfl) (by simp only [kev, ktab, klen, kcv] <;> rfl) (by first | omega | (simp only [List.length_append, List.length_cons, List.length_nil]; omega) | (simp only [boxH, List.length_append, List.length_cons, List.length_nil]; omega))) (by simp only [kput] <;> rfl) ?_
    refine OkOps.ev tab_ok rfl (by simp only [kev, ktab, klen, kcv] <;> rfl) (by simp only [kput] <;> rfl) ?_
    refine OkOps.nil ?_
    refine Ok.region ?_
    iterate 2 (refine OkOps.ev tab_ok rfl (by simp only [kev, ktab, klen, kcv] <;> rfl) (by simp only [kput] <;> rfl) ?_)
    refine OkOps.nil ?_
    refine ⟨i + 1, ?_, rfl, by omega, by omega⟩
    simp only [V.renL, V.travL, V.travLL, V.trav, frz, zz, zf, zy, Nat.reduceLeDiff, ↓reduceIte]
    refine ⟨?_, ?_, ?_, ?_, ?_, ?_, ?_, ?_, ?_, ?_, ?_, ?_, ?_, ?_, ?_, ?_, ?_, ?_, ?_, ?_, ?_, ?_, ?_, ?_, ?_, ?_, ?_, ?_, ?_, trivial⟩ <;> first | exact le_any _ | with_reducible exact le_rfl' _ | (first | exact le_rfl' _ | (rw [wrap_add_one (by have := h.1.1; rw [List.length_take] at hi; omega)]; exact le_rfl' _) | (refine le_eq ?_; rw [hn])) | exact le_rfl' _
  · try simp only [bsimp] at hb3
    rw [show i = (p.servers.take (min 2 p.servers.length)).length by omega, List.take_length, take_min2]
    have q0 := servers_len (l := p.servers.take 2) (by rw [List.length_take]; omega) (fun v hv => (h.1.2 v (List.mem_of_mem_take hv)).1.1)
    refine Ok.exit ?_
    refine Ok.seq ?_
    refine Ok.seq ?_
    refine Ok.region ?_
    refine OkOps.ev tab_ok rfl (by simp only [kev, ktab, klen, kcv] <;> rfl) (by simp only [kput] <;> rfl) ?_
    refine OkOps.S0 rfl (OpS.weak' rfl (by simp only [kev, ktab, klen, kcv] <;> rfl) (by simp only [kev, ktab, klen, kcv] <;> rfl) cl31 (w_impl_Agree p)) (by simp only [kput] <;> rfl) ?_
    refine OkOps.nil ?_
    refine Ok.cond (b := _) (by simp only [kev, ktab, klen, kcv] <;> rfl) (fun hb7 => ?_) (fun hb7 => ?_)
    · try simp only [bsimp] at hb7
      rw [pairS, if_pos hb7]
      refine Ok.seq ?_
      refine Ok.region ?_
      refine OkOps.ev tab_ok rfl (by simp only [kev, ktab, klen, kcv] <;> rfl) (by simp only [kput] <;> rfl) ?_
      refine OkOps.ev tab_ok rfl (ev_cat (by simp only [kev, ktab, klen, kcv] <;> rfl) (by simp only [kev, ktab, klen, kcv] <;> rfl) (by first | omega | (simp only [List.length_append, List.length_cons, List.length_nil]; omega) | (simp only [boxH, List.length_append, List.length_cons, List.length_nil]; omega))) (by simp only [kput] <;> rfl) ?_
      refine OkOps.ev tab_ok rfl (by simp only [kev, ktab, klen, kcv] <;> rfl) (by simp only [kput] <;> rfl) ?_
      refine OkOps.nil ?_
      refine Ok.ret ?_
      repeat (first | with_reducible refine thenQ_ret ?_ | with_reducible refine blockQ_ret ?_)
      refine retQ.end (by show resVs tab _ [.tmp 2] = _; simp only [kev, ktab, klen, kcv] <;> rfl) rfl ?_
      rfl
    · try simp only [bsimp] at hb7
      rw [pairS, hb7, if_neg Bool.false_ne_true]
      refine Ok.skip ?_
      refine Ok.seq ?_
      refine Ok.region ?_
      refine OkOps.ev tab_ok rfl (by simp only [kev, ktab, klen, kcv] <;> rfl) (by simp only [kput] <;> rfl) ?_
      refine OkOps.ev tab_ok rfl (ev_cat (by simp only [kev, ktab, klen, kcv] <;> rfl) (by simp only [kev, ktab, klen, kcv] <;> rfl) (by first | omega | (simp only [List.length_append, List.length_cons, List.length_nil]; omega) | (simp only [boxH, List.length_append, List.length_cons, List.length_nil]; omega))) (by simp only [kput] <;> rfl) ?_
      refine OkOps.ev tab_ok rfl (by simp only [kev, ktab, klen, kcv] <;> rfl) (by simp only [kput] <;> rfl) ?_
      refine OkOps.nil ?_
      refine Ok.ret ?_
      repeat (first | with_reducible refine thenQ_ret ?_ | with_reducible refine blockQ_ret ?_)
      refine retQ.end (by show resVs tab _ [.tmp 2] = _; simp only [kev, ktab, klen, kcv] <;> rfl) rfl ?_
      rfl
theorem w_spec_ShowPair (p : Pair) (h : smPair p) : Weak Try.prog 32 [.agg (cPair p)] (.str (pairS p (agreeP p))) := by
  refine Weak.enter tab_ok Try.func32 rfl (.inr (by simp [V.labelsL, V.labels, V.labelsLL, zz, zf, zy, or_imp, forall_and])) (t := [.agg (cPair p), .any, .any, .any, .any, .any, .any, .any, .any, .any, .any, .any, .any, .any, .any, .any, .any, .any, .any, .any, .any, .any, .any, .any, .any, .any, .any, .any, .any, .any]) rfl ?_
  refine Ok.seq ?_
  refine Ok.region ?_
  iterate 2 (refine OkOps.ev tab_ok rfl (by simp only [kev, ktab, klen, kcv] <;> rfl) (by simp only [kput] <;> rfl) ?_)
  refine OkOps.nil ?_
  refine Ok.seq ?_
  refine Ok.region ?_
  refine OkOps.ev tab_ok rfl (by simp only [kev, ktab, klen, kcv] <;> rfl) (by simp only [kput] <;> rfl) ?_
  refine OkOps.nil ?_
  refine Ok.seq ?_
  refine Ok.seq ?_
  refine Ok.region ?_
  refine OkOps.ev tab_ok rfl (by simp only [kev, ktab, klen, kcv] <;> rfl) (by simp only [kput] <;> rfl) ?_
  refine OkOps.nil ?_
  refine Ok.block ?_
  refine Ok.loopWZ (τ := Nat) (fun x => [(3, .str ((p.servers.take x).flatMap serverS)), (4, .int .i64 (x : Int))]) [5, 6, 7, 8, 9, 10, 11, 12, 13, 14, 15, 16, 17, 18, 19, 20, 21, 22, 23] (fun x => by simp only [kover] <;> rfl) (fun x => x ≤ p.servers.length ∧ x ≤ 2) (fun x => 2 - x) 0 (by omega) (by refine ⟨?_, ?_, ?_, ?_, ?_, ?_, ?_, ?_, ?_, ?_, ?_, ?_, ?_, ?_, ?_, ?_, ?_, ?_, ?_, ?_, ?_, ?_, ?_, ?_, ?_, ?_, ?_, ?_, ?_, ?_, trivial⟩ <;> first | exact le_any _ | with_reducible exact le_rfl' _ | (exact le_rfl' _) | exact le_rfl' _) (⟨Nat.zero_le _, Nat.zero_le _⟩) ?_
  rintro i ⟨h1, h2⟩
  refine Ok.seq ?_
  refine Ok.seqC [(13, .bool (decide (i < p.servers.length ∧ i < 2)))] [5, 6, 7, 8, 9, 10, 11, 12] (by simp only [kover] <;> rfl) ?_ ?_
  · skip
    refine Ok.region ?_
    iterate 6 (refine OkOps.ev tab_ok rfl (by simp only [kev, ktab, klen, kcv] <;> rfl) (by simp only [kput] <;> rfl) ?_)
    refine OkOps.split (d := 10) (by simp only [kev, ktab, klen, kcv] <;> rfl) (by simp only [kput] <;> rfl) (by simp only [kput] <;> rfl) (fun hg3_5 => ?_) (fun hg3_5 => ?_)
    · try simp only [bsimp] at hg3_5
      refine OkOps.on rfl rfl (by simp only [kev, ktab, klen, kcv]) ?_
      refine OkOps.ev tab_ok rfl (by simp only [kev, ktab, klen, kcv] <;> rfl) (by simp only [kput] <;> rfl) ?_
      refine OkOps.on rfl rfl (by simp only [kev, ktab, klen, kcv]) ?_
      iterate 2 (refine OkOps.ev tab_ok rfl (by simp only [kev, ktab, klen, kcv] <;> rfl) (by simp only [kput] <;> rfl) ?_)
      refine OkOps.nil ?_
      refine ⟨rfl, ?_, rfl, rfl⟩
      refine ⟨?_, ?_, ?_, ?_, ?_, ?_, ?_, ?_, ?_, ?_, ?_, ?_, ?_, ?_, ?_, ?_, ?_, ?_, ?_, ?_, ?_, ?_, ?_, ?_, ?_, ?_, ?_, ?_, ?_, ?_, trivial⟩ <;> first | exact le_any _ | with_reducible exact le_rfl' _ | (refine .inl (congrArg V.bool ?_); first | exact decide_eq_decide.2 (by omega) | exact (decide_eq_false (by omega)).symm) | exact le_rfl' _
    · try simp only [bsimp] at hg3_5
      refine OkOps.offU rfl rfl (.inl (by simp only [kev, ktab, klen, kcv, Bool.not_true, Bool.not_false])) (by simp only [kput] <;> rfl) ?_
      refine OkOps.offU rfl rfl (.inl (by simp only [kev, ktab, klen, kcv, Bool.not_true, Bool.not_false])) (by simp only [kput] <;> rfl) ?_
      refine OkOps.ev tab_ok rfl (by simp only [kev, ktab, klen, kcv] <;> rfl) (by simp only [kput] <;> rfl) ?_
      refine OkOps.nil ?_
      refine ⟨rfl, ?_, rfl, rfl⟩
      refine ⟨?_, ?_, ?_, ?_, ?_, ?_, ?_, ?_, ?_, ?_, ?_, ?_, ?_, ?_, ?_, ?_, ?_, ?_, ?_, ?_, ?_, ?_, ?_, ?_, ?_, ?_, ?_, ?_, ?_, ?_, trivial⟩ <;> first | exact le_any _ | with_reducible exact le_rfl' _ | (refine .inl (congrArg V.bool ?_); first | exact decide_eq_decide.2 (by omega) | exact (decide_eq_false (by omega)).symm) | exact le_rfl' _
  · skip
    refine Ok.cond (b := _) (by simp only [kev, ktab, klen, kcv] <;> rfl) (fun hb3 => ?_) (fun hb3 => ?_)
    · try simp only [bsimp] at hb3
      obtain ⟨hi, hi2⟩ : i < p.servers.length ∧ i < 2 := hb3
      have q0 := servers_len (l := p.servers.take i) (by rw [List.length_take]; omega) (fun v hv => (h.1.2 v (List.mem_of_mem_take hv)).1.1)
      have hv := (h.1.2 _ (List.getElem_mem hi)).1.1
      have q1 := serverS_len hv
      have hn := flat_next (f := serverS) hi
      refine Ok.skip ?_
      refine Ok.seq ?_
      refine Ok.block ?_
      refine Ok.region ?_
      iterate 4 (refine OkOps.ev tab_ok rfl (by simp only [kev, ktab, klen, kcv] <;> rfl) (by simp only [kput] <;> rfl) ?_)
      refine OkOps.ev tab_ok rfl (ev_idx_map (by simp only [kev, ktab, klen, kcv] <;> rfl) (by simp only [kev, ktab, klen, kcv] <;> rfl) (by omega) (by simp only [kev, ktab, klen, kcv] <;> rfl)) (by simp only [kput] <;> rfl) ?_
      refine OkOps.ev tab_ok rfl (by simp only [kev, ktab, klen, kcv] <;> rfl) (by simp only [kput] <;> rfl) ?_
      refine OkOps.S0 rfl (OpS.weak' rfl (by simp only [kev, ktab, klen, kcv] <;> rfl) (by simp only [kev, ktab, klen, kcv] <;> rfl) cl70 (w_spec_ShowServer p.servers[i] hv)) (by simp only [kput] <;> rfl) ?_
      refine OkOps.ev tab_ok rfl (ev_cat (by simp only [kev, ktab, klen, kcv] <;> rfl) (by simp only [kev, ktab, klen, kcv] <;> rfl) (by first | omega | (simp only [List.length_append, List.length_cons, List.length_nil]; omega) | (simp only [boxH, List.length_append, List.length_cons, List.length_nil]; omega))) (by simp only [kput] <;> rfl) ?_
      refine OkOps.ev tab_ok rfl (by simp only [kev, ktab, klen, kcv] <;> rfl) (by simp only [kput] <;> rfl) ?_
      refine OkOps.nil ?_
      refine Ok.region ?_
      iterate 3 (refine OkOps.ev tab_ok rfl (by simp only [kev, ktab, klen, kcv] <;> rfl) (by simp only [kput] <;> rfl) ?_)
      refine OkOps.nil ?_
      refine ⟨i + 1, ?_, rfl, ⟨by omega, by omega⟩, by omega⟩
      simp only [V.renL, V.travL, V.travLL, V.trav, frz, zz, zf, zy, Nat.reduceLeDiff, ↓reduceIte]
      refine ⟨?_, ?_, ?_, ?_, ?_, ?_, ?_, ?_, ?_, ?_, ?_, ?_, ?_, ?_, ?_, ?_, ?_, ?_, ?_, ?_, ?_, ?_, ?_, ?_, ?_, ?_, ?_, ?_, ?_, ?_, trivial⟩ <;> first | exact le_any _ | with_reducible exact le_rfl' _ | (first | exact le_rfl' _ | (rw [wrap_add_one (by omega)]; exact le_rfl' _) | (refine le_eq ?_; rw [hn])) | exact le_rfl' _
    · try simp only [bsimp] at hb3
      have hni : ¬ (i < p.servers.length ∧ i < 2) := hb3
      have ht : p.servers.take i = p.servers.take 2 := by rcases Nat.lt_or_ge i 2 with h | h; (rw [List.take_of_length_le (by omega), List.take_of_length_le (by omega)]); (rw [show i = 2 by omega])
      rw [ht]
      have q0 := servers_len (l := p.servers.take 2) (by rw [List.length_take]; omega) (fun v hv => (h.1.2 v (List.mem_of_mem_take hv)).1.1)
      refine Ok.exit ?_
      refine Ok.seq ?_
      refine Ok.seq ?_
      refine Ok.region ?_
      refine OkOps.ev tab_ok rfl (by simp only [kev, ktab, klen, kcv] <;> rfl) (by simp only [kput] <;> rfl) ?_
      refine OkOps.S0 rfl (OpS.weak' rfl (by simp only [kev, ktab, klen, kcv] <;> rfl) (by simp only [kev, ktab, klen, kcv] <;> rfl) cl29 (w_spec_Agree p h)) (by simp only [kput] <;> rfl) ?_
      refine OkOps.nil ?_
      refine Ok.cond (b := _) (by simp only [kev, ktab, klen, kcv] <;> rfl) (fun hb6 => ?_) (fun hb6 => ?_)
      · try simp only [bsimp] at hb6
        rw [pairS, if_pos hb6]
        refine Ok.seq ?_
        refine Ok.region ?_
        refine OkOps.ev tab_ok rfl (by simp only [kev, ktab, klen, kcv] <;> rfl) (by simp only [kput] <;> rfl) ?_
        refine OkOps.ev tab_ok rfl (ev_cat (by simp only [kev, ktab, klen, kcv] <;> rfl) (by simp only [kev, ktab, klen, kcv] <;> rfl) (by first | omega | (simp only [List.length_append, List.length_cons, List.length_nil]; omega) | (simp only [boxH, List.length_append, List.length_cons, List.length_nil]; omega))) (by simp only [kput] <;> rfl) ?_
        refine OkOps.ev tab_ok rfl (by simp only [kev, ktab, klen, kcv] <;> rfl) (by simp only [kput] <;> rfl) ?_
        refine OkOps.nil ?_
        refine Ok.ret ?_
        repeat (first | with_reducible refine thenQ_ret ?_ | with_reducible refine blockQ_ret ?_)
        refine retQ.end (by show resVs tab _ [.tmp 2] = _; simp only [kev, ktab, klen, kcv] <;> rfl) rfl ?_
        rfl
      · try simp only [bsimp] at hb6
        rw [pairS, hb6, if_neg Bool.false_ne_true]
        refine Ok.skip ?_
        refine Ok.seq ?_
        refine Ok.region ?_
        refine OkOps.ev tab_ok rfl (by simp only [kev, ktab, klen, kcv] <;> rfl) (by simp only [kput] <;> rfl) ?_
        refine OkOps.ev tab_ok rfl (ev_cat (by simp only [kev, ktab, klen, kcv] <;> rfl) (by simp only [kev, ktab, klen, kcv] <;> rfl) (by first | omega | (simp only [List.length_append, List.length_cons, List.length_nil]; omega) | (simp only [boxH, List.length_append, List.length_cons, List.length_nil]; omega))) (by simp only [kput] <;> rfl) ?_
        refine OkOps.ev tab_ok rfl (by simp only [kev, ktab, klen, kcv] <;> rfl) (by simp only [kput] <;> rfl) ?_
        refine OkOps.nil ?_
        refine Ok.ret ?_
        repeat (first | with_reducible refine thenQ_ret ?_ | with_reducible refine blockQ_ret ?_)
        refine retQ.end (by show resVs tab _ [.tmp 2] = _; simp only [kev, ktab, klen, kcv] <;> rfl) rfl ?_
        rfl
theorem w_laws_FnExactShowPair (p : Pair) (hb : okPair p) : Weak Try.prog 8 [.agg (cPair p)] (.bool true) := by
  refine Weak.enter tab_ok Try.func8 rfl (.inr (by simp [V.labelsL, V.labels, V.labelsLL, zz, zf, zy, or_imp, forall_and])) (t := [.agg (cPair p), .any, .any, .any, .any, .any, .any, .any, .any, .any, .any, .any, .any, .any, .any, .any, .any, .any, .any, .any, .any, .any, .any, .any, .any, .any, .any]) rfl ?_
  refine Ok.seq ?_
  refine Ok.region ?_
  iterate 2 (refine OkOps.ev tab_ok rfl (by simp only [kev, ktab, klen, kcv] <;> rfl) (by simp only [kput] <;> rfl) ?_)
  refine OkOps.nil ?_
  refine Ok.seq ?_
  refine Ok.region ?_
  refine OkOps.ev tab_ok rfl (by simp only [kev, ktab, klen, kcv] <;> rfl) (by simp only [kput] <;> rfl) ?_
  refine OkOps.nil ?_
  refine Ok.seq ?_
  refine Ok.region ?_
  iterate 2 (refine OkOps.ev tab_ok rfl (by simp only [kev, ktab, klen, kcv] <;> rfl) (by simp only [kput] <;> rfl) ?_)
  refine OkOps.S0 rfl (OpS.weakE rfl (by simp only [kev, ktab, klen, kcv] <;> rfl) (by simp only [kev, ktab, klen, kcv, V.eraseL, V.erase, V.travL, V.trav, zz, zf, zy] <;> rfl) cl28 (by simp [V.labels, V.labelsL, V.labelsLL, zz, zf, zy]) (w_laws_szPair p _)) (by simp only [kput] <;> rfl) ?_
  refine OkOps.ev tab_ok rfl (by simp only [kev, ktab, klen, kcv] <;> rfl) (by simp only [kput] <;> rfl) ?_
  refine OkOps.nil ?_
  refine Ok.seq ?_
  refine Ok.seq ?_
  refine Ok.region ?_
  iterate 2 (refine OkOps.ev tab_ok rfl (by simp only [kev, ktab, klen, kcv] <;> rfl) (by simp only [kput] <;> rfl) ?_)
  refine OkOps.nil ?_
  refine Ok.cond (b := _) (by simp only [kev, ktab, klen, kcv] <;> rfl) (fun hb3 => ?_) (fun hb3 => ?_)
  · try simp only [bsimp] at hb3
    refine Ok.seq ?_
    refine Ok.region ?_
    refine OkOps.ev tab_ok rfl (by simp only [kev, ktab, klen, kcv] <;> rfl) (by simp only [kput] <;> rfl) ?_
    refine OkOps.nil ?_
    refine Ok.ret ?_
    repeat (first | with_reducible refine thenQ_ret ?_ | with_reducible refine blockQ_ret ?_)
    refine retQ.end (by show resVs tab _ [.tmp 2] = _; simp only [kev, ktab, klen, kcv] <;> rfl) rfl ?_
    rfl
  · try simp only [bsimp] at hb3
    have hs := (szPair_cnt hb 1048576 (by omega) (by omega) hb3).2
    refine Ok.skip ?_
    refine Ok.seq ?_
    refine Ok.region ?_
    refine OkOps.ev tab_ok rfl (by simp only [kev, ktab, klen, kcv] <;> rfl) (by simp only [kput] <;> rfl) ?_
    refine OkOps.S0 rfl (OpS.weak' rfl (by simp only [kev, ktab, klen, kcv] <;> rfl) (by simp only [kev, ktab, klen, kcv] <;> rfl) cl30 (w_laws_toPair p hs)) (by simp only [kput] <;> rfl) ?_
    refine OkOps.S0 rfl (OpS.weakE rfl (by simp only [kev, ktab, klen, kcv] <;> rfl) (by simp only [kev, ktab, klen, kcv, V.eraseL, V.erase, V.travL, V.trav, zz, zf, zy] <;> rfl) cl32 (by simp [V.labels, V.labelsL, V.labelsLL, zz, zf, zy]) (w_spec_ShowPair p hs)) (by simp only [kput] <;> rfl) ?_
    refine OkOps.ev tab_ok rfl (by simp only [kev, ktab, klen, kcv] <;> rfl) (by simp only [kput] <;> rfl) ?_
    refine OkOps.nil ?_
    refine Ok.seq ?_
    refine Ok.region ?_
    refine OkOps.ev tab_ok rfl (by simp only [kev, ktab, klen, kcv] <;> rfl) (by simp only [kput] <;> rfl) ?_
    refine OkOps.S0 rfl (OpS.weak' rfl (by simp only [kev, ktab, klen, kcv] <;> rfl) (by simp only [kev, ktab, klen, kcv] <;> rfl) cl30 (w_laws_toPair p hs)) (by simp only [kput] <;> rfl) ?_
    refine OkOps.ev tab_ok rfl (by simp only [kev, ktab, klen, kcv] <;> rfl) (by simp only [kput] <;> rfl) ?_
    refine OkOps.storeE tab_ok rfl rfl (by simp only [kev, ktab, klen, kcv] <;> rfl) ⟨_, _, by simp only [kev]; rfl⟩ (by first | (simp [V.labelsL, V.labelsLL, V.labels, zz, zf, zy]; done) | (simp [-List.map_map, -List.map_drop, -List.map_take, -List.map_tail, -List.drop_one, V.labelsL, V.labelsLL, V.labels, zz, zf, zy]; done)) (by simp only [eq_self, V.updL, V.travL, V.travLL, V.trav, updS, updP, and_self, true_and, and_true, false_and, and_false, Nat.reduceEqDiff, Nat.reduceSub, Nat.le_refl, Nat.zero_le, ↓reduceIte, if_true, if_false, kput, zz, zf, zy] <;> rfl) (rfl) ?_
    refine OkOps.nil ?_
    refine Ok.seq ?_
    refine Ok.region ?_
    refine OkOps.ev tab_ok rfl (by simp only [kev, ktab, klen, kcv] <;> rfl) (by simp only [kput] <;> rfl) ?_
    refine OkOps.S0 rfl (OpS.weakE rfl (by simp only [kev, ktab, klen, kcv] <;> rfl) (by simp only [kev, ktab, klen, kcv, V.eraseL, V.erase, V.travL, V.trav, zz, zf, zy] <;> rfl) cl33 (by simp [V.labels, V.labelsL, V.labelsLL, zz, zf, zy]) (w_impl_ShowPair p hs)) (by simp only [kput] <;> rfl) ?_
    refine OkOps.ev tab_ok rfl (by simp only [kev, ktab, klen, kcv] <;> rfl) (by simp only [kput] <;> rfl) ?_
    refine OkOps.nil ?_
    refine Ok.seq ?_
    refine Ok.seq ?_
    refine Ok.region ?_
    iterate 3 (refine OkOps.ev tab_ok rfl (by simp only [kev, ktab, klen, kcv] <;> rfl) (by simp only [kput] <;> rfl) ?_)
    refine OkOps.nil ?_
    refine Ok.cond_false (by simp only [kev, ktab, klen, kcv] <;> first | rfl | (simp; done) | (simp; omega)) ?_
    refine Ok.skip ?_
    refine Ok.seq ?_
    refine Ok.seq ?_
    refine Ok.drawn 5 27 [] (by kernel_rfl) (by kernel_rfl) rfl ?_
    refine SOps.ev tab_ok rfl (by simp only [kev, ktab, klen, kcv] <;> rfl) (by simp only [kput] <;> rfl) ?_
    refine SOps.ev tab_ok rfl (by simp only [kev, ktab, klen, kcv] <;> rfl) (by simp only [kput] <;> rfl) ?_
    refine SOps.S0 rfl (OpS.weakM rfl (by simp only [kev, ktab, klen, kcv] <;> rfl) (by simp only [kev, ktab, klen, kcv] <;> rfl) cl30 (w_laws_toPair p hs)) (by simp only [kput] <;> rfl) ?_
    refine SOps.S0 rfl (OpS.weakEM rfl (by simp only [kev, ktab, klen, kcv] <;> rfl) (by simp only [kev, ktab, klen, kcv, V.eraseL, V.erase, V.travL, V.trav, zz, zf, zy] <;> rfl) cl11 (by simp [V.labels, V.labelsL, V.labelsLL, zz, zf, zy]) (w_laws_eqPair p p)) (by simp only [kput] <;> rfl) ?_
    refine SOps.ev tab_ok rfl (by simp only [kev, ktab, klen, kcv] <;> rfl) (by simp only [kput] <;> rfl) ?_
    refine SOps.nil ?_
    refine TOps.nil ?_
    refine Ok.cond_false (by simp only [kev, ktab, klen, kcv] <;> first | rfl | (simp; done) | (simp; omega)) ?_
    refine Ok.skip ?_
    refine Ok.seq ?_
    refine Ok.region ?_
    refine OkOps.ev tab_ok rfl (by simp only [kev, ktab, klen, kcv] <;> rfl) (by simp only [kput] <;> rfl) ?_
    refine OkOps.nil ?_
    refine Ok.ret ?_
    repeat (first | with_reducible refine thenQ_ret ?_ | with_reducible refine blockQ_ret ?_)
    refine retQ.end (by show resVs tab _ [.tmp 2] = _; simp only [kev, ktab, klen, kcv] <;> rfl) rfl ?_
    rfl
end Go.Proofs.Ytjhfabimacljhaa.K
