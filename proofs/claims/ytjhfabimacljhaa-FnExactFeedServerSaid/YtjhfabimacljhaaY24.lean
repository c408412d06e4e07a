/- Walks: marks on data of the call's own. Printed by w2.py. -/
import Derived.Test.YtjhfabimacljhaaYn
namespace Go.Proofs.Ytjhfabimacljhaa.K
open Go Go.RowKit
set_option linter.unusedVariables false
set_option linter.unusedSimpArgs false
set_option maxHeartbeats 4000000
set_option maxRecDepth 20000
theorem w_laws_markText (k : Nat) (hk : k ≤ 4611686018427387904) : Weak Try.prog 79 [.int .i64 (k : Int)] (.str (markT k)) := by
  refine Weak.enter tab_ok Try.func79 rfl (.inr (by simp [V.labelsL, V.labels, zz, zf, zy])) (t := [.int .i64 (k : Int), .any, .any, .any, .any, .any, .any, .any, .any, .any, .any, .any, .any, .any, .any, .any, .any, .any, .any, .any]) rfl ?_
  refine Ok.seq ?_
  refine Ok.region ?_
  refine OkOps.ev tab_ok rfl (by simp only [kev, ktab, klen, kcv] <;> rfl) (by simp only [kput] <;> rfl) ?_
  refine OkOps.nil ?_
  refine Ok.seq ?_
  refine Ok.seq ?_
  refine Ok.region ?_
  iterate 2 (refine OkOps.ev tab_ok rfl (by simp only [kev, ktab, klen, kcv] <;> rfl) (by simp only [kput] <;> rfl) ?_)
  refine OkOps.nil ?_
  refine Ok.cond (b := _) (by simp only [kev, ktab, klen, kcv] <;> rfl) (fun hb1 => ?_) (fun hb1 => ?_)
  · try simp only [bsimp] at hb1
    rw [show k = 0 by omega]
    refine Ok.seq ?_
    refine Ok.region ?_
    refine OkOps.ev tab_ok rfl (by simp only [kev, ktab, klen, kcv] <;> rfl) (by simp only [kput] <;> rfl) ?_
    refine OkOps.nil ?_
    refine Ok.ret ?_
    repeat (first | with_reducible refine thenQ_ret ?_ | with_reducible refine blockQ_ret ?_)
    refine retQ.end (by show resVs tab _ [.tmp 2] = _; simp only [kev, ktab, klen, kcv] <;> rfl) rfl ?_
    rfl
  · try simp only [bsimp] at hb1
    rw [markT, if_neg (by omega)]
    refine Ok.skip ?_
    refine Ok.seq ?_
    refine Ok.region ?_
    refine OkOps.ev tab_ok rfl (by simp only [kev, ktab, klen, kcv] <;> rfl) (by simp only [kput] <;> rfl) ?_
    refine OkOps.nil ?_
    refine Ok.seq ?_
    refine Ok.block ?_
    refine Ok.loopWZ (τ := Nat × Str) (fun x => [(0, .int .i64 (x.1 : Int)), (3, .str x.2)]) [6, 7, 8, 9, 10, 11, 12, 13, 14, 15, 16, 17] (fun x => by simp only [kover] <;> rfl) (fun x => decGo x.1 x.2 = decGo k [] ∧ x.1 + x.2.length ≤ k) (fun x => x.1) (k, []) (by omega) (by refine ⟨?_, ?_, ?_, ?_, ?_, ?_, ?_, ?_, ?_, ?_, ?_, ?_, ?_, ?_, ?_, ?_, ?_, ?_, ?_, ?_, trivial⟩ <;> first | exact le_any _ | with_reducible exact le_rfl' _ | (exact le_rfl' _) | exact le_rfl' _) (⟨rfl, by simp⟩) ?_
    rintro ⟨m, acc⟩ ⟨h1, h2⟩
    have h1 : decGo m acc = decGo k [] := h1
    have h2 : m + acc.length ≤ k := h2
    refine Ok.seq ?_
    refine Ok.seq ?_
    refine Ok.region ?_
    iterate 2 (refine OkOps.ev tab_ok rfl (by simp only [kev, ktab, klen, kcv] <;> rfl) (by simp only [kput] <;> rfl) ?_)
    refine OkOps.nil ?_
    refine Ok.cond (b := _) (by simp only [kev, ktab, klen, kcv] <;> rfl) (fun hb4 => ?_) (fun hb4 => ?_)
    · try simp only [bsimp] at hb4
      have hm : 0 < m := by omega
      refine Ok.skip ?_
      refine Ok.block ?_
      refine Ok.seq ?_
      refine Ok.region ?_
      iterate 3 (refine OkOps.ev tab_ok rfl (by simp only [kev, ktab, klen, kcv] <;> rfl) (by simp only [kput] <;> rfl) ?_)
      refine OkOps.ev tab_ok rfl (by simp only [kev, ktab, klen, kcv, digit_byte] <;> rfl) (by simp only [kput] <;> rfl) ?_
      refine OkOps.ev tab_ok rfl (ev_bs (by simp only [ktab] <;> rfl) (by simp only [ktab] <;> rfl) (by decide) (by decide) (by simp only [kev, ktab, klen, kcv, List.map_cons, List.map_nil] <;> rfl) (by simp only [kfe, beq_self_eq_true, Bool.and_true, Bool.true_and, decide_true, Nat.zero_add, Nat.lt_add_one, Nat.reduceLT, Nat.reduceAdd, Nat.zero_lt_succ, if_true, ↓reduceIte] <;> rfl)) (by simp only [kput] <;> rfl) ?_
      refine OkOps.ev tab_ok rfl (ev_text' (by simp only [kev, ktab, klen, kcv] <;> rfl) rfl rfl rfl (by simp only [kby, Option.map_some, List.append_assoc, List.cons_append, List.nil_append] <;> rfl)) (by simp only [kput] <;> rfl) ?_
      refine OkOps.ev tab_ok rfl (by simp only [kev, ktab, klen, kcv] <;> rfl) (by simp only [kput] <;> rfl) ?_
      refine OkOps.ev tab_ok rfl (ev_cat (by simp only [kev, ktab, klen, kcv] <;> rfl) (by simp only [kev, ktab, klen, kcv] <;> rfl) (by first | omega | (simp only [List.length_cons, List.length_nil]; omega))) (by simp only [kput] <;> rfl) ?_
      refine OkOps.ev tab_ok rfl (by simp only [kev, ktab, klen, kcv] <;> rfl) (by simp only [kput] <;> rfl) ?_
      refine OkOps.nil ?_
      refine Ok.region ?_
      refine OkOps.ev tab_ok rfl (by simp only [kev, ktab, klen, kcv] <;> rfl) (by simp only [kput] <;> rfl) ?_
      refine OkOps.ev tab_ok rfl (by simp only [kev, ktab, klen, kcv, quo10 (show m ≤ 9223372036854775807 by omega)] <;> rfl) (by simp only [kput] <;> rfl) ?_
      refine OkOps.ev tab_ok rfl (by simp only [kev, ktab, klen, kcv] <;> rfl) (by simp only [kput] <;> rfl) ?_
      refine OkOps.nil ?_
      refine ⟨(m / 10, UInt8.ofNat (48 + m % 10) :: acc), ?_, rfl, ⟨by rw [← h1, decGo_pos hm], by simp only [List.length_cons]; omega⟩, by show m / 10 < m; omega⟩
      simp only [V.renL, V.travL, V.travLL, V.trav, frz, zz, zf, zy, Nat.reduceLeDiff, ↓reduceIte]
      refine ⟨?_, ?_, ?_, ?_, ?_, ?_, ?_, ?_, ?_, ?_, ?_, ?_, ?_, ?_, ?_, ?_, ?_, ?_, ?_, ?_, trivial⟩ <;> first | exact le_any _ | with_reducible exact le_rfl' _ | (exact le_rfl' _) | exact le_rfl' _
    · try simp only [bsimp] at hb4
      have hm : ¬ 0 < m := by omega
      refine Ok.exit ?_
      refine Ok.seq ?_
      refine Ok.region ?_
      refine OkOps.ev tab_ok rfl (by simp only [kev, ktab, klen, kcv] <;> rfl) (by simp only [kput] <;> rfl) ?_
      refine OkOps.ev tab_ok rfl (ev_cat (by simp only [kev, ktab, klen, kcv] <;> rfl) (by simp only [kev, ktab, klen, kcv] <;> rfl) (by first | omega | (simp only [List.length_cons, List.length_nil]; omega))) (by simp only [kput] <;> rfl) ?_
      refine OkOps.ev tab_ok rfl (by simp only [kev, ktab, klen, kcv] <;> rfl) (by simp only [kput] <;> rfl) ?_
      refine OkOps.nil ?_
      refine Ok.ret ?_
      repeat (first | with_reducible refine thenQ_ret ?_ | with_reducible refine blockQ_ret ?_)
      refine retQ.end (by show resVs tab _ [.tmp 2] = _; simp only [kev, ktab, klen, kcv] <;> rfl) rfl ?_
      rw [← h1, decGo_zero hm]; rfl
theorem c_laws_markIntS (es : List (List V)) (k L : Nat) (hs : ∀ r ∈ es, isInt r) (hn : ((L + 1) :: V.labelsLL es).Nodup) (hk : k + V.mnLL es ≤ 4611686018427387904) {h : List V} {n : Nat}  : OkCall Try.prog 58 [.sl (L + 1) 1 0 es, .int .i64 (k : Int)] h n (MarkQ (· ∈ (L + 1) :: V.labelsLL es) (.sl (L + 1) 1 0 es) (.sl (L + 1) 1 0 (V.mkLL k es)) (.int .i64 ((k + V.mnLL es : Nat) : Int)) h n) := by
  refine OkCall.enter' tab_ok Try.func58 rfl (t := [.sl (L + 1) 1 0 es, .int .i64 (k : Int), .any, .any, .any, .any, .any, .any, .any, .any, .any, .any, .any, .any, .any, .any, .any, .any, .any]) rfl ?_
  refine Ok.seq ?_
  refine Ok.region ?_
  refine OkOps.ev tab_ok rfl (by simp only [kev, ktab, klen, kcv] <;> rfl) (by simp only [kput] <;> rfl) ?_
  refine OkOps.nil ?_
  refine Ok.seq ?_
  refine Ok.seq ?_
  refine Ok.region ?_
  refine OkOps.ev tab_ok rfl (by simp only [kev, ktab, klen, kcv] <;> rfl) (by simp only [kput] <;> rfl) ?_
  refine OkOps.nil ?_
  refine Ok.block ?_
  refine Ok.loopH (τ := List (List V) × List (List V) × (V → V)) (fun x => [(0, .sl (L + 1) 1 0 (V.mkLL k x.1 ++ x.2.1)), (1, .int .i64 ((k + V.mnLL x.1 : Nat) : Int)), (5, .int .i64 (x.1.length : Int))]) [6, 7, 8, 9, 10, 11, 12, 13, 14, 15, 16, 17] (fun x => by simp only [kover] <;> rfl) (fun x => h.map x.2.2) (fun x => es = x.1 ++ x.2.1 ∧ Hom x.2.2 (· ∈ (L + 1) :: V.labelsLL es) ∧ x.2.2 (.sl (L + 1) 1 0 es) = .sl (L + 1) 1 0 (V.mkLL k x.1 ++ x.2.1)) (fun x => x.2.1.length) ([], es, id) (by refine ⟨?_, ?_, ?_, ?_, ?_, ?_, ?_, ?_, ?_, ?_, ?_, ?_, ?_, ?_, ?_, ?_, ?_, ?_, ?_, trivial⟩ <;> first | exact le_any _ | with_reducible exact le_rfl' _ | (exact le_rfl' _) | exact le_rfl' _) ((List.map_id h).symm) (⟨rfl, Hom.id' _, rfl⟩) ?_
  rintro ⟨a, b, U⟩ ⟨he, hU, hv⟩
  have he : es = a ++ b := he
  have hU : Hom U (· ∈ (L + 1) :: V.labelsLL es) := hU
  have hv : U (.sl (L + 1) 1 0 es) = .sl (L + 1) 1 0 (V.mkLL k a ++ b) := hv
  refine Ok.seq ?_
  refine Ok.seq ?_
  refine Ok.region ?_
  iterate 4 (refine OkOps.ev tab_ok rfl (by simp only [kev, ktab, klen, kcv] <;> rfl) (by simp only [kput] <;> rfl) ?_)
  refine OkOps.nil ?_
  refine Ok.cond (b := _) (by simp only [kev, ktab, klen, kcv] <;> rfl) (fun hb2 => ?_) (fun hb2 => ?_)
  · try simp only [bsimp] at hb2
    have hlen : (V.mkLL k a ++ b).length = a.length + b.length := by rw [List.length_append, mkLL_len]
    obtain ⟨c, b, rfl⟩ : ∃ c b', b = c :: b' := by
      cases b with
      | nil => exfalso; rw [hlen] at hb2; simp only [List.length_nil] at hb2; omega
      | cons c b' => exact ⟨c, b', rfl⟩
    obtain ⟨v0, rfl⟩ := hs c (by rw [he]; simp)
    have hkk : k + (V.mnLL a + (V.mnL [.int .i64 v0] + V.mnLL b)) ≤ 4611686018427387904 := by rw [he, mnLL_app] at hk; exact hk
    simp only [V.mnL, V.mn] at hkk
    obtain ⟨dA, dC, dB, dAC, dBC, hC⟩ := lab_split (by rw [← he]; exact hn)
    have dC0 := dC
    simp only [V.labelsLL, V.labelsL, V.labels, mkLL_labels, List.mem_append, List.mem_cons, List.not_mem_nil, List.append_nil, List.nil_append, List.cons_append, not_or, or_false, false_or] at dC
    have hz := len_mn es fun r hr => isInt_mn (hs r hr)
    have hal : a.length ≤ 4611686018427387904 := by have e3 := congrArg List.length he; rw [List.length_append] at e3; omega
    refine Ok.skip ?_
    refine Ok.seq ?_
    refine Ok.block ?_
    refine Ok.seq ?_
    refine Ok.drop [6, 7, 8, 9] (by simp only [kover] <;> rfl) ?_
    refine Ok.region ?_
    iterate 3 (refine OkOps.ev tab_ok rfl (by simp only [kev, ktab, klen, kcv] <;> rfl) (by simp only [kput] <;> rfl) ?_)
    refine OkOps.ev tab_ok rfl (ev_idx (j := a.length) (by simp only [kev, ktab, klen, kcv] <;> rfl) (by simp only [kev, ktab, klen, kcv] <;> rfl) (get_mid (mkLL_len _ _)) (by simp only [kev, ktab, klen, kcv] <;> rfl)) (by simp only [kput] <;> rfl) ?_
    refine OkOps.storeU tab_ok rfl rfl (by simp only [kev, ktab, klen, kcv] <;> rfl) ⟨_, _, by simp only [kev]; rfl⟩ (by simp only [V.labelsLL, V.labelsL, V.labels, mkLL_labels, List.mem_append, List.mem_cons, List.not_mem_nil, List.append_nil, List.nil_append, List.cons_append, not_or, or_false, false_or, not_false_eq_true, and_self, dA, dB]) hU hv (List.mem_cons_self ..) (fun W hW hF => by simp only [List.map_cons, List.map_nil, List.map_append, hW.int, hW.str, hW.bool, hW.any, hW.tup0, hF.sl, hF.ptr, Nat.zero_add, set_mid (mkLL_len _ _), labelsLL_app, V.labelsLL, V.labelsL, V.labels, mkLL_labels, List.mem_append, List.mem_cons, List.not_mem_nil, List.append_nil, List.nil_append, List.cons_append, not_or, or_false, false_or, not_false_eq_true, and_self, dA, dB] <;> rfl) (fun W hW hF => by simp only [List.map_cons, List.map_nil, List.map_append, hW.int, hW.str, hW.bool, hW.any, hW.tup0, hF.sl, hF.ptr, Nat.zero_add, set_mid (mkLL_len _ _), labelsLL_app, V.labelsLL, V.labelsL, V.labels, mkLL_labels, List.mem_append, List.mem_cons, List.not_mem_nil, List.append_nil, List.nil_append, List.cons_append, not_or, or_false, false_or, not_false_eq_true, and_self, dA, dB, kput] <;> rfl) ?_
    intro U hU hv
    refine OkOps.nil ?_
    refine Ok.drop [12, 13, 14, 15] (by simp only [kover] <;> rfl) ?_
    refine Ok.region ?_
    refine OkOps.ev tab_ok rfl (by simp only [kev, ktab, klen, kcv] <;> rfl) (by simp only [kput] <;> rfl) ?_
    refine OkOps.ev tab_ok rfl (by simp (disch := omega) only [kev, ktab, klen, kcv, wrap_add_one] <;> rfl) (by simp only [kput] <;> rfl) ?_
    refine OkOps.ev tab_ok rfl (by simp only [kev, ktab, klen, kcv] <;> rfl) (by simp only [kput] <;> rfl) ?_
    refine OkOps.nil ?_
    refine Ok.drop [16, 17] (by simp only [kover] <;> rfl) ?_
    refine Ok.region ?_
    refine OkOps.ev tab_ok rfl (by simp only [kev, ktab, klen, kcv] <;> rfl) (by simp only [kput] <;> rfl) ?_
    refine OkOps.ev tab_ok rfl (by simp (disch := omega) only [kev, ktab, klen, kcv, wrap_add_one] <;> rfl) (by simp only [kput] <;> rfl) ?_
    refine OkOps.ev tab_ok rfl (by simp only [kev, ktab, klen, kcv] <;> rfl) (by simp only [kput] <;> rfl) ?_
    refine OkOps.nil ?_
    refine ⟨(a ++ [[.int .i64 v0]], b, U), ?_, rfl, rfl, ⟨by rw [he]; simp, hU, by dsimp only; rw [hv, mkLL_snoc]; simp only [V.mkL, V.mk, V.mn, List.append_assoc, List.cons_append, List.nil_append] <;> rfl⟩, by simp only [List.length_cons]; omega⟩
    refine ⟨?_, ?_, ?_, ?_, ?_, ?_, ?_, ?_, ?_, ?_, ?_, ?_, ?_, ?_, ?_, ?_, ?_, ?_, ?_, trivial⟩ <;> first | exact le_any _ | with_reducible exact le_rfl' _ | (dsimp only; first | (refine le_eqm ?_; simp only [List.length_append, List.length_cons, List.length_nil]; done) | (rw [wrap_add_one (by omega)]; refine le_eqm ?_; simp only [List.length_append, List.length_cons, List.length_nil]; done) | (refine le_eqm ?_; rw [mkLL_snoc]; simp only [V.mkL, V.mk, V.mn, List.append_assoc, List.cons_append, List.nil_append] <;> rfl) | (refine le_eqm (congrArg (V.int .i64) (congrArg Nat.cast ?_)); rw [mnLL_snoc]; simp only [V.mnL, V.mn]; omega)) | exact le_rfl' _
  · try simp only [bsimp] at hb2
    have hb : b = [] := by cases b with
      | nil => rfl
      | cons c b' => exfalso; rw [List.length_append, mkLL_len] at hb2; simp only [List.length_cons] at hb2; omega
    subst hb
    rw [List.append_nil] at he
    subst he
    refine Ok.exit ?_
    refine Ok.seq ?_
    refine Ok.drop [10, 11] (by simp only [kover] <;> rfl) ?_
    refine Ok.region ?_
    iterate 2 (refine OkOps.ev tab_ok rfl (by simp only [kev, ktab, klen, kcv] <;> rfl) (by simp only [kput] <;> rfl) ?_)
    refine OkOps.nil ?_
    refine Ok.ret ?_
    repeat (first | with_reducible refine thenQ_ret ?_ | with_reducible refine blockQ_ret ?_)
    refine retQ.end (by show resVs tab _ [.tmp 4] = _; simp only [kev, ktab, klen, kcv] <;> rfl) rfl ?_
    exact ⟨rfl, rfl, U, hU, by rw [hv, List.append_nil], rfl⟩
theorem c_laws_markRegS (es : List (List V)) (k L : Nat) (hs : ∀ r ∈ es, isReg r) (hn : ((L + 1) :: V.labelsLL es).Nodup) (hk : k + V.mnLL es ≤ 4611686018427387904) {h : List V} {n : Nat}  : OkCall Try.prog 131 [.sl (L + 1) 3 0 es, .int .i64 (k : Int)] h n (MarkQ (· ∈ (L + 1) :: V.labelsLL es) (.sl (L + 1) 3 0 es) (.sl (L + 1) 3 0 (V.mkLL k es)) (.int .i64 ((k + V.mnLL es : Nat) : Int)) h n) := by
  refine OkCall.enter' tab_ok Try.func131 rfl (t := [.sl (L + 1) 3 0 es, .int .i64 (k : Int), .any, .any, .any, .any, .any, .any, .any, .any, .any, .any, .any, .any, .any, .any, .any, .any, .any, .any, .any, .any, .any, .any, .any, .any, .any, .any, .any, .any, .any, .any, .any, .any, .any, .any]) rfl ?_
  refine Ok.seq ?_
  refine Ok.region ?_
  refine OkOps.ev tab_ok rfl (by simp only [kev, ktab, klen, kcv] <;> rfl) (by simp only [kput] <;> rfl) ?_
  refine OkOps.nil ?_
  refine Ok.seq ?_
  refine Ok.seq ?_
  refine Ok.region ?_
  refine OkOps.ev tab_ok rfl (by simp only [kev, ktab, klen, kcv] <;> rfl) (by simp only [kput] <;> rfl) ?_
  refine OkOps.nil ?_
  refine Ok.block ?_
  refine Ok.loopH (τ := List (List V) × List (List V) × (V → V)) (fun x => [(0, .sl (L + 1) 3 0 (V.mkLL k x.1 ++ x.2.1)), (1, .int .i64 ((k + V.mnLL x.1 : Nat) : Int)), (5, .int .i64 (x.1.length : Int))]) [6, 7, 8, 9, 10, 11, 12, 13, 14, 15, 16, 17, 18, 19, 20, 21, 22, 23, 24, 25, 26, 27, 28, 29, 30, 31, 32, 33, 34] (fun x => by simp only [kover] <;> rfl) (fun x => h.map x.2.2) (fun x => es = x.1 ++ x.2.1 ∧ Hom x.2.2 (· ∈ (L + 1) :: V.labelsLL es) ∧ x.2.2 (.sl (L + 1) 3 0 es) = .sl (L + 1) 3 0 (V.mkLL k x.1 ++ x.2.1)) (fun x => x.2.1.length) ([], es, id) (by refine ⟨?_, ?_, ?_, ?_, ?_, ?_, ?_, ?_, ?_, ?_, ?_, ?_, ?_, ?_, ?_, ?_, ?_, ?_, ?_, ?_, ?_, ?_, ?_, ?_, ?_, ?_, ?_, ?_, ?_, ?_, ?_, ?_, ?_, ?_, ?_, ?_, trivial⟩ <;> first | exact le_any _ | with_reducible exact le_rfl' _ | (exact le_rfl' _) | exact le_rfl' _) ((List.map_id h).symm) (⟨rfl, Hom.id' _, rfl⟩) ?_
  rintro ⟨a, b, U⟩ ⟨he, hU, hv⟩
  have he : es = a ++ b := he
  have hU : Hom U (· ∈ (L + 1) :: V.labelsLL es) := hU
  have hv : U (.sl (L + 1) 3 0 es) = .sl (L + 1) 3 0 (V.mkLL k a ++ b) := hv
  refine Ok.seq ?_
  refine Ok.seq ?_
  refine Ok.region ?_
  iterate 4 (refine OkOps.ev tab_ok rfl (by simp only [kev, ktab, klen, kcv] <;> rfl) (by simp only [kput] <;> rfl) ?_)
  refine OkOps.nil ?_
  refine Ok.cond (b := _) (by simp only [kev, ktab, klen, kcv] <;> rfl) (fun hb2 => ?_) (fun hb2 => ?_)
  · try simp only [bsimp] at hb2
    have hlen : (V.mkLL k a ++ b).length = a.length + b.length := by rw [List.length_append, mkLL_len]
    obtain ⟨c, b, rfl⟩ : ∃ c b', b = c :: b' := by
      cases b with
      | nil => exfalso; rw [hlen] at hb2; simp only [List.length_nil] at hb2; omega
      | cons c b' => exact ⟨c, b', rfl⟩
    obtain ⟨v0, v1, v2, rfl⟩ := hs c (by rw [he]; simp)
    have hkk : k + (V.mnLL a + (V.mnL [.int .i64 v0, .int .i64 v1, .int .i64 v2] + V.mnLL b)) ≤ 4611686018427387904 := by rw [he, mnLL_app] at hk; exact hk
    simp only [V.mnL, V.mn] at hkk
    obtain ⟨dA, dC, dB, dAC, dBC, hC⟩ := lab_split (by rw [← he]; exact hn)
    have dC0 := dC
    simp only [V.labelsLL, V.labelsL, V.labels, mkLL_labels, List.mem_append, List.mem_cons, List.not_mem_nil, List.append_nil, List.nil_append, List.cons_append, not_or, or_false, false_or] at dC
    have hz := len_mn es fun r hr => isReg_mn (hs r hr)
    have hal : a.length ≤ 4611686018427387904 := by have e3 := congrArg List.length he; rw [List.length_append] at e3; omega
    refine Ok.skip ?_
    refine Ok.seq ?_
    refine Ok.block ?_
    refine Ok.seq ?_
    refine Ok.drop [6, 7, 8, 9] (by simp only [kover] <;> rfl) ?_
    refine Ok.region ?_
    iterate 3 (refine OkOps.ev tab_ok rfl (by simp only [kev, ktab, klen, kcv] <;> rfl) (by simp only [kput] <;> rfl) ?_)
    refine OkOps.ev tab_ok rfl (ev_idx (j := a.length) (by simp only [kev, ktab, klen, kcv] <;> rfl) (by simp only [kev, ktab, klen, kcv] <;> rfl) (get_mid (mkLL_len _ _)) (by simp only [kev, ktab, klen, kcv] <;> rfl)) (by simp only [kput] <;> rfl) ?_
    refine OkOps.ev tab_ok rfl (by simp only [kev, ktab, klen, kcv] <;> rfl) (by simp only [kput] <;> rfl) ?_
    refine OkOps.storeU tab_ok rfl rfl (by simp only [kev, ktab, klen, kcv] <;> rfl) ⟨_, _, by simp only [kev]; rfl⟩ (by simp only [V.labelsLL, V.labelsL, V.labels, mkLL_labels, List.mem_append, List.mem_cons, List.not_mem_nil, List.append_nil, List.nil_append, List.cons_append, not_or, or_false, false_or, not_false_eq_true, and_self, dA, dB]) hU hv (List.mem_cons_self ..) (fun W hW hF => by simp only [List.map_cons, List.map_nil, List.map_append, hW.int, hW.str, hW.bool, hW.any, hW.tup0, hF.sl, hF.ptr, Nat.zero_add, set_mid (mkLL_len _ _), labelsLL_app, V.labelsLL, V.labelsL, V.labels, mkLL_labels, List.mem_append, List.mem_cons, List.not_mem_nil, List.append_nil, List.nil_append, List.cons_append, not_or, or_false, false_or, not_false_eq_true, and_self, dA, dB] <;> rfl) (fun W hW hF => by simp only [List.map_cons, List.map_nil, List.map_append, hW.int, hW.str, hW.bool, hW.any, hW.tup0, hF.sl, hF.ptr, Nat.zero_add, set_mid (mkLL_len _ _), labelsLL_app, V.labelsLL, V.labelsL, V.labels, mkLL_labels, List.mem_append, List.mem_cons, List.not_mem_nil, List.append_nil, List.nil_append, List.cons_append, not_or, or_false, false_or, not_false_eq_true, and_self, dA, dB, kput] <;> rfl) ?_
    intro U hU hv
    refine OkOps.nil ?_
    refine Ok.seq ?_
    refine Ok.drop [12, 13, 14, 15, 16] (by simp only [kover] <;> rfl) ?_
    refine Ok.region ?_
    refine OkOps.ev tab_ok rfl (by simp only [kev, ktab, klen, kcv] <;> rfl) (by simp only [kput] <;> rfl) ?_
    refine OkOps.ev tab_ok rfl (by simp (disch := omega) only [kev, ktab, klen, kcv, wrap_add_one] <;> rfl) (by simp only [kput] <;> rfl) ?_
    refine OkOps.ev tab_ok rfl (by simp only [kev, ktab, klen, kcv] <;> rfl) (by simp only [kput] <;> rfl) ?_
    refine OkOps.nil ?_
    refine Ok.seq ?_
    refine Ok.drop [17, 18] (by simp only [kover] <;> rfl) ?_
    refine Ok.region ?_
    iterate 3 (refine OkOps.ev tab_ok rfl (by simp only [kev, ktab, klen, kcv] <;> rfl) (by simp only [kput] <;> rfl) ?_)
    refine OkOps.ev tab_ok rfl (ev_idx (j := a.length) (by simp only [kev, ktab, klen, kcv] <;> rfl) (by simp only [kev, ktab, klen, kcv] <;> rfl) (get_mid (mkLL_len _ _)) (by simp only [kev, ktab, klen, kcv] <;> rfl)) (by simp only [kput] <;> rfl) ?_
    iterate 2 (refine OkOps.ev tab_ok rfl (by simp only [kev, ktab, klen, kcv] <;> rfl) (by simp only [kput] <;> rfl) ?_)
    refine OkOps.storeU tab_ok rfl rfl (by simp only [kev, ktab, klen, kcv] <;> rfl) ⟨_, _, by simp only [kev]; rfl⟩ (by simp only [V.labelsLL, V.labelsL, V.labels, mkLL_labels, List.mem_append, List.mem_cons, List.not_mem_nil, List.append_nil, List.nil_append, List.cons_append, not_or, or_false, false_or, not_false_eq_true, and_self, dA, dB]) hU hv (List.mem_cons_self ..) (fun W hW hF => by simp only [List.map_cons, List.map_nil, List.map_append, hW.int, hW.str, hW.bool, hW.any, hW.tup0, hF.sl, hF.ptr, Nat.zero_add, set_mid (mkLL_len _ _), labelsLL_app, V.labelsLL, V.labelsL, V.labels, mkLL_labels, List.mem_append, List.mem_cons, List.not_mem_nil, List.append_nil, List.nil_append, List.cons_append, not_or, or_false, false_or, not_false_eq_true, and_self, dA, dB] <;> rfl) (fun W hW hF => by simp only [List.map_cons, List.map_nil, List.map_append, hW.int, hW.str, hW.bool, hW.any, hW.tup0, hF.sl, hF.ptr, Nat.zero_add, set_mid (mkLL_len _ _), labelsLL_app, V.labelsLL, V.labelsL, V.labels, mkLL_labels, List.mem_append, List.mem_cons, List.not_mem_nil, List.append_nil, List.nil_append, List.cons_append, not_or, or_false, false_or, not_false_eq_true, and_self, dA, dB, kput] <;> rfl) ?_
    intro U hU hv
    refine OkOps.nil ?_
    refine Ok.seq ?_
    refine Ok.drop [19, 20, 21, 22, 23, 24] (by simp only [kover] <;> rfl) ?_
    refine Ok.region ?_
    refine OkOps.ev tab_ok rfl (by simp only [kev, ktab, klen, kcv] <;> rfl) (by simp only [kput] <;> rfl) ?_
    refine OkOps.ev tab_ok rfl (by simp (disch := omega) only [kev, ktab, klen, kcv, wrap_add_one] <;> rfl) (by simp only [kput] <;> rfl) ?_
    refine OkOps.ev tab_ok rfl (by simp only [kev, ktab, klen, kcv] <;> rfl) (by simp only [kput] <;> rfl) ?_
    refine OkOps.nil ?_
    refine Ok.seq ?_
    refine Ok.drop [25, 26] (by simp only [kover] <;> rfl) ?_
    refine Ok.region ?_
    iterate 3 (refine OkOps.ev tab_ok rfl (by simp only [kev, ktab, klen, kcv] <;> rfl) (by simp only [kput] <;> rfl) ?_)
    refine OkOps.ev tab_ok rfl (ev_idx (j := a.length) (by simp only [kev, ktab, klen, kcv] <;> rfl) (by simp only [kev, ktab, klen, kcv] <;> rfl) (get_mid (mkLL_len _ _)) (by simp only [kev, ktab, klen, kcv] <;> rfl)) (by simp only [kput] <;> rfl) ?_
    iterate 2 (refine OkOps.ev tab_ok rfl (by simp only [kev, ktab, klen, kcv] <;> rfl) (by simp only [kput] <;> rfl) ?_)
    refine OkOps.storeU tab_ok rfl rfl (by simp only [kev, ktab, klen, kcv] <;> rfl) ⟨_, _, by simp only [kev]; rfl⟩ (by simp only [V.labelsLL, V.labelsL, V.labels, mkLL_labels, List.mem_append, List.mem_cons, List.not_mem_nil, List.append_nil, List.nil_append, List.cons_append, not_or, or_false, false_or, not_false_eq_true, and_self, dA, dB]) hU hv (List.mem_cons_self ..) (fun W hW hF => by simp only [List.map_cons, List.map_nil, List.map_append, hW.int, hW.str, hW.bool, hW.any, hW.tup0, hF.sl, hF.ptr, Nat.zero_add, set_mid (mkLL_len _ _), labelsLL_app, V.labelsLL, V.labelsL, V.labels, mkLL_labels, List.mem_append, List.mem_cons, List.not_mem_nil, List.append_nil, List.nil_append, List.cons_append, not_or, or_false, false_or, not_false_eq_true, and_self, dA, dB] <;> rfl) (fun W hW hF => by simp only [List.map_cons, List.map_nil, List.map_append, hW.int, hW.str, hW.bool, hW.any, hW.tup0, hF.sl, hF.ptr, Nat.zero_add, set_mid (mkLL_len _ _), labelsLL_app, V.labelsLL, V.labelsL, V.labels, mkLL_labels, List.mem_append, List.mem_cons, List.not_mem_nil, List.append_nil, List.nil_append, List.cons_append, not_or, or_false, false_or, not_false_eq_true, and_self, dA, dB, kput] <;> rfl) ?_
    intro U hU hv
    refine OkOps.nil ?_
    refine Ok.drop [27, 28, 29, 30, 31, 32] (by simp only [kover] <;> rfl) ?_
    refine Ok.region ?_
    refine OkOps.ev tab_ok rfl (by simp only [kev, ktab, klen, kcv] <;> rfl) (by simp only [kput] <;> rfl) ?_
    refine OkOps.ev tab_ok rfl (by simp (disch := omega) only [kev, ktab, klen, kcv, wrap_add_one] <;> rfl) (by simp only [kput] <;> rfl) ?_
    refine OkOps.ev tab_ok rfl (by simp only [kev, ktab, klen, kcv] <;> rfl) (by simp only [kput] <;> rfl) ?_
    refine OkOps.nil ?_
    refine Ok.drop [33, 34] (by simp only [kover] <;> rfl) ?_
    refine Ok.region ?_
    refine OkOps.ev tab_ok rfl (by simp only [kev, ktab, klen, kcv] <;> rfl) (by simp only [kput] <;> rfl) ?_
    refine OkOps.ev tab_ok rfl (by simp (disch := omega) only [kev, ktab, klen, kcv, wrap_add_one] <;> rfl) (by simp only [kput] <;> rfl) ?_
    refine OkOps.ev tab_ok rfl (by simp only [kev, ktab, klen, kcv] <;> rfl) (by simp only [kput] <;> rfl) ?_
    refine OkOps.nil ?_
    refine ⟨(a ++ [[.int .i64 v0, .int .i64 v1, .int .i64 v2]], b, U), ?_, rfl, rfl, ⟨by rw [he]; simp, hU, by dsimp only; rw [hv, mkLL_snoc]; simp only [V.mkL, V.mk, V.mn, List.append_assoc, List.cons_append, List.nil_append] <;> rfl⟩, by simp only [List.length_cons]; omega⟩
    refine ⟨?_, ?_, ?_, ?_, ?_, ?_, ?_, ?_, ?_, ?_, ?_, ?_, ?_, ?_, ?_, ?_, ?_, ?_, ?_, ?_, ?_, ?_, ?_, ?_, ?_, ?_, ?_, ?_, ?_, ?_, ?_, ?_, ?_, ?_, ?_, ?_, trivial⟩ <;> first | exact le_any _ | with_reducible exact le_rfl' _ | (dsimp only; first | (refine le_eqm ?_; simp only [List.length_append, List.length_cons, List.length_nil]; done) | (rw [wrap_add_one (by omega)]; refine le_eqm ?_; simp only [List.length_append, List.length_cons, List.length_nil]; done) | (refine le_eqm ?_; rw [mkLL_snoc]; simp only [V.mkL, V.mk, V.mn, List.append_assoc, List.cons_append, List.nil_append] <;> rfl) | (refine le_eqm (congrArg (V.int .i64) (congrArg Nat.cast ?_)); rw [mnLL_snoc]; simp only [V.mnL, V.mn]; omega)) | exact le_rfl' _
  · try simp only [bsimp] at hb2
    have hb : b = [] := by cases b with
      | nil => rfl
      | cons c b' => exfalso; rw [List.length_append, mkLL_len] at hb2; simp only [List.length_cons] at hb2; omega
    subst hb
    rw [List.append_nil] at he
    subst he
    refine Ok.exit ?_
    refine Ok.seq ?_
    refine Ok.drop [10, 11] (by simp only [kover] <;> rfl) ?_
    refine Ok.region ?_
    iterate 2 (refine OkOps.ev tab_ok rfl (by simp only [kev, ktab, klen, kcv] <;> rfl) (by simp only [kput] <;> rfl) ?_)
    refine OkOps.nil ?_
    refine Ok.ret ?_
    repeat (first | with_reducible refine thenQ_ret ?_ | with_reducible refine blockQ_ret ?_)
    refine retQ.end (by show resVs tab _ [.tmp 4] = _; simp only [kev, ktab, klen, kcv] <;> rfl) rfl ?_
    exact ⟨rfl, rfl, U, hU, by rw [hv, List.append_nil], rfl⟩
theorem c_laws_markMailS (es : List (List V)) (k L : Nat) (hs : ∀ r ∈ es, isMail r) (hn : ((L + 1) :: V.labelsLL es).Nodup) (hk : k + V.mnLL es ≤ 4611686018427387904) {h : List V} {n : Nat}  : OkCall Try.prog 110 [.sl (L + 1) 4 0 es, .int .i64 (k : Int)] h n (MarkQ (· ∈ (L + 1) :: V.labelsLL es) (.sl (L + 1) 4 0 es) (.sl (L + 1) 4 0 (V.mkLL k es)) (.int .i64 ((k + V.mnLL es : Nat) : Int)) h n) := by
  refine OkCall.enter' tab_ok Try.func110 rfl (t := [.sl (L + 1) 4 0 es, .int .i64 (k : Int), .any, .any, .any, .any, .any, .any, .any, .any, .any, .any, .any, .any, .any, .any, .any, .any, .any, .any, .any, .any, .any, .any, .any, .any, .any, .any, .any, .any, .any, .any, .any, .any, .any, .any, .any, .any, .any, .any, .any, .any]) rfl ?_
  refine Ok.seq ?_
  refine Ok.region ?_
  refine OkOps.ev tab_ok rfl (by simp only [kev, ktab, klen, kcv] <;> rfl) (by simp only [kput] <;> rfl) ?_
  refine OkOps.nil ?_
  refine Ok.seq ?_
  refine Ok.seq ?_
  refine Ok.region ?_
  refine OkOps.ev tab_ok rfl (by simp only [kev, ktab, klen, kcv] <;> rfl) (by simp only [kput] <;> rfl) ?_
  refine OkOps.nil ?_
  refine Ok.block ?_
  refine Ok.loopH (τ := List (List V) × List (List V) × (V → V)) (fun x => [(0, .sl (L + 1) 4 0 (V.mkLL k x.1 ++ x.2.1)), (1, .int .i64 ((k + V.mnLL x.1 : Nat) : Int)), (5, .int .i64 (x.1.length : Int))]) [6, 7, 8, 9, 10, 11, 12, 13, 14, 15, 16, 17, 18, 19, 20, 21, 22, 23, 24, 25, 26, 27, 28, 29, 30, 31, 32, 33, 34, 35, 36, 37, 38, 39, 40] (fun x => by simp only [kover] <;> rfl) (fun x => h.map x.2.2) (fun x => es = x.1 ++ x.2.1 ∧ Hom x.2.2 (· ∈ (L + 1) :: V.labelsLL es) ∧ x.2.2 (.sl (L + 1) 4 0 es) = .sl (L + 1) 4 0 (V.mkLL k x.1 ++ x.2.1)) (fun x => x.2.1.length) ([], es, id) (by refine ⟨?_, ?_, ?_, ?_, ?_, ?_, ?_, ?_, ?_, ?_, ?_, ?_, ?_, ?_, ?_, ?_, ?_, ?_, ?_, ?_, ?_, ?_, ?_, ?_, ?_, ?_, ?_, ?_, ?_, ?_, ?_, ?_, ?_, ?_, ?_, ?_, ?_, ?_, ?_, ?_, ?_, ?_, trivial⟩ <;> first | exact le_any _ | with_reducible exact le_rfl' _ | (exact le_rfl' _) | exact le_rfl' _) ((List.map_id h).symm) (⟨rfl, Hom.id' _, rfl⟩) ?_
  rintro ⟨a, b, U⟩ ⟨he, hU, hv⟩
  have he : es = a ++ b := he
  have hU : Hom U (· ∈ (L + 1) :: V.labelsLL es) := hU
  have hv : U (.sl (L + 1) 4 0 es) = .sl (L + 1) 4 0 (V.mkLL k a ++ b) := hv
  refine Ok.seq ?_
  refine Ok.seq ?_
  refine Ok.region ?_
  iterate 4 (refine OkOps.ev tab_ok rfl (by simp only [kev, ktab, klen, kcv] <;> rfl) (by simp only [kput] <;> rfl) ?_)
  refine OkOps.nil ?_
  refine Ok.cond (b := _) (by simp only [kev, ktab, klen, kcv] <;> rfl) (fun hb2 => ?_) (fun hb2 => ?_)
  · try simp only [bsimp] at hb2
    have hlen : (V.mkLL k a ++ b).length = a.length + b.length := by rw [List.length_append, mkLL_len]
    obtain ⟨c, b, rfl⟩ : ∃ c b', b = c :: b' := by
      cases b with
      | nil => exfalso; rw [hlen] at hb2; simp only [List.length_nil] at hb2; omega
      | cons c b' => exact ⟨c, b', rfl⟩
    obtain ⟨v0, v1, L2, e2, v3, rfl, q2⟩ := hs c (by rw [he]; simp)
    have hkk : k + (V.mnLL a + (V.mnL [.int .i64 v0, .int .i64 v1, .sl (L2 + 1) 3 0 e2, .str v3] + V.mnLL b)) ≤ 4611686018427387904 := by rw [he, mnLL_app] at hk; exact hk
    simp only [V.mnL, V.mn] at hkk
    obtain ⟨dA, dC, dB, dAC, dBC, hC⟩ := lab_split (by rw [← he]; exact hn)
    have dC0 := dC
    simp only [V.labelsLL, V.labelsL, V.labels, mkLL_labels, List.mem_append, List.mem_cons, List.not_mem_nil, List.append_nil, List.nil_append, List.cons_append, not_or, or_false, false_or] at dC
    have hz := len_mn es fun r hr => isMail_mn (hs r hr)
    have hal : a.length ≤ 4611686018427387904 := by have e3 := congrArg List.length he; rw [List.length_append] at e3; omega
    have m2 : ∀ y ∈ (L2 + 1) :: V.labelsLL e2, y ∈ V.labelsL [.int .i64 v0, .int .i64 v1, .sl (L2 + 1) 3 0 e2, .str v3] := fun y hy => by simp only [V.labelsL, V.labels, List.mem_append, List.append_nil, List.nil_append]; simp only [hy, true_or, or_true]
    have x2 : ¬ (L + 1 ∈ (L2 + 1) :: V.labelsLL e2) := fun h => dC0 (m2 _ h)
    have a2 : ∀ K, ∀ y ∈ V.labelsLL (V.mkLL K a), ¬ (y ∈ (L2 + 1) :: V.labelsLL e2) := fun K y hy h => dAC y (by rw [mkLL_labels] at hy; exact hy) (m2 _ h)
    have b2 : ∀ y ∈ V.labelsLL b, ¬ (y ∈ (L2 + 1) :: V.labelsLL e2) := fun y hy h => dBC y hy (m2 _ h)
    have u2 : ∀ y, y ∈ (L2 + 1) :: V.labelsLL e2 → y ∈ (L + 1) :: V.labelsLL es := fun y hy => by rw [he, labelsLL_app]; exact List.mem_cons_of_mem _ (List.mem_append_right _ (List.mem_append_left _ (m2 y hy)))
    have hC1 := hC
    simp only [V.labelsL, V.labels, List.append_nil, List.nil_append] at hC1
    have w2 := hC1
    refine Ok.skip ?_
    refine Ok.seq ?_
    refine Ok.block ?_
    refine Ok.seq ?_
    refine Ok.drop [6, 7, 8, 9] (by simp only [kover] <;> rfl) ?_
    refine Ok.region ?_
    iterate 3 (refine OkOps.ev tab_ok rfl (by simp only [kev, ktab, klen, kcv] <;> rfl) (by simp only [kput] <;> rfl) ?_)
    refine OkOps.ev tab_ok rfl (ev_idx (j := a.length) (by simp only [kev, ktab, klen, kcv] <;> rfl) (by simp only [kev, ktab, klen, kcv] <;> rfl) (get_mid (mkLL_len _ _)) (by simp only [kev, ktab, klen, kcv] <;> rfl)) (by simp only [kput] <;> rfl) ?_
    refine OkOps.ev tab_ok rfl (by simp only [kev, ktab, klen, kcv] <;> rfl) (by simp only [kput] <;> rfl) ?_
    refine OkOps.storeU tab_ok rfl rfl (by simp only [kev, ktab, klen, kcv] <;> rfl) ⟨_, _, by simp only [kev]; rfl⟩ (by simp only [V.labelsLL, V.labelsL, V.labels, mkLL_labels, List.mem_append, List.mem_cons, List.not_mem_nil, List.append_nil, List.nil_append, List.cons_append, not_or, or_false, false_or, not_false_eq_true, and_self, dA, dB, dC]) hU hv (List.mem_cons_self ..) (fun W hW hF => by simp only [List.map_cons, List.map_nil, List.map_append, hW.int, hW.str, hW.bool, hW.any, hW.tup0, hF.sl, hF.ptr, Nat.zero_add, set_mid (mkLL_len _ _), labelsLL_app, V.labelsLL, V.labelsL, V.labels, mkLL_labels, List.mem_append, List.mem_cons, List.not_mem_nil, List.append_nil, List.nil_append, List.cons_append, not_or, or_false, false_or, not_false_eq_true, and_self, dA, dB, dC] <;> rfl) (fun W hW hF => by simp only [List.map_cons, List.map_nil, List.map_append, hW.int, hW.str, hW.bool, hW.any, hW.tup0, hF.sl, hF.ptr, Nat.zero_add, set_mid (mkLL_len _ _), labelsLL_app, V.labelsLL, V.labelsL, V.labels, mkLL_labels, List.mem_append, List.mem_cons, List.not_mem_nil, List.append_nil, List.nil_append, List.cons_append, not_or, or_false, false_or, not_false_eq_true, and_self, dA, dB, dC, kput] <;> rfl) ?_
    intro U hU hv
    refine OkOps.nil ?_
    refine Ok.seq ?_
    refine Ok.drop [12, 13, 14, 15, 16] (by simp only [kover] <;> rfl) ?_
    refine Ok.region ?_
    refine OkOps.ev tab_ok rfl (by simp only [kev, ktab, klen, kcv] <;> rfl) (by simp only [kput] <;> rfl) ?_
    refine OkOps.ev tab_ok rfl (by simp (disch := omega) only [kev, ktab, klen, kcv, wrap_add_one] <;> rfl) (by simp only [kput] <;> rfl) ?_
    refine OkOps.ev tab_ok rfl (by simp only [kev, ktab, klen, kcv] <;> rfl) (by simp only [kput] <;> rfl) ?_
    refine OkOps.nil ?_
    refine Ok.seq ?_
    refine Ok.drop [17, 18] (by simp only [kover] <;> rfl) ?_
    refine Ok.region ?_
    iterate 3 (refine OkOps.ev tab_ok rfl (by simp only [kev, ktab, klen, kcv] <;> rfl) (by simp only [kput] <;> rfl) ?_)
    refine OkOps.ev tab_ok rfl (ev_idx (j := a.length) (by simp only [kev, ktab, klen, kcv] <;> rfl) (by simp only [kev, ktab, klen, kcv] <;> rfl) (get_mid (mkLL_len _ _)) (by simp only [kev, ktab, klen, kcv] <;> rfl)) (by simp only [kput] <;> rfl) ?_
    refine OkOps.ev tab_ok rfl (by simp only [kev, ktab, klen, kcv] <;> rfl) (by simp only [kput] <;> rfl) ?_
    refine OkOps.storeU tab_ok rfl rfl (by simp only [kev, ktab, klen, kcv] <;> rfl) ⟨_, _, by simp only [kev]; rfl⟩ (by simp only [V.labelsLL, V.labelsL, V.labels, mkLL_labels, List.mem_append, List.mem_cons, List.not_mem_nil, List.append_nil, List.nil_append, List.cons_append, not_or, or_false, false_or, not_false_eq_true, and_self, dA, dB, dC]) hU hv (List.mem_cons_self ..) (fun W hW hF => by simp only [List.map_cons, List.map_nil, List.map_append, hW.int, hW.str, hW.bool, hW.any, hW.tup0, hF.sl, hF.ptr, Nat.zero_add, set_mid (mkLL_len _ _), labelsLL_app, V.labelsLL, V.labelsL, V.labels, mkLL_labels, List.mem_append, List.mem_cons, List.not_mem_nil, List.append_nil, List.nil_append, List.cons_append, not_or, or_false, false_or, not_false_eq_true, and_self, dA, dB, dC] <;> rfl) (fun W hW hF => by simp only [List.map_cons, List.map_nil, List.map_append, hW.int, hW.str, hW.bool, hW.any, hW.tup0, hF.sl, hF.ptr, Nat.zero_add, set_mid (mkLL_len _ _), labelsLL_app, V.labelsLL, V.labelsL, V.labels, mkLL_labels, List.mem_append, List.mem_cons, List.not_mem_nil, List.append_nil, List.nil_append, List.cons_append, not_or, or_false, false_or, not_false_eq_true, and_self, dA, dB, dC, kput] <;> rfl) ?_
    intro U hU hv
    refine OkOps.nil ?_
    refine Ok.seq ?_
    refine Ok.drop [19, 20, 21, 22, 23] (by simp only [kover] <;> rfl) ?_
    refine Ok.region ?_
    refine OkOps.ev tab_ok rfl (by simp only [kev, ktab, klen, kcv] <;> rfl) (by simp only [kput] <;> rfl) ?_
    refine OkOps.ev tab_ok rfl (by simp (disch := omega) only [kev, ktab, klen, kcv, wrap_add_one] <;> rfl) (by simp only [kput] <;> rfl) ?_
    refine OkOps.ev tab_ok rfl (by simp only [kev, ktab, klen, kcv] <;> rfl) (by simp only [kput] <;> rfl) ?_
    refine OkOps.nil ?_
    refine Ok.seq ?_
    refine Ok.drop [24, 25] (by simp only [kover] <;> rfl) ?_
    refine Ok.region ?_
    iterate 2 (refine OkOps.ev tab_ok rfl (by simp only [kev, ktab, klen, kcv] <;> rfl) (by simp only [kput] <;> rfl) ?_)
    refine OkOps.ev tab_ok rfl (ev_idx (j := a.length) (by simp only [kev, ktab, klen, kcv] <;> rfl) (by simp only [kev, ktab, klen, kcv] <;> rfl) (get_mid (mkLL_len _ _)) (by simp only [kev, ktab, klen, kcv] <;> rfl)) (by simp only [kput] <;> rfl) ?_
    iterate 3 (refine OkOps.ev tab_ok rfl (by simp only [kev, ktab, klen, kcv] <;> rfl) (by simp only [kput] <;> rfl) ?_)
    refine OkOps.turnU 0 rfl rfl (by simp only [kev, ktab, klen, kcv] <;> rfl) (by simp only [kev, ktab, klen, kcv] <;> rfl) cl131 (fun h => c_laws_markRegS e2 _ L2 q2 w2 (by omega)) (by first | rfl | (simp only [Nat.add_zero, Nat.reduceAdd] <;> rfl)) hU hv (u2) (fun W hW ha => by simp only [List.map_cons, List.map_nil, List.map_append, hW.int, hW.str, hW.bool, hW.any, hW.tup0, hW.agg, ha, kput, hW.sl (L + 1) 4 0 _ x2, hW.ptr (L + 1) _ _ _ x2, hW.farLL _ (a2 _), hW.farLL _ b2] <;> rfl) (fun W hW ha => by simp only [List.map_cons, List.map_nil, List.map_append, hW.int, hW.str, hW.bool, hW.any, hW.tup0, hW.agg, ha, kput, hW.sl (L + 1) 4 0 _ x2, hW.ptr (L + 1) _ _ _ x2, hW.farLL _ (a2 _), hW.farLL _ b2] <;> rfl) ?_
    intro U hU hv
    refine OkOps.ev tab_ok rfl (by simp only [kev, ktab, klen, kcv] <;> rfl) (by simp only [kput] <;> rfl) ?_
    refine OkOps.nil ?_
    refine Ok.seq ?_
    refine Ok.drop [26, 27, 28, 29, 30, 31, 32] (by simp only [kover] <;> rfl) ?_
    refine Ok.region ?_
    iterate 3 (refine OkOps.ev tab_ok rfl (by simp only [kev, ktab, klen, kcv] <;> rfl) (by simp only [kput] <;> rfl) ?_)
    refine OkOps.S0 rfl (OpS.weak' rfl (by simp only [kev, ktab, klen, kcv] <;> rfl) (by simp only [kev, ktab, klen, kcv] <;> rfl) cl79 (w_laws_markText _ (by omega))) (by simp only [kput] <;> rfl) ?_
    refine OkOps.ev tab_ok rfl (ev_idx (j := a.length) (by simp only [kev, ktab, klen, kcv] <;> rfl) (by simp only [kev, ktab, klen, kcv] <;> rfl) (get_mid (mkLL_len _ _)) (by simp only [kev, ktab, klen, kcv] <;> rfl)) (by simp only [kput] <;> rfl) ?_
    refine OkOps.ev tab_ok rfl (by simp only [kev, ktab, klen, kcv] <;> rfl) (by simp only [kput] <;> rfl) ?_
    refine OkOps.storeU tab_ok rfl rfl (by simp only [kev, ktab, klen, kcv] <;> rfl) ⟨_, _, by simp only [kev]; rfl⟩ (by simp only [V.labelsLL, V.labelsL, V.labels, mkLL_labels, List.mem_append, List.mem_cons, List.not_mem_nil, List.append_nil, List.nil_append, List.cons_append, not_or, or_false, false_or, not_false_eq_true, and_self, dA, dB, dC]) hU hv (List.mem_cons_self ..) (fun W hW hF => by simp only [List.map_cons, List.map_nil, List.map_append, hW.int, hW.str, hW.bool, hW.any, hW.tup0, hF.sl, hF.ptr, Nat.zero_add, set_mid (mkLL_len _ _), labelsLL_app, V.labelsLL, V.labelsL, V.labels, mkLL_labels, List.mem_append, List.mem_cons, List.not_mem_nil, List.append_nil, List.nil_append, List.cons_append, not_or, or_false, false_or, not_false_eq_true, and_self, dA, dB, dC] <;> rfl) (fun W hW hF => by simp only [List.map_cons, List.map_nil, List.map_append, hW.int, hW.str, hW.bool, hW.any, hW.tup0, hF.sl, hF.ptr, Nat.zero_add, set_mid (mkLL_len _ _), labelsLL_app, V.labelsLL, V.labelsL, V.labels, mkLL_labels, List.mem_append, List.mem_cons, List.not_mem_nil, List.append_nil, List.nil_append, List.cons_append, not_or, or_false, false_or, not_false_eq_true, and_self, dA, dB, dC, kput] <;> rfl) ?_
    intro U hU hv
    refine OkOps.nil ?_
    refine Ok.drop [33, 34, 35, 36, 37, 38] (by simp only [kover] <;> rfl) ?_
    refine Ok.region ?_
    refine OkOps.ev tab_ok rfl (by simp only [kev, ktab, klen, kcv] <;> rfl) (by simp only [kput] <;> rfl) ?_
    refine OkOps.ev tab_ok rfl (by simp (disch := omega) only [kev, ktab, klen, kcv, wrap_add_one] <;> rfl) (by simp only [kput] <;> rfl) ?_
    refine OkOps.ev tab_ok rfl (by simp only [kev, ktab, klen, kcv] <;> rfl) (by simp only [kput] <;> rfl) ?_
    refine OkOps.nil ?_
    refine Ok.drop [39, 40] (by simp only [kover] <;> rfl) ?_
    refine Ok.region ?_
    refine OkOps.ev tab_ok rfl (by simp only [kev, ktab, klen, kcv] <;> rfl) (by simp only [kput] <;> rfl) ?_
    refine OkOps.ev tab_ok rfl (by simp (disch := omega) only [kev, ktab, klen, kcv, wrap_add_one] <;> rfl) (by simp only [kput] <;> rfl) ?_
    refine OkOps.ev tab_ok rfl (by simp only [kev, ktab, klen, kcv] <;> rfl) (by simp only [kput] <;> rfl) ?_
    refine OkOps.nil ?_
    refine ⟨(a ++ [[.int .i64 v0, .int .i64 v1, .sl (L2 + 1) 3 0 e2, .str v3]], b, U), ?_, rfl, rfl, ⟨by rw [he]; simp, hU, by dsimp only; rw [hv, mkLL_snoc]; simp only [V.mkL, V.mk, V.mn, List.append_assoc, List.cons_append, List.nil_append] <;> rfl⟩, by simp only [List.length_cons]; omega⟩
    refine ⟨?_, ?_, ?_, ?_, ?_, ?_, ?_, ?_, ?_, ?_, ?_, ?_, ?_, ?_, ?_, ?_, ?_, ?_, ?_, ?_, ?_, ?_, ?_, ?_, ?_, ?_, ?_, ?_, ?_, ?_, ?_, ?_, ?_, ?_, ?_, ?_, ?_, ?_, ?_, ?_, ?_, ?_, trivial⟩ <;> first | exact le_any _ | with_reducible exact le_rfl' _ | (dsimp only; first | (refine le_eqm ?_; simp only [List.length_append, List.length_cons, List.length_nil]; done) | (rw [wrap_add_one (by omega)]; refine le_eqm ?_; simp only [List.length_append, List.length_cons, List.length_nil]; done) | (refine le_eqm ?_; rw [mkLL_snoc]; simp only [V.mkL, V.mk, V.mn, List.append_assoc, List.cons_append, List.nil_append] <;> rfl) | (refine le_eqm (congrArg (V.int .i64) (congrArg Nat.cast ?_)); rw [mnLL_snoc]; simp only [V.mnL, V.mn]; omega)) | exact le_rfl' _
  · try simp only [bsimp] at hb2
    have hb : b = [] := by cases b with
      | nil => rfl
      | cons c b' => exfalso; rw [List.length_append, mkLL_len] at hb2; simp only [List.length_cons] at hb2; omega
    subst hb
    rw [List.append_nil] at he
    subst he
    refine Ok.exit ?_
    refine Ok.seq ?_
    refine Ok.drop [10, 11] (by simp only [kover] <;> rfl) ?_
    refine Ok.region ?_
    iterate 2 (refine OkOps.ev tab_ok rfl (by simp only [kev, ktab, klen, kcv] <;> rfl) (by simp only [kput] <;> rfl) ?_)
    refine OkOps.nil ?_
    refine Ok.ret ?_
    repeat (first | with_reducible refine thenQ_ret ?_ | with_reducible refine blockQ_ret ?_)
    refine retQ.end (by show resVs tab _ [.tmp 4] = _; simp only [kev, ktab, klen, kcv] <;> rfl) rfl ?_
    exact ⟨rfl, rfl, U, hU, by rw [hv, List.append_nil], rfl⟩
theorem c_laws_markBoxS (es : List (List V)) (k L : Nat) (hs : ∀ r ∈ es, isBox r) (hn : ((L + 1) :: V.labelsLL es).Nodup) (hk : k + V.mnLL es ≤ 4611686018427387904) {h : List V} {n : Nat}  : OkCall Try.prog 78 [.sl (L + 1) 7 0 es, .int .i64 (k : Int)] h n (MarkQ (· ∈ (L + 1) :: V.labelsLL es) (.sl (L + 1) 7 0 es) (.sl (L + 1) 7 0 (V.mkLL k es)) (.int .i64 ((k + V.mnLL es : Nat) : Int)) h n) := by
  refine OkCall.enter' tab_ok Try.func78 rfl (t := [.sl (L + 1) 7 0 es, .int .i64 (k : Int), .any, .any, .any, .any, .any, .any, .any, .any, .any, .any, .any, .any, .any, .any, .any, .any, .any, .any, .any, .any, .any, .any, .any, .any, .any, .any, .any, .any, .any, .any, .any, .any, .any, .any, .any, .any, .any, .any, .any, .any, .any, .any, .any, .any, .any, .any, .any, .any, .any, .any, .any, .any, .any, .any, .any, .any, .any, .any, .any, .any, .any, .any, .any]) rfl ?_
  refine Ok.seq ?_
  refine Ok.region ?_
  refine OkOps.ev tab_ok rfl (by simp only [kev, ktab, klen, kcv] <;> rfl) (by simp only [kput] <;> rfl) ?_
  refine OkOps.nil ?_
  refine Ok.seq ?_
  refine Ok.seq ?_
  refine Ok.region ?_
  refine OkOps.ev tab_ok rfl (by simp only [kev, ktab, klen, kcv] <;> rfl) (by simp only [kput] <;> rfl) ?_
  refine OkOps.nil ?_
  refine Ok.block ?_
  refine Ok.loopH (τ := List (List V) × List (List V) × (V → V)) (fun x => [(0, .sl (L + 1) 7 0 (V.mkLL k x.1 ++ x.2.1)), (1, .int .i64 ((k + V.mnLL x.1 : Nat) : Int)), (5, .int .i64 (x.1.length : Int))]) [6, 7, 8, 9, 10, 11, 12, 13, 14, 15, 16, 17, 18, 19, 20, 21, 22, 23, 24, 25, 26, 27, 28, 29, 30, 31, 32, 33, 34, 35, 36, 37, 38, 39, 40, 41, 42, 43, 44, 45, 46, 47, 48, 49, 50, 51, 52, 53, 54, 55, 56, 57, 58, 59, 60, 61, 62, 63] (fun x => by simp only [kover] <;> rfl) (fun x => h.map x.2.2) (fun x => es = x.1 ++ x.2.1 ∧ Hom x.2.2 (· ∈ (L + 1) :: V.labelsLL es) ∧ x.2.2 (.sl (L + 1) 7 0 es) = .sl (L + 1) 7 0 (V.mkLL k x.1 ++ x.2.1)) (fun x => x.2.1.length) ([], es, id) (by refine ⟨?_, ?_, ?_, ?_, ?_, ?_, ?_, ?_, ?_, ?_, ?_, ?_, ?_, ?_, ?_, ?_, ?_, ?_, ?_, ?_, ?_, ?_, ?_, ?_, ?_, ?_, ?_, ?_, ?_, ?_, ?_, ?_, ?_, ?_, ?_, ?_, ?_, ?_, ?_, ?_, ?_, ?_, ?_, ?_, ?_, ?_, ?_, ?_, ?_, ?_, ?_, ?_, ?_, ?_, ?_, ?_, ?_, ?_, ?_, ?_, ?_, ?_, ?_, ?_, ?_, trivial⟩ <;> first | exact le_any _ | with_reducible exact le_rfl' _ | (exact le_rfl' _) | exact le_rfl' _) ((List.map_id h).symm) (⟨rfl, Hom.id' _, rfl⟩) ?_
  rintro ⟨a, b, U⟩ ⟨he, hU, hv⟩
  have he : es = a ++ b := he
  have hU : Hom U (· ∈ (L + 1) :: V.labelsLL es) := hU
  have hv : U (.sl (L + 1) 7 0 es) = .sl (L + 1) 7 0 (V.mkLL k a ++ b) := hv
  refine Ok.seq ?_
  refine Ok.seq ?_
  refine Ok.region ?_
  iterate 4 (refine OkOps.ev tab_ok rfl (by simp only [kev, ktab, klen, kcv] <;> rfl) (by simp only [kput] <;> rfl) ?_)
  refine OkOps.nil ?_
  refine Ok.cond (b := _) (by simp only [kev, ktab, klen, kcv] <;> rfl) (fun hb2 => ?_) (fun hb2 => ?_)
  · try simp only [bsimp] at hb2
    have hlen : (V.mkLL k a ++ b).length = a.length + b.length := by rw [List.length_append, mkLL_len]
    obtain ⟨c, b, rfl⟩ : ∃ c b', b = c :: b' := by
      cases b with
      | nil => exfalso; rw [hlen] at hb2; simp only [List.length_nil] at hb2; omega
      | cons c b' => exact ⟨c, b', rfl⟩
    obtain ⟨v0, v1, v2, v3, v4, L5, e5, L6, e6, rfl, q5, q6⟩ := hs c (by rw [he]; simp)
    have hkk : k + (V.mnLL a + (V.mnL [.int .i64 v0, .str v1, .int .i64 v2, .int .i64 v3, .int .i64 v4, .sl (L5 + 1) 4 0 e5, .sl (L6 + 1) 1 0 e6] + V.mnLL b)) ≤ 4611686018427387904 := by rw [he, mnLL_app] at hk; exact hk
    simp only [V.mnL, V.mn] at hkk
    obtain ⟨dA, dC, dB, dAC, dBC, hC⟩ := lab_split (by rw [← he]; exact hn)
    have dC0 := dC
    simp only [V.labelsLL, V.labelsL, V.labels, mkLL_labels, List.mem_append, List.mem_cons, List.not_mem_nil, List.append_nil, List.nil_append, List.cons_append, not_or, or_false, false_or] at dC
    have hz := len_mn es fun r hr => isBox_mn (hs r hr)
    have hal : a.length ≤ 4611686018427387904 := by have e3 := congrArg List.length he; rw [List.length_append] at e3; omega
    have m5 : ∀ y ∈ (L5 + 1) :: V.labelsLL e5, y ∈ V.labelsL [.int .i64 v0, .str v1, .int .i64 v2, .int .i64 v3, .int .i64 v4, .sl (L5 + 1) 4 0 e5, .sl (L6 + 1) 1 0 e6] := fun y hy => by simp only [V.labelsL, V.labels, List.mem_append, List.append_nil, List.nil_append]; simp only [hy, true_or, or_true]
    have x5 : ¬ (L + 1 ∈ (L5 + 1) :: V.labelsLL e5) := fun h => dC0 (m5 _ h)
    have a5 : ∀ K, ∀ y ∈ V.labelsLL (V.mkLL K a), ¬ (y ∈ (L5 + 1) :: V.labelsLL e5) := fun K y hy h => dAC y (by rw [mkLL_labels] at hy; exact hy) (m5 _ h)
    have b5 : ∀ y ∈ V.labelsLL b, ¬ (y ∈ (L5 + 1) :: V.labelsLL e5) := fun y hy h => dBC y hy (m5 _ h)
    have u5 : ∀ y, y ∈ (L5 + 1) :: V.labelsLL e5 → y ∈ (L + 1) :: V.labelsLL es := fun y hy => by rw [he, labelsLL_app]; exact List.mem_cons_of_mem _ (List.mem_append_right _ (List.mem_append_left _ (m5 y hy)))
    have m6 : ∀ y ∈ (L6 + 1) :: V.labelsLL e6, y ∈ V.labelsL [.int .i64 v0, .str v1, .int .i64 v2, .int .i64 v3, .int .i64 v4, .sl (L5 + 1) 4 0 e5, .sl (L6 + 1) 1 0 e6] := fun y hy => by simp only [V.labelsL, V.labels, List.mem_append, List.append_nil, List.nil_append]; simp only [hy, true_or, or_true]
    have x6 : ¬ (L + 1 ∈ (L6 + 1) :: V.labelsLL e6) := fun h => dC0 (m6 _ h)
    have a6 : ∀ K, ∀ y ∈ V.labelsLL (V.mkLL K a), ¬ (y ∈ (L6 + 1) :: V.labelsLL e6) := fun K y hy h => dAC y (by rw [mkLL_labels] at hy; exact hy) (m6 _ h)
    have b6 : ∀ y ∈ V.labelsLL b, ¬ (y ∈ (L6 + 1) :: V.labelsLL e6) := fun y hy h => dBC y hy (m6 _ h)
    have u6 : ∀ y, y ∈ (L6 + 1) :: V.labelsLL e6 → y ∈ (L + 1) :: V.labelsLL es := fun y hy => by rw [he, labelsLL_app]; exact List.mem_cons_of_mem _ (List.mem_append_right _ (List.mem_append_left _ (m6 y hy)))
    have hC1 := hC
    simp only [V.labelsL, V.labels, List.append_nil, List.nil_append] at hC1
    obtain ⟨w5, hC1, f5, g5⟩ := nd_app hC1
    have w6 := hC1
    have y6_5 : ∀ y ∈ (L5 + 1) :: V.labelsLL e5, ¬ (y ∈ (L6 + 1) :: V.labelsLL e6) := fun y hy h => f5 y hy (by first | exact h | (simp only [List.mem_append]; simp only [h, true_or, or_true]))
    have y5_6 : ∀ y ∈ (L6 + 1) :: V.labelsLL e6, ¬ (y ∈ (L5 + 1) :: V.labelsLL e5) := fun y hy h => y6_5 y h hy
    refine Ok.skip ?_
    refine Ok.seq ?_
    refine Ok.block ?_
    refine Ok.seq ?_
    refine Ok.drop [6, 7, 8, 9] (by simp only [kover] <;> rfl) ?_
    refine Ok.region ?_
    iterate 3 (refine OkOps.ev tab_ok rfl (by simp only [kev, ktab, klen, kcv] <;> rfl) (by simp only [kput] <;> rfl) ?_)
    refine OkOps.ev tab_ok rfl (ev_idx (j := a.length) (by simp only [kev, ktab, klen, kcv] <;> rfl) (by simp only [kev, ktab, klen, kcv] <;> rfl) (get_mid (mkLL_len _ _)) (by simp only [kev, ktab, klen, kcv] <;> rfl)) (by simp only [kput] <;> rfl) ?_
    refine OkOps.ev tab_ok rfl (by simp only [kev, ktab, klen, kcv] <;> rfl) (by simp only [kput] <;> rfl) ?_
    refine OkOps.storeU tab_ok rfl rfl (by simp only [kev, ktab, klen, kcv] <;> rfl) ⟨_, _, by simp only [kev]; rfl⟩ (by simp only [V.labelsLL, V.labelsL, V.labels, mkLL_labels, List.mem_append, List.mem_cons, List.not_mem_nil, List.append_nil, List.nil_append, List.cons_append, not_or, or_false, false_or, not_false_eq_true, and_self, dA, dB, dC]) hU hv (List.mem_cons_self ..) (fun W hW hF => by simp only [List.map_cons, List.map_nil, List.map_append, hW.int, hW.str, hW.bool, hW.any, hW.tup0, hF.sl, hF.ptr, Nat.zero_add, set_mid (mkLL_len _ _), labelsLL_app, V.labelsLL, V.labelsL, V.labels, mkLL_labels, List.mem_append, List.mem_cons, List.not_mem_nil, List.append_nil, List.nil_append, List.cons_append, not_or, or_false, false_or, not_false_eq_true, and_self, dA, dB, dC] <;> rfl) (fun W hW hF => by simp only [List.map_cons, List.map_nil, List.map_append, hW.int, hW.str, hW.bool, hW.any, hW.tup0, hF.sl, hF.ptr, Nat.zero_add, set_mid (mkLL_len _ _), labelsLL_app, V.labelsLL, V.labelsL, V.labels, mkLL_labels, List.mem_append, List.mem_cons, List.not_mem_nil, List.append_nil, List.nil_append, List.cons_append, not_or, or_false, false_or, not_false_eq_true, and_self, dA, dB, dC, kput] <;> rfl) ?_
    intro U hU hv
    refine OkOps.nil ?_
    refine Ok.seq ?_
    refine Ok.drop [12, 13, 14, 15, 16] (by simp only [kover] <;> rfl) ?_
    refine Ok.region ?_
    refine OkOps.ev tab_ok rfl (by simp only [kev, ktab, klen, kcv] <;> rfl) (by simp only [kput] <;> rfl) ?_
    refine OkOps.ev tab_ok rfl (by simp (disch := omega) only [kev, ktab, klen, kcv, wrap_add_one] <;> rfl) (by simp only [kput] <;> rfl) ?_
    refine OkOps.ev tab_ok rfl (by simp only [kev, ktab, klen, kcv] <;> rfl) (by simp only [kput] <;> rfl) ?_
    refine OkOps.nil ?_
    refine Ok.seq ?_
    refine Ok.drop [17, 18] (by simp only [kover] <;> rfl) ?_
    refine Ok.region ?_
    iterate 3 (refine OkOps.ev tab_ok rfl (by simp only [kev, ktab, klen, kcv] <;> rfl) (by simp only [kput] <;> rfl) ?_)
    refine OkOps.S0 rfl (OpS.weak' rfl (by simp only [kev, ktab, klen, kcv] <;> rfl) (by simp only [kev, ktab, klen, kcv] <;> rfl) cl79 (w_laws_markText _ (by omega))) (by simp only [kput] <;> rfl) ?_
    refine OkOps.ev tab_ok rfl (ev_idx (j := a.length) (by simp only [kev, ktab, klen, kcv] <;> rfl) (by simp only [kev, ktab, klen, kcv] <;> rfl) (get_mid (mkLL_len _ _)) (by simp only [kev, ktab, klen, kcv] <;> rfl)) (by simp only [kput] <;> rfl) ?_
    refine OkOps.ev tab_ok rfl (by simp only [kev, ktab, klen, kcv] <;> rfl) (by simp only [kput] <;> rfl) ?_
    refine OkOps.storeU tab_ok rfl rfl (by simp only [kev, ktab, klen, kcv] <;> rfl) ⟨_, _, by simp only [kev]; rfl⟩ (by simp only [V.labelsLL, V.labelsL, V.labels, mkLL_labels, List.mem_append, List.mem_cons, List.not_mem_nil, List.append_nil, List.nil_append, List.cons_append, not_or, or_false, false_or, not_false_eq_true, and_self, dA, dB, dC]) hU hv (List.mem_cons_self ..) (fun W hW hF => by simp only [List.map_cons, List.map_nil, List.map_append, hW.int, hW.str, hW.bool, hW.any, hW.tup0, hF.sl, hF.ptr, Nat.zero_add, set_mid (mkLL_len _ _), labelsLL_app, V.labelsLL, V.labelsL, V.labels, mkLL_labels, List.mem_append, List.mem_cons, List.not_mem_nil, List.append_nil, List.nil_append, List.cons_append, not_or, or_false, false_or, not_false_eq_true, and_self, dA, dB, dC] <;> rfl) (fun W hW hF => by simp only [List.map_cons, List.map_nil, List.map_append, hW.int, hW.str, hW.bool, hW.any, hW.tup0, hF.sl, hF.ptr, Nat.zero_add, set_mid (mkLL_len _ _), labelsLL_app, V.labelsLL, V.labelsL, V.labels, mkLL_labels, List.mem_append, List.mem_cons, List.not_mem_nil, List.append_nil, List.nil_append, List.cons_append, not_or, or_false, false_or, not_false_eq_true, and_self, dA, dB, dC, kput] <;> rfl) ?_
    intro U hU hv
    refine OkOps.nil ?_
    refine Ok.seq ?_
    refine Ok.drop [19, 20, 21, 22, 23, 24] (by simp only [kover] <;> rfl) ?_
    refine Ok.region ?_
    refine OkOps.ev tab_ok rfl (by simp only [kev, ktab, klen, kcv] <;> rfl) (by simp only [kput] <;> rfl) ?_
    refine OkOps.ev tab_ok rfl (by simp (disch := omega) only [kev, ktab, klen, kcv, wrap_add_one] <;> rfl) (by simp only [kput] <;> rfl) ?_
    refine OkOps.ev tab_ok rfl (by simp only [kev, ktab, klen, kcv] <;> rfl) (by simp only [kput] <;> rfl) ?_
    refine OkOps.nil ?_
    refine Ok.seq ?_
    refine Ok.drop [25, 26] (by simp only [kover] <;> rfl) ?_
    refine Ok.region ?_
    iterate 3 (refine OkOps.ev tab_ok rfl (by simp only [kev, ktab, klen, kcv] <;> rfl) (by simp only [kput] <;> rfl) ?_)
    refine OkOps.ev tab_ok rfl (ev_idx (j := a.length) (by simp only [kev, ktab, klen, kcv] <;> rfl) (by simp only [kev, ktab, klen, kcv] <;> rfl) (get_mid (mkLL_len _ _)) (by simp only [kev, ktab, klen, kcv] <;> rfl)) (by simp only [kput] <;> rfl) ?_
    iterate 2 (refine OkOps.ev tab_ok rfl (by simp only [kev, ktab, klen, kcv] <;> rfl) (by simp only [kput] <;> rfl) ?_)
    refine OkOps.storeU tab_ok rfl rfl (by simp only [kev, ktab, klen, kcv] <;> rfl) ⟨_, _, by simp only [kev]; rfl⟩ (by simp only [V.labelsLL, V.labelsL, V.labels, mkLL_labels, List.mem_append, List.mem_cons, List.not_mem_nil, List.append_nil, List.nil_append, List.cons_append, not_or, or_false, false_or, not_false_eq_true, and_self, dA, dB, dC]) hU hv (List.mem_cons_self ..) (fun W hW hF => by simp only [List.map_cons, List.map_nil, List.map_append, hW.int, hW.str, hW.bool, hW.any, hW.tup0, hF.sl, hF.ptr, Nat.zero_add, set_mid (mkLL_len _ _), labelsLL_app, V.labelsLL, V.labelsL, V.labels, mkLL_labels, List.mem_append, List.mem_cons, List.not_mem_nil, List.append_nil, List.nil_append, List.cons_append, not_or, or_false, false_or, not_false_eq_true, and_self, dA, dB, dC] <;> rfl) (fun W hW hF => by simp only [List.map_cons, List.map_nil, List.map_append, hW.int, hW.str, hW.bool, hW.any, hW.tup0, hF.sl, hF.ptr, Nat.zero_add, set_mid (mkLL_len _ _), labelsLL_app, V.labelsLL, V.labelsL, V.labels, mkLL_labels, List.mem_append, List.mem_cons, List.not_mem_nil, List.append_nil, List.nil_append, List.cons_append, not_or, or_false, false_or, not_false_eq_true, and_self, dA, dB, dC, kput] <;> rfl) ?_
    intro U hU hv
    refine OkOps.nil ?_
    refine Ok.seq ?_
    refine Ok.drop [27, 28, 29, 30, 31, 32] (by simp only [kover] <;> rfl) ?_
    refine Ok.region ?_
    refine OkOps.ev tab_ok rfl (by simp only [kev, ktab, klen, kcv] <;> rfl) (by simp only [kput] <;> rfl) ?_
    refine OkOps.ev tab_ok rfl (by simp (disch := omega) only [kev, ktab, klen, kcv, wrap_add_one] <;> rfl) (by simp only [kput] <;> rfl) ?_
    refine OkOps.ev tab_ok rfl (by simp only [kev, ktab, klen, kcv] <;> rfl) (by simp only [kput] <;> rfl) ?_
    refine OkOps.nil ?_
    refine Ok.seq ?_
    refine Ok.drop [33, 34] (by simp only [kover] <;> rfl) ?_
    refine Ok.region ?_
    iterate 3 (refine OkOps.ev tab_ok rfl (by simp only [kev, ktab, klen, kcv] <;> rfl) (by simp only [kput] <;> rfl) ?_)
    refine OkOps.ev tab_ok rfl (ev_idx (j := a.length) (by simp only [kev, ktab, klen, kcv] <;> rfl) (by simp only [kev, ktab, klen, kcv] <;> rfl) (get_mid (mkLL_len _ _)) (by simp only [kev, ktab, klen, kcv] <;> rfl)) (by simp only [kput] <;> rfl) ?_
    iterate 2 (refine OkOps.ev tab_ok rfl (by simp only [kev, ktab, klen, kcv] <;> rfl) (by simp only [kput] <;> rfl) ?_)
    refine OkOps.storeU tab_ok rfl rfl (by simp only [kev, ktab, klen, kcv] <;> rfl) ⟨_, _, by simp only [kev]; rfl⟩ (by simp only [V.labelsLL, V.labelsL, V.labels, mkLL_labels, List.mem_append, List.mem_cons, List.not_mem_nil, List.append_nil, List.nil_append, List.cons_append, not_or, or_false, false_or, not_false_eq_true, and_self, dA, dB, dC]) hU hv (List.mem_cons_self ..) (fun W hW hF => by simp only [List.map_cons, List.map_nil, List.map_append, hW.int, hW.str, hW.bool, hW.any, hW.tup0, hF.sl, hF.ptr, Nat.zero_add, set_mid (mkLL_len _ _), labelsLL_app, V.labelsLL, V.labelsL, V.labels, mkLL_labels, List.mem_append, List.mem_cons, List.not_mem_nil, List.append_nil, List.nil_append, List.cons_append, not_or, or_false, false_or, not_false_eq_true, and_self, dA, dB, dC] <;> rfl) (fun W hW hF => by simp only [List.map_cons, List.map_nil, List.map_append, hW.int, hW.str, hW.bool, hW.any, hW.tup0, hF.sl, hF.ptr, Nat.zero_add, set_mid (mkLL_len _ _), labelsLL_app, V.labelsLL, V.labelsL, V.labels, mkLL_labels, List.mem_append, List.mem_cons, List.not_mem_nil, List.append_nil, List.nil_append, List.cons_append, not_or, or_false, false_or, not_false_eq_true, and_self, dA, dB, dC, kput] <;> rfl) ?_
    intro U hU hv
    refine OkOps.nil ?_
    refine Ok.seq ?_
    refine Ok.drop [35, 36, 37, 38, 39, 40] (by simp only [kover] <;> rfl) ?_
    refine Ok.region ?_
    refine OkOps.ev tab_ok rfl (by simp only [kev, ktab, klen, kcv] <;> rfl) (by simp only [kput] <;> rfl) ?_
    refine OkOps.ev tab_ok rfl (by simp (disch := omega) only [kev, ktab, klen, kcv, wrap_add_one] <;> rfl) (by simp only [kput] <;> rfl) ?_
    refine OkOps.ev tab_ok rfl (by simp only [kev, ktab, klen, kcv] <;> rfl) (by simp only [kput] <;> rfl) ?_
    refine OkOps.nil ?_
    refine Ok.seq ?_
    refine Ok.drop [41, 42] (by simp only [kover] <;> rfl) ?_
    refine Ok.region ?_
    iterate 3 (refine OkOps.ev tab_ok rfl (by simp only [kev, ktab, klen, kcv] <;> rfl) (by simp only [kput] <;> rfl) ?_)
    refine OkOps.ev tab_ok rfl (ev_idx (j := a.length) (by simp only [kev, ktab, klen, kcv] <;> rfl) (by simp only [kev, ktab, klen, kcv] <;> rfl) (get_mid (mkLL_len _ _)) (by simp only [kev, ktab, klen, kcv] <;> rfl)) (by simp only [kput] <;> rfl) ?_
    refine OkOps.ev tab_ok rfl (by simp only [kev, ktab, klen, kcv] <;> rfl) (by simp only [kput] <;> rfl) ?_
    refine OkOps.storeU tab_ok rfl rfl (by simp only [kev, ktab, klen, kcv] <;> rfl) ⟨_, _, by simp only [kev]; rfl⟩ (by simp only [V.labelsLL, V.labelsL, V.labels, mkLL_labels, List.mem_append, List.mem_cons, List.not_mem_nil, List.append_nil, List.nil_append, List.cons_append, not_or, or_false, false_or, not_false_eq_true, and_self, dA, dB, dC]) hU hv (List.mem_cons_self ..) (fun W hW hF => by simp only [List.map_cons, List.map_nil, List.map_append, hW.int, hW.str, hW.bool, hW.any, hW.tup0, hF.sl, hF.ptr, Nat.zero_add, set_mid (mkLL_len _ _), labelsLL_app, V.labelsLL, V.labelsL, V.labels, mkLL_labels, List.mem_append, List.mem_cons, List.not_mem_nil, List.append_nil, List.nil_append, List.cons_append, not_or, or_false, false_or, not_false_eq_true, and_self, dA, dB, dC] <;> rfl) (fun W hW hF => by simp only [List.map_cons, List.map_nil, List.map_append, hW.int, hW.str, hW.bool, hW.any, hW.tup0, hF.sl, hF.ptr, Nat.zero_add, set_mid (mkLL_len _ _), labelsLL_app, V.labelsLL, V.labelsL, V.labels, mkLL_labels, List.mem_append, List.mem_cons, List.not_mem_nil, List.append_nil, List.nil_append, List.cons_append, not_or, or_false, false_or, not_false_eq_true, and_self, dA, dB, dC, kput] <;> rfl) ?_
    intro U hU hv
    refine OkOps.nil ?_
    refine Ok.seq ?_
    refine Ok.drop [43, 44, 45, 46, 47] (by simp only [kover] <;> rfl) ?_
    refine Ok.region ?_
    refine OkOps.ev tab_ok rfl (by simp only [kev, ktab, klen, kcv] <;> rfl) (by simp only [kput] <;> rfl) ?_
    refine OkOps.ev tab_ok rfl (by simp (disch := omega) only [kev, ktab, klen, kcv, wrap_add_one] <;> rfl) (by simp only [kput] <;> rfl) ?_
    refine OkOps.ev tab_ok rfl (by simp only [kev, ktab, klen, kcv] <;> rfl) (by simp only [kput] <;> rfl) ?_
    refine OkOps.nil ?_
    refine Ok.seq ?_
    refine Ok.drop [48, 49] (by simp only [kover] <;> rfl) ?_
    refine Ok.region ?_
    iterate 2 (refine OkOps.ev tab_ok rfl (by simp only [kev, ktab, klen, kcv] <;> rfl) (by simp only [kput] <;> rfl) ?_)
    refine OkOps.ev tab_ok rfl (ev_idx (j := a.length) (by simp only [kev, ktab, klen, kcv] <;> rfl) (by simp only [kev, ktab, klen, kcv] <;> rfl) (get_mid (mkLL_len _ _)) (by simp only [kev, ktab, klen, kcv] <;> rfl)) (by simp only [kput] <;> rfl) ?_
    iterate 3 (refine OkOps.ev tab_ok rfl (by simp only [kev, ktab, klen, kcv] <;> rfl) (by simp only [kput] <;> rfl) ?_)
    refine OkOps.turnU 0 rfl rfl (by simp only [kev, ktab, klen, kcv] <;> rfl) (by simp only [kev, ktab, klen, kcv] <;> rfl) cl110 (fun h => c_laws_markMailS e5 _ L5 q5 w5 (by omega)) (by first | rfl | (simp only [Nat.add_zero, Nat.reduceAdd] <;> rfl)) hU hv (u5) (fun W hW ha => by have z6 := hW.far (.sl (L6 + 1) 1 0 e6) (fun y hy => y5_6 y hy); have zz6 := fun K => hW.far (.sl (L6 + 1) 1 0 (V.mkLL K e6)) (fun y hy => y5_6 y (by simp only [V.labels, mkLL_labels] at hy; exact hy)); simp only [List.map_cons, List.map_nil, List.map_append, hW.int, hW.str, hW.bool, hW.any, hW.tup0, hW.agg, ha, kput, hW.sl (L + 1) 7 0 _ x5, hW.ptr (L + 1) _ _ _ x5, hW.farLL _ (a5 _), hW.farLL _ b5, z6, zz6] <;> rfl) (fun W hW ha => by have z6 := hW.far (.sl (L6 + 1) 1 0 e6) (fun y hy => y5_6 y hy); have zz6 := fun K => hW.far (.sl (L6 + 1) 1 0 (V.mkLL K e6)) (fun y hy => y5_6 y (by simp only [V.labels, mkLL_labels] at hy; exact hy)); simp only [List.map_cons, List.map_nil, List.map_append, hW.int, hW.str, hW.bool, hW.any, hW.tup0, hW.agg, ha, kput, hW.sl (L + 1) 7 0 _ x5, hW.ptr (L + 1) _ _ _ x5, hW.farLL _ (a5 _), hW.farLL _ b5, z6, zz6] <;> rfl) ?_
    intro U hU hv
    refine OkOps.ev tab_ok rfl (by simp only [kev, ktab, klen, kcv] <;> rfl) (by simp only [kput] <;> rfl) ?_
    refine OkOps.nil ?_
    refine Ok.drop [50, 51, 52, 53, 54, 55, 56] (by simp only [kover] <;> rfl) ?_
    refine Ok.region ?_
    iterate 2 (refine OkOps.ev tab_ok rfl (by simp only [kev, ktab, klen, kcv] <;> rfl) (by simp only [kput] <;> rfl) ?_)
    refine OkOps.ev tab_ok rfl (ev_idx (j := a.length) (by simp only [kev, ktab, klen, kcv] <;> rfl) (by simp only [kev, ktab, klen, kcv] <;> rfl) (get_mid (mkLL_len _ _)) (by simp only [kev, ktab, klen, kcv] <;> rfl)) (by simp only [kput] <;> rfl) ?_
    iterate 3 (refine OkOps.ev tab_ok rfl (by simp only [kev, ktab, klen, kcv] <;> rfl) (by simp only [kput] <;> rfl) ?_)
    refine OkOps.turnU 0 rfl rfl (by simp only [kev, ktab, klen, kcv] <;> rfl) (by simp only [kev, ktab, klen, kcv] <;> rfl) cl58 (fun h => c_laws_markIntS e6 _ L6 q6 w6 (by omega)) (by first | rfl | (simp only [Nat.add_zero, Nat.reduceAdd] <;> rfl)) hU hv (u6) (fun W hW ha => by have z5 := hW.far (.sl (L5 + 1) 4 0 e5) (fun y hy => y6_5 y hy); have zz5 := fun K => hW.far (.sl (L5 + 1) 4 0 (V.mkLL K e5)) (fun y hy => y6_5 y (by simp only [V.labels, mkLL_labels] at hy; exact hy)); simp only [List.map_cons, List.map_nil, List.map_append, hW.int, hW.str, hW.bool, hW.any, hW.tup0, hW.agg, ha, kput, hW.sl (L + 1) 7 0 _ x6, hW.ptr (L + 1) _ _ _ x6, hW.farLL _ (a6 _), hW.farLL _ b6, z5, zz5] <;> rfl) (fun W hW ha => by have z5 := hW.far (.sl (L5 + 1) 4 0 e5) (fun y hy => y6_5 y hy); have zz5 := fun K => hW.far (.sl (L5 + 1) 4 0 (V.mkLL K e5)) (fun y hy => y6_5 y (by simp only [V.labels, mkLL_labels] at hy; exact hy)); simp only [List.map_cons, List.map_nil, List.map_append, hW.int, hW.str, hW.bool, hW.any, hW.tup0, hW.agg, ha, kput, hW.sl (L + 1) 7 0 _ x6, hW.ptr (L + 1) _ _ _ x6, hW.farLL _ (a6 _), hW.farLL _ b6, z5, zz5] <;> rfl) ?_
    intro U hU hv
    refine OkOps.ev tab_ok rfl (by simp only [kev, ktab, klen, kcv] <;> rfl) (by simp only [kput] <;> rfl) ?_
    refine OkOps.nil ?_
    refine Ok.drop [57, 58, 59, 60, 61, 62, 63] (by simp only [kover] <;> rfl) ?_
    refine Ok.region ?_
    refine OkOps.ev tab_ok rfl (by simp only [kev, ktab, klen, kcv] <;> rfl) (by simp only [kput] <;> rfl) ?_
    refine OkOps.ev tab_ok rfl (by simp (disch := omega) only [kev, ktab, klen, kcv, wrap_add_one] <;> rfl) (by simp only [kput] <;> rfl) ?_
    refine OkOps.ev tab_ok rfl (by simp only [kev, ktab, klen, kcv] <;> rfl) (by simp only [kput] <;> rfl) ?_
    refine OkOps.nil ?_
    refine ⟨(a ++ [[.int .i64 v0, .str v1, .int .i64 v2, .int .i64 v3, .int .i64 v4, .sl (L5 + 1) 4 0 e5, .sl (L6 + 1) 1 0 e6]], b, U), ?_, rfl, rfl, ⟨by rw [he]; simp, hU, by dsimp only; rw [hv, mkLL_snoc]; simp only [V.mkL, V.mk, V.mn, List.append_assoc, List.cons_append, List.nil_append] <;> rfl⟩, by simp only [List.length_cons]; omega⟩
    refine ⟨?_, ?_, ?_, ?_, ?_, ?_, ?_, ?_, ?_, ?_, ?_, ?_, ?_, ?_, ?_, ?_, ?_, ?_, ?_, ?_, ?_, ?_, ?_, ?_, ?_, ?_, ?_, ?_, ?_, ?_, ?_, ?_, ?_, ?_, ?_, ?_, ?_, ?_, ?_, ?_, ?_, ?_, ?_, ?_, ?_, ?_, ?_, ?_, ?_, ?_, ?_, ?_, ?_, ?_, ?_, ?_, ?_, ?_, ?_, ?_, ?_, ?_, ?_, ?_, ?_, trivial⟩ <;> first | exact le_any _ | with_reducible exact le_rfl' _ | (dsimp only; first | (refine le_eqm ?_; simp only [List.length_append, List.length_cons, List.length_nil]; done) | (rw [wrap_add_one (by omega)]; refine le_eqm ?_; simp only [List.length_append, List.length_cons, List.length_nil]; done) | (refine le_eqm ?_; rw [mkLL_snoc]; simp only [V.mkL, V.mk, V.mn, List.append_assoc, List.cons_append, List.nil_append] <;> rfl) | (refine le_eqm (congrArg (V.int .i64) (congrArg Nat.cast ?_)); rw [mnLL_snoc]; simp only [V.mnL, V.mn]; omega)) | exact le_rfl' _
  · try simp only [bsimp] at hb2
    have hb : b = [] := by cases b with
      | nil => rfl
      | cons c b' => exfalso; rw [List.length_append, mkLL_len] at hb2; simp only [List.length_cons] at hb2; omega
    subst hb
    rw [List.append_nil] at he
    subst he
    refine Ok.exit ?_
    refine Ok.seq ?_
    refine Ok.drop [10, 11] (by simp only [kover] <;> rfl) ?_
    refine Ok.region ?_
    iterate 2 (refine OkOps.ev tab_ok rfl (by simp only [kev, ktab, klen, kcv] <;> rfl) (by simp only [kput] <;> rfl) ?_)
    refine OkOps.nil ?_
    refine Ok.ret ?_
    repeat (first | with_reducible refine thenQ_ret ?_ | with_reducible refine blockQ_ret ?_)
    refine retQ.end (by show resVs tab _ [.tmp 4] = _; simp only [kev, ktab, klen, kcv] <;> rfl) rfl ?_
    exact ⟨rfl, rfl, U, hU, by rw [hv, List.append_nil], rfl⟩
end Go.Proofs.Ytjhfabimacljhaa.K
