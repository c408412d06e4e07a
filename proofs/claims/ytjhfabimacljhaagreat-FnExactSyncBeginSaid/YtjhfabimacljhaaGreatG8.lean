/- Walks: marks on data of the call's own. Printed by w2.py. -/
import Derived.Test.YtjhfabimacljhaaGreatG7
import Derived.Test.YtjhfabimacljhaaGreatG4
namespace Go.Proofs.YtjhfabimacljhaaGreat.K
open Go Go.RowKit
set_option linter.unusedVariables false
set_option linter.unusedSimpArgs false
set_option maxHeartbeats 4000000
set_option maxRecDepth 20000
theorem w_laws_markText (k : Nat) (hk : k ≤ 4611686018427387904) : Weak Tryz.prog 127 [.int .i64 (k : Int)] (.str (markT k)) := by
 refine Weak.enter tab_ok Tryz.func127 rfl (.inr (by simp [V.labelsL, V.labels, zz, zf, zy])) (t := [.int .i64 (k : Int), .any, .any, .any, .any, .any, .any, .any, .any, .any, .any, .any, .any, .any, .any, .any, .any, .any, .any, .any]) rfl ?_
 refine OQ ?_
 refine EV ?_
 refine ON ?_
 refine Ok.seq ?_
 refine OQ ?_
 iterate 2 (refine EV ?_)
 refine ON ?_
 refine Ok.cond (b := _) (by simp only [kE, kT, kL, kC] <;> rfl) (fun hb1 => ?_) (fun hb1 => ?_)
 ·
  try simp only [bsimp] at hb1
  rw [show k = 0 by omega]
  refine OQ ?_
  refine EV ?_
  refine ON ?_
  refine Ok.ret ?_
  with_reducible repeat (first | refine thenQ_ret ?_ | refine blockQ_ret ?_)
  refine RT ?_
  rfl
 ·
  try simp only [bsimp] at hb1
  rw [markT, if_neg (by omega)]
  refine Ok.skip ?_
  refine OQ ?_
  refine EV ?_
  refine ON ?_
  refine Ok.seq ?_
  refine Ok.block ?_
  refine Ok.loopWZ (τ := Nat × Str) (fun x => [(0, .int .i64 (x.1 : Int)), (3, .str x.2)]) [6, 7, 8, 9, 10, 11, 12, 13, 14, 15, 16, 17] (fun x => by simp only [kover] <;> rfl) (fun x => decGo x.1 x.2 = decGo k [] ∧ x.1 + x.2.length ≤ k) (fun x => x.1) (k, []) (by omega) (by refine ⟨?_, ?_, ?_, ?_, ?_, ?_, ?_, ?_, ?_, ?_, ?_, ?_, ?_, ?_, ?_, ?_, ?_, ?_, ?_, ?_, trivial⟩ <;> first | exact le_any _ | with_reducible exact le_rfl' _ | (exact le_rfl' _) | exact le_rfl' _) (⟨rfl, by simp⟩) ?_
  rintro ⟨m, acc⟩ ⟨h1, h2⟩
  have h1 : decGo m acc = decGo k [] := h1
  have h2 : m + acc.length ≤ k := h2
  refine Ok.seq ?_
  refine OQ ?_
  iterate 2 (refine EV ?_)
  refine ON ?_
  refine Ok.cond (b := _) (by simp only [kE, kT, kL, kC] <;> rfl) (fun hb4 => ?_) (fun hb4 => ?_)
  ·
   try simp only [bsimp] at hb4
   have hm : 0 < m := by omega
   refine Ok.skip ?_
   refine Ok.block ?_
   refine OQ ?_
   iterate 3 (refine EV ?_)
   refine OkOps.ev tab_ok rfl (by simp only [kE, kT, kL, kC, digit_byte] <;> rfl) (by simp only [kP] <;> rfl) ?_
   refine OkOps.ev tab_ok rfl (ev_bs (by simp only [kT] <;> rfl) (by simp only [kT] <;> rfl) (by decide) (by decide) (by simp only [kE, kT, kL, kC, List.map_cons, List.map_nil] <;> rfl) (by simp only [kfe, beq_self_eq_true, Bool.and_true, Bool.true_and, decide_true, Nat.zero_add, Nat.lt_add_one, Nat.reduceLT, Nat.reduceAdd, Nat.zero_lt_succ, if_true, ↓reduceIte] <;> rfl)) (by simp only [kP] <;> rfl) ?_
   refine OkOps.ev tab_ok rfl (ev_text' (by simp only [kE, kT, kL, kC] <;> rfl) rfl rfl rfl (by simp only [kby, Option.map_some, List.append_assoc, List.cons_append, List.nil_append] <;> rfl)) (by simp only [kP] <;> rfl) ?_
   refine EV ?_
   refine OkOps.ev tab_ok rfl (ev_cat (by simp only [kE, kT, kL, kC] <;> rfl) (by simp only [kE, kT, kL, kC] <;> rfl) (by first | omega | (simp only [List.length_cons, List.length_nil]; omega))) (by simp only [kP] <;> rfl) ?_
   refine EV ?_
   refine ON ?_
   refine Ok.region ?_
   refine EV ?_
   refine OkOps.ev tab_ok rfl (by simp only [kE, kT, kL, kC, quo10 (show m ≤ 9223372036854775807 by omega)] <;> rfl) (by simp only [kP] <;> rfl) ?_
   refine EV ?_
   refine ON ?_
   refine ⟨(m / 10, UInt8.ofNat (48 + m % 10) :: acc), ?_, rfl, ⟨by rw [← h1, decGo_pos hm], by simp only [List.length_cons]; omega⟩, by show m / 10 < m; omega⟩
   simp only [V.renL, V.travL, V.travLL, V.trav, frz, zz, zf, zy, Nat.reduceLeDiff, ↓reduceIte]
   refine ⟨?_, ?_, ?_, ?_, ?_, ?_, ?_, ?_, ?_, ?_, ?_, ?_, ?_, ?_, ?_, ?_, ?_, ?_, ?_, ?_, trivial⟩ <;> first | exact le_any _ | with_reducible exact le_rfl' _ | (exact le_rfl' _) | exact le_rfl' _
  ·
   try simp only [bsimp] at hb4
   have hm : ¬ 0 < m := by omega
   refine Ok.exit ?_
   refine OQ ?_
   refine EV ?_
   refine OkOps.ev tab_ok rfl (ev_cat (by simp only [kE, kT, kL, kC] <;> rfl) (by simp only [kE, kT, kL, kC] <;> rfl) (by first | omega | (simp only [List.length_cons, List.length_nil]; omega))) (by simp only [kP] <;> rfl) ?_
   refine EV ?_
   refine ON ?_
   refine Ok.ret ?_
   with_reducible repeat (first | refine thenQ_ret ?_ | refine blockQ_ret ?_)
   refine RT ?_
   rw [← h1, decGo_zero hm]; rfl
theorem c_laws_markIntS (es : List (List V)) (k L : Nat) (hs : ∀ r ∈ es, isInt r) (hn : ((L + 1) :: V.labelsLL es).Nodup) (hk : k + V.mnLL es ≤ 4611686018427387904) {h : List V} {n : Nat}  : OkCall Tryz.prog 64 [.sl (L + 1) 1 0 es, .int .i64 (k : Int)] h n (MarkQ (· ∈ (L + 1) :: V.labelsLL es) (.sl (L + 1) 1 0 es) (.sl (L + 1) 1 0 (V.mkLL k es)) (.int .i64 ((k + V.mnLL es : Nat) : Int)) h n) := by
 refine OkCall.enter' tab_ok Tryz.func64 rfl (t := [.sl (L + 1) 1 0 es, .int .i64 (k : Int), .any, .any, .any, .any, .any, .any, .any, .any, .any, .any, .any, .any, .any, .any, .any, .any, .any]) rfl ?_
 refine OQ ?_
 refine EV ?_
 refine ON ?_
 refine Ok.seq ?_
 refine OQ ?_
 refine EV ?_
 refine ON ?_
 refine Ok.block ?_
 refine Ok.loopH (τ := List (List V) × List (List V) × (V → V)) (fun x => [(0, .sl (L + 1) 1 0 (V.mkLL k x.1 ++ x.2.1)), (1, .int .i64 ((k + V.mnLL x.1 : Nat) : Int)), (5, .int .i64 (x.1.length : Int))]) [6, 7, 8, 9, 10, 11, 12, 13, 14, 15, 16, 17] (fun x => by simp only [kover] <;> rfl) (fun x => h.map x.2.2) (fun x => es = x.1 ++ x.2.1 ∧ Hom x.2.2 (· ∈ (L + 1) :: V.labelsLL es) ∧ x.2.2 (.sl (L + 1) 1 0 es) = .sl (L + 1) 1 0 (V.mkLL k x.1 ++ x.2.1)) (fun x => x.2.1.length) ([], es, id) (by refine ⟨?_, ?_, ?_, ?_, ?_, ?_, ?_, ?_, ?_, ?_, ?_, ?_, ?_, ?_, ?_, ?_, ?_, ?_, ?_, trivial⟩ <;> first | exact le_any _ | with_reducible exact le_rfl' _ | (exact le_rfl' _) | exact le_rfl' _) ((List.map_id h).symm) (⟨rfl, Hom.id' _, rfl⟩) ?_
 rintro ⟨a, b, U⟩ ⟨he, hU, hv⟩
 have he : es = a ++ b := he
 have hU : Hom U (· ∈ (L + 1) :: V.labelsLL es) := hU
 have hv : U (.sl (L + 1) 1 0 es) = .sl (L + 1) 1 0 (V.mkLL k a ++ b) := hv
 refine Ok.seq ?_
 refine OQ ?_
 iterate 4 (refine EV ?_)
 refine ON ?_
 refine Ok.cond (b := _) (by simp only [kE, kT, kL, kC] <;> rfl) (fun hb2 => ?_) (fun hb2 => ?_)
 ·
  try simp only [bsimp] at hb2
  have hlen : (V.mkLL k a ++ b).length = a.length + b.length := by rw [List.length_append, mkLL_len]
  obtain ⟨c, b, rfl⟩ : ∃ c b', b = c :: b' := by
    cases b with
    | nil => exfalso; rw [hlen] at hb2; simp only [List.length_nil] at hb2; omega
    | cons c b' => exact ⟨c, b', rfl⟩
  obtain ⟨v0, rfl⟩ := hs c (by rw [he]; simp)
  have hkk : k + (V.mnLL a + (V.mnL [.int .i64 v0] + V.mnLL b)) ≤ 4611686018427387904 := by rw [he, mnLL_app] at hk; exact hk
  simp only [V.mnL, V.mn] at hkk
  obtain ⟨dA, dC, dB, dAC, dBC, hC⟩ := lab_split (by rw [← he]; exact hn)
  have dC0 := dC
  simp only [V.labelsLL, V.labelsL, V.labels, mkLL_labels, List.mem_append, List.mem_cons, List.not_mem_nil, List.append_nil, List.nil_append, List.cons_append, not_or, or_false, false_or] at dC
  have hz := len_mn es fun r hr => isInt_mn (hs r hr)
  have hal : a.length ≤ 4611686018427387904 := by have e3 := congrArg List.length he; rw [List.length_append] at e3; omega
  refine Ok.skip ?_
  refine Ok.seq ?_
  refine Ok.block ?_
  refine Ok.seq ?_
  refine Ok.drop [6, 7, 8, 9] (by simp only [kover] <;> rfl) ?_
  refine Ok.region ?_
  iterate 3 (refine EV ?_)
  refine OkOps.ev tab_ok rfl (ev_idx (j := a.length) (by simp only [kE, kT, kL, kC] <;> rfl) (by simp only [kE, kT, kL, kC] <;> rfl) (get_mid (mkLL_len _ _)) (by simp only [kE, kT, kL, kC] <;> rfl)) (by simp only [kP] <;> rfl) ?_
  refine OkOps.storeU tab_ok rfl rfl (by simp only [kE, kT, kL, kC] <;> rfl) ⟨_, _, by simp only [kE]; rfl⟩ (by simp only [V.labelsLL, V.labelsL, V.labels, mkLL_labels, List.mem_append, List.mem_cons, List.not_mem_nil, List.append_nil, List.nil_append, List.cons_append, not_or, or_false, false_or, not_false_eq_true, and_self, dA, dB]) hU hv (List.mem_cons_self ..) (fun W hW hF => by simp only [List.map_cons, List.map_nil, List.map_append, hW.int, hW.str, hW.bool, hW.any, hW.tup0, hF.sl, hF.ptr, Nat.zero_add, set_mid (mkLL_len _ _), labelsLL_app, V.labelsLL, V.labelsL, V.labels, mkLL_labels, List.mem_append, List.mem_cons, List.not_mem_nil, List.append_nil, List.nil_append, List.cons_append, not_or, or_false, false_or, not_false_eq_true, and_self, dA, dB] <;> rfl) (fun W hW hF => by simp only [List.map_cons, List.map_nil, List.map_append, hW.int, hW.str, hW.bool, hW.any, hW.tup0, hF.sl, hF.ptr, Nat.zero_add, set_mid (mkLL_len _ _), labelsLL_app, V.labelsLL, V.labelsL, V.labels, mkLL_labels, List.mem_append, List.mem_cons, List.not_mem_nil, List.append_nil, List.nil_append, List.cons_append, not_or, or_false, false_or, not_false_eq_true, and_self, dA, dB, kP] <;> rfl) ?_
  intro U hU hv
  refine ON ?_
  refine Ok.drop [12, 13, 14, 15] (by simp only [kover] <;> rfl) ?_
  refine Ok.region ?_
  refine EV ?_
  refine OkOps.ev tab_ok rfl (by simp (disch := omega) only [kE, kT, kL, kC, wrap_add_one] <;> rfl) (by simp only [kP] <;> rfl) ?_
  refine EV ?_
  refine ON ?_
  refine Ok.drop [16, 17] (by simp only [kover] <;> rfl) ?_
  refine Ok.region ?_
  refine EV ?_
  refine OkOps.ev tab_ok rfl (by simp (disch := omega) only [kE, kT, kL, kC, wrap_add_one] <;> rfl) (by simp only [kP] <;> rfl) ?_
  refine EV ?_
  refine ON ?_
  refine ⟨(a ++ [[.int .i64 v0]], b, U), ?_, rfl, rfl, ⟨by rw [he]; simp, hU, by dsimp only; rw [hv, mkLL_snoc]; simp only [V.mkL, V.mk, V.mn, List.append_assoc, List.cons_append, List.nil_append] <;> rfl⟩, by simp only [List.length_cons]; omega⟩
  refine ⟨?_, ?_, ?_, ?_, ?_, ?_, ?_, ?_, ?_, ?_, ?_, ?_, ?_, ?_, ?_, ?_, ?_, ?_, ?_, trivial⟩ <;> first | exact le_any _ | with_reducible exact le_rfl' _ | (dsimp only; first | (refine le_eqm ?_; simp only [List.length_append, List.length_cons, List.length_nil]; done) | (rw [wrap_add_one (by omega)]; refine le_eqm ?_; simp only [List.length_append, List.length_cons, List.length_nil]; done) | (refine le_eqm ?_; rw [mkLL_snoc]; simp only [V.mkL, V.mk, V.mn, List.append_assoc, List.cons_append, List.nil_append] <;> rfl) | (refine le_eqm (congrArg (V.int .i64) (congrArg Nat.cast ?_)); rw [mnLL_snoc]; simp only [V.mnL, V.mn]; omega)) | exact le_rfl' _
 ·
  try simp only [bsimp] at hb2
  have hb : b = [] := by cases b with
    | nil => rfl
    | cons c b' => exfalso; rw [List.length_append, mkLL_len] at hb2; simp only [List.length_cons] at hb2; omega
  subst hb
  rw [List.append_nil] at he
  subst he
  refine Ok.exit ?_
  refine Ok.seq ?_
  refine Ok.drop [6, 7, 8, 9] (by simp only [kover] <;> rfl) ?_
  refine Ok.region ?_
  iterate 2 (refine EV ?_)
  refine ON ?_
  refine Ok.ret ?_
  with_reducible repeat (first | refine thenQ_ret ?_ | refine blockQ_ret ?_)
  refine RT ?_
  exact ⟨rfl, rfl, U, hU, by rw [hv, List.append_nil], rfl⟩
theorem c_laws_markStringS (es : List (List V)) (k L : Nat) (hs : ∀ r ∈ es, isText r) (hn : ((L + 1) :: V.labelsLL es).Nodup) (hk : k + V.mnLL es ≤ 4611686018427387904) {h : List V} {n : Nat}  : OkCall Tryz.prog 66 [.sl (L + 1) 1 0 es, .int .i64 (k : Int)] h n (MarkQ (· ∈ (L + 1) :: V.labelsLL es) (.sl (L + 1) 1 0 es) (.sl (L + 1) 1 0 (V.mkLL k es)) (.int .i64 ((k + V.mnLL es : Nat) : Int)) h n) := by
 refine OkCall.enter' tab_ok Tryz.func66 rfl (t := [.sl (L + 1) 1 0 es, .int .i64 (k : Int), .any, .any, .any, .any, .any, .any, .any, .any, .any, .any, .any, .any, .any, .any, .any, .any, .any, .any]) rfl ?_
 refine OQ ?_
 refine EV ?_
 refine ON ?_
 refine Ok.seq ?_
 refine OQ ?_
 refine EV ?_
 refine ON ?_
 refine Ok.block ?_
 refine Ok.loopH (τ := List (List V) × List (List V) × (V → V)) (fun x => [(0, .sl (L + 1) 1 0 (V.mkLL k x.1 ++ x.2.1)), (1, .int .i64 ((k + V.mnLL x.1 : Nat) : Int)), (5, .int .i64 (x.1.length : Int))]) [6, 7, 8, 9, 10, 11, 12, 13, 14, 15, 16, 17, 18] (fun x => by simp only [kover] <;> rfl) (fun x => h.map x.2.2) (fun x => es = x.1 ++ x.2.1 ∧ Hom x.2.2 (· ∈ (L + 1) :: V.labelsLL es) ∧ x.2.2 (.sl (L + 1) 1 0 es) = .sl (L + 1) 1 0 (V.mkLL k x.1 ++ x.2.1)) (fun x => x.2.1.length) ([], es, id) (by refine ⟨?_, ?_, ?_, ?_, ?_, ?_, ?_, ?_, ?_, ?_, ?_, ?_, ?_, ?_, ?_, ?_, ?_, ?_, ?_, ?_, trivial⟩ <;> first | exact le_any _ | with_reducible exact le_rfl' _ | (exact le_rfl' _) | exact le_rfl' _) ((List.map_id h).symm) (⟨rfl, Hom.id' _, rfl⟩) ?_
 rintro ⟨a, b, U⟩ ⟨he, hU, hv⟩
 have he : es = a ++ b := he
 have hU : Hom U (· ∈ (L + 1) :: V.labelsLL es) := hU
 have hv : U (.sl (L + 1) 1 0 es) = .sl (L + 1) 1 0 (V.mkLL k a ++ b) := hv
 refine Ok.seq ?_
 refine OQ ?_
 iterate 4 (refine EV ?_)
 refine ON ?_
 refine Ok.cond (b := _) (by simp only [kE, kT, kL, kC] <;> rfl) (fun hb2 => ?_) (fun hb2 => ?_)
 ·
  try simp only [bsimp] at hb2
  have hlen : (V.mkLL k a ++ b).length = a.length + b.length := by rw [List.length_append, mkLL_len]
  obtain ⟨c, b, rfl⟩ : ∃ c b', b = c :: b' := by
    cases b with
    | nil => exfalso; rw [hlen] at hb2; simp only [List.length_nil] at hb2; omega
    | cons c b' => exact ⟨c, b', rfl⟩
  obtain ⟨v0, rfl⟩ := hs c (by rw [he]; simp)
  have hkk : k + (V.mnLL a + (V.mnL [.str v0] + V.mnLL b)) ≤ 4611686018427387904 := by rw [he, mnLL_app] at hk; exact hk
  simp only [V.mnL, V.mn] at hkk
  obtain ⟨dA, dC, dB, dAC, dBC, hC⟩ := lab_split (by rw [← he]; exact hn)
  have dC0 := dC
  simp only [V.labelsLL, V.labelsL, V.labels, mkLL_labels, List.mem_append, List.mem_cons, List.not_mem_nil, List.append_nil, List.nil_append, List.cons_append, not_or, or_false, false_or] at dC
  have hz := len_mn es fun r hr => isText_mn (hs r hr)
  have hal : a.length ≤ 4611686018427387904 := by have e3 := congrArg List.length he; rw [List.length_append] at e3; omega
  refine Ok.skip ?_
  refine Ok.seq ?_
  refine Ok.block ?_
  refine Ok.seq ?_
  refine Ok.drop [6, 7, 8, 9] (by simp only [kover] <;> rfl) ?_
  refine Ok.region ?_
  iterate 3 (refine EV ?_)
  refine OkOps.S0 rfl (OpS.weak' rfl (by simp only [kE, kT, kL, kC] <;> rfl) (by simp only [kE, kT, kL, kC] <;> rfl) cl127 (w_laws_markText _ (by omega))) (by simp only [kP] <;> rfl) ?_
  refine OkOps.ev tab_ok rfl (ev_idx (j := a.length) (by simp only [kE, kT, kL, kC] <;> rfl) (by simp only [kE, kT, kL, kC] <;> rfl) (get_mid (mkLL_len _ _)) (by simp only [kE, kT, kL, kC] <;> rfl)) (by simp only [kP] <;> rfl) ?_
  refine OkOps.storeU tab_ok rfl rfl (by simp only [kE, kT, kL, kC] <;> rfl) ⟨_, _, by simp only [kE]; rfl⟩ (by simp only [V.labelsLL, V.labelsL, V.labels, mkLL_labels, List.mem_append, List.mem_cons, List.not_mem_nil, List.append_nil, List.nil_append, List.cons_append, not_or, or_false, false_or, not_false_eq_true, and_self, dA, dB]) hU hv (List.mem_cons_self ..) (fun W hW hF => by simp only [List.map_cons, List.map_nil, List.map_append, hW.int, hW.str, hW.bool, hW.any, hW.tup0, hF.sl, hF.ptr, Nat.zero_add, set_mid (mkLL_len _ _), labelsLL_app, V.labelsLL, V.labelsL, V.labels, mkLL_labels, List.mem_append, List.mem_cons, List.not_mem_nil, List.append_nil, List.nil_append, List.cons_append, not_or, or_false, false_or, not_false_eq_true, and_self, dA, dB] <;> rfl) (fun W hW hF => by simp only [List.map_cons, List.map_nil, List.map_append, hW.int, hW.str, hW.bool, hW.any, hW.tup0, hF.sl, hF.ptr, Nat.zero_add, set_mid (mkLL_len _ _), labelsLL_app, V.labelsLL, V.labelsL, V.labels, mkLL_labels, List.mem_append, List.mem_cons, List.not_mem_nil, List.append_nil, List.nil_append, List.cons_append, not_or, or_false, false_or, not_false_eq_true, and_self, dA, dB, kP] <;> rfl) ?_
  intro U hU hv
  refine ON ?_
  refine Ok.drop [12, 13, 14, 15, 16] (by simp only [kover] <;> rfl) ?_
  refine Ok.region ?_
  refine EV ?_
  refine OkOps.ev tab_ok rfl (by simp (disch := omega) only [kE, kT, kL, kC, wrap_add_one] <;> rfl) (by simp only [kP] <;> rfl) ?_
  refine EV ?_
  refine ON ?_
  refine Ok.drop [17, 18] (by simp only [kover] <;> rfl) ?_
  refine Ok.region ?_
  refine EV ?_
  refine OkOps.ev tab_ok rfl (by simp (disch := omega) only [kE, kT, kL, kC, wrap_add_one] <;> rfl) (by simp only [kP] <;> rfl) ?_
  refine EV ?_
  refine ON ?_
  refine ⟨(a ++ [[.str v0]], b, U), ?_, rfl, rfl, ⟨by rw [he]; simp, hU, by dsimp only; rw [hv, mkLL_snoc]; simp only [V.mkL, V.mk, V.mn, List.append_assoc, List.cons_append, List.nil_append] <;> rfl⟩, by simp only [List.length_cons]; omega⟩
  refine ⟨?_, ?_, ?_, ?_, ?_, ?_, ?_, ?_, ?_, ?_, ?_, ?_, ?_, ?_, ?_, ?_, ?_, ?_, ?_, ?_, trivial⟩ <;> first | exact le_any _ | with_reducible exact le_rfl' _ | (dsimp only; first | (refine le_eqm ?_; simp only [List.length_append, List.length_cons, List.length_nil]; done) | (rw [wrap_add_one (by omega)]; refine le_eqm ?_; simp only [List.length_append, List.length_cons, List.length_nil]; done) | (refine le_eqm ?_; rw [mkLL_snoc]; simp only [V.mkL, V.mk, V.mn, List.append_assoc, List.cons_append, List.nil_append] <;> rfl) | (refine le_eqm (congrArg (V.int .i64) (congrArg Nat.cast ?_)); rw [mnLL_snoc]; simp only [V.mnL, V.mn]; omega)) | exact le_rfl' _
 ·
  try simp only [bsimp] at hb2
  have hb : b = [] := by cases b with
    | nil => rfl
    | cons c b' => exfalso; rw [List.length_append, mkLL_len] at hb2; simp only [List.length_cons] at hb2; omega
  subst hb
  rw [List.append_nil] at he
  subst he
  refine Ok.exit ?_
  refine Ok.seq ?_
  refine Ok.drop [6, 7, 8, 9] (by simp only [kover] <;> rfl) ?_
  refine Ok.region ?_
  iterate 2 (refine EV ?_)
  refine ON ?_
  refine Ok.ret ?_
  with_reducible repeat (first | refine thenQ_ret ?_ | refine blockQ_ret ?_)
  refine RT ?_
  exact ⟨rfl, rfl, U, hU, by rw [hv, List.append_nil], rfl⟩
theorem c_laws_markRegS (es : List (List V)) (k L : Nat) (hs : ∀ r ∈ es, isReg r) (hn : ((L + 1) :: V.labelsLL es).Nodup) (hk : k + V.mnLL es ≤ 4611686018427387904) {h : List V} {n : Nat}  : OkCall Tryz.prog 177 [.sl (L + 1) 3 0 es, .int .i64 (k : Int)] h n (MarkQ (· ∈ (L + 1) :: V.labelsLL es) (.sl (L + 1) 3 0 es) (.sl (L + 1) 3 0 (V.mkLL k es)) (.int .i64 ((k + V.mnLL es : Nat) : Int)) h n) := by
 refine OkCall.enter' tab_ok Tryz.func177 rfl (t := [.sl (L + 1) 3 0 es, .int .i64 (k : Int), .any, .any, .any, .any, .any, .any, .any, .any, .any, .any, .any, .any, .any, .any, .any, .any, .any, .any, .any, .any, .any, .any, .any, .any, .any, .any, .any, .any, .any, .any, .any, .any, .any, .any]) rfl ?_
 refine OQ ?_
 refine EV ?_
 refine ON ?_
 refine Ok.seq ?_
 refine OQ ?_
 refine EV ?_
 refine ON ?_
 refine Ok.block ?_
 refine Ok.loopH (τ := List (List V) × List (List V) × (V → V)) (fun x => [(0, .sl (L + 1) 3 0 (V.mkLL k x.1 ++ x.2.1)), (1, .int .i64 ((k + V.mnLL x.1 : Nat) : Int)), (5, .int .i64 (x.1.length : Int))]) [6, 7, 8, 9, 10, 11, 12, 13, 14, 15, 16, 17, 18, 19, 20, 21, 22, 23, 24, 25, 26, 27, 28, 29, 30, 31, 32, 33, 34] (fun x => by simp only [kover] <;> rfl) (fun x => h.map x.2.2) (fun x => es = x.1 ++ x.2.1 ∧ Hom x.2.2 (· ∈ (L + 1) :: V.labelsLL es) ∧ x.2.2 (.sl (L + 1) 3 0 es) = .sl (L + 1) 3 0 (V.mkLL k x.1 ++ x.2.1)) (fun x => x.2.1.length) ([], es, id) (by refine ⟨?_, ?_, ?_, ?_, ?_, ?_, ?_, ?_, ?_, ?_, ?_, ?_, ?_, ?_, ?_, ?_, ?_, ?_, ?_, ?_, ?_, ?_, ?_, ?_, ?_, ?_, ?_, ?_, ?_, ?_, ?_, ?_, ?_, ?_, ?_, ?_, trivial⟩ <;> first | exact le_any _ | with_reducible exact le_rfl' _ | (exact le_rfl' _) | exact le_rfl' _) ((List.map_id h).symm) (⟨rfl, Hom.id' _, rfl⟩) ?_
 rintro ⟨a, b, U⟩ ⟨he, hU, hv⟩
 have he : es = a ++ b := he
 have hU : Hom U (· ∈ (L + 1) :: V.labelsLL es) := hU
 have hv : U (.sl (L + 1) 3 0 es) = .sl (L + 1) 3 0 (V.mkLL k a ++ b) := hv
 refine Ok.seq ?_
 refine OQ ?_
 iterate 4 (refine EV ?_)
 refine ON ?_
 refine Ok.cond (b := _) (by simp only [kE, kT, kL, kC] <;> rfl) (fun hb2 => ?_) (fun hb2 => ?_)
 ·
  try simp only [bsimp] at hb2
  have hlen : (V.mkLL k a ++ b).length = a.length + b.length := by rw [List.length_append, mkLL_len]
  obtain ⟨c, b, rfl⟩ : ∃ c b', b = c :: b' := by
    cases b with
    | nil => exfalso; rw [hlen] at hb2; simp only [List.length_nil] at hb2; omega
    | cons c b' => exact ⟨c, b', rfl⟩
  obtain ⟨v0, v1, v2, rfl⟩ := hs c (by rw [he]; simp)
  have hkk : k + (V.mnLL a + (V.mnL [.int .i64 v0, .int .i64 v1, .int .i64 v2] + V.mnLL b)) ≤ 4611686018427387904 := by rw [he, mnLL_app] at hk; exact hk
  simp only [V.mnL, V.mn] at hkk
  obtain ⟨dA, dC, dB, dAC, dBC, hC⟩ := lab_split (by rw [← he]; exact hn)
  have dC0 := dC
  simp only [V.labelsLL, V.labelsL, V.labels, mkLL_labels, List.mem_append, List.mem_cons, List.not_mem_nil, List.append_nil, List.nil_append, List.cons_append, not_or, or_false, false_or] at dC
  have hz := len_mn es fun r hr => isReg_mn (hs r hr)
  have hal : a.length ≤ 4611686018427387904 := by have e3 := congrArg List.length he; rw [List.length_append] at e3; omega
  refine Ok.skip ?_
  refine Ok.seq ?_
  refine Ok.block ?_
  refine Ok.seq ?_
  refine Ok.drop [6, 7, 8, 9] (by simp only [kover] <;> rfl) ?_
  refine Ok.region ?_
  iterate 3 (refine EV ?_)
  refine OkOps.ev tab_ok rfl (ev_idx (j := a.length) (by simp only [kE, kT, kL, kC] <;> rfl) (by simp only [kE, kT, kL, kC] <;> rfl) (get_mid (mkLL_len _ _)) (by simp only [kE, kT, kL, kC] <;> rfl)) (by simp only [kP] <;> rfl) ?_
  refine EV ?_
  refine OkOps.storeU tab_ok rfl rfl (by simp only [kE, kT, kL, kC] <;> rfl) ⟨_, _, by simp only [kE]; rfl⟩ (by simp only [V.labelsLL, V.labelsL, V.labels, mkLL_labels, List.mem_append, List.mem_cons, List.not_mem_nil, List.append_nil, List.nil_append, List.cons_append, not_or, or_false, false_or, not_false_eq_true, and_self, dA, dB]) hU hv (List.mem_cons_self ..) (fun W hW hF => by simp only [List.map_cons, List.map_nil, List.map_append, hW.int, hW.str, hW.bool, hW.any, hW.tup0, hF.sl, hF.ptr, Nat.zero_add, set_mid (mkLL_len _ _), labelsLL_app, V.labelsLL, V.labelsL, V.labels, mkLL_labels, List.mem_append, List.mem_cons, List.not_mem_nil, List.append_nil, List.nil_append, List.cons_append, not_or, or_false, false_or, not_false_eq_true, and_self, dA, dB] <;> rfl) (fun W hW hF => by simp only [List.map_cons, List.map_nil, List.map_append, hW.int, hW.str, hW.bool, hW.any, hW.tup0, hF.sl, hF.ptr, Nat.zero_add, set_mid (mkLL_len _ _), labelsLL_app, V.labelsLL, V.labelsL, V.labels, mkLL_labels, List.mem_append, List.mem_cons, List.not_mem_nil, List.append_nil, List.nil_append, List.cons_append, not_or, or_false, false_or, not_false_eq_true, and_self, dA, dB, kP] <;> rfl) ?_
  intro U hU hv
  refine ON ?_
  refine Ok.seq ?_
  refine Ok.drop [12, 13, 14, 15, 16] (by simp only [kover] <;> rfl) ?_
  refine Ok.region ?_
  refine EV ?_
  refine OkOps.ev tab_ok rfl (by simp (disch := omega) only [kE, kT, kL, kC, wrap_add_one] <;> rfl) (by simp only [kP] <;> rfl) ?_
  refine EV ?_
  refine ON ?_
  refine Ok.seq ?_
  refine Ok.drop [17, 18] (by simp only [kover] <;> rfl) ?_
  refine Ok.region ?_
  iterate 3 (refine EV ?_)
  refine OkOps.ev tab_ok rfl (ev_idx (j := a.length) (by simp only [kE, kT, kL, kC] <;> rfl) (by simp only [kE, kT, kL, kC] <;> rfl) (get_mid (mkLL_len _ _)) (by simp only [kE, kT, kL, kC] <;> rfl)) (by simp only [kP] <;> rfl) ?_
  iterate 2 (refine EV ?_)
  refine OkOps.storeU tab_ok rfl rfl (by simp only [kE, kT, kL, kC] <;> rfl) ⟨_, _, by simp only [kE]; rfl⟩ (by simp only [V.labelsLL, V.labelsL, V.labels, mkLL_labels, List.mem_append, List.mem_cons, List.not_mem_nil, List.append_nil, List.nil_append, List.cons_append, not_or, or_false, false_or, not_false_eq_true, and_self, dA, dB]) hU hv (List.mem_cons_self ..) (fun W hW hF => by simp only [List.map_cons, List.map_nil, List.map_append, hW.int, hW.str, hW.bool, hW.any, hW.tup0, hF.sl, hF.ptr, Nat.zero_add, set_mid (mkLL_len _ _), labelsLL_app, V.labelsLL, V.labelsL, V.labels, mkLL_labels, List.mem_append, List.mem_cons, List.not_mem_nil, List.append_nil, List.nil_append, List.cons_append, not_or, or_false, false_or, not_false_eq_true, and_self, dA, dB] <;> rfl) (fun W hW hF => by simp only [List.map_cons, List.map_nil, List.map_append, hW.int, hW.str, hW.bool, hW.any, hW.tup0, hF.sl, hF.ptr, Nat.zero_add, set_mid (mkLL_len _ _), labelsLL_app, V.labelsLL, V.labelsL, V.labels, mkLL_labels, List.mem_append, List.mem_cons, List.not_mem_nil, List.append_nil, List.nil_append, List.cons_append, not_or, or_false, false_or, not_false_eq_true, and_self, dA, dB, kP] <;> rfl) ?_
  intro U hU hv
  refine ON ?_
  refine Ok.seq ?_
  refine Ok.drop [19, 20, 21, 22, 23, 24] (by simp only [kover] <;> rfl) ?_
  refine Ok.region ?_
  refine EV ?_
  refine OkOps.ev tab_ok rfl (by simp (disch := omega) only [kE, kT, kL, kC, wrap_add_one] <;> rfl) (by simp only [kP] <;> rfl) ?_
  refine EV ?_
  refine ON ?_
  refine Ok.seq ?_
  refine Ok.drop [25, 26] (by simp only [kover] <;> rfl) ?_
  refine Ok.region ?_
  iterate 3 (refine EV ?_)
  refine OkOps.ev tab_ok rfl (ev_idx (j := a.length) (by simp only [kE, kT, kL, kC] <;> rfl) (by simp only [kE, kT, kL, kC] <;> rfl) (get_mid (mkLL_len _ _)) (by simp only [kE, kT, kL, kC] <;> rfl)) (by simp only [kP] <;> rfl) ?_
  iterate 2 (refine EV ?_)
  refine OkOps.storeU tab_ok rfl rfl (by simp only [kE, kT, kL, kC] <;> rfl) ⟨_, _, by simp only [kE]; rfl⟩ (by simp only [V.labelsLL, V.labelsL, V.labels, mkLL_labels, List.mem_append, List.mem_cons, List.not_mem_nil, List.append_nil, List.nil_append, List.cons_append, not_or, or_false, false_or, not_false_eq_true, and_self, dA, dB]) hU hv (List.mem_cons_self ..) (fun W hW hF => by simp only [List.map_cons, List.map_nil, List.map_append, hW.int, hW.str, hW.bool, hW.any, hW.tup0, hF.sl, hF.ptr, Nat.zero_add, set_mid (mkLL_len _ _), labelsLL_app, V.labelsLL, V.labelsL, V.labels, mkLL_labels, List.mem_append, List.mem_cons, List.not_mem_nil, List.append_nil, List.nil_append, List.cons_append, not_or, or_false, false_or, not_false_eq_true, and_self, dA, dB] <;> rfl) (fun W hW hF => by simp only [List.map_cons, List.map_nil, List.map_append, hW.int, hW.str, hW.bool, hW.any, hW.tup0, hF.sl, hF.ptr, Nat.zero_add, set_mid (mkLL_len _ _), labelsLL_app, V.labelsLL, V.labelsL, V.labels, mkLL_labels, List.mem_append, List.mem_cons, List.not_mem_nil, List.append_nil, List.nil_append, List.cons_append, not_or, or_false, false_or, not_false_eq_true, and_self, dA, dB, kP] <;> rfl) ?_
  intro U hU hv
  refine ON ?_
  refine Ok.drop [27, 28, 29, 30, 31, 32] (by simp only [kover] <;> rfl) ?_
  refine Ok.region ?_
  refine EV ?_
  refine OkOps.ev tab_ok rfl (by simp (disch := omega) only [kE, kT, kL, kC, wrap_add_one] <;> rfl) (by simp only [kP] <;> rfl) ?_
  refine EV ?_
  refine ON ?_
  refine Ok.drop [33, 34] (by simp only [kover] <;> rfl) ?_
  refine Ok.region ?_
  refine EV ?_
  refine OkOps.ev tab_ok rfl (by simp (disch := omega) only [kE, kT, kL, kC, wrap_add_one] <;> rfl) (by simp only [kP] <;> rfl) ?_
  refine EV ?_
  refine ON ?_
  refine ⟨(a ++ [[.int .i64 v0, .int .i64 v1, .int .i64 v2]], b, U), ?_, rfl, rfl, ⟨by rw [he]; simp, hU, by dsimp only; rw [hv, mkLL_snoc]; simp only [V.mkL, V.mk, V.mn, List.append_assoc, List.cons_append, List.nil_append] <;> rfl⟩, by simp only [List.length_cons]; omega⟩
  refine ⟨?_, ?_, ?_, ?_, ?_, ?_, ?_, ?_, ?_, ?_, ?_, ?_, ?_, ?_, ?_, ?_, ?_, ?_, ?_, ?_, ?_, ?_, ?_, ?_, ?_, ?_, ?_, ?_, ?_, ?_, ?_, ?_, ?_, ?_, ?_, ?_, trivial⟩ <;> first | exact le_any _ | with_reducible exact le_rfl' _ | (dsimp only; first | (refine le_eqm ?_; simp only [List.length_append, List.length_cons, List.length_nil]; done) | (rw [wrap_add_one (by omega)]; refine le_eqm ?_; simp only [List.length_append, List.length_cons, List.length_nil]; done) | (refine le_eqm ?_; rw [mkLL_snoc]; simp only [V.mkL, V.mk, V.mn, List.append_assoc, List.cons_append, List.nil_append] <;> rfl) | (refine le_eqm (congrArg (V.int .i64) (congrArg Nat.cast ?_)); rw [mnLL_snoc]; simp only [V.mnL, V.mn]; omega)) | exact le_rfl' _
 ·
  try simp only [bsimp] at hb2
  have hb : b = [] := by cases b with
    | nil => rfl
    | cons c b' => exfalso; rw [List.length_append, mkLL_len] at hb2; simp only [List.length_cons] at hb2; omega
  subst hb
  rw [List.append_nil] at he
  subst he
  refine Ok.exit ?_
  refine Ok.seq ?_
  refine Ok.drop [6, 7, 8, 9] (by simp only [kover] <;> rfl) ?_
  refine Ok.region ?_
  iterate 2 (refine EV ?_)
  refine ON ?_
  refine Ok.ret ?_
  with_reducible repeat (first | refine thenQ_ret ?_ | refine blockQ_ret ?_)
  refine RT ?_
  exact ⟨rfl, rfl, U, hU, by rw [hv, List.append_nil], rfl⟩
theorem c_laws_markMailS (es : List (List V)) (k L : Nat) (hs : ∀ r ∈ es, isMail r) (hn : ((L + 1) :: V.labelsLL es).Nodup) (hk : k + V.mnLL es ≤ 4611686018427387904) {h : List V} {n : Nat}  : OkCall Tryz.prog 128 [.sl (L + 1) 4 0 es, .int .i64 (k : Int)] h n (MarkQ (· ∈ (L + 1) :: V.labelsLL es) (.sl (L + 1) 4 0 es) (.sl (L + 1) 4 0 (V.mkLL k es)) (.int .i64 ((k + V.mnLL es : Nat) : Int)) h n) := by
 refine OkCall.enter' tab_ok Tryz.func128 rfl (t := [.sl (L + 1) 4 0 es, .int .i64 (k : Int), .any, .any, .any, .any, .any, .any, .any, .any, .any, .any, .any, .any, .any, .any, .any, .any, .any, .any, .any, .any, .any, .any, .any, .any, .any, .any, .any, .any, .any, .any, .any, .any, .any, .any, .any, .any, .any, .any, .any, .any]) rfl ?_
 refine OQ ?_
 refine EV ?_
 refine ON ?_
 refine Ok.seq ?_
 refine OQ ?_
 refine EV ?_
 refine ON ?_
 refine Ok.block ?_
 refine Ok.loopH (τ := List (List V) × List (List V) × (V → V)) (fun x => [(0, .sl (L + 1) 4 0 (V.mkLL k x.1 ++ x.2.1)), (1, .int .i64 ((k + V.mnLL x.1 : Nat) : Int)), (5, .int .i64 (x.1.length : Int))]) [6, 7, 8, 9, 10, 11, 12, 13, 14, 15, 16, 17, 18, 19, 20, 21, 22, 23, 24, 25, 26, 27, 28, 29, 30, 31, 32, 33, 34, 35, 36, 37, 38, 39, 40] (fun x => by simp only [kover] <;> rfl) (fun x => h.map x.2.2) (fun x => es = x.1 ++ x.2.1 ∧ Hom x.2.2 (· ∈ (L + 1) :: V.labelsLL es) ∧ x.2.2 (.sl (L + 1) 4 0 es) = .sl (L + 1) 4 0 (V.mkLL k x.1 ++ x.2.1)) (fun x => x.2.1.length) ([], es, id) (by refine ⟨?_, ?_, ?_, ?_, ?_, ?_, ?_, ?_, ?_, ?_, ?_, ?_, ?_, ?_, ?_, ?_, ?_, ?_, ?_, ?_, ?_, ?_, ?_, ?_, ?_, ?_, ?_, ?_, ?_, ?_, ?_, ?_, ?_, ?_, ?_, ?_, ?_, ?_, ?_, ?_, ?_, ?_, trivial⟩ <;> first | exact le_any _ | with_reducible exact le_rfl' _ | (exact le_rfl' _) | exact le_rfl' _) ((List.map_id h).symm) (⟨rfl, Hom.id' _, rfl⟩) ?_
 rintro ⟨a, b, U⟩ ⟨he, hU, hv⟩
 have he : es = a ++ b := he
 have hU : Hom U (· ∈ (L + 1) :: V.labelsLL es) := hU
 have hv : U (.sl (L + 1) 4 0 es) = .sl (L + 1) 4 0 (V.mkLL k a ++ b) := hv
 refine Ok.seq ?_
 refine OQ ?_
 iterate 4 (refine EV ?_)
 refine ON ?_
 refine Ok.cond (b := _) (by simp only [kE, kT, kL, kC] <;> rfl) (fun hb2 => ?_) (fun hb2 => ?_)
 ·
  try simp only [bsimp] at hb2
  have hlen : (V.mkLL k a ++ b).length = a.length + b.length := by rw [List.length_append, mkLL_len]
  obtain ⟨c, b, rfl⟩ : ∃ c b', b = c :: b' := by
    cases b with
    | nil => exfalso; rw [hlen] at hb2; simp only [List.length_nil] at hb2; omega
    | cons c b' => exact ⟨c, b', rfl⟩
  obtain ⟨v0, v1, L2, e2, v3, rfl, q2⟩ := hs c (by rw [he]; simp)
  have hkk : k + (V.mnLL a + (V.mnL [.int .i64 v0, .int .i64 v1, .sl (L2 + 1) 3 0 e2, .str v3] + V.mnLL b)) ≤ 4611686018427387904 := by rw [he, mnLL_app] at hk; exact hk
  simp only [V.mnL, V.mn] at hkk
  obtain ⟨dA, dC, dB, dAC, dBC, hC⟩ := lab_split (by rw [← he]; exact hn)
  have dC0 := dC
  simp only [V.labelsLL, V.labelsL, V.labels, mkLL_labels, List.mem_append, List.mem_cons, List.not_mem_nil, List.append_nil, List.nil_append, List.cons_append, not_or, or_false, false_or] at dC
  have hz := len_mn es fun r hr => isMail_mn (hs r hr)
  have hal : a.length ≤ 4611686018427387904 := by have e3 := congrArg List.length he; rw [List.length_append] at e3; omega
  have m2 : ∀ y ∈ (L2 + 1) :: V.labelsLL e2, y ∈ V.labelsL [.int .i64 v0, .int .i64 v1, .sl (L2 + 1) 3 0 e2, .str v3] := fun y hy => by simp only [V.labelsL, V.labels, List.mem_append, List.append_nil, List.nil_append]; simp only [hy, true_or, or_true]
  have x2 : ¬ (L + 1 ∈ (L2 + 1) :: V.labelsLL e2) := fun h => dC0 (m2 _ h)
  have a2 : ∀ K, ∀ y ∈ V.labelsLL (V.mkLL K a), ¬ (y ∈ (L2 + 1) :: V.labelsLL e2) := fun K y hy h => dAC y (by rw [mkLL_labels] at hy; exact hy) (m2 _ h)
  have b2 : ∀ y ∈ V.labelsLL b, ¬ (y ∈ (L2 + 1) :: V.labelsLL e2) := fun y hy h => dBC y hy (m2 _ h)
  have u2 : ∀ y, y ∈ (L2 + 1) :: V.labelsLL e2 → y ∈ (L + 1) :: V.labelsLL es := fun y hy => by rw [he, labelsLL_app]; exact List.mem_cons_of_mem _ (List.mem_append_right _ (List.mem_append_left _ (m2 y hy)))
  have hC1 := hC
  simp only [V.labelsL, V.labels, List.append_nil, List.nil_append] at hC1
  have w2 := hC1
  refine Ok.skip ?_
  refine Ok.seq ?_
  refine Ok.block ?_
  refine Ok.seq ?_
  refine Ok.drop [6, 7, 8, 9] (by simp only [kover] <;> rfl) ?_
  refine Ok.region ?_
  iterate 3 (refine EV ?_)
  refine OkOps.ev tab_ok rfl (ev_idx (j := a.length) (by simp only [kE, kT, kL, kC] <;> rfl) (by simp only [kE, kT, kL, kC] <;> rfl) (get_mid (mkLL_len _ _)) (by simp only [kE, kT, kL, kC] <;> rfl)) (by simp only [kP] <;> rfl) ?_
  refine EV ?_
  refine OkOps.storeU tab_ok rfl rfl (by simp only [kE, kT, kL, kC] <;> rfl) ⟨_, _, by simp only [kE]; rfl⟩ (by simp only [V.labelsLL, V.labelsL, V.labels, mkLL_labels, List.mem_append, List.mem_cons, List.not_mem_nil, List.append_nil, List.nil_append, List.cons_append, not_or, or_false, false_or, not_false_eq_true, and_self, dA, dB, dC]) hU hv (List.mem_cons_self ..) (fun W hW hF => by simp only [List.map_cons, List.map_nil, List.map_append, hW.int, hW.str, hW.bool, hW.any, hW.tup0, hF.sl, hF.ptr, Nat.zero_add, set_mid (mkLL_len _ _), labelsLL_app, V.labelsLL, V.labelsL, V.labels, mkLL_labels, List.mem_append, List.mem_cons, List.not_mem_nil, List.append_nil, List.nil_append, List.cons_append, not_or, or_false, false_or, not_false_eq_true, and_self, dA, dB, dC] <;> rfl) (fun W hW hF => by simp only [List.map_cons, List.map_nil, List.map_append, hW.int, hW.str, hW.bool, hW.any, hW.tup0, hF.sl, hF.ptr, Nat.zero_add, set_mid (mkLL_len _ _), labelsLL_app, V.labelsLL, V.labelsL, V.labels, mkLL_labels, List.mem_append, List.mem_cons, List.not_mem_nil, List.append_nil, List.nil_append, List.cons_append, not_or, or_false, false_or, not_false_eq_true, and_self, dA, dB, dC, kP] <;> rfl) ?_
  intro U hU hv
  refine ON ?_
  refine Ok.seq ?_
  refine Ok.drop [12, 13, 14, 15, 16] (by simp only [kover] <;> rfl) ?_
  refine Ok.region ?_
  refine EV ?_
  refine OkOps.ev tab_ok rfl (by simp (disch := omega) only [kE, kT, kL, kC, wrap_add_one] <;> rfl) (by simp only [kP] <;> rfl) ?_
  refine EV ?_
  refine ON ?_
  refine Ok.seq ?_
  refine Ok.drop [17, 18] (by simp only [kover] <;> rfl) ?_
  refine Ok.region ?_
  iterate 3 (refine EV ?_)
  refine OkOps.ev tab_ok rfl (ev_idx (j := a.length) (by simp only [kE, kT, kL, kC] <;> rfl) (by simp only [kE, kT, kL, kC] <;> rfl) (get_mid (mkLL_len _ _)) (by simp only [kE, kT, kL, kC] <;> rfl)) (by simp only [kP] <;> rfl) ?_
  refine EV ?_
  refine OkOps.storeU tab_ok rfl rfl (by simp only [kE, kT, kL, kC] <;> rfl) ⟨_, _, by simp only [kE]; rfl⟩ (by simp only [V.labelsLL, V.labelsL, V.labels, mkLL_labels, List.mem_append, List.mem_cons, List.not_mem_nil, List.append_nil, List.nil_append, List.cons_append, not_or, or_false, false_or, not_false_eq_true, and_self, dA, dB, dC]) hU hv (List.mem_cons_self ..) (fun W hW hF => by simp only [List.map_cons, List.map_nil, List.map_append, hW.int, hW.str, hW.bool, hW.any, hW.tup0, hF.sl, hF.ptr, Nat.zero_add, set_mid (mkLL_len _ _), labelsLL_app, V.labelsLL, V.labelsL, V.labels, mkLL_labels, List.mem_append, List.mem_cons, List.not_mem_nil, List.append_nil, List.nil_append, List.cons_append, not_or, or_false, false_or, not_false_eq_true, and_self, dA, dB, dC] <;> rfl) (fun W hW hF => by simp only [List.map_cons, List.map_nil, List.map_append, hW.int, hW.str, hW.bool, hW.any, hW.tup0, hF.sl, hF.ptr, Nat.zero_add, set_mid (mkLL_len _ _), labelsLL_app, V.labelsLL, V.labelsL, V.labels, mkLL_labels, List.mem_append, List.mem_cons, List.not_mem_nil, List.append_nil, List.nil_append, List.cons_append, not_or, or_false, false_or, not_false_eq_true, and_self, dA, dB, dC, kP] <;> rfl) ?_
  intro U hU hv
  refine ON ?_
  refine Ok.seq ?_
  refine Ok.drop [19, 20, 21, 22, 23] (by simp only [kover] <;> rfl) ?_
  refine Ok.region ?_
  refine EV ?_
  refine OkOps.ev tab_ok rfl (by simp (disch := omega) only [kE, kT, kL, kC, wrap_add_one] <;> rfl) (by simp only [kP] <;> rfl) ?_
  refine EV ?_
  refine ON ?_
  refine Ok.seq ?_
  refine Ok.drop [24, 25] (by simp only [kover] <;> rfl) ?_
  refine Ok.region ?_
  iterate 2 (refine EV ?_)
  refine OkOps.ev tab_ok rfl (ev_idx (j := a.length) (by simp only [kE, kT, kL, kC] <;> rfl) (by simp only [kE, kT, kL, kC] <;> rfl) (get_mid (mkLL_len _ _)) (by simp only [kE, kT, kL, kC] <;> rfl)) (by simp only [kP] <;> rfl) ?_
  iterate 3 (refine EV ?_)
  refine OkOps.turnU 0 rfl rfl (by simp only [kE, kT, kL, kC] <;> rfl) (by simp only [kE, kT, kL, kC] <;> rfl) cl177 (fun h => c_laws_markRegS e2 _ L2 q2 w2 (by omega)) (by first | rfl | (simp only [Nat.add_zero, Nat.reduceAdd] <;> rfl)) hU hv (u2) (fun W hW ha => by simp only [List.map_cons, List.map_nil, List.map_append, hW.int, hW.str, hW.bool, hW.any, hW.tup0, hW.agg, ha, kP, hW.sl (L + 1) 4 0 _ x2, hW.ptr (L + 1) _ _ _ x2, hW.farLL _ (a2 _), hW.farLL _ b2] <;> rfl) (fun W hW ha => by simp only [List.map_cons, List.map_nil, List.map_append, hW.int, hW.str, hW.bool, hW.any, hW.tup0, hW.agg, ha, kP, hW.sl (L + 1) 4 0 _ x2, hW.ptr (L + 1) _ _ _ x2, hW.farLL _ (a2 _), hW.farLL _ b2] <;> rfl) ?_
  intro U hU hv
  refine EV ?_
  refine ON ?_
  refine Ok.seq ?_
  refine Ok.drop [26, 27, 28, 29, 30, 31, 32] (by simp only [kover] <;> rfl) ?_
  refine Ok.region ?_
  iterate 3 (refine EV ?_)
  refine OkOps.S0 rfl (OpS.weak' rfl (by simp only [kE, kT, kL, kC] <;> rfl) (by simp only [kE, kT, kL, kC] <;> rfl) cl127 (w_laws_markText _ (by omega))) (by simp only [kP] <;> rfl) ?_
  refine OkOps.ev tab_ok rfl (ev_idx (j := a.length) (by simp only [kE, kT, kL, kC] <;> rfl) (by simp only [kE, kT, kL, kC] <;> rfl) (get_mid (mkLL_len _ _)) (by simp only [kE, kT, kL, kC] <;> rfl)) (by simp only [kP] <;> rfl) ?_
  refine EV ?_
  refine OkOps.storeU tab_ok rfl rfl (by simp only [kE, kT, kL, kC] <;> rfl) ⟨_, _, by simp only [kE]; rfl⟩ (by simp only [V.labelsLL, V.labelsL, V.labels, mkLL_labels, List.mem_append, List.mem_cons, List.not_mem_nil, List.append_nil, List.nil_append, List.cons_append, not_or, or_false, false_or, not_false_eq_true, and_self, dA, dB, dC]) hU hv (List.mem_cons_self ..) (fun W hW hF => by simp only [List.map_cons, List.map_nil, List.map_append, hW.int, hW.str, hW.bool, hW.any, hW.tup0, hF.sl, hF.ptr, Nat.zero_add, set_mid (mkLL_len _ _), labelsLL_app, V.labelsLL, V.labelsL, V.labels, mkLL_labels, List.mem_append, List.mem_cons, List.not_mem_nil, List.append_nil, List.nil_append, List.cons_append, not_or, or_false, false_or, not_false_eq_true, and_self, dA, dB, dC] <;> rfl) (fun W hW hF => by simp only [List.map_cons, List.map_nil, List.map_append, hW.int, hW.str, hW.bool, hW.any, hW.tup0, hF.sl, hF.ptr, Nat.zero_add, set_mid (mkLL_len _ _), labelsLL_app, V.labelsLL, V.labelsL, V.labels, mkLL_labels, List.mem_append, List.mem_cons, List.not_mem_nil, List.append_nil, List.nil_append, List.cons_append, not_or, or_false, false_or, not_false_eq_true, and_self, dA, dB, dC, kP] <;> rfl) ?_
  intro U hU hv
  refine ON ?_
  refine Ok.drop [33, 34, 35, 36, 37, 38] (by simp only [kover] <;> rfl) ?_
  refine Ok.region ?_
  refine EV ?_
  refine OkOps.ev tab_ok rfl (by simp (disch := omega) only [kE, kT, kL, kC, wrap_add_one] <;> rfl) (by simp only [kP] <;> rfl) ?_
  refine EV ?_
  refine ON ?_
  refine Ok.drop [39, 40] (by simp only [kover] <;> rfl) ?_
  refine Ok.region ?_
  refine EV ?_
  refine OkOps.ev tab_ok rfl (by simp (disch := omega) only [kE, kT, kL, kC, wrap_add_one] <;> rfl) (by simp only [kP] <;> rfl) ?_
  refine EV ?_
  refine ON ?_
  refine ⟨(a ++ [[.int .i64 v0, .int .i64 v1, .sl (L2 + 1) 3 0 e2, .str v3]], b, U), ?_, rfl, rfl, ⟨by rw [he]; simp, hU, by dsimp only; rw [hv, mkLL_snoc]; simp only [V.mkL, V.mk, V.mn, List.append_assoc, List.cons_append, List.nil_append] <;> rfl⟩, by simp only [List.length_cons]; omega⟩
  refine ⟨?_, ?_, ?_, ?_, ?_, ?_, ?_, ?_, ?_, ?_, ?_, ?_, ?_, ?_, ?_, ?_, ?_, ?_, ?_, ?_, ?_, ?_, ?_, ?_, ?_, ?_, ?_, ?_, ?_, ?_, ?_, ?_, ?_, ?_, ?_, ?_, ?_, ?_, ?_, ?_, ?_, ?_, trivial⟩ <;> first | exact le_any _ | with_reducible exact le_rfl' _ | (dsimp only; first | (refine le_eqm ?_; simp only [List.length_append, List.length_cons, List.length_nil]; done) | (rw [wrap_add_one (by omega)]; refine le_eqm ?_; simp only [List.length_append, List.length_cons, List.length_nil]; done) | (refine le_eqm ?_; rw [mkLL_snoc]; simp only [V.mkL, V.mk, V.mn, List.append_assoc, List.cons_append, List.nil_append] <;> rfl) | (refine le_eqm (congrArg (V.int .i64) (congrArg Nat.cast ?_)); rw [mnLL_snoc]; simp only [V.mnL, V.mn]; omega)) | exact le_rfl' _
 ·
  try simp only [bsimp] at hb2
  have hb : b = [] := by cases b with
    | nil => rfl
    | cons c b' => exfalso; rw [List.length_append, mkLL_len] at hb2; simp only [List.length_cons] at hb2; omega
  subst hb
  rw [List.append_nil] at he
  subst he
  refine Ok.exit ?_
  refine Ok.seq ?_
  refine Ok.drop [6, 7, 8, 9] (by simp only [kover] <;> rfl) ?_
  refine Ok.region ?_
  iterate 2 (refine EV ?_)
  refine ON ?_
  refine Ok.ret ?_
  with_reducible repeat (first | refine thenQ_ret ?_ | refine blockQ_ret ?_)
  refine RT ?_
  exact ⟨rfl, rfl, U, hU, by rw [hv, List.append_nil], rfl⟩
theorem c_laws_markBoxS (es : List (List V)) (k L : Nat) (hs : ∀ r ∈ es, isBox r) (hn : ((L + 1) :: V.labelsLL es).Nodup) (hk : k + V.mnLL es ≤ 4611686018427387904) {h : List V} {n : Nat}  : OkCall Tryz.prog 63 [.sl (L + 1) 7 0 es, .int .i64 (k : Int)] h n (MarkQ (· ∈ (L + 1) :: V.labelsLL es) (.sl (L + 1) 7 0 es) (.sl (L + 1) 7 0 (V.mkLL k es)) (.int .i64 ((k + V.mnLL es : Nat) : Int)) h n) := by
 refine OkCall.enter' tab_ok Tryz.func63 rfl (t := [.sl (L + 1) 7 0 es, .int .i64 (k : Int), .any, .any, .any, .any, .any, .any, .any, .any, .any, .any, .any, .any, .any, .any, .any, .any, .any, .any, .any, .any, .any, .any, .any, .any, .any, .any, .any, .any, .any, .any, .any, .any, .any, .any, .any, .any, .any, .any, .any, .any, .any, .any, .any, .any, .any, .any, .any, .any, .any, .any, .any, .any, .any, .any, .any, .any, .any, .any, .any, .any, .any, .any, .any]) rfl ?_
 refine OQ ?_
 refine EV ?_
 refine ON ?_
 refine Ok.seq ?_
 refine OQ ?_
 refine EV ?_
 refine ON ?_
 refine Ok.block ?_
 refine Ok.loopH (τ := List (List V) × List (List V) × (V → V)) (fun x => [(0, .sl (L + 1) 7 0 (V.mkLL k x.1 ++ x.2.1)), (1, .int .i64 ((k + V.mnLL x.1 : Nat) : Int)), (5, .int .i64 (x.1.length : Int))]) [6, 7, 8, 9, 10, 11, 12, 13, 14, 15, 16, 17, 18, 19, 20, 21, 22, 23, 24, 25, 26, 27, 28, 29, 30, 31, 32, 33, 34, 35, 36, 37, 38, 39, 40, 41, 42, 43, 44, 45, 46, 47, 48, 49, 50, 51, 52, 53, 54, 55, 56, 57, 58, 59, 60, 61, 62, 63] (fun x => by simp only [kover] <;> rfl) (fun x => h.map x.2.2) (fun x => es = x.1 ++ x.2.1 ∧ Hom x.2.2 (· ∈ (L + 1) :: V.labelsLL es) ∧ x.2.2 (.sl (L + 1) 7 0 es) = .sl (L + 1) 7 0 (V.mkLL k x.1 ++ x.2.1)) (fun x => x.2.1.length) ([], es, id) (by refine ⟨?_, ?_, ?_, ?_, ?_, ?_, ?_, ?_, ?_, ?_, ?_, ?_, ?_, ?_, ?_, ?_, ?_, ?_, ?_, ?_, ?_, ?_, ?_, ?_, ?_, ?_, ?_, ?_, ?_, ?_, ?_, ?_, ?_, ?_, ?_, ?_, ?_, ?_, ?_, ?_, ?_, ?_, ?_, ?_, ?_, ?_, ?_, ?_, ?_, ?_, ?_, ?_, ?_, ?_, ?_, ?_, ?_, ?_, ?_, ?_, ?_, ?_, ?_, ?_, ?_, trivial⟩ <;> first | exact le_any _ | with_reducible exact le_rfl' _ | (exact le_rfl' _) | exact le_rfl' _) ((List.map_id h).symm) (⟨rfl, Hom.id' _, rfl⟩) ?_
 rintro ⟨a, b, U⟩ ⟨he, hU, hv⟩
 have he : es = a ++ b := he
 have hU : Hom U (· ∈ (L + 1) :: V.labelsLL es) := hU
 have hv : U (.sl (L + 1) 7 0 es) = .sl (L + 1) 7 0 (V.mkLL k a ++ b) := hv
 refine Ok.seq ?_
 refine OQ ?_
 iterate 4 (refine EV ?_)
 refine ON ?_
 refine Ok.cond (b := _) (by simp only [kE, kT, kL, kC] <;> rfl) (fun hb2 => ?_) (fun hb2 => ?_)
 ·
  try simp only [bsimp] at hb2
  have hlen : (V.mkLL k a ++ b).length = a.length + b.length := by rw [List.length_append, mkLL_len]
  obtain ⟨c, b, rfl⟩ : ∃ c b', b = c :: b' := by
    cases b with
    | nil => exfalso; rw [hlen] at hb2; simp only [List.length_nil] at hb2; omega
    | cons c b' => exact ⟨c, b', rfl⟩
  obtain ⟨v0, v1, v2, v3, v4, L5, e5, L6, e6, rfl, q5, q6⟩ := hs c (by rw [he]; simp)
  have hkk : k + (V.mnLL a + (V.mnL [.int .i64 v0, .str v1, .int .i64 v2, .int .i64 v3, .int .i64 v4, .sl (L5 + 1) 4 0 e5, .sl (L6 + 1) 1 0 e6] + V.mnLL b)) ≤ 4611686018427387904 := by rw [he, mnLL_app] at hk; exact hk
  simp only [V.mnL, V.mn] at hkk
  obtain ⟨dA, dC, dB, dAC, dBC, hC⟩ := lab_split (by rw [← he]; exact hn)
  have dC0 := dC
  simp only [V.labelsLL, V.labelsL, V.labels, mkLL_labels, List.mem_append, List.mem_cons, List.not_mem_nil, List.append_nil, List.nil_append, List.cons_append, not_or, or_false, false_or] at dC
  have hz := len_mn es fun r hr => isBox_mn (hs r hr)
  have hal : a.length ≤ 4611686018427387904 := by have e3 := congrArg List.length he; rw [List.length_append] at e3; omega
  have m5 : ∀ y ∈ (L5 + 1) :: V.labelsLL e5, y ∈ V.labelsL [.int .i64 v0, .str v1, .int .i64 v2, .int .i64 v3, .int .i64 v4, .sl (L5 + 1) 4 0 e5, .sl (L6 + 1) 1 0 e6] := fun y hy => by simp only [V.labelsL, V.labels, List.mem_append, List.append_nil, List.nil_append]; simp only [hy, true_or, or_true]
  have x5 : ¬ (L + 1 ∈ (L5 + 1) :: V.labelsLL e5) := fun h => dC0 (m5 _ h)
  have a5 : ∀ K, ∀ y ∈ V.labelsLL (V.mkLL K a), ¬ (y ∈ (L5 + 1) :: V.labelsLL e5) := fun K y hy h => dAC y (by rw [mkLL_labels] at hy; exact hy) (m5 _ h)
  have b5 : ∀ y ∈ V.labelsLL b, ¬ (y ∈ (L5 + 1) :: V.labelsLL e5) := fun y hy h => dBC y hy (m5 _ h)
  have u5 : ∀ y, y ∈ (L5 + 1) :: V.labelsLL e5 → y ∈ (L + 1) :: V.labelsLL es := fun y hy => by rw [he, labelsLL_app]; exact List.mem_cons_of_mem _ (List.mem_append_right _ (List.mem_append_left _ (m5 y hy)))
  have m6 : ∀ y ∈ (L6 + 1) :: V.labelsLL e6, y ∈ V.labelsL [.int .i64 v0, .str v1, .int .i64 v2, .int .i64 v3, .int .i64 v4, .sl (L5 + 1) 4 0 e5, .sl (L6 + 1) 1 0 e6] := fun y hy => by simp only [V.labelsL, V.labels, List.mem_append, List.append_nil, List.nil_append]; simp only [hy, true_or, or_true]
  have x6 : ¬ (L + 1 ∈ (L6 + 1) :: V.labelsLL e6) := fun h => dC0 (m6 _ h)
  have a6 : ∀ K, ∀ y ∈ V.labelsLL (V.mkLL K a), ¬ (y ∈ (L6 + 1) :: V.labelsLL e6) := fun K y hy h => dAC y (by rw [mkLL_labels] at hy; exact hy) (m6 _ h)
  have b6 : ∀ y ∈ V.labelsLL b, ¬ (y ∈ (L6 + 1) :: V.labelsLL e6) := fun y hy h => dBC y hy (m6 _ h)
  have u6 : ∀ y, y ∈ (L6 + 1) :: V.labelsLL e6 → y ∈ (L + 1) :: V.labelsLL es := fun y hy => by rw [he, labelsLL_app]; exact List.mem_cons_of_mem _ (List.mem_append_right _ (List.mem_append_left _ (m6 y hy)))
  have hC1 := hC
  simp only [V.labelsL, V.labels, List.append_nil, List.nil_append] at hC1
  obtain ⟨w5, hC1, f5, g5⟩ := nd_app hC1
  have w6 := hC1
  have y6_5 : ∀ y ∈ (L5 + 1) :: V.labelsLL e5, ¬ (y ∈ (L6 + 1) :: V.labelsLL e6) := fun y hy h => f5 y hy (by first | exact h | (simp only [List.mem_append]; simp only [h, true_or, or_true]))
  have y5_6 : ∀ y ∈ (L6 + 1) :: V.labelsLL e6, ¬ (y ∈ (L5 + 1) :: V.labelsLL e5) := fun y hy h => y6_5 y h hy
  refine Ok.skip ?_
  refine Ok.seq ?_
  refine Ok.block ?_
  refine Ok.seq ?_
  refine Ok.drop [6, 7, 8, 9] (by simp only [kover] <;> rfl) ?_
  refine Ok.region ?_
  iterate 3 (refine EV ?_)
  refine OkOps.ev tab_ok rfl (ev_idx (j := a.length) (by simp only [kE, kT, kL, kC] <;> rfl) (by simp only [kE, kT, kL, kC] <;> rfl) (get_mid (mkLL_len _ _)) (by simp only [kE, kT, kL, kC] <;> rfl)) (by simp only [kP] <;> rfl) ?_
  refine EV ?_
  refine OkOps.storeU tab_ok rfl rfl (by simp only [kE, kT, kL, kC] <;> rfl) ⟨_, _, by simp only [kE]; rfl⟩ (by simp only [V.labelsLL, V.labelsL, V.labels, mkLL_labels, List.mem_append, List.mem_cons, List.not_mem_nil, List.append_nil, List.nil_append, List.cons_append, not_or, or_false, false_or, not_false_eq_true, and_self, dA, dB, dC]) hU hv (List.mem_cons_self ..) (fun W hW hF => by simp only [List.map_cons, List.map_nil, List.map_append, hW.int, hW.str, hW.bool, hW.any, hW.tup0, hF.sl, hF.ptr, Nat.zero_add, set_mid (mkLL_len _ _), labelsLL_app, V.labelsLL, V.labelsL, V.labels, mkLL_labels, List.mem_append, List.mem_cons, List.not_mem_nil, List.append_nil, List.nil_append, List.cons_append, not_or, or_false, false_or, not_false_eq_true, and_self, dA, dB, dC] <;> rfl) (fun W hW hF => by simp only [List.map_cons, List.map_nil, List.map_append, hW.int, hW.str, hW.bool, hW.any, hW.tup0, hF.sl, hF.ptr, Nat.zero_add, set_mid (mkLL_len _ _), labelsLL_app, V.labelsLL, V.labelsL, V.labels, mkLL_labels, List.mem_append, List.mem_cons, List.not_mem_nil, List.append_nil, List.nil_append, List.cons_append, not_or, or_false, false_or, not_false_eq_true, and_self, dA, dB, dC, kP] <;> rfl) ?_
  intro U hU hv
  refine ON ?_
  refine Ok.seq ?_
  refine Ok.drop [12, 13, 14, 15, 16] (by simp only [kover] <;> rfl) ?_
  refine Ok.region ?_
  refine EV ?_
  refine OkOps.ev tab_ok rfl (by simp (disch := omega) only [kE, kT, kL, kC, wrap_add_one] <;> rfl) (by simp only [kP] <;> rfl) ?_
  refine EV ?_
  refine ON ?_
  refine Ok.seq ?_
  refine Ok.drop [17, 18] (by simp only [kover] <;> rfl) ?_
  refine Ok.region ?_
  iterate 3 (refine EV ?_)
  refine OkOps.S0 rfl (OpS.weak' rfl (by simp only [kE, kT, kL, kC] <;> rfl) (by simp only [kE, kT, kL, kC] <;> rfl) cl127 (w_laws_markText _ (by omega))) (by simp only [kP] <;> rfl) ?_
  refine OkOps.ev tab_ok rfl (ev_idx (j := a.length) (by simp only [kE, kT, kL, kC] <;> rfl) (by simp only [kE, kT, kL, kC] <;> rfl) (get_mid (mkLL_len _ _)) (by simp only [kE, kT, kL, kC] <;> rfl)) (by simp only [kP] <;> rfl) ?_
  refine EV ?_
  refine OkOps.storeU tab_ok rfl rfl (by simp only [kE, kT, kL, kC] <;> rfl) ⟨_, _, by simp only [kE]; rfl⟩ (by simp only [V.labelsLL, V.labelsL, V.labels, mkLL_labels, List.mem_append, List.mem_cons, List.not_mem_nil, List.append_nil, List.nil_append, List.cons_append, not_or, or_false, false_or, not_false_eq_true, and_self, dA, dB, dC]) hU hv (List.mem_cons_self ..) (fun W hW hF => by simp only [List.map_cons, List.map_nil, List.map_append, hW.int, hW.str, hW.bool, hW.any, hW.tup0, hF.sl, hF.ptr, Nat.zero_add, set_mid (mkLL_len _ _), labelsLL_app, V.labelsLL, V.labelsL, V.labels, mkLL_labels, List.mem_append, List.mem_cons, List.not_mem_nil, List.append_nil, List.nil_append, List.cons_append, not_or, or_false, false_or, not_false_eq_true, and_self, dA, dB, dC] <;> rfl) (fun W hW hF => by simp only [List.map_cons, List.map_nil, List.map_append, hW.int, hW.str, hW.bool, hW.any, hW.tup0, hF.sl, hF.ptr, Nat.zero_add, set_mid (mkLL_len _ _), labelsLL_app, V.labelsLL, V.labelsL, V.labels, mkLL_labels, List.mem_append, List.mem_cons, List.not_mem_nil, List.append_nil, List.nil_append, List.cons_append, not_or, or_false, false_or, not_false_eq_true, and_self, dA, dB, dC, kP] <;> rfl) ?_
  intro U hU hv
  refine ON ?_
  refine Ok.seq ?_
  refine Ok.drop [19, 20, 21, 22, 23, 24] (by simp only [kover] <;> rfl) ?_
  refine Ok.region ?_
  refine EV ?_
  refine OkOps.ev tab_ok rfl (by simp (disch := omega) only [kE, kT, kL, kC, wrap_add_one] <;> rfl) (by simp only [kP] <;> rfl) ?_
  refine EV ?_
  refine ON ?_
  refine Ok.seq ?_
  refine Ok.drop [25, 26] (by simp only [kover] <;> rfl) ?_
  refine Ok.region ?_
  iterate 3 (refine EV ?_)
  refine OkOps.ev tab_ok rfl (ev_idx (j := a.length) (by simp only [kE, kT, kL, kC] <;> rfl) (by simp only [kE, kT, kL, kC] <;> rfl) (get_mid (mkLL_len _ _)) (by simp only [kE, kT, kL, kC] <;> rfl)) (by simp only [kP] <;> rfl) ?_
  iterate 2 (refine EV ?_)
  refine OkOps.storeU tab_ok rfl rfl (by simp only [kE, kT, kL, kC] <;> rfl) ⟨_, _, by simp only [kE]; rfl⟩ (by simp only [V.labelsLL, V.labelsL, V.labels, mkLL_labels, List.mem_append, List.mem_cons, List.not_mem_nil, List.append_nil, List.nil_append, List.cons_append, not_or, or_false, false_or, not_false_eq_true, and_self, dA, dB, dC]) hU hv (List.mem_cons_self ..) (fun W hW hF => by simp only [List.map_cons, List.map_nil, List.map_append, hW.int, hW.str, hW.bool, hW.any, hW.tup0, hF.sl, hF.ptr, Nat.zero_add, set_mid (mkLL_len _ _), labelsLL_app, V.labelsLL, V.labelsL, V.labels, mkLL_labels, List.mem_append, List.mem_cons, List.not_mem_nil, List.append_nil, List.nil_append, List.cons_append, not_or, or_false, false_or, not_false_eq_true, and_self, dA, dB, dC] <;> rfl) (fun W hW hF => by simp only [List.map_cons, List.map_nil, List.map_append, hW.int, hW.str, hW.bool, hW.any, hW.tup0, hF.sl, hF.ptr, Nat.zero_add, set_mid (mkLL_len _ _), labelsLL_app, V.labelsLL, V.labelsL, V.labels, mkLL_labels, List.mem_append, List.mem_cons, List.not_mem_nil, List.append_nil, List.nil_append, List.cons_append, not_or, or_false, false_or, not_false_eq_true, and_self, dA, dB, dC, kP] <;> rfl) ?_
  intro U hU hv
  refine ON ?_
  refine Ok.seq ?_
  refine Ok.drop [27, 28, 29, 30, 31, 32] (by simp only [kover] <;> rfl) ?_
  refine Ok.region ?_
  refine EV ?_
  refine OkOps.ev tab_ok rfl (by simp (disch := omega) only [kE, kT, kL, kC, wrap_add_one] <;> rfl) (by simp only [kP] <;> rfl) ?_
  refine EV ?_
  refine ON ?_
  refine Ok.seq ?_
  refine Ok.drop [33, 34] (by simp only [kover] <;> rfl) ?_
  refine Ok.region ?_
  iterate 3 (refine EV ?_)
  refine OkOps.ev tab_ok rfl (ev_idx (j := a.length) (by simp only [kE, kT, kL, kC] <;> rfl) (by simp only [kE, kT, kL, kC] <;> rfl) (get_mid (mkLL_len _ _)) (by simp only [kE, kT, kL, kC] <;> rfl)) (by simp only [kP] <;> rfl) ?_
  iterate 2 (refine EV ?_)
  refine OkOps.storeU tab_ok rfl rfl (by simp only [kE, kT, kL, kC] <;> rfl) ⟨_, _, by simp only [kE]; rfl⟩ (by simp only [V.labelsLL, V.labelsL, V.labels, mkLL_labels, List.mem_append, List.mem_cons, List.not_mem_nil, List.append_nil, List.nil_append, List.cons_append, not_or, or_false, false_or, not_false_eq_true, and_self, dA, dB, dC]) hU hv (List.mem_cons_self ..) (fun W hW hF => by simp only [List.map_cons, List.map_nil, List.map_append, hW.int, hW.str, hW.bool, hW.any, hW.tup0, hF.sl, hF.ptr, Nat.zero_add, set_mid (mkLL_len _ _), labelsLL_app, V.labelsLL, V.labelsL, V.labels, mkLL_labels, List.mem_append, List.mem_cons, List.not_mem_nil, List.append_nil, List.nil_append, List.cons_append, not_or, or_false, false_or, not_false_eq_true, and_self, dA, dB, dC] <;> rfl) (fun W hW hF => by simp only [List.map_cons, List.map_nil, List.map_append, hW.int, hW.str, hW.bool, hW.any, hW.tup0, hF.sl, hF.ptr, Nat.zero_add, set_mid (mkLL_len _ _), labelsLL_app, V.labelsLL, V.labelsL, V.labels, mkLL_labels, List.mem_append, List.mem_cons, List.not_mem_nil, List.append_nil, List.nil_append, List.cons_append, not_or, or_false, false_or, not_false_eq_true, and_self, dA, dB, dC, kP] <;> rfl) ?_
  intro U hU hv
  refine ON ?_
  refine Ok.seq ?_
  refine Ok.drop [35, 36, 37, 38, 39, 40] (by simp only [kover] <;> rfl) ?_
  refine Ok.region ?_
  refine EV ?_
  refine OkOps.ev tab_ok rfl (by simp (disch := omega) only [kE, kT, kL, kC, wrap_add_one] <;> rfl) (by simp only [kP] <;> rfl) ?_
  refine EV ?_
  refine ON ?_
  refine Ok.seq ?_
  refine Ok.drop [41, 42] (by simp only [kover] <;> rfl) ?_
  refine Ok.region ?_
  iterate 3 (refine EV ?_)
  refine OkOps.ev tab_ok rfl (ev_idx (j := a.length) (by simp only [kE, kT, kL, kC] <;> rfl) (by simp only [kE, kT, kL, kC] <;> rfl) (get_mid (mkLL_len _ _)) (by simp only [kE, kT, kL, kC] <;> rfl)) (by simp only [kP] <;> rfl) ?_
  refine EV ?_
  refine OkOps.storeU tab_ok rfl rfl (by simp only [kE, kT, kL, kC] <;> rfl) ⟨_, _, by simp only [kE]; rfl⟩ (by simp only [V.labelsLL, V.labelsL, V.labels, mkLL_labels, List.mem_append, List.mem_cons, List.not_mem_nil, List.append_nil, List.nil_append, List.cons_append, not_or, or_false, false_or, not_false_eq_true, and_self, dA, dB, dC]) hU hv (List.mem_cons_self ..) (fun W hW hF => by simp only [List.map_cons, List.map_nil, List.map_append, hW.int, hW.str, hW.bool, hW.any, hW.tup0, hF.sl, hF.ptr, Nat.zero_add, set_mid (mkLL_len _ _), labelsLL_app, V.labelsLL, V.labelsL, V.labels, mkLL_labels, List.mem_append, List.mem_cons, List.not_mem_nil, List.append_nil, List.nil_append, List.cons_append, not_or, or_false, false_or, not_false_eq_true, and_self, dA, dB, dC] <;> rfl) (fun W hW hF => by simp only [List.map_cons, List.map_nil, List.map_append, hW.int, hW.str, hW.bool, hW.any, hW.tup0, hF.sl, hF.ptr, Nat.zero_add, set_mid (mkLL_len _ _), labelsLL_app, V.labelsLL, V.labelsL, V.labels, mkLL_labels, List.mem_append, List.mem_cons, List.not_mem_nil, List.append_nil, List.nil_append, List.cons_append, not_or, or_false, false_or, not_false_eq_true, and_self, dA, dB, dC, kP] <;> rfl) ?_
  intro U hU hv
  refine ON ?_
  refine Ok.seq ?_
  refine Ok.drop [43, 44, 45, 46, 47] (by simp only [kover] <;> rfl) ?_
  refine Ok.region ?_
  refine EV ?_
  refine OkOps.ev tab_ok rfl (by simp (disch := omega) only [kE, kT, kL, kC, wrap_add_one] <;> rfl) (by simp only [kP] <;> rfl) ?_
  refine EV ?_
  refine ON ?_
  refine Ok.seq ?_
  refine Ok.drop [48, 49] (by simp only [kover] <;> rfl) ?_
  refine Ok.region ?_
  iterate 2 (refine EV ?_)
  refine OkOps.ev tab_ok rfl (ev_idx (j := a.length) (by simp only [kE, kT, kL, kC] <;> rfl) (by simp only [kE, kT, kL, kC] <;> rfl) (get_mid (mkLL_len _ _)) (by simp only [kE, kT, kL, kC] <;> rfl)) (by simp only [kP] <;> rfl) ?_
  iterate 3 (refine EV ?_)
  refine OkOps.turnU 0 rfl rfl (by simp only [kE, kT, kL, kC] <;> rfl) (by simp only [kE, kT, kL, kC] <;> rfl) cl128 (fun h => c_laws_markMailS e5 _ L5 q5 w5 (by omega)) (by first | rfl | (simp only [Nat.add_zero, Nat.reduceAdd] <;> rfl)) hU hv (u5) (fun W hW ha => by have z6 := hW.far (.sl (L6 + 1) 1 0 e6) (fun y hy => y5_6 y hy); have zz6 := fun K => hW.far (.sl (L6 + 1) 1 0 (V.mkLL K e6)) (fun y hy => y5_6 y (by simp only [V.labels, mkLL_labels] at hy; exact hy)); simp only [List.map_cons, List.map_nil, List.map_append, hW.int, hW.str, hW.bool, hW.any, hW.tup0, hW.agg, ha, kP, hW.sl (L + 1) 7 0 _ x5, hW.ptr (L + 1) _ _ _ x5, hW.farLL _ (a5 _), hW.farLL _ b5, z6, zz6] <;> rfl) (fun W hW ha => by have z6 := hW.far (.sl (L6 + 1) 1 0 e6) (fun y hy => y5_6 y hy); have zz6 := fun K => hW.far (.sl (L6 + 1) 1 0 (V.mkLL K e6)) (fun y hy => y5_6 y (by simp only [V.labels, mkLL_labels] at hy; exact hy)); simp only [List.map_cons, List.map_nil, List.map_append, hW.int, hW.str, hW.bool, hW.any, hW.tup0, hW.agg, ha, kP, hW.sl (L + 1) 7 0 _ x5, hW.ptr (L + 1) _ _ _ x5, hW.farLL _ (a5 _), hW.farLL _ b5, z6, zz6] <;> rfl) ?_
  intro U hU hv
  refine EV ?_
  refine ON ?_
  refine Ok.drop [50, 51, 52, 53, 54, 55, 56] (by simp only [kover] <;> rfl) ?_
  refine Ok.region ?_
  iterate 2 (refine EV ?_)
  refine OkOps.ev tab_ok rfl (ev_idx (j := a.length) (by simp only [kE, kT, kL, kC] <;> rfl) (by simp only [kE, kT, kL, kC] <;> rfl) (get_mid (mkLL_len _ _)) (by simp only [kE, kT, kL, kC] <;> rfl)) (by simp only [kP] <;> rfl) ?_
  iterate 3 (refine EV ?_)
  refine OkOps.turnU 0 rfl rfl (by simp only [kE, kT, kL, kC] <;> rfl) (by simp only [kE, kT, kL, kC] <;> rfl) cl64 (fun h => c_laws_markIntS e6 _ L6 q6 w6 (by omega)) (by first | rfl | (simp only [Nat.add_zero, Nat.reduceAdd] <;> rfl)) hU hv (u6) (fun W hW ha => by have z5 := hW.far (.sl (L5 + 1) 4 0 e5) (fun y hy => y6_5 y hy); have zz5 := fun K => hW.far (.sl (L5 + 1) 4 0 (V.mkLL K e5)) (fun y hy => y6_5 y (by simp only [V.labels, mkLL_labels] at hy; exact hy)); simp only [List.map_cons, List.map_nil, List.map_append, hW.int, hW.str, hW.bool, hW.any, hW.tup0, hW.agg, ha, kP, hW.sl (L + 1) 7 0 _ x6, hW.ptr (L + 1) _ _ _ x6, hW.farLL _ (a6 _), hW.farLL _ b6, z5, zz5] <;> rfl) (fun W hW ha => by have z5 := hW.far (.sl (L5 + 1) 4 0 e5) (fun y hy => y6_5 y hy); have zz5 := fun K => hW.far (.sl (L5 + 1) 4 0 (V.mkLL K e5)) (fun y hy => y6_5 y (by simp only [V.labels, mkLL_labels] at hy; exact hy)); simp only [List.map_cons, List.map_nil, List.map_append, hW.int, hW.str, hW.bool, hW.any, hW.tup0, hW.agg, ha, kP, hW.sl (L + 1) 7 0 _ x6, hW.ptr (L + 1) _ _ _ x6, hW.farLL _ (a6 _), hW.farLL _ b6, z5, zz5] <;> rfl) ?_
  intro U hU hv
  refine EV ?_
  refine ON ?_
  refine Ok.drop [57, 58, 59, 60, 61, 62, 63] (by simp only [kover] <;> rfl) ?_
  refine Ok.region ?_
  refine EV ?_
  refine OkOps.ev tab_ok rfl (by simp (disch := omega) only [kE, kT, kL, kC, wrap_add_one] <;> rfl) (by simp only [kP] <;> rfl) ?_
  refine EV ?_
  refine ON ?_
  refine ⟨(a ++ [[.int .i64 v0, .str v1, .int .i64 v2, .int .i64 v3, .int .i64 v4, .sl (L5 + 1) 4 0 e5, .sl (L6 + 1) 1 0 e6]], b, U), ?_, rfl, rfl, ⟨by rw [he]; simp, hU, by dsimp only; rw [hv, mkLL_snoc]; simp only [V.mkL, V.mk, V.mn, List.append_assoc, List.cons_append, List.nil_append] <;> rfl⟩, by simp only [List.length_cons]; omega⟩
  refine ⟨?_, ?_, ?_, ?_, ?_, ?_, ?_, ?_, ?_, ?_, ?_, ?_, ?_, ?_, ?_, ?_, ?_, ?_, ?_, ?_, ?_, ?_, ?_, ?_, ?_, ?_, ?_, ?_, ?_, ?_, ?_, ?_, ?_, ?_, ?_, ?_, ?_, ?_, ?_, ?_, ?_, ?_, ?_, ?_, ?_, ?_, ?_, ?_, ?_, ?_, ?_, ?_, ?_, ?_, ?_, ?_, ?_, ?_, ?_, ?_, ?_, ?_, ?_, ?_, ?_, trivial⟩ <;> first | exact le_any _ | with_reducible exact le_rfl' _ | (dsimp only; first | (refine le_eqm ?_; simp only [List.length_append, List.length_cons, List.length_nil]; done) | (rw [wrap_add_one (by omega)]; refine le_eqm ?_; simp only [List.length_append, List.length_cons, List.length_nil]; done) | (refine le_eqm ?_; rw [mkLL_snoc]; simp only [V.mkL, V.mk, V.mn, List.append_assoc, List.cons_append, List.nil_append] <;> rfl) | (refine le_eqm (congrArg (V.int .i64) (congrArg Nat.cast ?_)); rw [mnLL_snoc]; simp only [V.mnL, V.mn]; omega)) | exact le_rfl' _
 ·
  try simp only [bsimp] at hb2
  have hb : b = [] := by cases b with
    | nil => rfl
    | cons c b' => exfalso; rw [List.length_append, mkLL_len] at hb2; simp only [List.length_cons] at hb2; omega
  subst hb
  rw [List.append_nil] at he
  subst he
  refine Ok.exit ?_
  refine Ok.seq ?_
  refine Ok.drop [6, 7, 8, 9] (by simp only [kover] <;> rfl) ?_
  refine Ok.region ?_
  iterate 2 (refine EV ?_)
  refine ON ?_
  refine Ok.ret ?_
  with_reducible repeat (first | refine thenQ_ret ?_ | refine blockQ_ret ?_)
  refine RT ?_
  exact ⟨rfl, rfl, U, hU, by rw [hv, List.append_nil], rfl⟩
end Go.Proofs.YtjhfabimacljhaaGreat.K

/- Walks: marks of records. Printed by w2.py. -/
namespace Go.Proofs.YtjhfabimacljhaaGreat.K
open Go Go.RowKit
set_option linter.unusedVariables false
set_option linter.unusedSimpArgs false
theorem labelsL_app (a b : List V) : V.labelsL (a ++ b) = V.labelsL a ++ V.labelsL b := by
  induction a with
  | nil => rfl
  | cons x a ih => rw [List.cons_append]; show V.labels x ++ V.labelsL (a ++ b) = V.labels x ++ V.labelsL a ++ V.labelsL b; rw [ih, List.append_assoc]
theorem lab_mid {a c b : List V} (h : (V.labelsL (a ++ (c ++ b))).Nodup) : (V.labelsL c).Nodup ∧ (∀ y ∈ V.labelsL a, ¬ y ∈ V.labelsL c) ∧ (∀ y ∈ V.labelsL b, ¬ y ∈ V.labelsL c) ∧ (∀ y ∈ V.labelsL c, y ∈ V.labelsL (a ++ (c ++ b))) := by
  rw [labelsL_app, labelsL_app] at h ⊢
  rw [List.nodup_append, List.nodup_append] at h
  obtain ⟨h1, ⟨h2, h3, h4⟩, h5⟩ := h
  exact ⟨h2, fun y hy hc => h5 y hy y (List.mem_append_left _ hc) rfl, fun y hy hc => h4 y hc y hy rfl, fun y hy => List.mem_append_right _ (List.mem_append_left _ hy)⟩
theorem OkOps.ofMap {P : Program} {t h : List V} {n : Nat} {Q : Exit → List V → List V → Nat → Prop} {ops : Array Oper} {l : List Oper} (hk : OkOps P ops l t (h.map id) n Q) : OkOps P ops l t h n Q := by
  rw [List.map_id] at hk; exact hk
set_option maxHeartbeats 4000000
set_option maxRecDepth 20000
theorem c_laws_markStore (v0 : Int) (v1 : Int) (L2 : Nat) (e2 : List (List V)) (L3 : Nat) (e3 : List (List V)) (k : Nat) (q2 : ∀ r ∈ e2, isBox r) (q3 : ∀ r ∈ e3, isInt r) (hn : (V.labelsL [.int .i64 v0, .int .i64 v1, .sl (L2 + 1) 7 0 e2, .sl (L3 + 1) 1 0 e3]).Nodup) (hk : k + V.mnLL e2 + V.mnLL e3 ≤ 4611686018427387904) {h : List V} {n : Nat} (hlt : ∀ y ∈ V.labelsL [.int .i64 v0, .int .i64 v1, .sl (L2 + 1) 7 0 e2, .sl (L3 + 1) 1 0 e3], y < n) : OkCall Tryz.prog 14 [.agg [.int .i64 v0, .int .i64 v1, .sl (L2 + 1) 7 0 e2, .sl (L3 + 1) 1 0 e3], .int .i64 (k : Int)] h n (MarkQ (· ∈ V.labelsL [.int .i64 v0, .int .i64 v1, .sl (L2 + 1) 7 0 e2, .sl (L3 + 1) 1 0 e3]) (.agg [.int .i64 v0, .int .i64 v1, .sl (L2 + 1) 7 0 e2, .sl (L3 + 1) 1 0 e3]) (.agg [.int .i64 v0, .int .i64 v1, .sl (L2 + 1) 7 0 (V.mkLL (k) e2), .sl (L3 + 1) 1 0 (V.mkLL (k + V.mnLL e2) e3)]) (.int .i64 ((k + V.mnLL e2 + V.mnLL e3 : Nat) : Int)) h (n + 1)) := by
 refine OkCall.enter' tab_ok Tryz.func14 rfl (t := [.agg [.int .i64 v0, .int .i64 v1, .sl (L2 + 1) 7 0 e2, .sl (L3 + 1) 1 0 e3], .int .i64 (k : Int), .any, .any, .any, .any, .any, .any, .any, .any, .any, .any, .any, .any]) rfl ?_
 refine OQ ?_
 iterate 2 (refine EV ?_)
 refine ON ?_
 refine OQ ?_
 refine OkOps.ofMap ?_
 have hU := Hom.id' (· ∈ V.labelsL [.int .i64 v0, .int .i64 v1, .sl (L2 + 1) 7 0 e2, .sl (L3 + 1) 1 0 e3])
 have hv : id (V.agg [.int .i64 v0, .int .i64 v1, .sl (L2 + 1) 7 0 e2, .sl (L3 + 1) 1 0 e3]) = .agg [.int .i64 v0, .int .i64 v1, .sl (L2 + 1) 7 0 e2, .sl (L3 + 1) 1 0 e3] := rfl
 obtain ⟨nc0, da0, db0, du0⟩ := lab_mid (a := [.int .i64 v0, .int .i64 v1]) (c := [.sl (L2 + 1) 7 0 e2]) (b := [.sl (L3 + 1) 1 0 e3]) hn
 have no0 : ¬ n ∈ V.labelsL [.sl (L2 + 1) 7 0 e2] := fun h => Nat.lt_irrefl _ (hlt n (du0 n h))
 have ncs0 : ((L2 + 1) :: V.labelsLL e2).Nodup := by have := nc0; simp only [V.labelsL, V.labels, List.append_nil] at this; exact this
 have sm0 : ∀ y, y ∈ (L2 + 1) :: V.labelsLL e2 → y ∈ V.labelsL [.sl (L2 + 1) 7 0 e2] := fun y hy => by simp only [V.labelsL, V.labels, List.append_nil]; exact hy
 obtain ⟨nc1, da1, db1, du1⟩ := lab_mid (a := [.int .i64 v0, .int .i64 v1, .sl (L2 + 1) 7 0 e2]) (c := [.sl (L3 + 1) 1 0 e3]) (b := []) hn
 have no1 : ¬ n ∈ V.labelsL [.sl (L3 + 1) 1 0 e3] := fun h => Nat.lt_irrefl _ (hlt n (du1 n h))
 have ncs1 : ((L3 + 1) :: V.labelsLL e3).Nodup := by have := nc1; simp only [V.labelsL, V.labels, List.append_nil] at this; exact this
 have sm1 : ∀ y, y ∈ (L3 + 1) :: V.labelsLL e3 → y ∈ V.labelsL [.sl (L3 + 1) 1 0 e3] := fun y hy => by simp only [V.labelsL, V.labels, List.append_nil]; exact hy
 iterate 3 (refine EV ?_)
 refine OkOps.turnU 0 rfl rfl (by simp only [kE, kT, kL, kC] <;> rfl) (by simp only [kE, kT, kL, kC] <;> rfl) cl63 (fun h => c_laws_markBoxS e2 _ L2 q2 ncs0 (by omega)) (by first | rfl | (simp only [Nat.add_zero, Nat.reduceAdd] <;> rfl)) hU hv (fun y hy => du0 y (sm0 y hy)) (fun W hW ha => by have z3 := hW.far (.sl (L3 + 1) 1 0 e3) (fun y hy => (fun y hy h => db0 y hy (sm0 y h)) y (by simp only [V.labelsL, List.mem_append]; simp only [hy, true_or, or_true])); have zz3 := fun K => hW.far (.sl (L3 + 1) 1 0 (V.mkLL K e3)) (fun y hy => (fun y hy h => db0 y hy (sm0 y h)) y (by simp only [V.labels, mkLL_labels] at hy; simp only [V.labelsL, V.labels, List.mem_append]; simp only [hy, true_or, or_true])); simp only [List.map_cons, List.map_nil, List.map_append, hW.int, hW.str, hW.bool, hW.any, hW.tup0, hW.agg, ha, kP, hW.ptr n _ _ _ (fun h => no0 (sm0 n h)), z3, zz3] <;> rfl) (fun W hW ha => by have z3 := hW.far (.sl (L3 + 1) 1 0 e3) (fun y hy => (fun y hy h => db0 y hy (sm0 y h)) y (by simp only [V.labelsL, List.mem_append]; simp only [hy, true_or, or_true])); have zz3 := fun K => hW.far (.sl (L3 + 1) 1 0 (V.mkLL K e3)) (fun y hy => (fun y hy h => db0 y hy (sm0 y h)) y (by simp only [V.labels, mkLL_labels] at hy; simp only [V.labelsL, V.labels, List.mem_append]; simp only [hy, true_or, or_true])); simp only [List.map_cons, List.map_nil, List.map_append, hW.int, hW.str, hW.bool, hW.any, hW.tup0, hW.agg, ha, kP, hW.ptr n _ _ _ (fun h => no0 (sm0 n h)), z3, zz3] <;> rfl) ?_
 intro U hU hv
 refine EV ?_
 refine ON ?_
 refine Ok.seq ?_
 refine Ok.drop [5, 6, 7, 8] (by simp only [kover] <;> rfl) ?_
 refine Ok.region ?_
 iterate 3 (refine EV ?_)
 refine OkOps.turnU 0 rfl rfl (by simp only [kE, kT, kL, kC] <;> rfl) (by simp only [kE, kT, kL, kC] <;> rfl) cl64 (fun h => c_laws_markIntS e3 _ L3 q3 ncs1 (by omega)) (by first | rfl | (simp only [Nat.add_zero, Nat.reduceAdd] <;> rfl)) hU hv (fun y hy => du1 y (sm1 y hy)) (fun W hW ha => by have z2 := hW.far (.sl (L2 + 1) 7 0 e2) (fun y hy => (fun y hy h => da1 y hy (sm1 y h)) y (by simp only [V.labelsL, List.mem_append]; simp only [hy, true_or, or_true])); have zz2 := fun K => hW.far (.sl (L2 + 1) 7 0 (V.mkLL K e2)) (fun y hy => (fun y hy h => da1 y hy (sm1 y h)) y (by simp only [V.labels, mkLL_labels] at hy; simp only [V.labelsL, V.labels, List.mem_append]; simp only [hy, true_or, or_true])); simp only [List.map_cons, List.map_nil, List.map_append, hW.int, hW.str, hW.bool, hW.any, hW.tup0, hW.agg, ha, kP, hW.ptr n _ _ _ (fun h => no1 (sm1 n h)), z2, zz2] <;> rfl) (fun W hW ha => by have z2 := hW.far (.sl (L2 + 1) 7 0 e2) (fun y hy => (fun y hy h => da1 y hy (sm1 y h)) y (by simp only [V.labelsL, List.mem_append]; simp only [hy, true_or, or_true])); have zz2 := fun K => hW.far (.sl (L2 + 1) 7 0 (V.mkLL K e2)) (fun y hy => (fun y hy h => da1 y hy (sm1 y h)) y (by simp only [V.labels, mkLL_labels] at hy; simp only [V.labelsL, V.labels, List.mem_append]; simp only [hy, true_or, or_true])); simp only [List.map_cons, List.map_nil, List.map_append, hW.int, hW.str, hW.bool, hW.any, hW.tup0, hW.agg, ha, kP, hW.ptr n _ _ _ (fun h => no1 (sm1 n h)), z2, zz2] <;> rfl) ?_
 intro U hU hv
 refine EV ?_
 refine ON ?_
 refine Ok.seq ?_
 refine Ok.drop [9, 10, 11, 12] (by simp only [kover] <;> rfl) ?_
 refine Ok.region ?_
 iterate 2 (refine EV ?_)
 refine ON ?_
 refine Ok.ret ?_
 with_reducible repeat (first | refine thenQ_ret ?_ | refine blockQ_ret ?_)
 refine RT ?_
 exact ⟨rfl, rfl, U, hU, hv, rfl⟩
end Go.Proofs.YtjhfabimacljhaaGreat.K

/- Walks: marks that are still held. Printed by w2.py. -/
namespace Go.Proofs.YtjhfabimacljhaaGreat.K
open Go Go.RowKit
set_option linter.unusedVariables false
set_option linter.unusedSimpArgs false
theorem mk_get {es : List (List V)} {k i : Nat} (h : i < es.length) : (V.mkLL k es)[i]? = some (V.mkL (k + V.mnLL (es.take i)) es[i]) := by
  have e : es = es.take i ++ es[i] :: es.drop (i + 1) := by rw [← List.drop_eq_getElem_cons h, List.take_append_drop]
  have e2 : V.mkLL k es = V.mkLL k (es.take i) ++ V.mkL (k + V.mnLL (es.take i)) es[i] :: V.mkLL (k + V.mnLL (es.take i) + V.mnL es[i]) (es.drop (i + 1)) := by
    conv => lhs; rw [e]
    rw [mkLL_app]; rfl
  rw [e2]
  exact get_mid (by rw [mkLL_len, List.length_take]; omega)
theorem mk_get' {α : Type} {f : α → List V} {xs : List α} {k i : Nat} (h : i < xs.length) : (V.mkLL k (xs.map f))[i]? = some (V.mkL (k + V.mnLL ((xs.take i).map f)) (f xs[i])) := by
  rw [mk_get (by rw [List.length_map]; exact h), List.map_take, List.getElem_map]
theorem mn_next {α : Type} {f : α → List V} {xs : List α} {i : Nat} (h : i < xs.length) : V.mnLL ((xs.take (i + 1)).map f) = V.mnLL ((xs.take i).map f) + V.mnL (f xs[i]) := by
  rw [List.take_succ_eq_append_getElem h, List.map_append]; exact mnLL_snoc _ _
theorem mn_split {α : Type} {f : α → List V} {xs : List α} {i : Nat} (h : i < xs.length) : V.mnLL (xs.map f) = V.mnLL ((xs.take i).map f) + (V.mnL (f xs[i]) + V.mnLL ((xs.drop (i + 1)).map f)) := by
  have e : xs = xs.take i ++ xs[i] :: xs.drop (i + 1) := by rw [← List.drop_eq_getElem_cons h, List.take_append_drop]
  conv => lhs; rw [e]
  rw [List.map_append, mnLL_app]; rfl
theorem len_mk {α : Type} {f : α → List V} (hf : ∀ x, 1 ≤ V.mnL (f x)) (xs : List α) : xs.length ≤ V.mnLL (xs.map f) := by
  have := len_mn (xs.map f) fun r hr => by obtain ⟨x, _, rfl⟩ := List.mem_map.1 hr; exact hf x
  rw [List.length_map] at this; exact this
set_option maxHeartbeats 4000000
set_option maxRecDepth 20000
theorem w_laws_heldStringS (xs : List Str) (k : Nat) (hk : k + V.mnLL (xs.map cS) ≤ 4611686018427387904) : Weak Tryz.prog 68 [.sl 0 1 0 (V.mkLL k (xs.map cS)), .int .i64 (k : Int)] (.int .i64 ((k + V.mnLL (xs.map cS) : Nat) : Int)) := by
 have hz := len_mk (f := cS) (fun x => by simp only [cS, V.mnL, V.mn]; omega) xs
 refine Weak.enter tab_ok Tryz.func68 rfl (.inr (by simp [V.labelsL, V.labels, V.labelsLL, mkLL_labels, zz, zf, zy, or_imp, forall_and])) (t := [.sl 0 1 0 (V.mkLL k (xs.map cS)), .int .i64 (k : Int), .any, .any, .any, .any, .any, .any, .any, .any, .any, .any, .any, .any, .any, .any, .any, .any, .any, .any, .any, .any]) rfl ?_
 refine OQ ?_
 refine EV ?_
 refine ON ?_
 refine Ok.seq ?_
 refine OQ ?_
 refine EV ?_
 refine ON ?_
 refine Ok.block ?_
 refine Ok.loopW (τ := Nat) (fun x => [(1, .int .i64 ((k + V.mnLL ((xs.take x).map cS) : Nat) : Int)), (5, .int .i64 (x : Int))]) [4, 6, 7, 8, 9, 10, 11, 12, 13, 14, 15, 16, 17, 18, 19, 20] (fun x => by simp only [kover] <;> rfl) (fun x => x ≤ xs.length) (fun x => xs.length - x) 0 (by refine ⟨?_, ?_, ?_, ?_, ?_, ?_, ?_, ?_, ?_, ?_, ?_, ?_, ?_, ?_, ?_, ?_, ?_, ?_, ?_, ?_, ?_, ?_, trivial⟩ <;> first | exact le_any _ | with_reducible exact le_rfl' _ | (exact le_rfl' _) | exact le_rfl' _) (Nat.zero_le _) ?_
 rintro i h1
 refine Ok.seq ?_
 refine OQ ?_
 iterate 4 (refine EV ?_)
 refine ON ?_
 refine Ok.cond (b := _) (by simp only [kE, kT, kL, kC] <;> rfl) (fun hb2 => ?_) (fun hb2 => ?_)
 ·
  try simp only [bsimp] at hb2
  have hi : i < xs.length := by rw [mkLL_len, List.length_map] at hb2; omega
  have hsp := mn_split (f := cS) hi
  have hkk := hk
  rw [hsp] at hkk
  simp only [cS, V.mnL, V.mn] at hkk
  have hg : (V.mkLL k (xs.map cS))[i]? = some [.str (markT ((k + V.mnLL ((xs.take i).map cS))))] := by rw [mk_get' hi]; simp only [cS, V.mkL, V.mk, V.mn] <;> rfl
  refine Ok.skip ?_
  refine Ok.seq ?_
  refine Ok.block ?_
  refine Ok.seq ?_
  refine Ok.seq ?_
  refine Ok.drawn 7 22 [] (by kernel_rfl) (by kernel_rfl) rfl ?_
  iterate 2 (refine SV ?_)
  refine SOps.ev tab_ok rfl (ev_idx (by simp only [kE, kT, kL, kC] <;> rfl) (by simp only [kE, kT, kL, kC] <;> rfl) (hg) (by simp only [kE, kT, kL, kC] <;> rfl)) (by simp only [kP] <;> rfl) ?_
  iterate 2 (refine SV ?_)
  refine SOps.S0 rfl (OpS.weakM rfl (by simp only [kE, kT, kL, kC] <;> rfl) (by simp only [kE, kT, kL, kC] <;> rfl) cl127 (w_laws_markText _ (by omega))) (by simp only [kP] <;> rfl) ?_
  refine SV ?_
  refine SOps.nil ?_
  refine TOps.nil ?_
  refine Ok.cond_false (by simp only [kE, kT, kL, kC] <;> first | rfl | (simp; done) | (simp; omega)) ?_
  refine Ok.skip ?_
  refine Ok.region ?_
  refine EV ?_
  refine OkOps.ev tab_ok rfl (by simp (disch := omega) only [kE, kT, kL, kC, wrap_add_one] <;> rfl) (by simp only [kP] <;> rfl) ?_
  refine EV ?_
  refine ON ?_
  refine Ok.region ?_
  refine EV ?_
  refine OkOps.ev tab_ok rfl (by simp (disch := omega) only [kE, kT, kL, kC, wrap_add_one] <;> rfl) (by simp only [kP] <;> rfl) ?_
  refine EV ?_
  refine ON ?_
  refine ⟨i + 1, ?_, rfl, rfl, by omega, by omega⟩
  refine ⟨?_, ?_, ?_, ?_, ?_, ?_, ?_, ?_, ?_, ?_, ?_, ?_, ?_, ?_, ?_, ?_, ?_, ?_, ?_, ?_, ?_, ?_, trivial⟩ <;> first | exact le_any _ | with_reducible exact le_rfl' _ | (first | (rw [wrap_add_one (by omega)]; exact le_rfl' _) | (refine le_eqm (congrArg (V.int .i64) (congrArg Nat.cast ?_)); rw [mn_next hi]; simp only [V.mnL, V.mn]; omega)) | exact le_rfl' _
 ·
  try simp only [bsimp] at hb2
  have hi : i = xs.length := by rw [mkLL_len, List.length_map] at hb2; omega
  subst hi
  rw [List.take_length]
  refine Ok.exit ?_
  refine OQ ?_
  iterate 2 (refine EV ?_)
  refine ON ?_
  refine Ok.ret ?_
  with_reducible repeat (first | refine thenQ_ret ?_ | refine blockQ_ret ?_)
  refine RT ?_
  rfl
end Go.Proofs.YtjhfabimacljhaaGreat.K

/- Walks: marks that records still hold. Printed by w2.py. -/
namespace Go.Proofs.YtjhfabimacljhaaGreat.K
open Go Go.RowKit
set_option linter.unusedVariables false
set_option linter.unusedSimpArgs false
set_option maxHeartbeats 4000000
set_option maxRecDepth 20000
end Go.Proofs.YtjhfabimacljhaaGreat.K

/- Walks: texts cut, links put to, marks in syncs. Printed by w2.py. -/
namespace Go.Proofs.YtjhfabimacljhaaGreat.K
open Go Go.RowKit
set_option linter.unusedVariables false
set_option linter.unusedSimpArgs false
set_option maxHeartbeats 4000000
set_option maxRecDepth 20000
theorem w_impl_LinkNew (e : Int) : Weak Tryz.prog 57 [.int .i64 e] (.agg (cLink ⟨e, [], 1, 1⟩)) := by
 refine Weak.enter tab_ok Tryz.func57 rfl (.inr (by simp [V.labelsL, V.labels, zz, zf, zy])) (t := [.int .i64 e, .any, .any, .any, .any]) rfl ?_
 refine OQ ?_
 refine EV ?_
 refine ON ?_
 refine OQ ?_
 refine EV ?_
 refine OkOps.ev tab_ok rfl (by simp [ev1, fillV, kE, kT, kL] <;> first | rfl | exact ⟨rfl, rfl⟩) (by simp only [kP] <;> rfl) ?_
 refine OkOps.storeE tab_ok rfl rfl (by simp only [kE, kT, kL, kC] <;> rfl) ⟨_, _, by simp only [kE]; rfl⟩ (by first | (simp [V.labelsL, V.labelsLL, V.labels, zz, zf, zy]; done) | (simp [-List.map_map, -List.map_set, -List.map_drop, -List.map_take, -List.map_tail, -List.drop_one, V.labelsL, V.labelsLL, V.labels, zz, zf, zy]; done)) (by simp only [eq_self, V.updL, V.travL, V.travLL, V.trav, updS, updP, and_self, true_and, and_true, false_and, and_false, Nat.reduceEqDiff, Nat.reduceSub, Nat.le_refl, Nat.zero_le, ↓reduceIte, if_true, if_false, kP, zz, zf, zy] <;> rfl) (rfl) ?_
 refine ON ?_
 refine Ok.ret ?_
 with_reducible repeat (first | refine thenQ_ret ?_ | refine blockQ_ret ?_)
 refine RT ?_
 rfl
theorem w_impl_PiecesOf (t : Str) (h : t.length ≤ 16004) : Weak Tryz.prog 40 [.str t] (.sl 0 1 0 ((piecesT t (pieceN t)).map cS)) := by
 refine Weak.enter tab_ok Tryz.func40 rfl (.inr (by simp [V.labelsL, V.labels, zz, zf, zy])) (t := [.str t, .any, .any, .any, .any, .any, .any, .any, .any, .any, .any, .any, .any, .any, .any, .any, .any, .any, .any, .any, .any, .any, .any, .any]) rfl ?_
 refine OQ ?_
 refine EV ?_
 refine ON ?_
 refine OQ ?_
 iterate 2 (refine EV ?_)
 refine ON ?_
 refine Ok.seq ?_
 refine OQ ?_
 refine EV ?_
 refine ON ?_
 refine Ok.block ?_
 refine Ok.bump (n' := 2) (by omega) ?_
 refine Ok.loopWZ (τ := Nat) (fun x => [(3, .sl 1 1 0 ((piecesT t x).map cS)), (4, .int .i64 ((120 * x : Nat) : Int))]) [6, 7, 8, 9, 10, 11, 12, 13, 14, 15, 16, 17, 18, 19, 20, 21, 22] (fun x => by simp only [kover] <;> rfl) (fun x => x ≤ pieceN t) (fun x => pieceN t - x) 0 (by omega) (by refine ⟨?_, ?_, ?_, ?_, ?_, ?_, ?_, ?_, ?_, ?_, ?_, ?_, ?_, ?_, ?_, ?_, ?_, ?_, ?_, ?_, ?_, ?_, ?_, ?_, trivial⟩ <;> first | exact le_any _ | with_reducible exact le_rfl' _ | (first | exact le_rfl' _ | exact le_nil 1 1 | exact le_eqm rfl) | exact le_rfl' _) (Nat.zero_le _) ?_
 rintro i h1
 refine Ok.seq ?_
 refine OQ ?_
 iterate 4 (refine EV ?_)
 refine ON ?_
 refine Ok.cond (b := _) (by simp only [kE, kT, kL, kC] <;> rfl) (fun hb3 => ?_) (fun hb3 => ?_)
 ·
  try simp only [bsimp] at hb3
  have hi : i < pieceN t := pieceN_lt (by omega)
  have hN : 120 * i < t.length := by omega
  have hpl := pieces_len t i
  have hw : IntKind.i64.wrap (((120 * i : Nat) : Int) + 120) = ((120 * i + 120 : Nat) : Int) := by rw [IntKind.wrap_i64]; omega
  have hmin := piece_min t i
  refine Ok.skip ?_
  refine Ok.seq ?_
  refine Ok.block ?_
  refine Ok.region ?_
  iterate 4 (refine EV ?_)
  refine OkOps.ev tab_ok rfl (by simp only [kE, kT, kL, kC, hw] <;> rfl) (by simp only [kP] <;> rfl) ?_
  iterate 3 (refine EV ?_)
  refine OkOps.ev tab_ok rfl (ev_cut (by simp only [kE, kT, kL, kC, Bool.false_eq_true, if_false, hmin, hw] <;> rfl) (by simp only [kE, kT, kL, kC, Bool.false_eq_true, if_false, hmin, hw] <;> rfl) (by simp only [kE, kT, kL, kC, Bool.false_eq_true, if_false, hmin, hw] <;> rfl) rfl (by omega) (by omega)) (by simp only [kP] <;> rfl) ?_
  refine OkOps.ev tab_ok rfl (ev_bs (by simp only [kT] <;> rfl) (by simp only [kT] <;> rfl) (by decide) (by decide) (by simp only [kE, kT, kL, kC, List.map_cons, List.map_nil] <;> rfl) (by simp only [kfe, beq_self_eq_true, Bool.and_true, Bool.true_and, decide_true, Nat.zero_add, Nat.lt_add_one, Nat.reduceLT, Nat.reduceAdd, Nat.zero_lt_succ, if_true, ↓reduceIte] <;> rfl)) (by simp only [kP] <;> rfl) ?_
  refine OkOps.append tab_ok rfl rfl (by simp only [kT] <;> rfl) (by simp only [kT] <;> rfl) (by decide) rfl (by simp only [kE, kT, kL, kC] <;> rfl) (.inl ⟨_, _, by simp only [kE, kT, kL, kC] <;> rfl⟩) (by omega) (by omega) (by simp only [List.length_map, List.length_cons, List.length_nil]; omega) (by simp only [List.length_map, List.length_cons, List.length_nil]; omega) (by simp [V.one]) (by simp only [V.killL, V.killLL, V.travL, V.travLL, V.trav, killS, killP, Nat.reduceEqDiff, ↓reduceIte, reduceCtorEq, if_true, if_false, List.append_nil, List.nil_append, List.cons_append, zz, zf, zy] <;> rfl) (by simp only [V.killL, V.killLL, V.travL, V.travLL, V.trav, killS, killP, Nat.reduceEqDiff, ↓reduceIte, reduceCtorEq, if_true, if_false, List.append_nil, List.nil_append, List.cons_append, zz, zf, zy, kP] <;> rfl) (rfl) ?_
  refine EV ?_
  refine ON ?_
  refine Ok.region ?_
  iterate 3 (refine EV ?_)
  refine ON ?_
  refine ⟨i + 1, ?_, rfl, hi, by omega⟩
  simp only [V.renL, V.travL, V.travLL, V.trav, frz, zz, zf, zy, Nat.reduceLeDiff, ↓reduceIte]
  refine ⟨?_, ?_, ?_, ?_, ?_, ?_, ?_, ?_, ?_, ?_, ?_, ?_, ?_, ?_, ?_, ?_, ?_, ?_, ?_, ?_, ?_, ?_, ?_, ?_, trivial⟩ <;> first | exact le_any _ | with_reducible exact le_rfl' _ | (first | exact le_rfl' _ | (rw [hw]; exact le_rfl' _) | (rw [pieces_next, List.map_append, piece_cut (by omega)]; exact le_rfl' _)) | exact le_rfl' _
 ·
  try simp only [bsimp] at hb3
  obtain rfl := pieceN_ge (t := t) (k := i) (by omega) h1
  refine Ok.exit ?_
  refine OQ ?_
  iterate 2 (refine EV ?_)
  refine ON ?_
  refine Ok.ret ?_
  with_reducible repeat (first | refine thenQ_ret ?_ | refine blockQ_ret ?_)
  refine RT ?_
  first | rfl | (simp [V.erase, V.trav, V.travL, V.travLL, packV, zz, zf, zy]; done)
theorem w_spec_LinkNew (e : Int) : Weak Tryz.prog 50 [.int .i64 e] (.agg (cLink ⟨e, [], 1, 1⟩)) := by
 refine Weak.enter tab_ok Tryz.func50 rfl (.inr (by simp [V.labelsL, V.labels, zz, zf, zy])) (t := [.int .i64 e, .any, .any, .any, .any]) rfl ?_
 refine OQ ?_
 refine EV ?_
 refine ON ?_
 refine OQ ?_
 refine EV ?_
 refine OkOps.ev tab_ok rfl (by simp [ev1, fillV, kE, kT, kL] <;> first | rfl | exact ⟨rfl, rfl⟩) (by simp only [kP] <;> rfl) ?_
 refine OkOps.storeE tab_ok rfl rfl (by simp only [kE, kT, kL, kC] <;> rfl) ⟨_, _, by simp only [kE]; rfl⟩ (by first | (simp [V.labelsL, V.labelsLL, V.labels, zz, zf, zy]; done) | (simp [-List.map_map, -List.map_set, -List.map_drop, -List.map_take, -List.map_tail, -List.drop_one, V.labelsL, V.labelsLL, V.labels, zz, zf, zy]; done)) (by simp only [eq_self, V.updL, V.travL, V.travLL, V.trav, updS, updP, and_self, true_and, and_true, false_and, and_false, Nat.reduceEqDiff, Nat.reduceSub, Nat.le_refl, Nat.zero_le, ↓reduceIte, if_true, if_false, kP, zz, zf, zy] <;> rfl) (rfl) ?_
 refine ON ?_
 refine Ok.ret ?_
 with_reducible repeat (first | refine thenQ_ret ?_ | refine blockQ_ret ?_)
 refine RT ?_
 rfl
theorem w_spec_PiecesOf (t : Str) (h : t.length ≤ 16004) : Weak Tryz.prog 45 [.str t] (.sl 0 1 0 ((piecesT t (pieceN t)).map cS)) := by
 refine Weak.enter tab_ok Tryz.func45 rfl (.inr (by simp [V.labelsL, V.labels, zz, zf, zy])) (t := [.str t, .any, .any, .any, .any, .any, .any, .any, .any, .any, .any, .any, .any, .any, .any, .any, .any, .any, .any, .any, .any, .any, .any, .any, .any, .any, .any, .any, .any]) rfl ?_
 refine OQ ?_
 refine EV ?_
 refine ON ?_
 refine OQ ?_
 iterate 2 (refine EV ?_)
 refine ON ?_
 refine Ok.seq ?_
 refine OQ ?_
 refine EV ?_
 refine ON ?_
 refine Ok.block ?_
 refine Ok.bump (n' := 2) (by omega) ?_
 refine Ok.loopWZ (τ := Nat) (fun x => [(3, .sl 1 1 0 ((piecesT t x).map cS)), (4, .int .i64 ((120 * x : Nat) : Int))]) [5, 7, 8, 9, 10, 11, 12, 13, 14, 15, 16, 17, 18, 19, 20, 21, 22, 23, 24, 25, 26, 27] (fun x => by simp only [kover] <;> rfl) (fun x => x ≤ pieceN t) (fun x => pieceN t - x) 0 (by omega) (by refine ⟨?_, ?_, ?_, ?_, ?_, ?_, ?_, ?_, ?_, ?_, ?_, ?_, ?_, ?_, ?_, ?_, ?_, ?_, ?_, ?_, ?_, ?_, ?_, ?_, ?_, ?_, ?_, ?_, ?_, trivial⟩ <;> first | exact le_any _ | with_reducible exact le_rfl' _ | (first | exact le_rfl' _ | exact le_nil 1 1 | exact le_eqm rfl) | exact le_rfl' _) (Nat.zero_le _) ?_
 rintro i h1
 refine Ok.seq ?_
 refine OQ ?_
 iterate 4 (refine EV ?_)
 refine ON ?_
 refine Ok.cond (b := _) (by simp only [kE, kT, kL, kC] <;> rfl) (fun hb3 => ?_) (fun hb3 => ?_)
 ·
  try simp only [bsimp] at hb3
  have hi : i < pieceN t := pieceN_lt (by omega)
  have hN : 120 * i < t.length := by omega
  have hpl := pieces_len t i
  have hw : IntKind.i64.wrap (((120 * i : Nat) : Int) + 120) = ((120 * i + 120 : Nat) : Int) := by rw [IntKind.wrap_i64]; omega
  refine Ok.skip ?_
  refine Ok.seq ?_
  refine Ok.block ?_
  refine OQ ?_
  refine EV ?_
  refine OkOps.ev tab_ok rfl (by simp only [kE, kT, kL, kC, hw] <;> rfl) (by simp only [kP] <;> rfl) ?_
  refine EV ?_
  refine ON ?_
  refine Ok.seq ?_
  refine OQ ?_
  iterate 4 (refine EV ?_)
  refine ON ?_
  refine Ok.cond (b := _) (by simp only [kE, kT, kL, kC] <;> rfl) (fun hb6 => ?_) (fun hb6 => ?_)
  ·
   try simp only [bsimp] at hb6
   refine Ok.region ?_
   iterate 3 (refine EV ?_)
   refine ON ?_
   refine Ok.region ?_
   iterate 4 (refine EV ?_)
   refine OkOps.ev tab_ok rfl (ev_cut (by simp only [kE, kT, kL, kC] <;> rfl) (by simp only [kE, kT, kL, kC] <;> rfl) (by simp only [kE, kT, kL, kC] <;> rfl) rfl (by omega) (by omega)) (by simp only [kP] <;> rfl) ?_
   refine OkOps.ev tab_ok rfl (ev_bs (by simp only [kT] <;> rfl) (by simp only [kT] <;> rfl) (by decide) (by decide) (by simp only [kE, kT, kL, kC, List.map_cons, List.map_nil] <;> rfl) (by simp only [kfe, beq_self_eq_true, Bool.and_true, Bool.true_and, decide_true, Nat.zero_add, Nat.lt_add_one, Nat.reduceLT, Nat.reduceAdd, Nat.zero_lt_succ, if_true, ↓reduceIte] <;> rfl)) (by simp only [kP] <;> rfl) ?_
   refine OkOps.append tab_ok rfl rfl (by simp only [kT] <;> rfl) (by simp only [kT] <;> rfl) (by decide) rfl (by simp only [kE, kT, kL, kC] <;> rfl) (.inl ⟨_, _, by simp only [kE, kT, kL, kC] <;> rfl⟩) (by omega) (by omega) (by simp only [List.length_map, List.length_cons, List.length_nil]; omega) (by simp only [List.length_map, List.length_cons, List.length_nil]; omega) (by simp [V.one]) (by simp only [V.killL, V.killLL, V.travL, V.travLL, V.trav, killS, killP, Nat.reduceEqDiff, ↓reduceIte, reduceCtorEq, if_true, if_false, List.append_nil, List.nil_append, List.cons_append, zz, zf, zy] <;> rfl) (by simp only [V.killL, V.killLL, V.travL, V.travLL, V.trav, killS, killP, Nat.reduceEqDiff, ↓reduceIte, reduceCtorEq, if_true, if_false, List.append_nil, List.nil_append, List.cons_append, zz, zf, zy, kP] <;> rfl) (rfl) ?_
   refine EV ?_
   refine ON ?_
   refine Ok.region ?_
   iterate 3 (refine EV ?_)
   refine ON ?_
   refine ⟨i + 1, ?_, rfl, hi, by omega⟩
   simp only [V.renL, V.travL, V.travLL, V.trav, frz, zz, zf, zy, Nat.reduceLeDiff, ↓reduceIte]
   refine ⟨?_, ?_, ?_, ?_, ?_, ?_, ?_, ?_, ?_, ?_, ?_, ?_, ?_, ?_, ?_, ?_, ?_, ?_, ?_, ?_, ?_, ?_, ?_, ?_, ?_, ?_, ?_, ?_, ?_, trivial⟩ <;> first | exact le_any _ | with_reducible exact le_rfl' _ | (first | exact le_rfl' _ | (rw [hw]; exact le_rfl' _) | (rw [pieces_next, List.map_append, piece_cut (by omega)]; exact le_rfl' _)) | exact le_rfl' _
  ·
   try simp only [bsimp] at hb6
   refine Ok.skip ?_
   refine Ok.region ?_
   iterate 4 (refine EV ?_)
   refine OkOps.ev tab_ok rfl (ev_cut (by simp only [kE, kT, kL, kC] <;> rfl) (by simp only [kE, kT, kL, kC] <;> rfl) (by simp only [kE, kT, kL, kC] <;> rfl) rfl (by omega) (by omega)) (by simp only [kP] <;> rfl) ?_
   refine OkOps.ev tab_ok rfl (ev_bs (by simp only [kT] <;> rfl) (by simp only [kT] <;> rfl) (by decide) (by decide) (by simp only [kE, kT, kL, kC, List.map_cons, List.map_nil] <;> rfl) (by simp only [kfe, beq_self_eq_true, Bool.and_true, Bool.true_and, decide_true, Nat.zero_add, Nat.lt_add_one, Nat.reduceLT, Nat.reduceAdd, Nat.zero_lt_succ, if_true, ↓reduceIte] <;> rfl)) (by simp only [kP] <;> rfl) ?_
   refine OkOps.append tab_ok rfl rfl (by simp only [kT] <;> rfl) (by simp only [kT] <;> rfl) (by decide) rfl (by simp only [kE, kT, kL, kC] <;> rfl) (.inl ⟨_, _, by simp only [kE, kT, kL, kC] <;> rfl⟩) (by omega) (by omega) (by simp only [List.length_map, List.length_cons, List.length_nil]; omega) (by simp only [List.length_map, List.length_cons, List.length_nil]; omega) (by simp [V.one]) (by simp only [V.killL, V.killLL, V.travL, V.travLL, V.trav, killS, killP, Nat.reduceEqDiff, ↓reduceIte, reduceCtorEq, if_true, if_false, List.append_nil, List.nil_append, List.cons_append, zz, zf, zy] <;> rfl) (by simp only [V.killL, V.killLL, V.travL, V.travLL, V.trav, killS, killP, Nat.reduceEqDiff, ↓reduceIte, reduceCtorEq, if_true, if_false, List.append_nil, List.nil_append, List.cons_append, zz, zf, zy, kP] <;> rfl) (rfl) ?_
   refine EV ?_
   refine ON ?_
   refine Ok.region ?_
   iterate 3 (refine EV ?_)
   refine ON ?_
   refine ⟨i + 1, ?_, rfl, hi, by omega⟩
   simp only [V.renL, V.travL, V.travLL, V.trav, frz, zz, zf, zy, Nat.reduceLeDiff, ↓reduceIte]
   refine ⟨?_, ?_, ?_, ?_, ?_, ?_, ?_, ?_, ?_, ?_, ?_, ?_, ?_, ?_, ?_, ?_, ?_, ?_, ?_, ?_, ?_, ?_, ?_, ?_, ?_, ?_, ?_, ?_, ?_, trivial⟩ <;> first | exact le_any _ | with_reducible exact le_rfl' _ | (first | exact le_rfl' _ | (rw [hw]; exact le_rfl' _) | (rw [pieces_next, List.map_append, piece_cut (by omega)]; exact le_rfl' _)) | exact le_rfl' _
 ·
  try simp only [bsimp] at hb3
  obtain rfl := pieceN_ge (t := t) (k := i) (by omega) h1
  refine Ok.exit ?_
  refine OQ ?_
  iterate 2 (refine EV ?_)
  refine ON ?_
  refine Ok.ret ?_
  with_reducible repeat (first | refine thenQ_ret ?_ | refine blockQ_ret ?_)
  refine RT ?_
  first | rfl | (simp [V.erase, V.trav, V.travL, V.travLL, packV, zz, zf, zy]; done)
theorem p_impl_LinkPut (l : Link) (t : Str) (h : l.way.length ≤ 2097152) : Pure Tryz.prog 56 [.agg (cLink l), .str t] (vLB (linkPut l t)) := by
 refine Pure.of (by simp [V.dat, V.datL, V.datLL, zz, zf, zy]) (OkCall.enter' tab_ok Tryz.func56 rfl (t := [.agg (cLink l), .str t, .any, .any, .any, .any, .any, .any, .any, .any, .any, .any, .any, .any, .any, .any, .any, .any, .any, .any, .any, .any, .any, .any, .any, .any, .any]) rfl ?_)
 refine OQ ?_
 iterate 3 (refine EV ?_)
 refine ON ?_
 refine OQ ?_
 refine EV ?_
 refine OkOps.S' rfl (OpS.pure' rfl (by simp only [kE, kT, kL, kC] <;> rfl) (by simp only [kE, kT, kL, kC, V.eraseL, V.erase, V.travL, V.trav, zz, zf, zy] <;> rfl) cl123 (by simp [V.dat, V.datL, V.datLL, zz, zf, zy]) (p_impl_copyLink l h)) (by simp only [V.cnt, V.cntL, zz, zf, zy, Nat.add_zero, Nat.reduceAdd] <;> rfl) (by simp only [kP, V.tag, V.tagL, V.cnt, V.cntL, zz, zf, zy, Nat.add_zero, Nat.reduceAdd] <;> rfl) ?_
 refine EV ?_
 refine OkOps.storeE tab_ok rfl rfl (by simp only [kE, kT, kL, kC] <;> rfl) ⟨_, _, by simp only [kE]; rfl⟩ (by first | (simp [V.labelsL, V.labelsLL, V.labels, zz, zf, zy]; done) | (simp [-List.map_map, -List.map_set, -List.map_drop, -List.map_take, -List.map_tail, -List.drop_one, V.labelsL, V.labelsLL, V.labels, zz, zf, zy]; done)) (by simp only [eq_self, V.updL, V.travL, V.travLL, V.trav, updS, updP, and_self, true_and, and_true, false_and, and_false, Nat.reduceEqDiff, Nat.reduceSub, Nat.le_refl, Nat.zero_le, ↓reduceIte, if_true, if_false, kP, zz, zf, zy] <;> rfl) (rfl) ?_
 refine ON ?_
 refine Ok.seq ?_
 refine Ok.seqC [(18, .bool (linkFull l t))] [9, 10, 11, 12, 13, 14, 15, 16, 17] (by simp only [kover] <;> rfl) ?_ ?_
 ·
  refine Ok.region ?_
  iterate 5 (refine EV ?_)
  refine OkOps.split (d := 13) (by simp only [kE, kT, kL, kC] <;> rfl) (by simp only [kP] <;> rfl) (by simp only [kP] <;> rfl) (fun hg2_4 => ?_) (fun hg2_4 => ?_)
  ·
   try simp only [bsimp] at hg2_4
   refine OkOps.offU rfl rfl (.inl (by simp only [kE, kT, kL, kC, Bool.not_true, Bool.not_false])) (by simp only [kP] <;> rfl) ?_
   refine OkOps.offU rfl rfl (.inl (by simp only [kE, kT, kL, kC, Bool.not_true, Bool.not_false])) (by simp only [kP] <;> rfl) ?_
   refine OkOps.offU rfl rfl (.inl (by simp only [kE, kT, kL, kC, Bool.not_true, Bool.not_false])) (by simp only [kP] <;> rfl) ?_
   refine OkOps.offU rfl rfl (.inl (by simp only [kE, kT, kL, kC, Bool.not_true, Bool.not_false])) (by simp only [kP] <;> rfl) ?_
   refine EV ?_
   refine ON ?_
   refine ⟨rfl, ?_, rfl, rfl⟩
   refine ⟨?_, ?_, ?_, ?_, ?_, ?_, ?_, ?_, ?_, ?_, ?_, ?_, ?_, ?_, ?_, ?_, ?_, ?_, ?_, ?_, ?_, ?_, ?_, ?_, ?_, ?_, ?_, trivial⟩ <;> first | exact le_any _ | with_reducible exact le_rfl' _ | (refine .inl (congrArg V.bool ?_); (first | (simp [linkFull, *]; done) | (simp [linkFull, *] <;> omega) | (rw [Bool.eq_iff_iff]; simp [linkFull, *] <;> omega) | (simp_all [linkFull]; done) | (simp_all [linkFull]; omega))) | exact le_rfl' _
  ·
   try simp only [bsimp] at hg2_4
   refine OO ?_
   refine EV ?_
   refine OO ?_
   refine EV ?_
   refine OO ?_
   refine OkOps.S0 rfl (OpS.weak' rfl (by simp only [kE, kT, kL, kC] <;> rfl) (by simp only [kE, kT, kL, kC] <;> rfl) cl124 (w_impl_within _ _ _)) (by simp only [kP] <;> rfl) ?_
   refine OO ?_
   iterate 2 (refine EV ?_)
   refine ON ?_
   refine ⟨rfl, ?_, rfl, rfl⟩
   refine ⟨?_, ?_, ?_, ?_, ?_, ?_, ?_, ?_, ?_, ?_, ?_, ?_, ?_, ?_, ?_, ?_, ?_, ?_, ?_, ?_, ?_, ?_, ?_, ?_, ?_, ?_, ?_, trivial⟩ <;> first | exact le_any _ | with_reducible exact le_rfl' _ | (refine .inl (congrArg V.bool ?_); (first | (simp [linkFull, *]; done) | (simp [linkFull, *] <;> omega) | (rw [Bool.eq_iff_iff]; simp [linkFull, *] <;> omega) | (simp_all [linkFull]; done) | (simp_all [linkFull]; omega))) | exact le_rfl' _
 ·
  refine Ok.cond (b := _) (by simp only [kE, kT, kL, kC] <;> rfl) (fun hb2 => ?_) (fun hb2 => ?_)
  ·
   try simp only [bsimp] at hb2
   rw [linkPut_t hb2]
   refine OQ ?_
   refine EV ?_
   refine OkOps.storeE tab_ok rfl rfl (by simp only [kE, kT, kL, kC] <;> rfl) ⟨_, _, by simp only [kE]; rfl⟩ (by first | (simp [V.labelsL, V.labelsLL, V.labels, zz, zf, zy]; done) | (simp [-List.map_map, -List.map_set, -List.map_drop, -List.map_take, -List.map_tail, -List.drop_one, V.labelsL, V.labelsLL, V.labels, zz, zf, zy]; done)) (by simp only [eq_self, V.updL, V.travL, V.travLL, V.trav, updS, updP, and_self, true_and, and_true, false_and, and_false, Nat.reduceEqDiff, Nat.reduceSub, Nat.le_refl, Nat.zero_le, ↓reduceIte, if_true, if_false, kP, zz, zf, zy] <;> rfl) (rfl) ?_
   refine EV ?_
   refine ON ?_
   refine Ok.ret ?_
   with_reducible repeat (first | refine thenQ_ret ?_ | refine blockQ_ret ?_)
   refine RT ?_
   exact ⟨by simp [V.erase, V.trav, V.travL, V.travLL, packV, zz, zf], by simp [V.labels, V.labelsL, V.labelsLL, packV, zz, zf], by simp [V.labels, V.labelsL, V.labelsLL, packV, zz, zf]⟩
  ·
   try simp only [bsimp] at hb2
   rw [linkPut_f hb2]
   refine Ok.skip ?_
   refine OQ ?_
   iterate 3 (refine EV ?_)
   refine OkOps.ev tab_ok rfl (ev_bs (by simp only [kT] <;> rfl) (by simp only [kT] <;> rfl) (by decide) (by decide) (by simp only [kE, kT, kL, kC, List.map_cons, List.map_nil] <;> rfl) (by simp only [kfe, beq_self_eq_true, Bool.and_true, Bool.true_and, decide_true, Nat.zero_add, Nat.lt_add_one, Nat.reduceLT, Nat.reduceAdd, Nat.zero_lt_succ, if_true, ↓reduceIte] <;> rfl)) (by simp only [kP] <;> rfl) ?_
   refine OkOps.append tab_ok rfl rfl (by simp only [kT] <;> rfl) (by simp only [kT] <;> rfl) (by decide) rfl (by simp only [kE, kT, kL, kC] <;> rfl) (.inl ⟨_, _, by simp only [kE, kT, kL, kC] <;> rfl⟩) (by omega) (by omega) (by simp only [List.length_map, List.length_cons, List.length_nil]; omega) (by simp only [List.length_map, List.length_cons, List.length_nil]; omega) (by simp [V.one]) (by simp only [V.killL, V.killLL, V.travL, V.travLL, V.trav, killS, killP, Nat.reduceEqDiff, ↓reduceIte, reduceCtorEq, if_true, if_false, List.append_nil, List.nil_append, List.cons_append, zz, zf, zy] <;> rfl) (by simp only [V.killL, V.killLL, V.travL, V.travLL, V.trav, killS, killP, Nat.reduceEqDiff, ↓reduceIte, reduceCtorEq, if_true, if_false, List.append_nil, List.nil_append, List.cons_append, zz, zf, zy, kP] <;> rfl) (rfl) ?_
   refine EV ?_
   refine OkOps.storeE tab_ok rfl rfl (by simp only [kE, kT, kL, kC] <;> rfl) ⟨_, _, by simp only [kE]; rfl⟩ (by first | (simp [V.labelsL, V.labelsLL, V.labels, zz, zf, zy]; done) | (simp [-List.map_map, -List.map_set, -List.map_drop, -List.map_take, -List.map_tail, -List.drop_one, V.labelsL, V.labelsLL, V.labels, zz, zf, zy]; done)) (by simp only [eq_self, V.updL, V.travL, V.travLL, V.trav, updS, updP, and_self, true_and, and_true, false_and, and_false, Nat.reduceEqDiff, Nat.reduceSub, Nat.le_refl, Nat.zero_le, ↓reduceIte, if_true, if_false, kP, zz, zf, zy] <;> rfl) (rfl) ?_
   refine ON ?_
   refine OQ ?_
   refine EV ?_
   refine OkOps.storeE tab_ok rfl rfl (by simp only [kE, kT, kL, kC] <;> rfl) ⟨_, _, by simp only [kE]; rfl⟩ (by first | (simp [V.labelsL, V.labelsLL, V.labels, zz, zf, zy]; done) | (simp [-List.map_map, -List.map_set, -List.map_drop, -List.map_take, -List.map_tail, -List.drop_one, V.labelsL, V.labelsLL, V.labels, zz, zf, zy]; done)) (by simp only [eq_self, V.updL, V.travL, V.travLL, V.trav, updS, updP, and_self, true_and, and_true, false_and, and_false, Nat.reduceEqDiff, Nat.reduceSub, Nat.le_refl, Nat.zero_le, ↓reduceIte, if_true, if_false, kP, zz, zf, zy] <;> rfl) (rfl) ?_
   refine EV ?_
   refine ON ?_
   refine Ok.ret ?_
   with_reducible repeat (first | refine thenQ_ret ?_ | refine blockQ_ret ?_)
   refine RT ?_
   exact ⟨by simp [V.erase, V.trav, V.travL, V.travLL, packV, zz, zf], by simp [V.labels, V.labelsL, V.labelsLL, packV, zz, zf], by simp [V.labels, V.labelsL, V.labelsLL, packV, zz, zf]⟩
theorem p_spec_LinkPut (l : Link) (t : Str) (h : l.way.length ≤ 2097152) : Pure Tryz.prog 51 [.agg (cLink l), .str t] (vLB (linkPut l t)) := by
 refine Pure.of (by simp [V.dat, V.datL, V.datLL, zz, zf, zy]) (OkCall.enter' tab_ok Tryz.func51 rfl (t := [.agg (cLink l), .str t, .any, .any, .any, .any, .any, .any, .any, .any, .any, .any, .any, .any, .any, .any, .any, .any, .any, .any, .any, .any, .any, .any, .any, .any, .any]) rfl ?_)
 refine OQ ?_
 iterate 3 (refine EV ?_)
 refine ON ?_
 refine OQ ?_
 refine EV ?_
 refine OkOps.S' rfl (OpS.pure' rfl (by simp only [kE, kT, kL, kC] <;> rfl) (by simp only [kE, kT, kL, kC, V.eraseL, V.erase, V.travL, V.trav, zz, zf, zy] <;> rfl) cl117 (by simp [V.dat, V.datL, V.datLL, zz, zf, zy]) (p_spec_l17Copy l h)) (by simp only [V.cnt, V.cntL, zz, zf, zy, Nat.add_zero, Nat.reduceAdd] <;> rfl) (by simp only [kP, V.tag, V.tagL, V.cnt, V.cntL, zz, zf, zy, Nat.add_zero, Nat.reduceAdd] <;> rfl) ?_
 refine EV ?_
 refine OkOps.storeE tab_ok rfl rfl (by simp only [kE, kT, kL, kC] <;> rfl) ⟨_, _, by simp only [kE]; rfl⟩ (by first | (simp [V.labelsL, V.labelsLL, V.labels, zz, zf, zy]; done) | (simp [-List.map_map, -List.map_set, -List.map_drop, -List.map_take, -List.map_tail, -List.drop_one, V.labelsL, V.labelsLL, V.labels, zz, zf, zy]; done)) (by simp only [eq_self, V.updL, V.travL, V.travLL, V.trav, updS, updP, and_self, true_and, and_true, false_and, and_false, Nat.reduceEqDiff, Nat.reduceSub, Nat.le_refl, Nat.zero_le, ↓reduceIte, if_true, if_false, kP, zz, zf, zy] <;> rfl) (rfl) ?_
 refine ON ?_
 refine Ok.seq ?_
 refine Ok.seqC [(18, .bool (linkFull l t))] [9, 10, 11, 12, 13, 14, 15, 16, 17] (by simp only [kover] <;> rfl) ?_ ?_
 ·
  refine Ok.region ?_
  iterate 5 (refine EV ?_)
  refine OkOps.split (d := 13) (by simp only [kE, kT, kL, kC] <;> rfl) (by simp only [kP] <;> rfl) (by simp only [kP] <;> rfl) (fun hg2_4 => ?_) (fun hg2_4 => ?_)
  ·
   try simp only [bsimp] at hg2_4
   refine OkOps.offU rfl rfl (.inl (by simp only [kE, kT, kL, kC, Bool.not_true, Bool.not_false])) (by simp only [kP] <;> rfl) ?_
   refine OkOps.offU rfl rfl (.inl (by simp only [kE, kT, kL, kC, Bool.not_true, Bool.not_false])) (by simp only [kP] <;> rfl) ?_
   refine OkOps.offU rfl rfl (.inl (by simp only [kE, kT, kL, kC, Bool.not_true, Bool.not_false])) (by simp only [kP] <;> rfl) ?_
   refine OkOps.offU rfl rfl (.inl (by simp only [kE, kT, kL, kC, Bool.not_true, Bool.not_false])) (by simp only [kP] <;> rfl) ?_
   refine EV ?_
   refine ON ?_
   refine ⟨rfl, ?_, rfl, rfl⟩
   refine ⟨?_, ?_, ?_, ?_, ?_, ?_, ?_, ?_, ?_, ?_, ?_, ?_, ?_, ?_, ?_, ?_, ?_, ?_, ?_, ?_, ?_, ?_, ?_, ?_, ?_, ?_, ?_, trivial⟩ <;> first | exact le_any _ | with_reducible exact le_rfl' _ | (refine .inl (congrArg V.bool ?_); (first | (simp [linkFull, *]; done) | (simp [linkFull, *] <;> omega) | (rw [Bool.eq_iff_iff]; simp [linkFull, *] <;> omega) | (simp_all [linkFull]; done) | (simp_all [linkFull]; omega))) | exact le_rfl' _
  ·
   try simp only [bsimp] at hg2_4
   refine OO ?_
   refine EV ?_
   refine OO ?_
   refine EV ?_
   refine OO ?_
   refine OkOps.S0 rfl (OpS.weak' rfl (by simp only [kE, kT, kL, kC] <;> rfl) (by simp only [kE, kT, kL, kC] <;> rfl) cl118 (w_spec_l01In _ _ _)) (by simp only [kP] <;> rfl) ?_
   refine OO ?_
   iterate 2 (refine EV ?_)
   refine ON ?_
   refine ⟨rfl, ?_, rfl, rfl⟩
   refine ⟨?_, ?_, ?_, ?_, ?_, ?_, ?_, ?_, ?_, ?_, ?_, ?_, ?_, ?_, ?_, ?_, ?_, ?_, ?_, ?_, ?_, ?_, ?_, ?_, ?_, ?_, ?_, trivial⟩ <;> first | exact le_any _ | with_reducible exact le_rfl' _ | (refine .inl (congrArg V.bool ?_); (first | (simp [linkFull, *]; done) | (simp [linkFull, *] <;> omega) | (rw [Bool.eq_iff_iff]; simp [linkFull, *] <;> omega) | (simp_all [linkFull]; done) | (simp_all [linkFull]; omega))) | exact le_rfl' _
 ·
  refine Ok.cond (b := _) (by simp only [kE, kT, kL, kC] <;> rfl) (fun hb2 => ?_) (fun hb2 => ?_)
  ·
   try simp only [bsimp] at hb2
   rw [linkPut_t hb2]
   refine OQ ?_
   refine EV ?_
   refine OkOps.storeE tab_ok rfl rfl (by simp only [kE, kT, kL, kC] <;> rfl) ⟨_, _, by simp only [kE]; rfl⟩ (by first | (simp [V.labelsL, V.labelsLL, V.labels, zz, zf, zy]; done) | (simp [-List.map_map, -List.map_set, -List.map_drop, -List.map_take, -List.map_tail, -List.drop_one, V.labelsL, V.labelsLL, V.labels, zz, zf, zy]; done)) (by simp only [eq_self, V.updL, V.travL, V.travLL, V.trav, updS, updP, and_self, true_and, and_true, false_and, and_false, Nat.reduceEqDiff, Nat.reduceSub, Nat.le_refl, Nat.zero_le, ↓reduceIte, if_true, if_false, kP, zz, zf, zy] <;> rfl) (rfl) ?_
   refine EV ?_
   refine ON ?_
   refine Ok.ret ?_
   with_reducible repeat (first | refine thenQ_ret ?_ | refine blockQ_ret ?_)
   refine RT ?_
   exact ⟨by simp [V.erase, V.trav, V.travL, V.travLL, packV, zz, zf], by simp [V.labels, V.labelsL, V.labelsLL, packV, zz, zf], by simp [V.labels, V.labelsL, V.labelsLL, packV, zz, zf]⟩
  ·
   try simp only [bsimp] at hb2
   rw [linkPut_f hb2]
   refine Ok.skip ?_
   refine OQ ?_
   iterate 3 (refine EV ?_)
   refine OkOps.ev tab_ok rfl (ev_bs (by simp only [kT] <;> rfl) (by simp only [kT] <;> rfl) (by decide) (by decide) (by simp only [kE, kT, kL, kC, List.map_cons, List.map_nil] <;> rfl) (by simp only [kfe, beq_self_eq_true, Bool.and_true, Bool.true_and, decide_true, Nat.zero_add, Nat.lt_add_one, Nat.reduceLT, Nat.reduceAdd, Nat.zero_lt_succ, if_true, ↓reduceIte] <;> rfl)) (by simp only [kP] <;> rfl) ?_
   refine OkOps.append tab_ok rfl rfl (by simp only [kT] <;> rfl) (by simp only [kT] <;> rfl) (by decide) rfl (by simp only [kE, kT, kL, kC] <;> rfl) (.inl ⟨_, _, by simp only [kE, kT, kL, kC] <;> rfl⟩) (by omega) (by omega) (by simp only [List.length_map, List.length_cons, List.length_nil]; omega) (by simp only [List.length_map, List.length_cons, List.length_nil]; omega) (by simp [V.one]) (by simp only [V.killL, V.killLL, V.travL, V.travLL, V.trav, killS, killP, Nat.reduceEqDiff, ↓reduceIte, reduceCtorEq, if_true, if_false, List.append_nil, List.nil_append, List.cons_append, zz, zf, zy] <;> rfl) (by simp only [V.killL, V.killLL, V.travL, V.travLL, V.trav, killS, killP, Nat.reduceEqDiff, ↓reduceIte, reduceCtorEq, if_true, if_false, List.append_nil, List.nil_append, List.cons_append, zz, zf, zy, kP] <;> rfl) (rfl) ?_
   refine EV ?_
   refine OkOps.storeE tab_ok rfl rfl (by simp only [kE, kT, kL, kC] <;> rfl) ⟨_, _, by simp only [kE]; rfl⟩ (by first | (simp [V.labelsL, V.labelsLL, V.labels, zz, zf, zy]; done) | (simp [-List.map_map, -List.map_set, -List.map_drop, -List.map_take, -List.map_tail, -List.drop_one, V.labelsL, V.labelsLL, V.labels, zz, zf, zy]; done)) (by simp only [eq_self, V.updL, V.travL, V.travLL, V.trav, updS, updP, and_self, true_and, and_true, false_and, and_false, Nat.reduceEqDiff, Nat.reduceSub, Nat.le_refl, Nat.zero_le, ↓reduceIte, if_true, if_false, kP, zz, zf, zy] <;> rfl) (rfl) ?_
   refine ON ?_
   refine OQ ?_
   refine EV ?_
   refine OkOps.storeE tab_ok rfl rfl (by simp only [kE, kT, kL, kC] <;> rfl) ⟨_, _, by simp only [kE]; rfl⟩ (by first | (simp [V.labelsL, V.labelsLL, V.labels, zz, zf, zy]; done) | (simp [-List.map_map, -List.map_set, -List.map_drop, -List.map_take, -List.map_tail, -List.drop_one, V.labelsL, V.labelsLL, V.labels, zz, zf, zy]; done)) (by simp only [eq_self, V.updL, V.travL, V.travLL, V.trav, updS, updP, and_self, true_and, and_true, false_and, and_false, Nat.reduceEqDiff, Nat.reduceSub, Nat.le_refl, Nat.zero_le, ↓reduceIte, if_true, if_false, kP, zz, zf, zy] <;> rfl) (rfl) ?_
   refine EV ?_
   refine ON ?_
   refine Ok.ret ?_
   with_reducible repeat (first | refine thenQ_ret ?_ | refine blockQ_ret ?_)
   refine RT ?_
   exact ⟨by simp [V.erase, V.trav, V.travL, V.travLL, packV, zz, zf], by simp [V.labels, V.labelsL, V.labelsLL, packV, zz, zf], by simp [V.labels, V.labelsL, V.labelsLL, packV, zz, zf]⟩
theorem w_spec_LinkPut (l : Link) (t : Str) (h : l.way.length ≤ 2097152) : Weak Tryz.prog 51 [.agg (cLink l), .str t] (vLB (linkPut l t)) := by
  have h := Pure.weak (by simp [V.dat, V.datL, V.datLL, zz, zf, zy]) (p_spec_LinkPut l t h) (by simp [V.eraseL, V.erase, V.trav, V.travL, zz, zf, zy])
  simpa [V.erase, V.trav, V.travL, zz, zf, zy] using h
theorem c_laws_markLink (v0 : Int) (L1 : Nat) (e1 : List (List V)) (v2 : Int) (v3 : Int) (k : Nat) (q1 : ∀ r ∈ e1, isText r) (hn : (V.labelsL [.int .i64 v0, .sl (L1 + 1) 1 0 e1, .int .i64 v2, .int .i64 v3]).Nodup) (hk : k + V.mnLL e1 ≤ 4611686018427387904) {h : List V} {n : Nat} (hlt : ∀ y ∈ V.labelsL [.int .i64 v0, .sl (L1 + 1) 1 0 e1, .int .i64 v2, .int .i64 v3], y < n) : OkCall Tryz.prog 65 [.agg [.int .i64 v0, .sl (L1 + 1) 1 0 e1, .int .i64 v2, .int .i64 v3], .int .i64 (k : Int)] h n (MarkQ (· ∈ V.labelsL [.int .i64 v0, .sl (L1 + 1) 1 0 e1, .int .i64 v2, .int .i64 v3]) (.agg [.int .i64 v0, .sl (L1 + 1) 1 0 e1, .int .i64 v2, .int .i64 v3]) (.agg [.int .i64 v0, .sl (L1 + 1) 1 0 (V.mkLL (k) e1), .int .i64 v2, .int .i64 v3]) (.int .i64 ((k + V.mnLL e1 : Nat) : Int)) h (n + 1)) := by
 refine OkCall.enter' tab_ok Tryz.func65 rfl (t := [.agg [.int .i64 v0, .sl (L1 + 1) 1 0 e1, .int .i64 v2, .int .i64 v3], .int .i64 (k : Int), .any, .any, .any, .any, .any, .any, .any, .any]) rfl ?_
 refine OQ ?_
 iterate 2 (refine EV ?_)
 refine ON ?_
 refine OQ ?_
 refine OkOps.ofMap ?_
 have hU := Hom.id' (· ∈ V.labelsL [.int .i64 v0, .sl (L1 + 1) 1 0 e1, .int .i64 v2, .int .i64 v3])
 have hv : id (V.agg [.int .i64 v0, .sl (L1 + 1) 1 0 e1, .int .i64 v2, .int .i64 v3]) = .agg [.int .i64 v0, .sl (L1 + 1) 1 0 e1, .int .i64 v2, .int .i64 v3] := rfl
 obtain ⟨nc0, da0, db0, du0⟩ := lab_mid (a := [.int .i64 v0]) (c := [.sl (L1 + 1) 1 0 e1]) (b := [.int .i64 v2, .int .i64 v3]) hn
 have no0 : ¬ n ∈ V.labelsL [.sl (L1 + 1) 1 0 e1] := fun h => Nat.lt_irrefl _ (hlt n (du0 n h))
 have ncs0 : ((L1 + 1) :: V.labelsLL e1).Nodup := by have := nc0; simp only [V.labelsL, V.labels, List.append_nil] at this; exact this
 have sm0 : ∀ y, y ∈ (L1 + 1) :: V.labelsLL e1 → y ∈ V.labelsL [.sl (L1 + 1) 1 0 e1] := fun y hy => by simp only [V.labelsL, V.labels, List.append_nil]; exact hy
 iterate 3 (refine EV ?_)
 refine OkOps.turnU 0 rfl rfl (by simp only [kE, kT, kL, kC] <;> rfl) (by simp only [kE, kT, kL, kC] <;> rfl) cl66 (fun h => c_laws_markStringS e1 _ L1 q1 ncs0 (by omega)) (by first | rfl | (simp only [Nat.add_zero, Nat.reduceAdd] <;> rfl)) hU hv (fun y hy => du0 y (sm0 y hy)) (fun W hW ha => by simp only [List.map_cons, List.map_nil, List.map_append, hW.int, hW.str, hW.bool, hW.any, hW.tup0, hW.agg, ha, kP, hW.ptr n _ _ _ (fun h => no0 (sm0 n h))] <;> rfl) (fun W hW ha => by simp only [List.map_cons, List.map_nil, List.map_append, hW.int, hW.str, hW.bool, hW.any, hW.tup0, hW.agg, ha, kP, hW.ptr n _ _ _ (fun h => no0 (sm0 n h))] <;> rfl) ?_
 intro U hU hv
 refine EV ?_
 refine ON ?_
 refine Ok.seq ?_
 refine Ok.drop [5, 6, 7, 8] (by simp only [kover] <;> rfl) ?_
 refine Ok.region ?_
 iterate 2 (refine EV ?_)
 refine ON ?_
 refine Ok.ret ?_
 with_reducible repeat (first | refine thenQ_ret ?_ | refine blockQ_ret ?_)
 refine RT ?_
 exact ⟨rfl, rfl, U, hU, hv, rfl⟩
theorem c_laws_markSync (v0 : Int) (v1 : Int) (L2 : Nat) (e2 : List (List V)) (v3 : Int) (v4 : Int) (v5 : Int) (L6 : Nat) (e6 : List (List V)) (v7 : Bool) (v8 : Bool) (k : Nat) (q2 : ∀ r ∈ e2, isText r) (q6 : ∀ r ∈ e6, isText r) (hn : (V.labelsL [.int .i64 v0, .int .i64 v1, .sl (L2 + 1) 1 0 e2, .int .i64 v3, .int .i64 v4, .int .i64 v5, .sl (L6 + 1) 1 0 e6, .bool v7, .bool v8]).Nodup) (hk : k + V.mnLL e2 + V.mnLL e6 ≤ 4611686018427387904) {h : List V} {n : Nat} (hlt : ∀ y ∈ V.labelsL [.int .i64 v0, .int .i64 v1, .sl (L2 + 1) 1 0 e2, .int .i64 v3, .int .i64 v4, .int .i64 v5, .sl (L6 + 1) 1 0 e6, .bool v7, .bool v8], y < n) : OkCall Tryz.prog 15 [.agg [.int .i64 v0, .int .i64 v1, .sl (L2 + 1) 1 0 e2, .int .i64 v3, .int .i64 v4, .int .i64 v5, .sl (L6 + 1) 1 0 e6, .bool v7, .bool v8], .int .i64 (k : Int)] h n (MarkQ (· ∈ V.labelsL [.int .i64 v0, .int .i64 v1, .sl (L2 + 1) 1 0 e2, .int .i64 v3, .int .i64 v4, .int .i64 v5, .sl (L6 + 1) 1 0 e6, .bool v7, .bool v8]) (.agg [.int .i64 v0, .int .i64 v1, .sl (L2 + 1) 1 0 e2, .int .i64 v3, .int .i64 v4, .int .i64 v5, .sl (L6 + 1) 1 0 e6, .bool v7, .bool v8]) (.agg [.int .i64 v0, .int .i64 v1, .sl (L2 + 1) 1 0 (V.mkLL (k) e2), .int .i64 v3, .int .i64 v4, .int .i64 v5, .sl (L6 + 1) 1 0 (V.mkLL (k + V.mnLL e2) e6), .bool v7, .bool v8]) (.int .i64 ((k + V.mnLL e2 + V.mnLL e6 : Nat) : Int)) h (n + 2)) := by
 refine OkCall.enter' tab_ok Tryz.func15 rfl (t := [.agg [.int .i64 v0, .int .i64 v1, .sl (L2 + 1) 1 0 e2, .int .i64 v3, .int .i64 v4, .int .i64 v5, .sl (L6 + 1) 1 0 e6, .bool v7, .bool v8], .int .i64 (k : Int), .any, .any, .any, .any, .any, .any, .any, .any, .any, .any, .any, .any]) rfl ?_
 refine OQ ?_
 iterate 2 (refine EV ?_)
 refine ON ?_
 refine OQ ?_
 refine OkOps.ofMap ?_
 have hU := Hom.id' (· ∈ V.labelsL [.int .i64 v0, .int .i64 v1, .sl (L2 + 1) 1 0 e2, .int .i64 v3, .int .i64 v4, .int .i64 v5, .sl (L6 + 1) 1 0 e6, .bool v7, .bool v8])
 have hv : id (V.agg [.int .i64 v0, .int .i64 v1, .sl (L2 + 1) 1 0 e2, .int .i64 v3, .int .i64 v4, .int .i64 v5, .sl (L6 + 1) 1 0 e6, .bool v7, .bool v8]) = .agg [.int .i64 v0, .int .i64 v1, .sl (L2 + 1) 1 0 e2, .int .i64 v3, .int .i64 v4, .int .i64 v5, .sl (L6 + 1) 1 0 e6, .bool v7, .bool v8] := rfl
 obtain ⟨nc0, da0, db0, du0⟩ := lab_mid (a := [.int .i64 v0]) (c := [.int .i64 v1, .sl (L2 + 1) 1 0 e2, .int .i64 v3, .int .i64 v4]) (b := [.int .i64 v5, .sl (L6 + 1) 1 0 e6, .bool v7, .bool v8]) hn
 have no0 : ¬ n ∈ V.labelsL [.int .i64 v1, .sl (L2 + 1) 1 0 e2, .int .i64 v3, .int .i64 v4] := fun h => Nat.lt_irrefl _ (hlt n (du0 n h))
 obtain ⟨nc1, da1, db1, du1⟩ := lab_mid (a := [.int .i64 v0, .int .i64 v1, .sl (L2 + 1) 1 0 e2, .int .i64 v3, .int .i64 v4, .int .i64 v5]) (c := [.sl (L6 + 1) 1 0 e6]) (b := [.bool v7, .bool v8]) hn
 have no1 : ¬ n ∈ V.labelsL [.sl (L6 + 1) 1 0 e6] := fun h => Nat.lt_irrefl _ (hlt n (du1 n h))
 have ncs1 : ((L6 + 1) :: V.labelsLL e6).Nodup := by have := nc1; simp only [V.labelsL, V.labels, List.append_nil] at this; exact this
 have sm1 : ∀ y, y ∈ (L6 + 1) :: V.labelsLL e6 → y ∈ V.labelsL [.sl (L6 + 1) 1 0 e6] := fun y hy => by simp only [V.labelsL, V.labels, List.append_nil]; exact hy
 iterate 3 (refine EV ?_)
 refine OkOps.turnU 1 rfl rfl (by simp only [kE, kT, kL, kC] <;> rfl) (by simp only [kE, kT, kL, kC] <;> rfl) cl65 (fun h => c_laws_markLink v1 L2 e2 v3 v4 _ q2 nc0 (by omega) (fun y hy => by have := hlt y (du0 y hy); omega)) (by first | rfl | (simp only [Nat.add_zero, Nat.reduceAdd] <;> rfl)) hU hv (fun y hy => du0 y hy) (fun W hW ha => by have z6 := hW.far (.sl (L6 + 1) 1 0 e6) (fun y hy => db0 y (by simp only [V.labelsL, List.mem_append]; simp only [hy, true_or, or_true])); have zz6 := fun K => hW.far (.sl (L6 + 1) 1 0 (V.mkLL K e6)) (fun y hy => db0 y (by simp only [V.labels, mkLL_labels] at hy; simp only [V.labelsL, V.labels, List.mem_append]; simp only [hy, true_or, or_true])); have ha2 := ha; simp only [hW.agg, List.map_cons, List.map_nil, hW.int, hW.str, hW.bool, V.agg.injEq, List.cons.injEq, and_true, true_and] at ha2; simp only [List.map_cons, List.map_nil, List.map_append, hW.int, hW.str, hW.bool, hW.any, hW.tup0, hW.agg, ha, kP, hW.ptr n _ _ _ no0, z6, zz6, ha2] <;> rfl) (fun W hW ha => by have z6 := hW.far (.sl (L6 + 1) 1 0 e6) (fun y hy => db0 y (by simp only [V.labelsL, List.mem_append]; simp only [hy, true_or, or_true])); have zz6 := fun K => hW.far (.sl (L6 + 1) 1 0 (V.mkLL K e6)) (fun y hy => db0 y (by simp only [V.labels, mkLL_labels] at hy; simp only [V.labelsL, V.labels, List.mem_append]; simp only [hy, true_or, or_true])); have ha2 := ha; simp only [hW.agg, List.map_cons, List.map_nil, hW.int, hW.str, hW.bool, V.agg.injEq, List.cons.injEq, and_true, true_and] at ha2; simp only [List.map_cons, List.map_nil, List.map_append, hW.int, hW.str, hW.bool, hW.any, hW.tup0, hW.agg, ha, kP, hW.ptr n _ _ _ no0, z6, zz6, ha2] <;> rfl) ?_
 intro U hU hv
 refine EV ?_
 refine ON ?_
 refine Ok.seq ?_
 refine Ok.drop [5, 6, 7, 8] (by simp only [kover] <;> rfl) ?_
 refine Ok.region ?_
 iterate 3 (refine EV ?_)
 refine OkOps.turnU 0 rfl rfl (by simp only [kE, kT, kL, kC] <;> rfl) (by simp only [kE, kT, kL, kC] <;> rfl) cl66 (fun h => c_laws_markStringS e6 _ L6 q6 ncs1 (by omega)) (by first | rfl | (simp only [Nat.add_zero, Nat.reduceAdd] <;> rfl)) hU hv (fun y hy => du1 y (sm1 y hy)) (fun W hW ha => by have z2 := hW.far (.sl (L2 + 1) 1 0 e2) (fun y hy => (fun y hy h => da1 y hy (sm1 y h)) y (by simp only [V.labelsL, List.mem_append]; simp only [hy, true_or, or_true])); have zz2 := fun K => hW.far (.sl (L2 + 1) 1 0 (V.mkLL K e2)) (fun y hy => (fun y hy h => da1 y hy (sm1 y h)) y (by simp only [V.labels, mkLL_labels] at hy; simp only [V.labelsL, V.labels, List.mem_append]; simp only [hy, true_or, or_true])); simp only [List.map_cons, List.map_nil, List.map_append, hW.int, hW.str, hW.bool, hW.any, hW.tup0, hW.agg, ha, kP, hW.ptr n _ _ _ (fun h => no1 (sm1 n h)), z2, zz2] <;> rfl) (fun W hW ha => by have z2 := hW.far (.sl (L2 + 1) 1 0 e2) (fun y hy => (fun y hy h => da1 y hy (sm1 y h)) y (by simp only [V.labelsL, List.mem_append]; simp only [hy, true_or, or_true])); have zz2 := fun K => hW.far (.sl (L2 + 1) 1 0 (V.mkLL K e2)) (fun y hy => (fun y hy h => da1 y hy (sm1 y h)) y (by simp only [V.labels, mkLL_labels] at hy; simp only [V.labelsL, V.labels, List.mem_append]; simp only [hy, true_or, or_true])); simp only [List.map_cons, List.map_nil, List.map_append, hW.int, hW.str, hW.bool, hW.any, hW.tup0, hW.agg, ha, kP, hW.ptr n _ _ _ (fun h => no1 (sm1 n h)), z2, zz2] <;> rfl) ?_
 intro U hU hv
 refine EV ?_
 refine ON ?_
 refine Ok.seq ?_
 refine Ok.drop [9, 10, 11, 12] (by simp only [kover] <;> rfl) ?_
 refine Ok.region ?_
 iterate 2 (refine EV ?_)
 refine ON ?_
 refine Ok.ret ?_
 with_reducible repeat (first | refine thenQ_ret ?_ | refine blockQ_ret ?_)
 refine RT ?_
 exact ⟨rfl, rfl, U, hU, hv, rfl⟩
theorem w_laws_heldLink (x : Link) (k : Nat) (hk : k + V.mnLL (x.way.map cS) ≤ 4611686018427387904) : Weak Tryz.prog 67 [.agg [.int .i64 x.epoch, .sl 0 1 0 (V.mkLL (k) (x.way.map cS)), .int .i64 x.next, .int .i64 x.want], .int .i64 (k : Int)] (.int .i64 ((k + V.mnLL (x.way.map cS) : Nat) : Int)) := by
 refine Weak.enter tab_ok Tryz.func67 rfl (.inr (by simp [V.labelsL, V.labels, V.labelsLL, mkLL_labels, zz, zf, zy, or_imp, forall_and])) (t := [.agg [.int .i64 x.epoch, .sl 0 1 0 (V.mkLL (k) (x.way.map cS)), .int .i64 x.next, .int .i64 x.want], .int .i64 (k : Int), .any, .any, .any, .any, .any, .any, .any, .any, .any, .any]) rfl ?_
 refine OQ ?_
 iterate 2 (refine EV ?_)
 refine ON ?_
 refine OQ ?_
 iterate 3 (refine EV ?_)
 refine OkOps.S0 rfl (OpS.weak' rfl (by simp only [kE, kT, kL, kC] <;> rfl) (by simp only [kE, kT, kL, kC] <;> rfl) cl68 (w_laws_heldStringS x.way _ (by omega))) (by simp only [kP] <;> rfl) ?_
 refine EV ?_
 refine ON ?_
 refine Ok.seq ?_
 refine OQ ?_
 iterate 2 (refine EV ?_)
 refine ON ?_
 refine Ok.cond_false (by simp only [kE, kT, kL, kC] <;> first | rfl | (simp; done) | (simp; omega)) ?_
 refine Ok.skip ?_
 refine OQ ?_
 iterate 2 (refine EV ?_)
 refine ON ?_
 refine Ok.ret ?_
 with_reducible repeat (first | refine thenQ_ret ?_ | refine blockQ_ret ?_)
 refine RT ?_
 rfl
theorem w_laws_heldSync (x : Sync) (k : Nat) (hk : k + V.mnLL (x.link.way.map cS) + V.mnLL (x.pieces.map cS) ≤ 4611686018427387904) : Weak Tryz.prog 16 [.agg [.int .i64 x.epoch, .int .i64 x.link.epoch, .sl 0 1 0 (V.mkLL (k) (x.link.way.map cS)), .int .i64 x.link.next, .int .i64 x.link.want, .int .i64 x.total, .sl 0 1 0 (V.mkLL (k + V.mnLL (x.link.way.map cS)) (x.pieces.map cS)), .bool x.done, .bool x.failed], .int .i64 (k : Int)] (.int .i64 ((k + V.mnLL (x.link.way.map cS) + V.mnLL (x.pieces.map cS) : Nat) : Int)) := by
 refine Weak.enter tab_ok Tryz.func16 rfl (.inr (by simp [V.labelsL, V.labels, V.labelsLL, mkLL_labels, zz, zf, zy, or_imp, forall_and])) (t := [.agg [.int .i64 x.epoch, .int .i64 x.link.epoch, .sl 0 1 0 (V.mkLL (k) (x.link.way.map cS)), .int .i64 x.link.next, .int .i64 x.link.want, .int .i64 x.total, .sl 0 1 0 (V.mkLL (k + V.mnLL (x.link.way.map cS)) (x.pieces.map cS)), .bool x.done, .bool x.failed], .int .i64 (k : Int), .any, .any, .any, .any, .any, .any, .any, .any, .any, .any, .any, .any, .any, .any, .any, .any]) rfl ?_
 refine OQ ?_
 iterate 2 (refine EV ?_)
 refine ON ?_
 refine OQ ?_
 iterate 3 (refine EV ?_)
 refine OkOps.S0 rfl (OpS.weak' rfl (by simp only [kE, kT, kL, kC] <;> rfl) (by simp only [kE, kT, kL, kC] <;> rfl) cl67 (w_laws_heldLink x.link _ (by omega))) (by simp only [kP] <;> rfl) ?_
 refine EV ?_
 refine ON ?_
 refine Ok.seq ?_
 refine OQ ?_
 iterate 2 (refine EV ?_)
 refine ON ?_
 refine Ok.cond_false (by simp only [kE, kT, kL, kC] <;> first | rfl | (simp; done) | (simp; omega)) ?_
 refine Ok.skip ?_
 refine OQ ?_
 iterate 3 (refine EV ?_)
 refine OkOps.S0 rfl (OpS.weak' rfl (by simp only [kE, kT, kL, kC] <;> rfl) (by simp only [kE, kT, kL, kC] <;> rfl) cl68 (w_laws_heldStringS x.pieces _ (by omega))) (by simp only [kP] <;> rfl) ?_
 refine EV ?_
 refine ON ?_
 refine Ok.seq ?_
 refine OQ ?_
 iterate 2 (refine EV ?_)
 refine ON ?_
 refine Ok.cond_false (by simp only [kE, kT, kL, kC] <;> first | rfl | (simp; done) | (simp; omega)) ?_
 refine Ok.skip ?_
 refine OQ ?_
 iterate 2 (refine EV ?_)
 refine ON ?_
 refine Ok.ret ?_
 with_reducible repeat (first | refine thenQ_ret ?_ | refine blockQ_ret ?_)
 refine RT ?_
 rfl
end Go.Proofs.YtjhfabimacljhaaGreat.K

/- Walks: syncs begun. Printed by w2.py. -/
namespace Go.Proofs.YtjhfabimacljhaaGreat.K
open Go Go.RowKit
set_option linter.unusedVariables false
set_option linter.unusedSimpArgs false
set_option maxHeartbeats 4000000
set_option maxRecDepth 20000
theorem p_impl_put0 (e : Int) {t : Str} (h : pieceN t ≤ 1000) : Pure Tryz.prog 56 [.agg (cLink ⟨e, [], 1, 1⟩), .str (begH t)] (.tup [.agg (cLink (begL e t 0)), .bool true]) := by
  have q := p_impl_LinkPut ⟨e, [], 1, 1⟩ (begH t) (by simp)
  rw [beg_put0 e h] at q; exact q
theorem p_impl_put1 (e : Int) (t : Str) (i : Nat) : Pure Tryz.prog 56 [.agg (cLink (begL e t i)), .str (80 :: pieceT t i)] (.tup [.agg (cLink (begL e t (i + 1))), .bool (decide (i + 1 < 60))]) := by
  have q := p_impl_LinkPut (begL e t i) (80 :: pieceT t i) (Nat.le_trans (begL_way e t i) (by decide))
  rw [beg_put e t i] at q; exact q
theorem w_spec_put0 (e : Int) {t : Str} (h : pieceN t ≤ 1000) : Weak Tryz.prog 51 [.agg (cLink ⟨e, [], 1, 1⟩), .str (begH t)] (.tup [.agg (cLink (begL e t 0)), .bool true]) := by
  have q := w_spec_LinkPut ⟨e, [], 1, 1⟩ (begH t) (by simp)
  rw [beg_put0 e h] at q; exact q
theorem w_spec_put1 (e : Int) (t : Str) (i : Nat) : Weak Tryz.prog 51 [.agg (cLink (begL e t i)), .str (80 :: pieceT t i)] (.tup [.agg (cLink (begL e t (i + 1))), .bool (decide (i + 1 < 60))]) := by
  have q := w_spec_LinkPut (begL e t i) (80 :: pieceT t i) (Nat.le_trans (begL_way e t i) (by decide))
  rw [beg_put e t i] at q; exact q
theorem p_impl_SyncBegin (s : Store) (h : smStore s) (e : Int) : Pure Tryz.prog 11 [.agg (cStore s), .int .i64 e] (.tup [.agg (cSync (begY s e)), .bool (begOk s)]) := by
 have hn1 := stT_len s
 have hn2 : pieceN (stT s) ≤ 1000 := by unfold pieceN; omega
 have hn3 := varT_len5 (n := pieceN (stT s)) (by omega)
 have hbg : ([84] : Str) ++ varsZ [((pieceN (stT s) : Nat) : Int)] = begH (stT s) := by simp [varsZ, begH]
 refine Pure.of (by simp [V.dat, V.datL, V.datLL, zz, zf, zy]) (OkCall.enter' tab_ok Tryz.func11 rfl (t := [.agg (cStore s), .int .i64 e, .any, .any, .any, .any, .any, .any, .any, .any, .any, .any, .any, .any, .any, .any, .any, .any, .any, .any, .any, .any, .any, .any, .any, .any, .any, .any, .any, .any, .any, .any, .any, .any, .any, .any, .any, .any, .any, .any, .any, .any, .any, .any, .any, .any, .any, .any, .any, .any, .any, .any, .any, .any, .any, .any, .any, .any, .any, .any, .any]) rfl ?_)
 refine OQ ?_
 iterate 3 (refine EV ?_)
 refine ON ?_
 refine OQ ?_
 refine EV ?_
 refine OkOps.S0 rfl (OpS.weak' rfl (by simp only [kE, kT, kL, kC] <;> rfl) (by simp only [kE, kT, kL, kC] <;> rfl) cl55 (w_impl_StoreText s h)) (by simp only [kP] <;> rfl) ?_
 iterate 5 (refine EV ?_)
 refine ON ?_
 refine Ok.seq ?_
 refine Ok.seq ?_
 refine Ok.drop [15, 16, 17, 18, 19] (by simp only [kover] <;> rfl) ?_
 refine Ok.region ?_
 iterate 2 (refine EV ?_)
 refine ON ?_
 refine Ok.cond (b := _) (by simp only [kE, kT, kL, kC] <;> rfl) (fun hb2 => ?_) (fun hb2 => ?_)
 ·
  try simp only [bsimp] at hb2
  have hk : begOk s = false := by unfold begOk; rw [show (storeText s).isSome = false by simpa using hb2]; rfl
  rw [begY_no e hk, hk]
  refine Ok.seq ?_
  refine Ok.drop [20, 21] (by simp only [kover] <;> rfl) ?_
  refine Ok.region ?_
  refine OkOps.ev tab_ok rfl (by simp [ev1, fillV, kE, kT, kL] <;> first | rfl | exact ⟨rfl, rfl⟩) (by simp only [kP] <;> rfl) ?_
  refine OkOps.storeN tab_ok rfl rfl (by simp only [kE, kT, kL, kC] <;> rfl) ⟨_, _, by simp only [kE]; rfl⟩ (by first | (simp [V.labelsL, V.labelsLL, V.labels, zz, zf, zy]; done) | (intro h; (simp [V.labelsL, V.labels, V.labelsLL, zz, zf, zy] at h) <;> omega)) (fun W hW hF => by have f0 := far0 hW (fun h => by omega); have p0 := fun i o e => hW.ptr (1) i o e (by omega); simp only [List.map_cons, List.map_nil, hW.int, hW.str, hW.bool, hW.any, hW.tup0, hW.agg, hW.nilV, hF.ptr, f0, p0, kP] <;> rfl) ?_
  refine EV ?_
  refine ON ?_
  refine Ok.ret ?_
  with_reducible repeat (first | refine thenQ_ret ?_ | refine blockQ_ret ?_)
  refine RT ?_
  first | (exact ⟨by simp [V.erase, V.trav, V.travL, V.travLL, packV, zz, zf, zy, zSync, begL], by simp [V.labels, V.labelsL, V.labelsLL, packV, zz, zf, zy, zSync] <;> omega, by simp [V.labels, V.labelsL, V.labelsLL, packV, zz, zf, zy, zSync]⟩)
 ·
  try simp only [bsimp] at hb2
  have hs2 : (storeText s).isSome = true := by simpa using hb2
  refine Ok.skip ?_
  refine Ok.seq ?_
  refine Ok.drop [20, 21] (by simp only [kover] <;> rfl) ?_
  refine Ok.region ?_
  refine EV ?_
  refine OkOps.S0 rfl (OpS.weak' rfl (by simp only [kE, kT, kL, kC] <;> rfl) (by simp only [kE, kT, kL, kC] <;> rfl) cl40 (w_impl_PiecesOf (stT s) hn1)) (by simp only [kP] <;> rfl) ?_
  refine EV ?_
  refine ON ?_
  refine Ok.seq ?_
  refine Ok.drop [23, 24] (by simp only [kover] <;> rfl) ?_
  refine Ok.region ?_
  refine EV ?_
  refine OkOps.S0 rfl (OpS.weak' rfl (by simp only [kE, kT, kL, kC] <;> rfl) (by simp only [kE, kT, kL, kC] <;> rfl) cl57 (w_impl_LinkNew e)) (by simp only [kP] <;> rfl) ?_
  refine EV ?_
  refine OkOps.ev tab_ok rfl (by simp only [kE, kT, kL, kC, pieces_len] <;> rfl) (by simp only [kP] <;> rfl) ?_
  refine OkOps.ev tab_ok rfl (ev_bs (by simp only [kT] <;> rfl) (by simp only [kT] <;> rfl) (by decide) (by decide) (by simp only [kE, kT, kL, kC, List.map_cons, List.map_nil] <;> rfl) (by simp only [kfe, beq_self_eq_true, Bool.and_true, Bool.true_and, decide_true, Nat.zero_add, Nat.lt_add_one, Nat.reduceLT, Nat.reduceAdd, Nat.zero_lt_succ, if_true, ↓reduceIte] <;> rfl)) (by simp only [kP] <;> rfl) ?_
  refine OkOps.S0 rfl (OpS.weakE rfl (by simp only [kE, kT, kL, kC] <;> rfl) (by simp only [kE, kT, kL, kC, V.eraseL, V.erase, V.travL, V.trav, zz, zf, zy] <;> rfl) cl58 (by simp [V.labels, V.labelsL, V.labelsLL, zz, zf, zy]) (w_impl_vars [((pieceN (stT s)) : Int)] (by intro z hz; simp only [List.mem_cons, List.not_mem_nil, or_false] at hz; rcases hz with rfl; exact in9 (by omega)) (by simp))) (by simp only [kP] <;> rfl) ?_
  refine OkOps.ev tab_ok rfl (ev_cat (by simp only [kE, kT, kL, kC] <;> rfl) (by simp only [kE, kT, kL, kC] <;> rfl) (by first | (rw [pieces_getE]; simp only [List.length_cons, List.length_nil]; omega) | omega | (simp only [varsZ, Int.toNat_natCast, List.length_append, List.length_nil, List.length_cons] at *; omega) | (simp only [varsZ, varsZ_flat, Int.toNat_natCast, List.length_append, List.length_nil, List.length_cons] at *; omega))) (by simp only [kP] <;> rfl) ?_
  refine OkOps.S' rfl (OpS.pure' rfl (by simp only [kE, kT, kL, kC, hbg] <;> rfl) (by simp only [kE, kT, kL, kC, hbg, V.eraseL, V.erase, V.travL, V.trav, zz, zf, zy] <;> rfl) cl56 (by simp [V.dat, V.datL, V.datLL, zz, zf, zy]) (p_impl_put0 e hn2)) (by simp only [V.cnt, V.cntL, zz, zf, zy, Nat.add_zero, Nat.reduceAdd] <;> rfl) (by simp only [kP, V.tag, V.tagL, V.cnt, V.cntL, zz, zf, zy, Nat.add_zero, Nat.reduceAdd] <;> rfl) ?_
  iterate 4 (refine EV ?_)
  refine OkOps.drop [25, 27, 30, 33] (by simp only [kover] <;> rfl) ?_
  refine OkOps.storeN tab_ok rfl rfl (by simp only [kE, kT, kL, kC] <;> rfl) ⟨_, _, by simp only [kE]; rfl⟩ (by first | (simp [V.labelsL, V.labelsLL, V.labels, zz, zf, zy]; done) | (intro h; (simp [V.labelsL, V.labels, V.labelsLL, zz, zf, zy] at h) <;> omega)) (fun W hW hF => by have f0 := far0 hW (fun h => by omega); have wz := hW.far (.sl 0 1 0 []) (fun y hy h => by (simp [V.labels, V.labelsLL] at hy; omega)); have wy := hW.far (.sl 3 1 0 [[.int .i64 ((pieceN (stT s)) : Int)]]) (fun y hy h => by (simp [V.labels, V.labelsL, V.labelsLL] at hy; omega)); have w3 := hW.far (.sl 4 1 0 ((begL e (stT s) 0).way.map cS)) (fun y hy h => by (simp [V.labels, V.labelsLL, zz, zf, zy] at hy; omega)); have p0 := fun i o e => hW.ptr (1) i o e (by omega);  have p1 := fun i o e => hW.ptr (2) i o e (by omega); simp only [List.map_cons, List.map_nil, hW.int, hW.str, hW.bool, hW.any, hW.tup0, hW.agg, hW.nilV, hF.ptr, f0, w3, wz, wy, p0, p1, kP] <;> rfl) ?_
  refine EV ?_
  refine ON ?_
  refine Ok.seq ?_
  refine Ok.seq ?_
  refine Ok.drop [25, 26, 27, 28, 29, 30, 31, 32, 33, 34, 35] (by simp only [kover] <;> rfl) ?_
  refine Ok.region ?_
  iterate 3 (refine EV ?_)
  refine ON ?_
  refine Ok.block ?_
  refine Ok.loopN (τ := Nat × Nat × Nat) (fun x => [(9, .ptr 5 0 0 [.int .i64 e, .sl (x.2.1 + 1) 1 0 ((begL e (stT s) x.1).way.map cS), .int .i64 1, .int .i64 1]), (10, .bool (decide (x.1 < 60))), (38, .int .i64 (x.1 : Int))]) [12, 13, 14, 39, 40, 41, 42, 43, 44, 45, 46, 47, 48, 49, 50, 51, 52, 53, 54] (fun x => by simp only [kover] <;> rfl) (fun x => x.2.2 + 1) (fun x => x.1 ≤ (pieceN (stT s)) ∧ 3 ≤ x.2.1 ∧ x.2.1 ≠ 4 ∧ x.2.1 < x.2.2 ∧ 5 ≤ x.2.2) (fun x => (pieceN (stT s)) - x.1) (0, 3, 5) (by refine ⟨?_, ?_, ?_, ?_, ?_, ?_, ?_, ?_, ?_, ?_, ?_, ?_, ?_, ?_, ?_, ?_, ?_, ?_, ?_, ?_, ?_, ?_, ?_, ?_, ?_, ?_, ?_, ?_, ?_, ?_, ?_, ?_, ?_, ?_, ?_, ?_, ?_, ?_, ?_, ?_, ?_, ?_, ?_, ?_, ?_, ?_, ?_, ?_, ?_, ?_, ?_, ?_, ?_, ?_, ?_, ?_, ?_, ?_, ?_, ?_, ?_, trivial⟩ <;> first | exact le_any _ | with_reducible exact le_rfl' _ | (first | exact le_rfl' _ | exact le_eqm rfl) | exact le_rfl' _) (by decide) (⟨Nat.zero_le _, by decide, by decide, by decide, by decide⟩) ?_
  rintro ⟨i, L, k⟩ ⟨h1, h2, h3, h4, h5⟩
  dsimp only at h1 h2 h3 h4 h5 ⊢
  refine OQ ?_
  refine EV ?_
  refine ON ?_
  refine Ok.seq ?_
  refine Ok.cond (b := _) (by simp only [kE, kT, kL, kC] <;> rfl) (fun hb7 => ?_) (fun hb7 => ?_)
  ·
   try simp only [bsimp] at hb7
   have hi : i < (pieceN (stT s)) := by rw [pieces_len] at hb7; omega
   have hg := pieces_get (t := stT s) hi
   have hpl := piece_len (stT s) i
   refine Ok.skip ?_
   refine Ok.seq ?_
   refine Ok.block ?_
   refine Ok.seq ?_
   refine Ok.drop [39] (by simp only [kover] <;> rfl) ?_
   refine Ok.region ?_
   refine OkOps.ev tab_ok rfl (ev_idx_map (by simp only [kE, kT, kL, kC] <;> rfl) (by simp only [kE, kT, kL, kC] <;> rfl) (by omega) (by simp only [kE, kT, kL, kC] <;> rfl)) (by simp only [kP] <;> rfl) ?_
   refine OkOps.ev tab_ok rfl (by simp only [kE, kT, kL, kC, pieces_getE] <;> rfl) (by simp only [kP] <;> rfl) ?_
   refine EV ?_
   refine ON ?_
   refine Ok.seq ?_
   refine Ok.drop [40, 41] (by simp only [kover] <;> rfl) ?_
   refine Ok.region ?_
   iterate 2 (refine EV ?_)
   refine OkOps.ev tab_ok rfl (ev_cat (by simp only [kE, kT, kL, kC] <;> rfl) (by simp only [kE, kT, kL, kC] <;> rfl) (by first | (rw [pieces_getE]; simp only [List.length_cons, List.length_nil]; omega) | omega | (simp only [varsZ, Int.toNat_natCast, List.length_append, List.length_nil, List.length_cons] at *; omega) | (simp only [varsZ, varsZ_flat, Int.toNat_natCast, List.length_append, List.length_nil, List.length_cons] at *; omega))) (by simp only [kP] <;> rfl) ?_
   refine OkOps.S' rfl (OpS.pure' rfl (by simp only [kE, kT, kL, kC, List.cons_append, List.nil_append, pieces_getE] <;> rfl) (by simp only [kE, kT, kL, kC, List.cons_append, List.nil_append, pieces_getE, V.eraseL, V.erase, V.travL, V.trav, zz, zf, zy] <;> rfl) cl56 (by simp [V.dat, V.datL, V.datLL, zz, zf, zy]) (p_impl_put1 e (stT s) i)) (by simp only [V.cnt, V.cntL, zz, zf, zy, Nat.add_zero, Nat.reduceAdd] <;> rfl) (by simp only [kP, V.tag, V.tagL, V.cnt, V.cntL, zz, zf, zy, Nat.add_zero, Nat.reduceAdd] <;> rfl) ?_
   iterate 4 (refine EV ?_)
   refine OkOps.drop [42, 46] (by simp only [kover] <;> rfl) ?_
   refine OkOps.storeN tab_ok rfl rfl (by simp only [kE, kT, kL, kC] <;> rfl) ⟨_, _, by simp only [kE]; rfl⟩ (by first | (simp [V.labelsL, V.labelsLL, V.labels, zz, zf, zy]; done) | (intro h; (simp [V.labelsL, V.labels, V.labelsLL, zz, zf, zy] at h) <;> omega)) (fun W hW hF => by have f0 := far0 hW (fun h => by omega); have w3 := hW.far (.sl (L + 1) 1 0 ((begL e (stT s) i).way.map cS)) (fun y hy h => by (simp [V.labels, V.labelsLL, zz, zf, zy] at hy; omega)); have w4 := hW.far (.sl (k + 1) 1 0 ((begL e (stT s) (i + 1)).way.map cS)) (fun y hy h => by (simp [V.labels, V.labelsLL, zz, zf, zy] at hy; omega)); have p0 := fun i o e => hW.ptr (1) i o e (by omega);  have p1 := fun i o e => hW.ptr (2) i o e (by omega);  have p2 := fun i o e => hW.ptr (5) i o e (by omega); simp only [List.map_cons, List.map_nil, hW.int, hW.str, hW.bool, hW.any, hW.tup0, hW.agg, hW.nilV, hF.ptr, f0, w3, w4, p0, p1, p2, kP] <;> rfl) ?_
   refine EV ?_
   refine ON ?_
   refine Ok.seq ?_
   refine Ok.drop [42, 43, 44, 45, 46, 47, 48] (by simp only [kover] <;> rfl) ?_
   refine Ok.region ?_
   refine EV ?_
   refine OkOps.storeN tab_ok rfl rfl (by simp only [kE, kT, kL, kC] <;> rfl) ⟨_, _, by simp only [kE]; rfl⟩ (by first | (simp [V.labelsL, V.labelsLL, V.labels, zz, zf, zy]; done) | (intro h; (simp [V.labelsL, V.labels, V.labelsLL, zz, zf, zy] at h) <;> omega)) (fun W hW hF => by have f0 := far0 hW (fun h => by omega); have w4 := hW.far (.sl (k + 1) 1 0 ((begL e (stT s) (i + 1)).way.map cS)) (fun y hy h => by (simp [V.labels, V.labelsLL, zz, zf, zy] at hy; omega)); have p0 := fun i o e => hW.ptr (1) i o e (by omega);  have p1 := fun i o e => hW.ptr (2) i o e (by omega);  have p3 := fun i o e => hW.ptr (k + 1 + 1) i o e (by omega); simp only [List.map_cons, List.map_nil, hW.int, hW.str, hW.bool, hW.any, hW.tup0, hW.agg, hW.nilV, hF.ptr, f0, w4, p0, p1, p3, kP] <;> rfl) ?_
   refine ON ?_
   refine Ok.drop [49] (by simp only [kover] <;> rfl) ?_
   refine Ok.region ?_
   iterate 2 (refine EV ?_)
   refine OkOps.split (d := 51) (by simp only [kE, kT, kL, kC] <;> rfl) (by simp only [kP] <;> rfl) (by simp only [kP] <;> rfl) (fun hg11_1 => ?_) (fun hg11_1 => ?_)
   ·
    try simp only [bsimp] at hg11_1
    refine OO ?_
    iterate 3 (refine EV ?_)
    refine ON ?_
    refine Ok.drop [50, 51, 52, 53] (by simp only [kover] <;> rfl) ?_
    refine Ok.region ?_
    iterate 2 (refine EV ?_)
    refine ON ?_
    refine ⟨(i + 1, k, k + 2), ?_, rfl, (by dsimp only; omega), ⟨hi, by dsimp only; omega, by dsimp only; omega, by dsimp only; omega, by dsimp only; omega⟩, by dsimp only; omega⟩
    refine ⟨?_, ?_, ?_, ?_, ?_, ?_, ?_, ?_, ?_, ?_, ?_, ?_, ?_, ?_, ?_, ?_, ?_, ?_, ?_, ?_, ?_, ?_, ?_, ?_, ?_, ?_, ?_, ?_, ?_, ?_, ?_, ?_, ?_, ?_, ?_, ?_, ?_, ?_, ?_, ?_, ?_, ?_, ?_, ?_, ?_, ?_, ?_, ?_, ?_, ?_, ?_, ?_, ?_, ?_, ?_, ?_, ?_, ?_, ?_, ?_, ?_, trivial⟩ <;> first | exact le_any _ | with_reducible exact le_rfl' _ | (first | exact le_rfl' _ | (rw [wrap_add_one (by omega)]; exact le_rfl' _) | (show V.le (V.bool false) (V.bool (decide (i + 1 < 60))); rw [show decide (i + 1 < 60) = false from decide_eq_false (by (try simp only [decide_eq_false_iff_not] at hg11_1); omega)]; exact le_rfl' _)) | exact le_rfl' _
   ·
    try simp only [bsimp] at hg11_1
    refine OkOps.offU rfl rfl (.inl (by simp only [kE, kT, kL, kC, Bool.not_true, Bool.not_false])) (by simp only [kP] <;> rfl) ?_
    iterate 2 (refine EV ?_)
    refine ON ?_
    refine Ok.drop [50, 51, 52, 53] (by simp only [kover] <;> rfl) ?_
    refine Ok.region ?_
    iterate 2 (refine EV ?_)
    refine ON ?_
    refine ⟨(i + 1, k, k + 2), ?_, rfl, (by dsimp only; omega), ⟨hi, by dsimp only; omega, by dsimp only; omega, by dsimp only; omega, by dsimp only; omega⟩, by dsimp only; omega⟩
    refine ⟨?_, ?_, ?_, ?_, ?_, ?_, ?_, ?_, ?_, ?_, ?_, ?_, ?_, ?_, ?_, ?_, ?_, ?_, ?_, ?_, ?_, ?_, ?_, ?_, ?_, ?_, ?_, ?_, ?_, ?_, ?_, ?_, ?_, ?_, ?_, ?_, ?_, ?_, ?_, ?_, ?_, ?_, ?_, ?_, ?_, ?_, ?_, ?_, ?_, ?_, ?_, ?_, ?_, ?_, ?_, ?_, ?_, ?_, ?_, ?_, ?_, trivial⟩ <;> first | exact le_any _ | with_reducible exact le_rfl' _ | (first | exact le_rfl' _ | (rw [wrap_add_one (by omega)]; exact le_rfl' _) | (show V.le (V.bool false) (V.bool (decide (i + 1 < 60))); rw [show decide (i + 1 < 60) = false from decide_eq_false (by (try simp only [decide_eq_false_iff_not] at hg11_1); omega)]; exact le_rfl' _)) | exact le_rfl' _
  ·
   try simp only [bsimp] at hb7
   obtain rfl : i = (pieceN (stT s)) := by rw [pieces_len] at hb7; omega
   refine Ok.exit ?_
   refine Ok.seq ?_
   refine Ok.seq ?_
   refine Ok.drop [39] (by simp only [kover] <;> rfl) ?_
   refine Ok.region ?_
   iterate 2 (refine EV ?_)
   refine ON ?_
   refine Ok.cond (b := _) (by simp only [kE, kT, kL, kC] <;> rfl) (fun hb13 => ?_) (fun hb13 => ?_)
   ·
    try simp only [bsimp] at hb13
    have hk : begOk s = false := by unfold begOk; rw [hs2]; simpa using hb13
    rw [begY_no e hk, hk]
    refine Ok.seq ?_
    refine Ok.drop [55, 56] (by simp only [kover] <;> rfl) ?_
    refine Ok.region ?_
    refine OkOps.ev tab_ok rfl (by simp [ev1, fillV, kE, kT, kL] <;> first | rfl | exact ⟨rfl, rfl⟩) (by simp only [kP] <;> rfl) ?_
    refine OkOps.storeN tab_ok rfl rfl (by simp only [kE, kT, kL, kC] <;> rfl) ⟨_, _, by simp only [kE]; rfl⟩ (by first | (simp [V.labelsL, V.labelsLL, V.labels, zz, zf, zy]; done) | (intro h; (simp [V.labelsL, V.labels, V.labelsLL, zz, zf, zy] at h) <;> omega)) (fun W hW hF => by have f0 := far0 hW (fun h => by omega); have w4 := hW.far (.sl (L + 1) 1 0 ((begL e (stT s) (pieceN (stT s))).way.map cS)) (fun y hy h => by (simp [V.labels, V.labelsLL, zz, zf, zy] at hy; omega)); have p0 := fun i o e => hW.ptr (1) i o e (by omega);  have p2 := fun i o e => hW.ptr (5) i o e (by omega); simp only [List.map_cons, List.map_nil, hW.int, hW.str, hW.bool, hW.any, hW.tup0, hW.agg, hW.nilV, hF.ptr, f0, w4, p0, p2, kP] <;> rfl) ?_
    refine EV ?_
    refine ON ?_
    refine Ok.ret ?_
    with_reducible repeat (first | refine thenQ_ret ?_ | refine blockQ_ret ?_)
    refine RT ?_
    first | (exact ⟨by simp [V.erase, V.trav, V.travL, V.travLL, packV, zz, zf, zy, zSync, begL], by simp [V.labels, V.labelsL, V.labelsLL, packV, zz, zf, zy, zSync] <;> omega, by simp [V.labels, V.labelsL, V.labelsLL, packV, zz, zf, zy, zSync]⟩)
   ·
    try simp only [bsimp] at hb13
    have hk : begOk s = true := by unfold begOk; rw [hs2]; simpa using hb13
    rw [begY_yes e hk, hk]
    refine Ok.skip ?_
    refine Ok.seq ?_
    refine Ok.drop [55, 56] (by simp only [kover] <;> rfl) ?_
    refine Ok.region ?_
    iterate 2 (refine EV ?_)
    refine OkOps.ev tab_ok rfl (by simp [ev1, fillV, kE, kT, kL] <;> first | rfl | exact ⟨rfl, rfl⟩) (by simp only [kP] <;> rfl) ?_
    refine OkOps.storeN tab_ok rfl rfl (by simp only [kE, kT, kL, kC] <;> rfl) ⟨_, _, by simp only [kE]; rfl⟩ (by first | (simp [V.labelsL, V.labelsLL, V.labels, zz, zf, zy]; done) | (intro h; (simp [V.labelsL, V.labels, V.labelsLL, zz, zf, zy] at h) <;> omega)) (fun W hW hF => by have f0 := far0 hW (fun h => by omega); have w4 := hW.far (.sl (L + 1) 1 0 ((begL e (stT s) (pieceN (stT s))).way.map cS)) (fun y hy h => by (simp [V.labels, V.labelsLL, zz, zf, zy] at hy; omega)); have p0 := fun i o e => hW.ptr (1) i o e (by omega);  have p2 := fun i o e => hW.ptr (5) i o e (by omega); simp only [List.map_cons, List.map_nil, hW.int, hW.str, hW.bool, hW.any, hW.tup0, hW.agg, hW.nilV, hF.ptr, f0, w4, p0, p2, kP] <;> rfl) ?_
    refine EV ?_
    refine ON ?_
    refine Ok.ret ?_
    with_reducible repeat (first | refine thenQ_ret ?_ | refine blockQ_ret ?_)
    refine RT ?_
    first | (exact ⟨by simp [V.erase, V.trav, V.travL, V.travLL, packV, zz, zf, zy, zSync, begL], by simp [V.labels, V.labelsL, V.labelsLL, packV, zz, zf, zy, zSync] <;> omega, by simp [V.labels, V.labelsL, V.labelsLL, packV, zz, zf, zy, zSync]⟩)
theorem w_spec_SyncBegin (s : Store) (h : smStore s) (e : Int) : Weak Tryz.prog 9 [.agg (cStore s), .int .i64 e] (.tup [.agg (cSync (begY s e)), .bool (begOk s)]) := by
 have hn1 := stT_len s
 have hn2 : pieceN (stT s) ≤ 1000 := by unfold pieceN; omega
 have hn3 := varT_len5 (n := pieceN (stT s)) (by omega)
 have hbg : ([84] : Str) ++ varsZ [((pieceN (stT s) : Nat) : Int)] = begH (stT s) := by simp [varsZ, begH]
 have hbh : ([84] : Str) ++ varT (pieceN (stT s)) = begH (stT s) := rfl
 refine Weak.enter tab_ok Tryz.func9 rfl (.inr (by simp [V.labelsL, V.labels, V.labelsLL, zz, zf, zy, or_imp, forall_and])) (t := [.agg (cStore s), .int .i64 e, .any, .any, .any, .any, .any, .any, .any, .any, .any, .any, .any, .any, .any, .any, .any, .any, .any, .any, .any, .any, .any, .any, .any, .any, .any, .any, .any, .any, .any, .any, .any, .any, .any, .any, .any, .any, .any, .any, .any, .any, .any, .any, .any, .any, .any, .any, .any, .any, .any, .any, .any, .any, .any, .any, .any, .any, .any, .any, .any, .any, .any, .any]) rfl ?_
 refine OQ ?_
 iterate 3 (refine EV ?_)
 refine ON ?_
 refine OQ ?_
 refine EV ?_
 refine OkOps.S0 rfl (OpS.weak' rfl (by simp only [kE, kT, kL, kC] <;> rfl) (by simp only [kE, kT, kL, kC] <;> rfl) cl31 (w_spec_StoreText s h)) (by simp only [kP] <;> rfl) ?_
 iterate 5 (refine EV ?_)
 refine ON ?_
 refine Ok.seq ?_
 refine OQ ?_
 iterate 2 (refine EV ?_)
 refine ON ?_
 refine Ok.cond (b := _) (by simp only [kE, kT, kL, kC] <;> rfl) (fun hb2 => ?_) (fun hb2 => ?_)
 ·
  try simp only [bsimp] at hb2
  have hk : begOk s = false := by unfold begOk; rw [show (storeText s).isSome = false by simpa using hb2]; rfl
  rw [begY_no e hk, hk]
  refine OQ ?_
  refine OkOps.ev tab_ok rfl (by simp [ev1, fillV, kE, kT, kL] <;> first | rfl | exact ⟨rfl, rfl⟩) (by simp only [kP] <;> rfl) ?_
  refine OkOps.storeE tab_ok rfl rfl (by simp only [kE, kT, kL, kC] <;> rfl) ⟨_, _, by simp only [kE]; rfl⟩ (by first | (simp [V.labelsL, V.labelsLL, V.labels, zz, zf, zy]; done) | (simp [-List.map_map, -List.map_set, -List.map_drop, -List.map_take, -List.map_tail, -List.drop_one, V.labelsL, V.labelsLL, V.labels, zz, zf, zy]; done)) (by simp only [eq_self, V.updL, V.travL, V.travLL, V.trav, updS, updP, and_self, true_and, and_true, false_and, and_false, Nat.reduceEqDiff, Nat.reduceSub, Nat.le_refl, Nat.zero_le, ↓reduceIte, if_true, if_false, kP, zz, zf, zy] <;> rfl) (rfl) ?_
  refine EV ?_
  refine ON ?_
  refine Ok.ret ?_
  with_reducible repeat (first | refine thenQ_ret ?_ | refine blockQ_ret ?_)
  refine RT ?_
  first | rfl | (simp [V.erase, V.trav, V.travL, V.travLL, packV, zz, zf, zy, zSync]; done) | (simp [V.erase, V.trav, V.travL, V.travLL, packV, zz, zf, zy, zSync] <;> exact ⟨rfl, rfl, rfl⟩)
 ·
  try simp only [bsimp] at hb2
  have hs2 : (storeText s).isSome = true := by simpa using hb2
  refine Ok.skip ?_
  refine OQ ?_
  refine EV ?_
  refine OkOps.S0 rfl (OpS.weak' rfl (by simp only [kE, kT, kL, kC] <;> rfl) (by simp only [kE, kT, kL, kC] <;> rfl) cl45 (w_spec_PiecesOf (stT s) hn1)) (by simp only [kP] <;> rfl) ?_
  refine EV ?_
  refine ON ?_
  refine OQ ?_
  iterate 2 (refine EV ?_)
  refine OkOps.S0 rfl (OpS.weak' rfl (by simp only [kE, kT, kL, kC] <;> rfl) (by simp only [kE, kT, kL, kC] <;> rfl) cl50 (w_spec_LinkNew e)) (by simp only [kP] <;> rfl) ?_
  refine OkOps.ev tab_ok rfl (by simp [ev1, fillV, kE, kT, kL] <;> first | rfl | exact ⟨rfl, rfl⟩) (by simp only [kP] <;> rfl) ?_
  refine EV ?_
  refine OkOps.storeE tab_ok rfl rfl (by simp only [kE, kT, kL, kC] <;> rfl) ⟨_, _, by simp only [kE]; rfl⟩ (by first | (simp [V.labelsL, V.labelsLL, V.labels, zz, zf, zy]; done) | (simp [-List.map_map, -List.map_set, -List.map_drop, -List.map_take, -List.map_tail, -List.drop_one, V.labelsL, V.labelsLL, V.labels, zz, zf, zy]; done)) (by simp only [eq_self, V.updL, V.travL, V.travLL, V.trav, updS, updP, and_self, true_and, and_true, false_and, and_false, Nat.reduceEqDiff, Nat.reduceSub, Nat.le_refl, Nat.zero_le, ↓reduceIte, if_true, if_false, kP, zz, zf, zy] <;> rfl) (rfl) ?_
  refine ON ?_
  refine Ok.seq ?_
  refine Ok.drawn 11 64 [9] (by kernel_rfl) (by kernel_rfl) rfl ?_
  iterate 3 (refine SV ?_)
  refine SOps.ev tab_ok rfl (by simp only [kE, kT, kL, kC, pieces_len] <;> rfl) (by simp only [kP] <;> rfl) ?_
  refine SOps.S0 rfl (OpS.weakM rfl (by simp only [kE, kT, kL, kC, Int.toNat_natCast, pieces_len] <;> rfl) (by simp only [kE, kT, kL, kC, Int.toNat_natCast, pieces_len] <;> rfl) cl52 (w_spec_l01Var ((pieceN (stT s)) : Int) (by omega))) (by simp only [kP] <;> rfl) ?_
  refine SOps.ev tab_ok rfl (ev_cat (by simp only [kE, kT, kL, kC] <;> rfl) (by simp only [kE, kT, kL, kC] <;> rfl) (by first | (rw [pieces_getE]; simp only [List.length_cons, List.length_nil]; omega) | omega | (simp only [varsZ, Int.toNat_natCast, List.length_append, List.length_nil, List.length_cons] at *; omega) | (simp only [varsZ, varsZ_flat, Int.toNat_natCast, List.length_append, List.length_nil, List.length_cons] at *; omega))) (by simp only [kP] <;> rfl) ?_
  refine SOps.S0 rfl (OpS.weakM rfl (by simp only [kE, kT, kL, kC, hbh, Int.toNat_natCast] <;> rfl) (by simp only [kE, kT, kL, kC, hbh, Int.toNat_natCast] <;> rfl) cl51 (w_spec_put0 e hn2)) (by simp only [kP] <;> rfl) ?_
  iterate 4 (refine SV ?_)
  refine SOps.nil ?_
  refine TOps.storeL tab_ok rfl rfl rfl (by simp only [kE, kT, kL, kC] <;> rfl) ⟨_, _, by simp only [kE]; rfl⟩ (by first | (simp [V.labelsL, V.labelsLL, V.labels, zz, zf, zy]; done) | (simp [-List.map_map, -List.map_set, -List.map_drop, -List.map_take, -List.map_tail, -List.drop_one, V.labelsL, V.labelsLL, V.labels, zz, zf, zy]; done)) (by simp only [eq_self, V.updL, V.travL, V.travLL, V.trav, updS, updP, and_self, true_and, and_true, false_and, and_false, Nat.reduceEqDiff, Nat.reduceSub, Nat.le_refl, Nat.zero_le, ↓reduceIte, if_true, if_false, kP, zz, zf, zy] <;> rfl) (rfl) (LateOk.cons (i := 9) tab_ok (by rfl) (by rfl) (by simp only [List.getElem_toArray, List.getElem_cons_succ, List.getElem_cons_zero]; exact (by simp only [kE, kT, kL, kC] <;> rfl)) (by show nth _ 36 = _; simp only [kE, kT, kL, kC] <;> rfl) LateOk.nil) ?_
  refine TOps.evL tab_ok rfl (by simp only [kE, kT, kL, kC] <;> rfl) (by simp only [kP] <;> rfl) (LateOk.cons (i := 9) tab_ok (by rfl) (by rfl) (by simp only [List.getElem_toArray, List.getElem_cons_succ, List.getElem_cons_zero]; exact (by simp only [kE, kT, kL, kC] <;> rfl)) (by show nth _ 36 = _; simp only [kE, kT, kL, kC] <;> rfl) LateOk.nil) ?_
  refine TOps.nil ?_
  refine OQ ?_
  iterate 2 (refine EV ?_)
  refine OkOps.storeE tab_ok rfl rfl (by simp only [kE, kT, kL, kC] <;> rfl) ⟨_, _, by simp only [kE]; rfl⟩ (by first | (simp [V.labelsL, V.labelsLL, V.labels, zz, zf, zy]; done) | (simp [-List.map_map, -List.map_set, -List.map_drop, -List.map_take, -List.map_tail, -List.drop_one, V.labelsL, V.labelsLL, V.labels, zz, zf, zy]; done)) (by simp only [eq_self, V.updL, V.travL, V.travLL, V.trav, updS, updP, and_self, true_and, and_true, false_and, and_false, Nat.reduceEqDiff, Nat.reduceSub, Nat.le_refl, Nat.zero_le, ↓reduceIte, if_true, if_false, kP, zz, zf, zy] <;> rfl) (rfl) ?_
  refine ON ?_
  refine Ok.seq ?_
  refine OQ ?_
  refine EV ?_
  refine ON ?_
  refine Ok.block ?_
  refine Ok.bump (n' := 5) (by omega) ?_
  refine Ok.loopWZ (τ := Nat) (fun x => [(9, .ptr 3 0 0 [.int .i64 e, .int .i64 e, .sl 0 1 0 ((begL e (stT s) x).way.map cS), .int .i64 1, .int .i64 1, .int .i64 0, .nil 1, .bool false, .bool false]), (11, .bool (decide (x < 60))), (12, .int .i64 (x : Int))]) [28, 38, 39, 40, 41, 42, 43, 44, 45, 46, 47, 48, 49, 50, 51, 52, 53, 54, 55, 56, 57, 58, 59] (fun x => by simp only [kover] <;> rfl) (fun x => x ≤ (pieceN (stT s))) (fun x => (pieceN (stT s)) - x) 0 (by omega) (by refine ⟨?_, ?_, ?_, ?_, ?_, ?_, ?_, ?_, ?_, ?_, ?_, ?_, ?_, ?_, ?_, ?_, ?_, ?_, ?_, ?_, ?_, ?_, ?_, ?_, ?_, ?_, ?_, ?_, ?_, ?_, ?_, ?_, ?_, ?_, ?_, ?_, ?_, ?_, ?_, ?_, ?_, ?_, ?_, ?_, ?_, ?_, ?_, ?_, ?_, ?_, ?_, ?_, ?_, ?_, ?_, ?_, ?_, ?_, ?_, ?_, ?_, ?_, ?_, ?_, trivial⟩ <;> first | exact le_any _ | with_reducible exact le_rfl' _ | (first | exact le_rfl' _ | exact le_eqm rfl) | exact le_rfl' _) (Nat.zero_le _) ?_
  rintro i h1
  refine Ok.seq ?_
  refine OQ ?_
  iterate 5 (refine EV ?_)
  refine OkOps.split (d := 43) (by simp only [kE, kT, kL, kC] <;> rfl) (by simp only [kP] <;> rfl) (by simp only [kP] <;> rfl) (fun hg9_4 => ?_) (fun hg9_4 => ?_)
  ·
   try simp only [bsimp] at hg9_4
   refine OO ?_
   iterate 2 (refine EV ?_)
   refine ON ?_
   refine Ok.cond (b := _) (by simp only [kE, kT, kL, kC] <;> rfl) (fun hb9 => ?_) (fun hb9 => ?_)
   ·
    try simp only [bsimp] at hb9
    have hi : i < (pieceN (stT s)) := by (first | omega | (simp only [decide_eq_true_eq, decide_eq_false_iff_not, Bool.not_eq_true, Bool.not_eq_false, pieces_len] at *; omega) | (simp at *; omega))
    have hg := pieces_get (t := stT s) hi
    have hpl := piece_len (stT s) i
    refine Ok.skip ?_
    refine Ok.seq ?_
    refine Ok.block ?_
    refine Ok.drawn 12 64 [10] (by kernel_rfl) (by kernel_rfl) rfl ?_
    iterate 4 (refine SV ?_)
    refine SOps.ev tab_ok rfl (ev_idx_map (by simp only [kE, kT, kL, kC] <;> rfl) (by simp only [kE, kT, kL, kC] <;> rfl) (by omega) (by simp only [kE, kT, kL, kC] <;> rfl)) (by simp only [kP] <;> rfl) ?_
    refine SOps.ev tab_ok rfl (by simp only [kE, kT, kL, kC, pieces_getE] <;> rfl) (by simp only [kP] <;> rfl) ?_
    refine SOps.ev tab_ok rfl (ev_cat (by simp only [kE, kT, kL, kC] <;> rfl) (by simp only [kE, kT, kL, kC] <;> rfl) (by first | (rw [pieces_getE]; simp only [List.length_cons, List.length_nil]; omega) | omega | (simp only [varsZ, Int.toNat_natCast, List.length_append, List.length_nil, List.length_cons] at *; omega) | (simp only [varsZ, varsZ_flat, Int.toNat_natCast, List.length_append, List.length_nil, List.length_cons] at *; omega))) (by simp only [kP] <;> rfl) ?_
    refine SOps.S0 rfl (OpS.weakM rfl (by simp only [kE, kT, kL, kC, List.cons_append, List.nil_append, pieces_getE] <;> rfl) (by simp only [kE, kT, kL, kC, List.cons_append, List.nil_append, pieces_getE] <;> rfl) cl51 (w_spec_put1 e (stT s) i)) (by simp only [kP] <;> rfl) ?_
    iterate 4 (refine SV ?_)
    refine SOps.nil ?_
    refine TOps.storeL tab_ok rfl rfl rfl (by simp only [kE, kT, kL, kC] <;> rfl) ⟨_, _, by simp only [kE]; rfl⟩ (by first | (simp [V.labelsL, V.labelsLL, V.labels, zz, zf, zy]; done) | (simp [-List.map_map, -List.map_set, -List.map_drop, -List.map_take, -List.map_tail, -List.drop_one, V.labelsL, V.labelsLL, V.labels, zz, zf, zy]; done)) (by simp only [eq_self, V.updL, V.travL, V.travLL, V.trav, updS, updP, and_self, true_and, and_true, false_and, and_false, Nat.reduceEqDiff, Nat.reduceSub, Nat.le_refl, Nat.zero_le, ↓reduceIte, if_true, if_false, kP, zz, zf, zy] <;> rfl) (rfl) (LateOk.cons (i := 10) tab_ok (by rfl) (by rfl) (by simp only [List.getElem_toArray, List.getElem_cons_succ, List.getElem_cons_zero]; exact (by simp only [kE, kT, kL, kC] <;> rfl)) (by show nth _ 58 = _; simp only [kE, kT, kL, kC] <;> rfl) LateOk.nil) ?_
    refine TOps.evL tab_ok rfl (by simp only [kE, kT, kL, kC] <;> rfl) (by simp only [kP] <;> rfl) (LateOk.cons (i := 10) tab_ok (by rfl) (by rfl) (by simp only [List.getElem_toArray, List.getElem_cons_succ, List.getElem_cons_zero]; exact (by simp only [kE, kT, kL, kC] <;> rfl)) (by show nth _ 58 = _; simp only [kE, kT, kL, kC] <;> rfl) LateOk.nil) ?_
    refine TOps.nil ?_
    refine Ok.region ?_
    iterate 3 (refine EV ?_)
    refine ON ?_
    refine ⟨i + 1, ?_, rfl, hi, by omega⟩
    simp only [V.renL, V.travL, V.travLL, V.trav, frz, zz, zf, zy, Nat.reduceLeDiff, ↓reduceIte]
    refine ⟨?_, ?_, ?_, ?_, ?_, ?_, ?_, ?_, ?_, ?_, ?_, ?_, ?_, ?_, ?_, ?_, ?_, ?_, ?_, ?_, ?_, ?_, ?_, ?_, ?_, ?_, ?_, ?_, ?_, ?_, ?_, ?_, ?_, ?_, ?_, ?_, ?_, ?_, ?_, ?_, ?_, ?_, ?_, ?_, ?_, ?_, ?_, ?_, ?_, ?_, ?_, ?_, ?_, ?_, ?_, ?_, ?_, ?_, ?_, ?_, ?_, ?_, ?_, ?_, trivial⟩ <;> first | exact le_any _ | with_reducible exact le_rfl' _ | (first | exact le_rfl' _ | (rw [wrap_add_one (by omega)]; exact le_rfl' _)) | exact le_rfl' _
   ·
    try simp only [bsimp] at hb9
    refine Ok.exit ?_
    refine Ok.seq ?_
    refine OQ ?_
    iterate 2 (refine EV ?_)
    refine ON ?_
    refine Ok.cond (b := _) (by simp only [kE, kT, kL, kC] <;> rfl) (fun hb12 => ?_) (fun hb12 => ?_)
    ·
     try simp only [bsimp] at hb12
     have hq : ¬ pieceN (stT s) < 60 := by (first | omega | (simp only [decide_eq_true_eq, decide_eq_false_iff_not, Bool.not_eq_true, Bool.not_eq_false, pieces_len] at *; omega) | (simp at *; omega))
     have hk : begOk s = false := by unfold begOk; rw [hs2, decide_eq_false hq]; rfl
     rw [begY_no e hk, hk]
     refine OQ ?_
     refine OkOps.ev tab_ok rfl (by simp [ev1, fillV, kE, kT, kL] <;> first | rfl | exact ⟨rfl, rfl⟩) (by simp only [kP] <;> rfl) ?_
     refine OkOps.storeE tab_ok rfl rfl (by simp only [kE, kT, kL, kC] <;> rfl) ⟨_, _, by simp only [kE]; rfl⟩ (by first | (simp [V.labelsL, V.labelsLL, V.labels, zz, zf, zy]; done) | (simp [-List.map_map, -List.map_set, -List.map_drop, -List.map_take, -List.map_tail, -List.drop_one, V.labelsL, V.labelsLL, V.labels, zz, zf, zy]; done)) (by simp only [eq_self, V.updL, V.travL, V.travLL, V.trav, updS, updP, and_self, true_and, and_true, false_and, and_false, Nat.reduceEqDiff, Nat.reduceSub, Nat.le_refl, Nat.zero_le, ↓reduceIte, if_true, if_false, kP, zz, zf, zy] <;> rfl) (rfl) ?_
     refine EV ?_
     refine ON ?_
     refine Ok.ret ?_
     with_reducible repeat (first | refine thenQ_ret ?_ | refine blockQ_ret ?_)
     refine RT ?_
     first | rfl | (simp [V.erase, V.trav, V.travL, V.travLL, packV, zz, zf, zy, zSync]; done) | (simp [V.erase, V.trav, V.travL, V.travLL, packV, zz, zf, zy, zSync] <;> exact ⟨rfl, rfl, rfl⟩)
    ·
     try simp only [bsimp] at hb12
     have hq : pieceN (stT s) < 60 := by (first | omega | (simp only [decide_eq_true_eq, decide_eq_false_iff_not, Bool.not_eq_true, Bool.not_eq_false, pieces_len] at *; omega) | (simp at *; omega))
     have hk : begOk s = true := by unfold begOk; rw [hs2, decide_eq_true hq]; rfl
     obtain rfl : i = pieceN (stT s) := by (first | omega | (simp only [decide_eq_true_eq, decide_eq_false_iff_not, Bool.not_eq_true, Bool.not_eq_false, pieces_len] at *; omega) | (simp at *; omega))
     rw [begY_yes e hk, hk]
     refine Ok.skip ?_
     refine OQ ?_
     refine EV ?_
     refine OkOps.storeE tab_ok rfl rfl (by simp only [kE, kT, kL, kC] <;> rfl) ⟨_, _, by simp only [kE]; rfl⟩ (by first | (simp [V.labelsL, V.labelsLL, V.labels, zz, zf, zy]; done) | (simp [-List.map_map, -List.map_set, -List.map_drop, -List.map_take, -List.map_tail, -List.drop_one, V.labelsL, V.labelsLL, V.labels, zz, zf, zy]; done)) (by simp only [eq_self, V.updL, V.travL, V.travLL, V.trav, updS, updP, and_self, true_and, and_true, false_and, and_false, Nat.reduceEqDiff, Nat.reduceSub, Nat.le_refl, Nat.zero_le, ↓reduceIte, if_true, if_false, kP, zz, zf, zy] <;> rfl) (rfl) ?_
     refine EV ?_
     refine ON ?_
     refine Ok.ret ?_
     with_reducible repeat (first | refine thenQ_ret ?_ | refine blockQ_ret ?_)
     refine RT ?_
     first | rfl | (simp [V.erase, V.trav, V.travL, V.travLL, packV, zz, zf, zy, zSync]; done) | (simp [V.erase, V.trav, V.travL, V.travLL, packV, zz, zf, zy, zSync] <;> exact ⟨rfl, rfl, rfl⟩)
  ·
   try simp only [bsimp] at hg9_4
   refine OkOps.offU rfl rfl (.inl (by simp only [kE, kT, kL, kC, Bool.not_true, Bool.not_false])) (by simp only [kP] <;> rfl) ?_
   refine EV ?_
   refine ON ?_
   refine Ok.cond_false (by simp only [kE, kT, kL, kC] <;> rfl) ?_
   refine Ok.exit ?_
   refine Ok.seq ?_
   refine OQ ?_
   iterate 2 (refine EV ?_)
   refine ON ?_
   refine Ok.cond (b := _) (by simp only [kE, kT, kL, kC] <;> rfl) (fun hb12 => ?_) (fun hb12 => ?_)
   ·
    try simp only [bsimp] at hb12
    have hq : ¬ pieceN (stT s) < 60 := by (first | omega | (simp only [decide_eq_true_eq, decide_eq_false_iff_not, Bool.not_eq_true, Bool.not_eq_false, pieces_len] at *; omega) | (simp at *; omega))
    have hk : begOk s = false := by unfold begOk; rw [hs2, decide_eq_false hq]; rfl
    rw [begY_no e hk, hk]
    refine OQ ?_
    refine OkOps.ev tab_ok rfl (by simp [ev1, fillV, kE, kT, kL] <;> first | rfl | exact ⟨rfl, rfl⟩) (by simp only [kP] <;> rfl) ?_
    refine OkOps.storeE tab_ok rfl rfl (by simp only [kE, kT, kL, kC] <;> rfl) ⟨_, _, by simp only [kE]; rfl⟩ (by first | (simp [V.labelsL, V.labelsLL, V.labels, zz, zf, zy]; done) | (simp [-List.map_map, -List.map_set, -List.map_drop, -List.map_take, -List.map_tail, -List.drop_one, V.labelsL, V.labelsLL, V.labels, zz, zf, zy]; done)) (by simp only [eq_self, V.updL, V.travL, V.travLL, V.trav, updS, updP, and_self, true_and, and_true, false_and, and_false, Nat.reduceEqDiff, Nat.reduceSub, Nat.le_refl, Nat.zero_le, ↓reduceIte, if_true, if_false, kP, zz, zf, zy] <;> rfl) (rfl) ?_
    refine EV ?_
    refine ON ?_
    refine Ok.ret ?_
    with_reducible repeat (first | refine thenQ_ret ?_ | refine blockQ_ret ?_)
    refine RT ?_
    first | rfl | (simp [V.erase, V.trav, V.travL, V.travLL, packV, zz, zf, zy, zSync]; done) | (simp [V.erase, V.trav, V.travL, V.travLL, packV, zz, zf, zy, zSync] <;> exact ⟨rfl, rfl, rfl⟩)
   ·
    try simp only [bsimp] at hb12
    have hq : pieceN (stT s) < 60 := by (first | omega | (simp only [decide_eq_true_eq, decide_eq_false_iff_not, Bool.not_eq_true, Bool.not_eq_false, pieces_len] at *; omega) | (simp at *; omega))
    have hk : begOk s = true := by unfold begOk; rw [hs2, decide_eq_true hq]; rfl
    obtain rfl : i = pieceN (stT s) := by (first | omega | (simp only [decide_eq_true_eq, decide_eq_false_iff_not, Bool.not_eq_true, Bool.not_eq_false, pieces_len] at *; omega) | (simp at *; omega))
    rw [begY_yes e hk, hk]
    refine Ok.skip ?_
    refine OQ ?_
    refine EV ?_
    refine OkOps.storeE tab_ok rfl rfl (by simp only [kE, kT, kL, kC] <;> rfl) ⟨_, _, by simp only [kE]; rfl⟩ (by first | (simp [V.labelsL, V.labelsLL, V.labels, zz, zf, zy]; done) | (simp [-List.map_map, -List.map_set, -List.map_drop, -List.map_take, -List.map_tail, -List.drop_one, V.labelsL, V.labelsLL, V.labels, zz, zf, zy]; done)) (by simp only [eq_self, V.updL, V.travL, V.travLL, V.trav, updS, updP, and_self, true_and, and_true, false_and, and_false, Nat.reduceEqDiff, Nat.reduceSub, Nat.le_refl, Nat.zero_le, ↓reduceIte, if_true, if_false, kP, zz, zf, zy] <;> rfl) (rfl) ?_
    refine EV ?_
    refine ON ?_
    refine Ok.ret ?_
    with_reducible repeat (first | refine thenQ_ret ?_ | refine blockQ_ret ?_)
    refine RT ?_
    first | rfl | (simp [V.erase, V.trav, V.travL, V.travLL, packV, zz, zf, zy, zSync]; done) | (simp [V.erase, V.trav, V.travL, V.travLL, packV, zz, zf, zy, zSync] <;> exact ⟨rfl, rfl, rfl⟩)
end Go.Proofs.YtjhfabimacljhaaGreat.K
