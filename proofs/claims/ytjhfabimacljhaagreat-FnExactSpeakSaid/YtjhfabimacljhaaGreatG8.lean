/- Walks: marks on data of the call's own. Printed by w2.py. -/
import Derived.Test.YtjhfabimacljhaaGreatG4
namespace Go.Proofs.YtjhfabimacljhaaGreat.K
open Go Go.RowKit
set_option linter.unusedVariables false
set_option linter.unusedSimpArgs false
set_option maxHeartbeats 4000000
set_option maxRecDepth 20000
theorem w_laws_markText (k : Nat) (hk : k ≤ 4611686018427387904) : Weak Tryz.prog 127 [.int .i64 (k : Int)] (.str (markT k)) := by
 refine Weak.enter tab_ok Tryz.func127 rfl (.inr (by simp [V.labelsL, V.labels, zz, zf, zy])) (t := [.int .i64 (k : Int), .any, .any, .any, .any, .any, .any, .any, .any, .any, .any, .any, .any, .any, .any, .any, .any, .any, .any, .any]) rfl ?_
 refine OQ ?_
 refine EV ?_
 refine ON ?_
 refine Ok.seq ?_
 refine OQ ?_
 iterate 2 (refine EV ?_)
 refine ON ?_
 refine Ok.cond (b := _) (by simp only [kE, kT, kL, kC] <;> rfl) (fun hb1 => ?_) (fun hb1 => ?_)
 ·
  try simp only [bsimp] at hb1
  rw [show k = 0 by omega]
  refine OQ ?_
  refine EV ?_
  refine ON ?_
  refine Ok.ret ?_
  with_reducible repeat (first | refine thenQ_ret ?_ | refine blockQ_ret ?_)
  refine RT ?_
  rfl
 ·
  try simp only [bsimp] at hb1
  rw [markT, if_neg (by omega)]
  refine Ok.skip ?_
  refine OQ ?_
  refine EV ?_
  refine ON ?_
  refine Ok.seq ?_
  refine Ok.block ?_
  refine Ok.loopWZ (τ := Nat × Str) (fun x => [(0, .int .i64 (x.1 : Int)), (3, .str x.2)]) [6, 7, 8, 9, 10, 11, 12, 13, 14, 15, 16, 17] (fun x => by simp only [kover] <;> rfl) (fun x => decGo x.1 x.2 = decGo k [] ∧ x.1 + x.2.length ≤ k) (fun x => x.1) (k, []) (by omega) (by refine ⟨?_, ?_, ?_, ?_, ?_, ?_, ?_, ?_, ?_, ?_, ?_, ?_, ?_, ?_, ?_, ?_, ?_, ?_, ?_, ?_, trivial⟩ <;> first | exact le_any _ | with_reducible exact le_rfl' _ | (exact le_rfl' _) | exact le_rfl' _) (⟨rfl, by simp⟩) ?_
  rintro ⟨m, acc⟩ ⟨h1, h2⟩
  have h1 : decGo m acc = decGo k [] := h1
  have h2 : m + acc.length ≤ k := h2
  refine Ok.seq ?_
  refine OQ ?_
  iterate 2 (refine EV ?_)
  refine ON ?_
  refine Ok.cond (b := _) (by simp only [kE, kT, kL, kC] <;> rfl) (fun hb4 => ?_) (fun hb4 => ?_)
  ·
   try simp only [bsimp] at hb4
   have hm : 0 < m := by omega
   refine Ok.skip ?_
   refine Ok.block ?_
   refine OQ ?_
   iterate 3 (refine EV ?_)
   refine OkOps.ev tab_ok rfl (by simp only [kE, kT, kL, kC, digit_byte] <;> rfl) (by simp only [kP] <;> rfl) ?_
   refine OkOps.ev tab_ok rfl (ev_bs (by simp only [kT] <;> rfl) (by simp only [kT] <;> rfl) (by decide) (by decide) (by simp only [kE, kT, kL, kC, List.map_cons, List.map_nil] <;> rfl) (by simp only [kfe, beq_self_eq_true, Bool.and_true, Bool.true_and, decide_true, Nat.zero_add, Nat.lt_add_one, Nat.reduceLT, Nat.reduceAdd, Nat.zero_lt_succ, if_true, ↓reduceIte] <;> rfl)) (by simp only [kP] <;> rfl) ?_
   refine OkOps.ev tab_ok rfl (ev_text' (by simp only [kE, kT, kL, kC] <;> rfl) rfl rfl rfl (by simp only [kby, Option.map_some, List.append_assoc, List.cons_append, List.nil_append] <;> rfl)) (by simp only [kP] <;> rfl) ?_
   refine EV ?_
   refine OkOps.ev tab_ok rfl (ev_cat (by simp only [kE, kT, kL, kC] <;> rfl) (by simp only [kE, kT, kL, kC] <;> rfl) (by first | omega | (simp only [List.length_cons, List.length_nil]; omega))) (by simp only [kP] <;> rfl) ?_
   refine EV ?_
   refine ON ?_
   refine Ok.region ?_
   refine EV ?_
   refine OkOps.ev tab_ok rfl (by simp only [kE, kT, kL, kC, quo10 (show m ≤ 9223372036854775807 by omega)] <;> rfl) (by simp only [kP] <;> rfl) ?_
   refine EV ?_
   refine ON ?_
   refine ⟨(m / 10, UInt8.ofNat (48 + m % 10) :: acc), ?_, rfl, ⟨by rw [← h1, decGo_pos hm], by simp only [List.length_cons]; omega⟩, by show m / 10 < m; omega⟩
   simp only [V.renL, V.travL, V.travLL, V.trav, frz, zz, zf, zy, Nat.reduceLeDiff, ↓reduceIte]
   refine ⟨?_, ?_, ?_, ?_, ?_, ?_, ?_, ?_, ?_, ?_, ?_, ?_, ?_, ?_, ?_, ?_, ?_, ?_, ?_, ?_, trivial⟩ <;> first | exact le_any _ | with_reducible exact le_rfl' _ | (exact le_rfl' _) | exact le_rfl' _
  ·
   try simp only [bsimp] at hb4
   have hm : ¬ 0 < m := by omega
   refine Ok.exit ?_
   refine OQ ?_
   refine EV ?_
   refine OkOps.ev tab_ok rfl (ev_cat (by simp only [kE, kT, kL, kC] <;> rfl) (by simp only [kE, kT, kL, kC] <;> rfl) (by first | omega | (simp only [List.length_cons, List.length_nil]; omega))) (by simp only [kP] <;> rfl) ?_
   refine EV ?_
   refine ON ?_
   refine Ok.ret ?_
   with_reducible repeat (first | refine thenQ_ret ?_ | refine blockQ_ret ?_)
   refine RT ?_
   rw [← h1, decGo_zero hm]; rfl
theorem c_laws_markIntS (es : List (List V)) (k L : Nat) (hs : ∀ r ∈ es, isInt r) (hn : ((L + 1) :: V.labelsLL es).Nodup) (hk : k + V.mnLL es ≤ 4611686018427387904) {h : List V} {n : Nat}  : OkCall Tryz.prog 64 [.sl (L + 1) 1 0 es, .int .i64 (k : Int)] h n (MarkQ (· ∈ (L + 1) :: V.labelsLL es) (.sl (L + 1) 1 0 es) (.sl (L + 1) 1 0 (V.mkLL k es)) (.int .i64 ((k + V.mnLL es : Nat) : Int)) h n) := by
 refine OkCall.enter' tab_ok Tryz.func64 rfl (t := [.sl (L + 1) 1 0 es, .int .i64 (k : Int), .any, .any, .any, .any, .any, .any, .any, .any, .any, .any, .any, .any, .any, .any, .any, .any, .any]) rfl ?_
 refine OQ ?_
 refine EV ?_
 refine ON ?_
 refine Ok.seq ?_
 refine OQ ?_
 refine EV ?_
 refine ON ?_
 refine Ok.block ?_
 refine Ok.loopH (τ := List (List V) × List (List V) × (V → V)) (fun x => [(0, .sl (L + 1) 1 0 (V.mkLL k x.1 ++ x.2.1)), (1, .int .i64 ((k + V.mnLL x.1 : Nat) : Int)), (5, .int .i64 (x.1.length : Int))]) [6, 7, 8, 9, 10, 11, 12, 13, 14, 15, 16, 17] (fun x => by simp only [kover] <;> rfl) (fun x => h.map x.2.2) (fun x => es = x.1 ++ x.2.1 ∧ Hom x.2.2 (· ∈ (L + 1) :: V.labelsLL es) ∧ x.2.2 (.sl (L + 1) 1 0 es) = .sl (L + 1) 1 0 (V.mkLL k x.1 ++ x.2.1)) (fun x => x.2.1.length) ([], es, id) (by refine ⟨?_, ?_, ?_, ?_, ?_, ?_, ?_, ?_, ?_, ?_, ?_, ?_, ?_, ?_, ?_, ?_, ?_, ?_, ?_, trivial⟩ <;> first | exact le_any _ | with_reducible exact le_rfl' _ | (exact le_rfl' _) | exact le_rfl' _) ((List.map_id h).symm) (⟨rfl, Hom.id' _, rfl⟩) ?_
 rintro ⟨a, b, U⟩ ⟨he, hU, hv⟩
 have he : es = a ++ b := he
 have hU : Hom U (· ∈ (L + 1) :: V.labelsLL es) := hU
 have hv : U (.sl (L + 1) 1 0 es) = .sl (L + 1) 1 0 (V.mkLL k a ++ b) := hv
 refine Ok.seq ?_
 refine OQ ?_
 iterate 4 (refine EV ?_)
 refine ON ?_
 refine Ok.cond (b := _) (by simp only [kE, kT, kL, kC] <;> rfl) (fun hb2 => ?_) (fun hb2 => ?_)
 ·
  try simp only [bsimp] at hb2
  have hlen : (V.mkLL k a ++ b).length = a.length + b.length := by rw [List.length_append, mkLL_len]
  obtain ⟨c, b, rfl⟩ : ∃ c b', b = c :: b' := by
    cases b with
    | nil => exfalso; rw [hlen] at hb2; simp only [List.length_nil] at hb2; omega
    | cons c b' => exact ⟨c, b', rfl⟩
  obtain ⟨v0, rfl⟩ := hs c (by rw [he]; simp)
  have hkk : k + (V.mnLL a + (V.mnL [.int .i64 v0] + V.mnLL b)) ≤ 4611686018427387904 := by rw [he, mnLL_app] at hk; exact hk
  simp only [V.mnL, V.mn] at hkk
  obtain ⟨dA, dC, dB, dAC, dBC, hC⟩ := lab_split (by rw [← he]; exact hn)
  have dC0 := dC
  simp only [V.labelsLL, V.labelsL, V.labels, mkLL_labels, List.mem_append, List.mem_cons, List.not_mem_nil, List.append_nil, List.nil_append, List.cons_append, not_or, or_false, false_or] at dC
  have hz := len_mn es fun r hr => isInt_mn (hs r hr)
  have hal : a.length ≤ 4611686018427387904 := by have e3 := congrArg List.length he; rw [List.length_append] at e3; omega
  refine Ok.skip ?_
  refine Ok.seq ?_
  refine Ok.block ?_
  refine Ok.seq ?_
  refine Ok.drop [6, 7, 8, 9] (by simp only [kover] <;> rfl) ?_
  refine Ok.region ?_
  iterate 3 (refine EV ?_)
  refine OkOps.ev tab_ok rfl (ev_idx (j := a.length) (by simp only [kE, kT, kL, kC] <;> rfl) (by simp only [kE, kT, kL, kC] <;> rfl) (get_mid (mkLL_len _ _)) (by simp only [kE, kT, kL, kC] <;> rfl)) (by simp only [kP] <;> rfl) ?_
  refine OkOps.storeU tab_ok rfl rfl (by simp only [kE, kT, kL, kC] <;> rfl) ⟨_, _, by simp only [kE]; rfl⟩ (by simp only [V.labelsLL, V.labelsL, V.labels, mkLL_labels, List.mem_append, List.mem_cons, List.not_mem_nil, List.append_nil, List.nil_append, List.cons_append, not_or, or_false, false_or, not_false_eq_true, and_self, dA, dB]) hU hv (List.mem_cons_self ..) (fun W hW hF => by simp only [List.map_cons, List.map_nil, List.map_append, hW.int, hW.str, hW.bool, hW.any, hW.tup0, hF.sl, hF.ptr, Nat.zero_add, set_mid (mkLL_len _ _), labelsLL_app, V.labelsLL, V.labelsL, V.labels, mkLL_labels, List.mem_append, List.mem_cons, List.not_mem_nil, List.append_nil, List.nil_append, List.cons_append, not_or, or_false, false_or, not_false_eq_true, and_self, dA, dB] <;> rfl) (fun W hW hF => by simp only [List.map_cons, List.map_nil, List.map_append, hW.int, hW.str, hW.bool, hW.any, hW.tup0, hF.sl, hF.ptr, Nat.zero_add, set_mid (mkLL_len _ _), labelsLL_app, V.labelsLL, V.labelsL, V.labels, mkLL_labels, List.mem_append, List.mem_cons, List.not_mem_nil, List.append_nil, List.nil_append, List.cons_append, not_or, or_false, false_or, not_false_eq_true, and_self, dA, dB, kP] <;> rfl) ?_
  intro U hU hv
  refine ON ?_
  refine Ok.drop [12, 13, 14, 15] (by simp only [kover] <;> rfl) ?_
  refine Ok.region ?_
  refine EV ?_
  refine OkOps.ev tab_ok rfl (by simp (disch := omega) only [kE, kT, kL, kC, wrap_add_one] <;> rfl) (by simp only [kP] <;> rfl) ?_
  refine EV ?_
  refine ON ?_
  refine Ok.drop [16, 17] (by simp only [kover] <;> rfl) ?_
  refine Ok.region ?_
  refine EV ?_
  refine OkOps.ev tab_ok rfl (by simp (disch := omega) only [kE, kT, kL, kC, wrap_add_one] <;> rfl) (by simp only [kP] <;> rfl) ?_
  refine EV ?_
  refine ON ?_
  refine ⟨(a ++ [[.int .i64 v0]], b, U), ?_, rfl, rfl, ⟨by rw [he]; simp, hU, by dsimp only; rw [hv, mkLL_snoc]; simp only [V.mkL, V.mk, V.mn, List.append_assoc, List.cons_append, List.nil_append] <;> rfl⟩, by simp only [List.length_cons]; omega⟩
  refine ⟨?_, ?_, ?_, ?_, ?_, ?_, ?_, ?_, ?_, ?_, ?_, ?_, ?_, ?_, ?_, ?_, ?_, ?_, ?_, trivial⟩ <;> first | exact le_any _ | with_reducible exact le_rfl' _ | (dsimp only; first | (refine le_eqm ?_; simp only [List.length_append, List.length_cons, List.length_nil]; done) | (rw [wrap_add_one (by omega)]; refine le_eqm ?_; simp only [List.length_append, List.length_cons, List.length_nil]; done) | (refine le_eqm ?_; rw [mkLL_snoc]; simp only [V.mkL, V.mk, V.mn, List.append_assoc, List.cons_append, List.nil_append] <;> rfl) | (refine le_eqm (congrArg (V.int .i64) (congrArg Nat.cast ?_)); rw [mnLL_snoc]; simp only [V.mnL, V.mn]; omega)) | exact le_rfl' _
 ·
  try simp only [bsimp] at hb2
  have hb : b = [] := by cases b with
    | nil => rfl
    | cons c b' => exfalso; rw [List.length_append, mkLL_len] at hb2; simp only [List.length_cons] at hb2; omega
  subst hb
  rw [List.append_nil] at he
  subst he
  refine Ok.exit ?_
  refine Ok.seq ?_
  refine Ok.drop [6, 7, 8, 9] (by simp only [kover] <;> rfl) ?_
  refine Ok.region ?_
  iterate 2 (refine EV ?_)
  refine ON ?_
  refine Ok.ret ?_
  with_reducible repeat (first | refine thenQ_ret ?_ | refine blockQ_ret ?_)
  refine RT ?_
  exact ⟨rfl, rfl, U, hU, by rw [hv, List.append_nil], rfl⟩
theorem c_laws_markStringS (es : List (List V)) (k L : Nat) (hs : ∀ r ∈ es, isText r) (hn : ((L + 1) :: V.labelsLL es).Nodup) (hk : k + V.mnLL es ≤ 4611686018427387904) {h : List V} {n : Nat}  : OkCall Tryz.prog 66 [.sl (L + 1) 1 0 es, .int .i64 (k : Int)] h n (MarkQ (· ∈ (L + 1) :: V.labelsLL es) (.sl (L + 1) 1 0 es) (.sl (L + 1) 1 0 (V.mkLL k es)) (.int .i64 ((k + V.mnLL es : Nat) : Int)) h n) := by
 refine OkCall.enter' tab_ok Tryz.func66 rfl (t := [.sl (L + 1) 1 0 es, .int .i64 (k : Int), .any, .any, .any, .any, .any, .any, .any, .any, .any, .any, .any, .any, .any, .any, .any, .any, .any, .any]) rfl ?_
 refine OQ ?_
 refine EV ?_
 refine ON ?_
 refine Ok.seq ?_
 refine OQ ?_
 refine EV ?_
 refine ON ?_
 refine Ok.block ?_
 refine Ok.loopH (τ := List (List V) × List (List V) × (V → V)) (fun x => [(0, .sl (L + 1) 1 0 (V.mkLL k x.1 ++ x.2.1)), (1, .int .i64 ((k + V.mnLL x.1 : Nat) : Int)), (5, .int .i64 (x.1.length : Int))]) [6, 7, 8, 9, 10, 11, 12, 13, 14, 15, 16, 17, 18] (fun x => by simp only [kover] <;> rfl) (fun x => h.map x.2.2) (fun x => es = x.1 ++ x.2.1 ∧ Hom x.2.2 (· ∈ (L + 1) :: V.labelsLL es) ∧ x.2.2 (.sl (L + 1) 1 0 es) = .sl (L + 1) 1 0 (V.mkLL k x.1 ++ x.2.1)) (fun x => x.2.1.length) ([], es, id) (by refine ⟨?_, ?_, ?_, ?_, ?_, ?_, ?_, ?_, ?_, ?_, ?_, ?_, ?_, ?_, ?_, ?_, ?_, ?_, ?_, ?_, trivial⟩ <;> first | exact le_any _ | with_reducible exact le_rfl' _ | (exact le_rfl' _) | exact le_rfl' _) ((List.map_id h).symm) (⟨rfl, Hom.id' _, rfl⟩) ?_
 rintro ⟨a, b, U⟩ ⟨he, hU, hv⟩
 have he : es = a ++ b := he
 have hU : Hom U (· ∈ (L + 1) :: V.labelsLL es) := hU
 have hv : U (.sl (L + 1) 1 0 es) = .sl (L + 1) 1 0 (V.mkLL k a ++ b) := hv
 refine Ok.seq ?_
 refine OQ ?_
 iterate 4 (refine EV ?_)
 refine ON ?_
 refine Ok.cond (b := _) (by simp only [kE, kT, kL, kC] <;> rfl) (fun hb2 => ?_) (fun hb2 => ?_)
 ·
  try simp only [bsimp] at hb2
  have hlen : (V.mkLL k a ++ b).length = a.length + b.length := by rw [List.length_append, mkLL_len]
  obtain ⟨c, b, rfl⟩ : ∃ c b', b = c :: b' := by
    cases b with
    | nil => exfalso; rw [hlen] at hb2; simp only [List.length_nil] at hb2; omega
    | cons c b' => exact ⟨c, b', rfl⟩
  obtain ⟨v0, rfl⟩ := hs c (by rw [he]; simp)
  have hkk : k + (V.mnLL a + (V.mnL [.str v0] + V.mnLL b)) ≤ 4611686018427387904 := by rw [he, mnLL_app] at hk; exact hk
  simp only [V.mnL, V.mn] at hkk
  obtain ⟨dA, dC, dB, dAC, dBC, hC⟩ := lab_split (by rw [← he]; exact hn)
  have dC0 := dC
  simp only [V.labelsLL, V.labelsL, V.labels, mkLL_labels, List.mem_append, List.mem_cons, List.not_mem_nil, List.append_nil, List.nil_append, List.cons_append, not_or, or_false, false_or] at dC
  have hz := len_mn es fun r hr => isText_mn (hs r hr)
  have hal : a.length ≤ 4611686018427387904 := by have e3 := congrArg List.length he; rw [List.length_append] at e3; omega
  refine Ok.skip ?_
  refine Ok.seq ?_
  refine Ok.block ?_
  refine Ok.seq ?_
  refine Ok.drop [6, 7, 8, 9] (by simp only [kover] <;> rfl) ?_
  refine Ok.region ?_
  iterate 3 (refine EV ?_)
  refine OkOps.S0 rfl (OpS.weak' rfl (by simp only [kE, kT, kL, kC] <;> rfl) (by simp only [kE, kT, kL, kC] <;> rfl) cl127 (w_laws_markText _ (by omega))) (by simp only [kP] <;> rfl) ?_
  refine OkOps.ev tab_ok rfl (ev_idx (j := a.length) (by simp only [kE, kT, kL, kC] <;> rfl) (by simp only [kE, kT, kL, kC] <;> rfl) (get_mid (mkLL_len _ _)) (by simp only [kE, kT, kL, kC] <;> rfl)) (by simp only [kP] <;> rfl) ?_
  refine OkOps.storeU tab_ok rfl rfl (by simp only [kE, kT, kL, kC] <;> rfl) ⟨_, _, by simp only [kE]; rfl⟩ (by simp only [V.labelsLL, V.labelsL, V.labels, mkLL_labels, List.mem_append, List.mem_cons, List.not_mem_nil, List.append_nil, List.nil_append, List.cons_append, not_or, or_false, false_or, not_false_eq_true, and_self, dA, dB]) hU hv (List.mem_cons_self ..) (fun W hW hF => by simp only [List.map_cons, List.map_nil, List.map_append, hW.int, hW.str, hW.bool, hW.any, hW.tup0, hF.sl, hF.ptr, Nat.zero_add, set_mid (mkLL_len _ _), labelsLL_app, V.labelsLL, V.labelsL, V.labels, mkLL_labels, List.mem_append, List.mem_cons, List.not_mem_nil, List.append_nil, List.nil_append, List.cons_append, not_or, or_false, false_or, not_false_eq_true, and_self, dA, dB] <;> rfl) (fun W hW hF => by simp only [List.map_cons, List.map_nil, List.map_append, hW.int, hW.str, hW.bool, hW.any, hW.tup0, hF.sl, hF.ptr, Nat.zero_add, set_mid (mkLL_len _ _), labelsLL_app, V.labelsLL, V.labelsL, V.labels, mkLL_labels, List.mem_append, List.mem_cons, List.not_mem_nil, List.append_nil, List.nil_append, List.cons_append, not_or, or_false, false_or, not_false_eq_true, and_self, dA, dB, kP] <;> rfl) ?_
  intro U hU hv
  refine ON ?_
  refine Ok.drop [12, 13, 14, 15, 16] (by simp only [kover] <;> rfl) ?_
  refine Ok.region ?_
  refine EV ?_
  refine OkOps.ev tab_ok rfl (by simp (disch := omega) only [kE, kT, kL, kC, wrap_add_one] <;> rfl) (by simp only [kP] <;> rfl) ?_
  refine EV ?_
  refine ON ?_
  refine Ok.drop [17, 18] (by simp only [kover] <;> rfl) ?_
  refine Ok.region ?_
  refine EV ?_
  refine OkOps.ev tab_ok rfl (by simp (disch := omega) only [kE, kT, kL, kC, wrap_add_one] <;> rfl) (by simp only [kP] <;> rfl) ?_
  refine EV ?_
  refine ON ?_
  refine ⟨(a ++ [[.str v0]], b, U), ?_, rfl, rfl, ⟨by rw [he]; simp, hU, by dsimp only; rw [hv, mkLL_snoc]; simp only [V.mkL, V.mk, V.mn, List.append_assoc, List.cons_append, List.nil_append] <;> rfl⟩, by simp only [List.length_cons]; omega⟩
  refine ⟨?_, ?_, ?_, ?_, ?_, ?_, ?_, ?_, ?_, ?_, ?_, ?_, ?_, ?_, ?_, ?_, ?_, ?_, ?_, ?_, trivial⟩ <;> first | exact le_any _ | with_reducible exact le_rfl' _ | (dsimp only; first | (refine le_eqm ?_; simp only [List.length_append, List.length_cons, List.length_nil]; done) | (rw [wrap_add_one (by omega)]; refine le_eqm ?_; simp only [List.length_append, List.length_cons, List.length_nil]; done) | (refine le_eqm ?_; rw [mkLL_snoc]; simp only [V.mkL, V.mk, V.mn, List.append_assoc, List.cons_append, List.nil_append] <;> rfl) | (refine le_eqm (congrArg (V.int .i64) (congrArg Nat.cast ?_)); rw [mnLL_snoc]; simp only [V.mnL, V.mn]; omega)) | exact le_rfl' _
 ·
  try simp only [bsimp] at hb2
  have hb : b = [] := by cases b with
    | nil => rfl
    | cons c b' => exfalso; rw [List.length_append, mkLL_len] at hb2; simp only [List.length_cons] at hb2; omega
  subst hb
  rw [List.append_nil] at he
  subst he
  refine Ok.exit ?_
  refine Ok.seq ?_
  refine Ok.drop [6, 7, 8, 9] (by simp only [kover] <;> rfl) ?_
  refine Ok.region ?_
  iterate 2 (refine EV ?_)
  refine ON ?_
  refine Ok.ret ?_
  with_reducible repeat (first | refine thenQ_ret ?_ | refine blockQ_ret ?_)
  refine RT ?_
  exact ⟨rfl, rfl, U, hU, by rw [hv, List.append_nil], rfl⟩
theorem c_laws_markRegS (es : List (List V)) (k L : Nat) (hs : ∀ r ∈ es, isReg r) (hn : ((L + 1) :: V.labelsLL es).Nodup) (hk : k + V.mnLL es ≤ 4611686018427387904) {h : List V} {n : Nat}  : OkCall Tryz.prog 177 [.sl (L + 1) 3 0 es, .int .i64 (k : Int)] h n (MarkQ (· ∈ (L + 1) :: V.labelsLL es) (.sl (L + 1) 3 0 es) (.sl (L + 1) 3 0 (V.mkLL k es)) (.int .i64 ((k + V.mnLL es : Nat) : Int)) h n) := by
 refine OkCall.enter' tab_ok Tryz.func177 rfl (t := [.sl (L + 1) 3 0 es, .int .i64 (k : Int), .any, .any, .any, .any, .any, .any, .any, .any, .any, .any, .any, .any, .any, .any, .any, .any, .any, .any, .any, .any, .any, .any, .any, .any, .any, .any, .any, .any, .any, .any, .any, .any, .any, .any]) rfl ?_
 refine OQ ?_
 refine EV ?_
 refine ON ?_
 refine Ok.seq ?_
 refine OQ ?_
 refine EV ?_
 refine ON ?_
 refine Ok.block ?_
 refine Ok.loopH (τ := List (List V) × List (List V) × (V → V)) (fun x => [(0, .sl (L + 1) 3 0 (V.mkLL k x.1 ++ x.2.1)), (1, .int .i64 ((k + V.mnLL x.1 : Nat) : Int)), (5, .int .i64 (x.1.length : Int))]) [6, 7, 8, 9, 10, 11, 12, 13, 14, 15, 16, 17, 18, 19, 20, 21, 22, 23, 24, 25, 26, 27, 28, 29, 30, 31, 32, 33, 34] (fun x => by simp only [kover] <;> rfl) (fun x => h.map x.2.2) (fun x => es = x.1 ++ x.2.1 ∧ Hom x.2.2 (· ∈ (L + 1) :: V.labelsLL es) ∧ x.2.2 (.sl (L + 1) 3 0 es) = .sl (L + 1) 3 0 (V.mkLL k x.1 ++ x.2.1)) (fun x => x.2.1.length) ([], es, id) (by refine ⟨?_, ?_, ?_, ?_, ?_, ?_, ?_, ?_, ?_, ?_, ?_, ?_, ?_, ?_, ?_, ?_, ?_, ?_, ?_, ?_, ?_, ?_, ?_, ?_, ?_, ?_, ?_, ?_, ?_, ?_, ?_, ?_, ?_, ?_, ?_, ?_, trivial⟩ <;> first | exact le_any _ | with_reducible exact le_rfl' _ | (exact le_rfl' _) | exact le_rfl' _) ((List.map_id h).symm) (⟨rfl, Hom.id' _, rfl⟩) ?_
 rintro ⟨a, b, U⟩ ⟨he, hU, hv⟩
 have he : es = a ++ b := he
 have hU : Hom U (· ∈ (L + 1) :: V.labelsLL es) := hU
 have hv : U (.sl (L + 1) 3 0 es) = .sl (L + 1) 3 0 (V.mkLL k a ++ b) := hv
 refine Ok.seq ?_
 refine OQ ?_
 iterate 4 (refine EV ?_)
 refine ON ?_
 refine Ok.cond (b := _) (by simp only [kE, kT, kL, kC] <;> rfl) (fun hb2 => ?_) (fun hb2 => ?_)
 ·
  try simp only [bsimp] at hb2
  have hlen : (V.mkLL k a ++ b).length = a.length + b.length := by rw [List.length_append, mkLL_len]
  obtain ⟨c, b, rfl⟩ : ∃ c b', b = c :: b' := by
    cases b with
    | nil => exfalso; rw [hlen] at hb2; simp only [List.length_nil] at hb2; omega
    | cons c b' => exact ⟨c, b', rfl⟩
  obtain ⟨v0, v1, v2, rfl⟩ := hs c (by rw [he]; simp)
  have hkk : k + (V.mnLL a + (V.mnL [.int .i64 v0, .int .i64 v1, .int .i64 v2] + V.mnLL b)) ≤ 4611686018427387904 := by rw [he, mnLL_app] at hk; exact hk
  simp only [V.mnL, V.mn] at hkk
  obtain ⟨dA, dC, dB, dAC, dBC, hC⟩ := lab_split (by rw [← he]; exact hn)
  have dC0 := dC
  simp only [V.labelsLL, V.labelsL, V.labels, mkLL_labels, List.mem_append, List.mem_cons, List.not_mem_nil, List.append_nil, List.nil_append, List.cons_append, not_or, or_false, false_or] at dC
  have hz := len_mn es fun r hr => isReg_mn (hs r hr)
  have hal : a.length ≤ 4611686018427387904 := by have e3 := congrArg List.length he; rw [List.length_append] at e3; omega
  refine Ok.skip ?_
  refine Ok.seq ?_
  refine Ok.block ?_
  refine Ok.seq ?_
  refine Ok.drop [6, 7, 8, 9] (by simp only [kover] <;> rfl) ?_
  refine Ok.region ?_
  iterate 3 (refine EV ?_)
  refine OkOps.ev tab_ok rfl (ev_idx (j := a.length) (by simp only [kE, kT, kL, kC] <;> rfl) (by simp only [kE, kT, kL, kC] <;> rfl) (get_mid (mkLL_len _ _)) (by simp only [kE, kT, kL, kC] <;> rfl)) (by simp only [kP] <;> rfl) ?_
  refine EV ?_
  refine OkOps.storeU tab_ok rfl rfl (by simp only [kE, kT, kL, kC] <;> rfl) ⟨_, _, by simp only [kE]; rfl⟩ (by simp only [V.labelsLL, V.labelsL, V.labels, mkLL_labels, List.mem_append, List.mem_cons, List.not_mem_nil, List.append_nil, List.nil_append, List.cons_append, not_or, or_false, false_or, not_false_eq_true, and_self, dA, dB]) hU hv (List.mem_cons_self ..) (fun W hW hF => by simp only [List.map_cons, List.map_nil, List.map_append, hW.int, hW.str, hW.bool, hW.any, hW.tup0, hF.sl, hF.ptr, Nat.zero_add, set_mid (mkLL_len _ _), labelsLL_app, V.labelsLL, V.labelsL, V.labels, mkLL_labels, List.mem_append, List.mem_cons, List.not_mem_nil, List.append_nil, List.nil_append, List.cons_append, not_or, or_false, false_or, not_false_eq_true, and_self, dA, dB] <;> rfl) (fun W hW hF => by simp only [List.map_cons, List.map_nil, List.map_append, hW.int, hW.str, hW.bool, hW.any, hW.tup0, hF.sl, hF.ptr, Nat.zero_add, set_mid (mkLL_len _ _), labelsLL_app, V.labelsLL, V.labelsL, V.labels, mkLL_labels, List.mem_append, List.mem_cons, List.not_mem_nil, List.append_nil, List.nil_append, List.cons_append, not_or, or_false, false_or, not_false_eq_true, and_self, dA, dB, kP] <;> rfl) ?_
  intro U hU hv
  refine ON ?_
  refine Ok.seq ?_
  refine Ok.drop [12, 13, 14, 15, 16] (by simp only [kover] <;> rfl) ?_
  refine Ok.region ?_
  refine EV ?_
  refine OkOps.ev tab_ok rfl (by simp (disch := omega) only [kE, kT, kL, kC, wrap_add_one] <;> rfl) (by simp only [kP] <;> rfl) ?_
  refine EV ?_
  refine ON ?_
  refine Ok.seq ?_
  refine Ok.drop [17, 18] (by simp only [kover] <;> rfl) ?_
  refine Ok.region ?_
  iterate 3 (refine EV ?_)
  refine OkOps.ev tab_ok rfl (ev_idx (j := a.length) (by simp only [kE, kT, kL, kC] <;> rfl) (by simp only [kE, kT, kL, kC] <;> rfl) (get_mid (mkLL_len _ _)) (by simp only [kE, kT, kL, kC] <;> rfl)) (by simp only [kP] <;> rfl) ?_
  iterate 2 (refine EV ?_)
  refine OkOps.storeU tab_ok rfl rfl (by simp only [kE, kT, kL, kC] <;> rfl) ⟨_, _, by simp only [kE]; rfl⟩ (by simp only [V.labelsLL, V.labelsL, V.labels, mkLL_labels, List.mem_append, List.mem_cons, List.not_mem_nil, List.append_nil, List.nil_append, List.cons_append, not_or, or_false, false_or, not_false_eq_true, and_self, dA, dB]) hU hv (List.mem_cons_self ..) (fun W hW hF => by simp only [List.map_cons, List.map_nil, List.map_append, hW.int, hW.str, hW.bool, hW.any, hW.tup0, hF.sl, hF.ptr, Nat.zero_add, set_mid (mkLL_len _ _), labelsLL_app, V.labelsLL, V.labelsL, V.labels, mkLL_labels, List.mem_append, List.mem_cons, List.not_mem_nil, List.append_nil, List.nil_append, List.cons_append, not_or, or_false, false_or, not_false_eq_true, and_self, dA, dB] <;> rfl) (fun W hW hF => by simp only [List.map_cons, List.map_nil, List.map_append, hW.int, hW.str, hW.bool, hW.any, hW.tup0, hF.sl, hF.ptr, Nat.zero_add, set_mid (mkLL_len _ _), labelsLL_app, V.labelsLL, V.labelsL, V.labels, mkLL_labels, List.mem_append, List.mem_cons, List.not_mem_nil, List.append_nil, List.nil_append, List.cons_append, not_or, or_false, false_or, not_false_eq_true, and_self, dA, dB, kP] <;> rfl) ?_
  intro U hU hv
  refine ON ?_
  refine Ok.seq ?_
  refine Ok.drop [19, 20, 21, 22, 23, 24] (by simp only [kover] <;> rfl) ?_
  refine Ok.region ?_
  refine EV ?_
  refine OkOps.ev tab_ok rfl (by simp (disch := omega) only [kE, kT, kL, kC, wrap_add_one] <;> rfl) (by simp only [kP] <;> rfl) ?_
  refine EV ?_
  refine ON ?_
  refine Ok.seq ?_
  refine Ok.drop [25, 26] (by simp only [kover] <;> rfl) ?_
  refine Ok.region ?_
  iterate 3 (refine EV ?_)
  refine OkOps.ev tab_ok rfl (ev_idx (j := a.length) (by simp only [kE, kT, kL, kC] <;> rfl) (by simp only [kE, kT, kL, kC] <;> rfl) (get_mid (mkLL_len _ _)) (by simp only [kE, kT, kL, kC] <;> rfl)) (by simp only [kP] <;> rfl) ?_
  iterate 2 (refine EV ?_)
  refine OkOps.storeU tab_ok rfl rfl (by simp only [kE, kT, kL, kC] <;> rfl) ⟨_, _, by simp only [kE]; rfl⟩ (by simp only [V.labelsLL, V.labelsL, V.labels, mkLL_labels, List.mem_append, List.mem_cons, List.not_mem_nil, List.append_nil, List.nil_append, List.cons_append, not_or, or_false, false_or, not_false_eq_true, and_self, dA, dB]) hU hv (List.mem_cons_self ..) (fun W hW hF => by simp only [List.map_cons, List.map_nil, List.map_append, hW.int, hW.str, hW.bool, hW.any, hW.tup0, hF.sl, hF.ptr, Nat.zero_add, set_mid (mkLL_len _ _), labelsLL_app, V.labelsLL, V.labelsL, V.labels, mkLL_labels, List.mem_append, List.mem_cons, List.not_mem_nil, List.append_nil, List.nil_append, List.cons_append, not_or, or_false, false_or, not_false_eq_true, and_self, dA, dB] <;> rfl) (fun W hW hF => by simp only [List.map_cons, List.map_nil, List.map_append, hW.int, hW.str, hW.bool, hW.any, hW.tup0, hF.sl, hF.ptr, Nat.zero_add, set_mid (mkLL_len _ _), labelsLL_app, V.labelsLL, V.labelsL, V.labels, mkLL_labels, List.mem_append, List.mem_cons, List.not_mem_nil, List.append_nil, List.nil_append, List.cons_append, not_or, or_false, false_or, not_false_eq_true, and_self, dA, dB, kP] <;> rfl) ?_
  intro U hU hv
  refine ON ?_
  refine Ok.drop [27, 28, 29, 30, 31, 32] (by simp only [kover] <;> rfl) ?_
  refine Ok.region ?_
  refine EV ?_
  refine OkOps.ev tab_ok rfl (by simp (disch := omega) only [kE, kT, kL, kC, wrap_add_one] <;> rfl) (by simp only [kP] <;> rfl) ?_
  refine EV ?_
  refine ON ?_
  refine Ok.drop [33, 34] (by simp only [kover] <;> rfl) ?_
  refine Ok.region ?_
  refine EV ?_
  refine OkOps.ev tab_ok rfl (by simp (disch := omega) only [kE, kT, kL, kC, wrap_add_one] <;> rfl) (by simp only [kP] <;> rfl) ?_
  refine EV ?_
  refine ON ?_
  refine ⟨(a ++ [[.int .i64 v0, .int .i64 v1, .int .i64 v2]], b, U), ?_, rfl, rfl, ⟨by rw [he]; simp, hU, by dsimp only; rw [hv, mkLL_snoc]; simp only [V.mkL, V.mk, V.mn, List.append_assoc, List.cons_append, List.nil_append] <;> rfl⟩, by simp only [List.length_cons]; omega⟩
  refine ⟨?_, ?_, ?_, ?_, ?_, ?_, ?_, ?_, ?_, ?_, ?_, ?_, ?_, ?_, ?_, ?_, ?_, ?_, ?_, ?_, ?_, ?_, ?_, ?_, ?_, ?_, ?_, ?_, ?_, ?_, ?_, ?_, ?_, ?_, ?_, ?_, trivial⟩ <;> first | exact le_any _ | with_reducible exact le_rfl' _ | (dsimp only; first | (refine le_eqm ?_; simp only [List.length_append, List.length_cons, List.length_nil]; done) | (rw [wrap_add_one (by omega)]; refine le_eqm ?_; simp only [List.length_append, List.length_cons, List.length_nil]; done) | (refine le_eqm ?_; rw [mkLL_snoc]; simp only [V.mkL, V.mk, V.mn, List.append_assoc, List.cons_append, List.nil_append] <;> rfl) | (refine le_eqm (congrArg (V.int .i64) (congrArg Nat.cast ?_)); rw [mnLL_snoc]; simp only [V.mnL, V.mn]; omega)) | exact le_rfl' _
 ·
  try simp only [bsimp] at hb2
  have hb : b = [] := by cases b with
    | nil => rfl
    | cons c b' => exfalso; rw [List.length_append, mkLL_len] at hb2; simp only [List.length_cons] at hb2; omega
  subst hb
  rw [List.append_nil] at he
  subst he
  refine Ok.exit ?_
  refine Ok.seq ?_
  refine Ok.drop [6, 7, 8, 9] (by simp only [kover] <;> rfl) ?_
  refine Ok.region ?_
  iterate 2 (refine EV ?_)
  refine ON ?_
  refine Ok.ret ?_
  with_reducible repeat (first | refine thenQ_ret ?_ | refine blockQ_ret ?_)
  refine RT ?_
  exact ⟨rfl, rfl, U, hU, by rw [hv, List.append_nil], rfl⟩
theorem c_laws_markMailS (es : List (List V)) (k L : Nat) (hs : ∀ r ∈ es, isMail r) (hn : ((L + 1) :: V.labelsLL es).Nodup) (hk : k + V.mnLL es ≤ 4611686018427387904) {h : List V} {n : Nat}  : OkCall Tryz.prog 128 [.sl (L + 1) 4 0 es, .int .i64 (k : Int)] h n (MarkQ (· ∈ (L + 1) :: V.labelsLL es) (.sl (L + 1) 4 0 es) (.sl (L + 1) 4 0 (V.mkLL k es)) (.int .i64 ((k + V.mnLL es : Nat) : Int)) h n) := by
 refine OkCall.enter' tab_ok Tryz.func128 rfl (t := [.sl (L + 1) 4 0 es, .int .i64 (k : Int), .any, .any, .any, .any, .any, .any, .any, .any, .any, .any, .any, .any, .any, .any, .any, .any, .any, .any, .any, .any, .any, .any, .any, .any, .any, .any, .any, .any, .any, .any, .any, .any, .any, .any, .any, .any, .any, .any, .any, .any]) rfl ?_
 refine OQ ?_
 refine EV ?_
 refine ON ?_
 refine Ok.seq ?_
 refine OQ ?_
 refine EV ?_
 refine ON ?_
 refine Ok.block ?_
 refine Ok.loopH (τ := List (List V) × List (List V) × (V → V)) (fun x => [(0, .sl (L + 1) 4 0 (V.mkLL k x.1 ++ x.2.1)), (1, .int .i64 ((k + V.mnLL x.1 : Nat) : Int)), (5, .int .i64 (x.1.length : Int))]) [6, 7, 8, 9, 10, 11, 12, 13, 14, 15, 16, 17, 18, 19, 20, 21, 22, 23, 24, 25, 26, 27, 28, 29, 30, 31, 32, 33, 34, 35, 36, 37, 38, 39, 40] (fun x => by simp only [kover] <;> rfl) (fun x => h.map x.2.2) (fun x => es = x.1 ++ x.2.1 ∧ Hom x.2.2 (· ∈ (L + 1) :: V.labelsLL es) ∧ x.2.2 (.sl (L + 1) 4 0 es) = .sl (L + 1) 4 0 (V.mkLL k x.1 ++ x.2.1)) (fun x => x.2.1.length) ([], es, id) (by refine ⟨?_, ?_, ?_, ?_, ?_, ?_, ?_, ?_, ?_, ?_, ?_, ?_, ?_, ?_, ?_, ?_, ?_, ?_, ?_, ?_, ?_, ?_, ?_, ?_, ?_, ?_, ?_, ?_, ?_, ?_, ?_, ?_, ?_, ?_, ?_, ?_, ?_, ?_, ?_, ?_, ?_, ?_, trivial⟩ <;> first | exact le_any _ | with_reducible exact le_rfl' _ | (exact le_rfl' _) | exact le_rfl' _) ((List.map_id h).symm) (⟨rfl, Hom.id' _, rfl⟩) ?_
 rintro ⟨a, b, U⟩ ⟨he, hU, hv⟩
 have he : es = a ++ b := he
 have hU : Hom U (· ∈ (L + 1) :: V.labelsLL es) := hU
 have hv : U (.sl (L + 1) 4 0 es) = .sl (L + 1) 4 0 (V.mkLL k a ++ b) := hv
 refine Ok.seq ?_
 refine OQ ?_
 iterate 4 (refine EV ?_)
 refine ON ?_
 refine Ok.cond (b := _) (by simp only [kE, kT, kL, kC] <;> rfl) (fun hb2 => ?_) (fun hb2 => ?_)
 ·
  try simp only [bsimp] at hb2
  have hlen : (V.mkLL k a ++ b).length = a.length + b.length := by rw [List.length_append, mkLL_len]
  obtain ⟨c, b, rfl⟩ : ∃ c b', b = c :: b' := by
    cases b with
    | nil => exfalso; rw [hlen] at hb2; simp only [List.length_nil] at hb2; omega
    | cons c b' => exact ⟨c, b', rfl⟩
  obtain ⟨v0, v1, L2, e2, v3, rfl, q2⟩ := hs c (by rw [he]; simp)
  have hkk : k + (V.mnLL a + (V.mnL [.int .i64 v0, .int .i64 v1, .sl (L2 + 1) 3 0 e2, .str v3] + V.mnLL b)) ≤ 4611686018427387904 := by rw [he, mnLL_app] at hk; exact hk
  simp only [V.mnL, V.mn] at hkk
  obtain ⟨dA, dC, dB, dAC, dBC, hC⟩ := lab_split (by rw [← he]; exact hn)
  have dC0 := dC
  simp only [V.labelsLL, V.labelsL, V.labels, mkLL_labels, List.mem_append, List.mem_cons, List.not_mem_nil, List.append_nil, List.nil_append, List.cons_append, not_or, or_false, false_or] at dC
  have hz := len_mn es fun r hr => isMail_mn (hs r hr)
  have hal : a.length ≤ 4611686018427387904 := by have e3 := congrArg List.length he; rw [List.length_append] at e3; omega
  have m2 : ∀ y ∈ (L2 + 1) :: V.labelsLL e2, y ∈ V.labelsL [.int .i64 v0, .int .i64 v1, .sl (L2 + 1) 3 0 e2, .str v3] := fun y hy => by simp only [V.labelsL, V.labels, List.mem_append, List.append_nil, List.nil_append]; simp only [hy, true_or, or_true]
  have x2 : ¬ (L + 1 ∈ (L2 + 1) :: V.labelsLL e2) := fun h => dC0 (m2 _ h)
  have a2 : ∀ K, ∀ y ∈ V.labelsLL (V.mkLL K a), ¬ (y ∈ (L2 + 1) :: V.labelsLL e2) := fun K y hy h => dAC y (by rw [mkLL_labels] at hy; exact hy) (m2 _ h)
  have b2 : ∀ y ∈ V.labelsLL b, ¬ (y ∈ (L2 + 1) :: V.labelsLL e2) := fun y hy h => dBC y hy (m2 _ h)
  have u2 : ∀ y, y ∈ (L2 + 1) :: V.labelsLL e2 → y ∈ (L + 1) :: V.labelsLL es := fun y hy => by rw [he, labelsLL_app]; exact List.mem_cons_of_mem _ (List.mem_append_right _ (List.mem_append_left _ (m2 y hy)))
  have hC1 := hC
  simp only [V.labelsL, V.labels, List.append_nil, List.nil_append] at hC1
  have w2 := hC1
  refine Ok.skip ?_
  refine Ok.seq ?_
  refine Ok.block ?_
  refine Ok.seq ?_
  refine Ok.drop [6, 7, 8, 9] (by simp only [kover] <;> rfl) ?_
  refine Ok.region ?_
  iterate 3 (refine EV ?_)
  refine OkOps.ev tab_ok rfl (ev_idx (j := a.length) (by simp only [kE, kT, kL, kC] <;> rfl) (by simp only [kE, kT, kL, kC] <;> rfl) (get_mid (mkLL_len _ _)) (by simp only [kE, kT, kL, kC] <;> rfl)) (by simp only [kP] <;> rfl) ?_
  refine EV ?_
  refine OkOps.storeU tab_ok rfl rfl (by simp only [kE, kT, kL, kC] <;> rfl) ⟨_, _, by simp only [kE]; rfl⟩ (by simp only [V.labelsLL, V.labelsL, V.labels, mkLL_labels, List.mem_append, List.mem_cons, List.not_mem_nil, List.append_nil, List.nil_append, List.cons_append, not_or, or_false, false_or, not_false_eq_true, and_self, dA, dB, dC]) hU hv (List.mem_cons_self ..) (fun W hW hF => by simp only [List.map_cons, List.map_nil, List.map_append, hW.int, hW.str, hW.bool, hW.any, hW.tup0, hF.sl, hF.ptr, Nat.zero_add, set_mid (mkLL_len _ _), labelsLL_app, V.labelsLL, V.labelsL, V.labels, mkLL_labels, List.mem_append, List.mem_cons, List.not_mem_nil, List.append_nil, List.nil_append, List.cons_append, not_or, or_false, false_or, not_false_eq_true, and_self, dA, dB, dC] <;> rfl) (fun W hW hF => by simp only [List.map_cons, List.map_nil, List.map_append, hW.int, hW.str, hW.bool, hW.any, hW.tup0, hF.sl, hF.ptr, Nat.zero_add, set_mid (mkLL_len _ _), labelsLL_app, V.labelsLL, V.labelsL, V.labels, mkLL_labels, List.mem_append, List.mem_cons, List.not_mem_nil, List.append_nil, List.nil_append, List.cons_append, not_or, or_false, false_or, not_false_eq_true, and_self, dA, dB, dC, kP] <;> rfl) ?_
  intro U hU hv
  refine ON ?_
  refine Ok.seq ?_
  refine Ok.drop [12, 13, 14, 15, 16] (by simp only [kover] <;> rfl) ?_
  refine Ok.region ?_
  refine EV ?_
  refine OkOps.ev tab_ok rfl (by simp (disch := omega) only [kE, kT, kL, kC, wrap_add_one] <;> rfl) (by simp only [kP] <;> rfl) ?_
  refine EV ?_
  refine ON ?_
  refine Ok.seq ?_
  refine Ok.drop [17, 18] (by simp only [kover] <;> rfl) ?_
  refine Ok.region ?_
  iterate 3 (refine EV ?_)
  refine OkOps.ev tab_ok rfl (ev_idx (j := a.length) (by simp only [kE, kT, kL, kC] <;> rfl) (by simp only [kE, kT, kL, kC] <;> rfl) (get_mid (mkLL_len _ _)) (by simp only [kE, kT, kL, kC] <;> rfl)) (by simp only [kP] <;> rfl) ?_
  refine EV ?_
  refine OkOps.storeU tab_ok rfl rfl (by simp only [kE, kT, kL, kC] <;> rfl) ⟨_, _, by simp only [kE]; rfl⟩ (by simp only [V.labelsLL, V.labelsL, V.labels, mkLL_labels, List.mem_append, List.mem_cons, List.not_mem_nil, List.append_nil, List.nil_append, List.cons_append, not_or, or_false, false_or, not_false_eq_true, and_self, dA, dB, dC]) hU hv (List.mem_cons_self ..) (fun W hW hF => by simp only [List.map_cons, List.map_nil, List.map_append, hW.int, hW.str, hW.bool, hW.any, hW.tup0, hF.sl, hF.ptr, Nat.zero_add, set_mid (mkLL_len _ _), labelsLL_app, V.labelsLL, V.labelsL, V.labels, mkLL_labels, List.mem_append, List.mem_cons, List.not_mem_nil, List.append_nil, List.nil_append, List.cons_append, not_or, or_false, false_or, not_false_eq_true, and_self, dA, dB, dC] <;> rfl) (fun W hW hF => by simp only [List.map_cons, List.map_nil, List.map_append, hW.int, hW.str, hW.bool, hW.any, hW.tup0, hF.sl, hF.ptr, Nat.zero_add, set_mid (mkLL_len _ _), labelsLL_app, V.labelsLL, V.labelsL, V.labels, mkLL_labels, List.mem_append, List.mem_cons, List.not_mem_nil, List.append_nil, List.nil_append, List.cons_append, not_or, or_false, false_or, not_false_eq_true, and_self, dA, dB, dC, kP] <;> rfl) ?_
  intro U hU hv
  refine ON ?_
  refine Ok.seq ?_
  refine Ok.drop [19, 20, 21, 22, 23] (by simp only [kover] <;> rfl) ?_
  refine Ok.region ?_
  refine EV ?_
  refine OkOps.ev tab_ok rfl (by simp (disch := omega) only [kE, kT, kL, kC, wrap_add_one] <;> rfl) (by simp only [kP] <;> rfl) ?_
  refine EV ?_
  refine ON ?_
  refine Ok.seq ?_
  refine Ok.drop [24, 25] (by simp only [kover] <;> rfl) ?_
  refine Ok.region ?_
  iterate 2 (refine EV ?_)
  refine OkOps.ev tab_ok rfl (ev_idx (j := a.length) (by simp only [kE, kT, kL, kC] <;> rfl) (by simp only [kE, kT, kL, kC] <;> rfl) (get_mid (mkLL_len _ _)) (by simp only [kE, kT, kL, kC] <;> rfl)) (by simp only [kP] <;> rfl) ?_
  iterate 3 (refine EV ?_)
  refine OkOps.turnU 0 rfl rfl (by simp only [kE, kT, kL, kC] <;> rfl) (by simp only [kE, kT, kL, kC] <;> rfl) cl177 (fun h => c_laws_markRegS e2 _ L2 q2 w2 (by omega)) (by first | rfl | (simp only [Nat.add_zero, Nat.reduceAdd] <;> rfl)) hU hv (u2) (fun W hW ha => by simp only [List.map_cons, List.map_nil, List.map_append, hW.int, hW.str, hW.bool, hW.any, hW.tup0, hW.agg, ha, kP, hW.sl (L + 1) 4 0 _ x2, hW.ptr (L + 1) _ _ _ x2, hW.farLL _ (a2 _), hW.farLL _ b2] <;> rfl) (fun W hW ha => by simp only [List.map_cons, List.map_nil, List.map_append, hW.int, hW.str, hW.bool, hW.any, hW.tup0, hW.agg, ha, kP, hW.sl (L + 1) 4 0 _ x2, hW.ptr (L + 1) _ _ _ x2, hW.farLL _ (a2 _), hW.farLL _ b2] <;> rfl) ?_
  intro U hU hv
  refine EV ?_
  refine ON ?_
  refine Ok.seq ?_
  refine Ok.drop [26, 27, 28, 29, 30, 31, 32] (by simp only [kover] <;> rfl) ?_
  refine Ok.region ?_
  iterate 3 (refine EV ?_)
  refine OkOps.S0 rfl (OpS.weak' rfl (by simp only [kE, kT, kL, kC] <;> rfl) (by simp only [kE, kT, kL, kC] <;> rfl) cl127 (w_laws_markText _ (by omega))) (by simp only [kP] <;> rfl) ?_
  refine OkOps.ev tab_ok rfl (ev_idx (j := a.length) (by simp only [kE, kT, kL, kC] <;> rfl) (by simp only [kE, kT, kL, kC] <;> rfl) (get_mid (mkLL_len _ _)) (by simp only [kE, kT, kL, kC] <;> rfl)) (by simp only [kP] <;> rfl) ?_
  refine EV ?_
  refine OkOps.storeU tab_ok rfl rfl (by simp only [kE, kT, kL, kC] <;> rfl) ⟨_, _, by simp only [kE]; rfl⟩ (by simp only [V.labelsLL, V.labelsL, V.labels, mkLL_labels, List.mem_append, List.mem_cons, List.not_mem_nil, List.append_nil, List.nil_append, List.cons_append, not_or, or_false, false_or, not_false_eq_true, and_self, dA, dB, dC]) hU hv (List.mem_cons_self ..) (fun W hW hF => by simp only [List.map_cons, List.map_nil, List.map_append, hW.int, hW.str, hW.bool, hW.any, hW.tup0, hF.sl, hF.ptr, Nat.zero_add, set_mid (mkLL_len _ _), labelsLL_app, V.labelsLL, V.labelsL, V.labels, mkLL_labels, List.mem_append, List.mem_cons, List.not_mem_nil, List.append_nil, List.nil_append, List.cons_append, not_or, or_false, false_or, not_false_eq_true, and_self, dA, dB, dC] <;> rfl) (fun W hW hF => by simp only [List.map_cons, List.map_nil, List.map_append, hW.int, hW.str, hW.bool, hW.any, hW.tup0, hF.sl, hF.ptr, Nat.zero_add, set_mid (mkLL_len _ _), labelsLL_app, V.labelsLL, V.labelsL, V.labels, mkLL_labels, List.mem_append, List.mem_cons, List.not_mem_nil, List.append_nil, List.nil_append, List.cons_append, not_or, or_false, false_or, not_false_eq_true, and_self, dA, dB, dC, kP] <;> rfl) ?_
  intro U hU hv
  refine ON ?_
  refine Ok.drop [33, 34, 35, 36, 37, 38] (by simp only [kover] <;> rfl) ?_
  refine Ok.region ?_
  refine EV ?_
  refine OkOps.ev tab_ok rfl (by simp (disch := omega) only [kE, kT, kL, kC, wrap_add_one] <;> rfl) (by simp only [kP] <;> rfl) ?_
  refine EV ?_
  refine ON ?_
  refine Ok.drop [39, 40] (by simp only [kover] <;> rfl) ?_
  refine Ok.region ?_
  refine EV ?_
  refine OkOps.ev tab_ok rfl (by simp (disch := omega) only [kE, kT, kL, kC, wrap_add_one] <;> rfl) (by simp only [kP] <;> rfl) ?_
  refine EV ?_
  refine ON ?_
  refine ⟨(a ++ [[.int .i64 v0, .int .i64 v1, .sl (L2 + 1) 3 0 e2, .str v3]], b, U), ?_, rfl, rfl, ⟨by rw [he]; simp, hU, by dsimp only; rw [hv, mkLL_snoc]; simp only [V.mkL, V.mk, V.mn, List.append_assoc, List.cons_append, List.nil_append] <;> rfl⟩, by simp only [List.length_cons]; omega⟩
  refine ⟨?_, ?_, ?_, ?_, ?_, ?_, ?_, ?_, ?_, ?_, ?_, ?_, ?_, ?_, ?_, ?_, ?_, ?_, ?_, ?_, ?_, ?_, ?_, ?_, ?_, ?_, ?_, ?_, ?_, ?_, ?_, ?_, ?_, ?_, ?_, ?_, ?_, ?_, ?_, ?_, ?_, ?_, trivial⟩ <;> first | exact le_any _ | with_reducible exact le_rfl' _ | (dsimp only; first | (refine le_eqm ?_; simp only [List.length_append, List.length_cons, List.length_nil]; done) | (rw [wrap_add_one (by omega)]; refine le_eqm ?_; simp only [List.length_append, List.length_cons, List.length_nil]; done) | (refine le_eqm ?_; rw [mkLL_snoc]; simp only [V.mkL, V.mk, V.mn, List.append_assoc, List.cons_append, List.nil_append] <;> rfl) | (refine le_eqm (congrArg (V.int .i64) (congrArg Nat.cast ?_)); rw [mnLL_snoc]; simp only [V.mnL, V.mn]; omega)) | exact le_rfl' _
 ·
  try simp only [bsimp] at hb2
  have hb : b = [] := by cases b with
    | nil => rfl
    | cons c b' => exfalso; rw [List.length_append, mkLL_len] at hb2; simp only [List.length_cons] at hb2; omega
  subst hb
  rw [List.append_nil] at he
  subst he
  refine Ok.exit ?_
  refine Ok.seq ?_
  refine Ok.drop [6, 7, 8, 9] (by simp only [kover] <;> rfl) ?_
  refine Ok.region ?_
  iterate 2 (refine EV ?_)
  refine ON ?_
  refine Ok.ret ?_
  with_reducible repeat (first | refine thenQ_ret ?_ | refine blockQ_ret ?_)
  refine RT ?_
  exact ⟨rfl, rfl, U, hU, by rw [hv, List.append_nil], rfl⟩
theorem c_laws_markBoxS (es : List (List V)) (k L : Nat) (hs : ∀ r ∈ es, isBox r) (hn : ((L + 1) :: V.labelsLL es).Nodup) (hk : k + V.mnLL es ≤ 4611686018427387904) {h : List V} {n : Nat}  : OkCall Tryz.prog 63 [.sl (L + 1) 7 0 es, .int .i64 (k : Int)] h n (MarkQ (· ∈ (L + 1) :: V.labelsLL es) (.sl (L + 1) 7 0 es) (.sl (L + 1) 7 0 (V.mkLL k es)) (.int .i64 ((k + V.mnLL es : Nat) : Int)) h n) := by
 refine OkCall.enter' tab_ok Tryz.func63 rfl (t := [.sl (L + 1) 7 0 es, .int .i64 (k : Int), .any, .any, .any, .any, .any, .any, .any, .any, .any, .any, .any, .any, .any, .any, .any, .any, .any, .any, .any, .any, .any, .any, .any, .any, .any, .any, .any, .any, .any, .any, .any, .any, .any, .any, .any, .any, .any, .any, .any, .any, .any, .any, .any, .any, .any, .any, .any, .any, .any, .any, .any, .any, .any, .any, .any, .any, .any, .any, .any, .any, .any, .any, .any]) rfl ?_
 refine OQ ?_
 refine EV ?_
 refine ON ?_
 refine Ok.seq ?_
 refine OQ ?_
 refine EV ?_
 refine ON ?_
 refine Ok.block ?_
 refine Ok.loopH (τ := List (List V) × List (List V) × (V → V)) (fun x => [(0, .sl (L + 1) 7 0 (V.mkLL k x.1 ++ x.2.1)), (1, .int .i64 ((k + V.mnLL x.1 : Nat) : Int)), (5, .int .i64 (x.1.length : Int))]) [6, 7, 8, 9, 10, 11, 12, 13, 14, 15, 16, 17, 18, 19, 20, 21, 22, 23, 24, 25, 26, 27, 28, 29, 30, 31, 32, 33, 34, 35, 36, 37, 38, 39, 40, 41, 42, 43, 44, 45, 46, 47, 48, 49, 50, 51, 52, 53, 54, 55, 56, 57, 58, 59, 60, 61, 62, 63] (fun x => by simp only [kover] <;> rfl) (fun x => h.map x.2.2) (fun x => es = x.1 ++ x.2.1 ∧ Hom x.2.2 (· ∈ (L + 1) :: V.labelsLL es) ∧ x.2.2 (.sl (L + 1) 7 0 es) = .sl (L + 1) 7 0 (V.mkLL k x.1 ++ x.2.1)) (fun x => x.2.1.length) ([], es, id) (by refine ⟨?_, ?_, ?_, ?_, ?_, ?_, ?_, ?_, ?_, ?_, ?_, ?_, ?_, ?_, ?_, ?_, ?_, ?_, ?_, ?_, ?_, ?_, ?_, ?_, ?_, ?_, ?_, ?_, ?_, ?_, ?_, ?_, ?_, ?_, ?_, ?_, ?_, ?_, ?_, ?_, ?_, ?_, ?_, ?_, ?_, ?_, ?_, ?_, ?_, ?_, ?_, ?_, ?_, ?_, ?_, ?_, ?_, ?_, ?_, ?_, ?_, ?_, ?_, ?_, ?_, trivial⟩ <;> first | exact le_any _ | with_reducible exact le_rfl' _ | (exact le_rfl' _) | exact le_rfl' _) ((List.map_id h).symm) (⟨rfl, Hom.id' _, rfl⟩) ?_
 rintro ⟨a, b, U⟩ ⟨he, hU, hv⟩
 have he : es = a ++ b := he
 have hU : Hom U (· ∈ (L + 1) :: V.labelsLL es) := hU
 have hv : U (.sl (L + 1) 7 0 es) = .sl (L + 1) 7 0 (V.mkLL k a ++ b) := hv
 refine Ok.seq ?_
 refine OQ ?_
 iterate 4 (refine EV ?_)
 refine ON ?_
 refine Ok.cond (b := _) (by simp only [kE, kT, kL, kC] <;> rfl) (fun hb2 => ?_) (fun hb2 => ?_)
 ·
  try simp only [bsimp] at hb2
  have hlen : (V.mkLL k a ++ b).length = a.length + b.length := by rw [List.length_append, mkLL_len]
  obtain ⟨c, b, rfl⟩ : ∃ c b', b = c :: b' := by
    cases b with
    | nil => exfalso; rw [hlen] at hb2; simp only [List.length_nil] at hb2; omega
    | cons c b' => exact ⟨c, b', rfl⟩
  obtain ⟨v0, v1, v2, v3, v4, L5, e5, L6, e6, rfl, q5, q6⟩ := hs c (by rw [he]; simp)
  have hkk : k + (V.mnLL a + (V.mnL [.int .i64 v0, .str v1, .int .i64 v2, .int .i64 v3, .int .i64 v4, .sl (L5 + 1) 4 0 e5, .sl (L6 + 1) 1 0 e6] + V.mnLL b)) ≤ 4611686018427387904 := by rw [he, mnLL_app] at hk; exact hk
  simp only [V.mnL, V.mn] at hkk
  obtain ⟨dA, dC, dB, dAC, dBC, hC⟩ := lab_split (by rw [← he]; exact hn)
  have dC0 := dC
  simp only [V.labelsLL, V.labelsL, V.labels, mkLL_labels, List.mem_append, List.mem_cons, List.not_mem_nil, List.append_nil, List.nil_append, List.cons_append, not_or, or_false, false_or] at dC
  have hz := len_mn es fun r hr => isBox_mn (hs r hr)
  have hal : a.length ≤ 4611686018427387904 := by have e3 := congrArg List.length he; rw [List.length_append] at e3; omega
  have m5 : ∀ y ∈ (L5 + 1) :: V.labelsLL e5, y ∈ V.labelsL [.int .i64 v0, .str v1, .int .i64 v2, .int .i64 v3, .int .i64 v4, .sl (L5 + 1) 4 0 e5, .sl (L6 + 1) 1 0 e6] := fun y hy => by simp only [V.labelsL, V.labels, List.mem_append, List.append_nil, List.nil_append]; simp only [hy, true_or, or_true]
  have x5 : ¬ (L + 1 ∈ (L5 + 1) :: V.labelsLL e5) := fun h => dC0 (m5 _ h)
  have a5 : ∀ K, ∀ y ∈ V.labelsLL (V.mkLL K a), ¬ (y ∈ (L5 + 1) :: V.labelsLL e5) := fun K y hy h => dAC y (by rw [mkLL_labels] at hy; exact hy) (m5 _ h)
  have b5 : ∀ y ∈ V.labelsLL b, ¬ (y ∈ (L5 + 1) :: V.labelsLL e5) := fun y hy h => dBC y hy (m5 _ h)
  have u5 : ∀ y, y ∈ (L5 + 1) :: V.labelsLL e5 → y ∈ (L + 1) :: V.labelsLL es := fun y hy => by rw [he, labelsLL_app]; exact List.mem_cons_of_mem _ (List.mem_append_right _ (List.mem_append_left _ (m5 y hy)))
  have m6 : ∀ y ∈ (L6 + 1) :: V.labelsLL e6, y ∈ V.labelsL [.int .i64 v0, .str v1, .int .i64 v2, .int .i64 v3, .int .i64 v4, .sl (L5 + 1) 4 0 e5, .sl (L6 + 1) 1 0 e6] := fun y hy => by simp only [V.labelsL, V.labels, List.mem_append, List.append_nil, List.nil_append]; simp only [hy, true_or, or_true]
  have x6 : ¬ (L + 1 ∈ (L6 + 1) :: V.labelsLL e6) := fun h => dC0 (m6 _ h)
  have a6 : ∀ K, ∀ y ∈ V.labelsLL (V.mkLL K a), ¬ (y ∈ (L6 + 1) :: V.labelsLL e6) := fun K y hy h => dAC y (by rw [mkLL_labels] at hy; exact hy) (m6 _ h)
  have b6 : ∀ y ∈ V.labelsLL b, ¬ (y ∈ (L6 + 1) :: V.labelsLL e6) := fun y hy h => dBC y hy (m6 _ h)
  have u6 : ∀ y, y ∈ (L6 + 1) :: V.labelsLL e6 → y ∈ (L + 1) :: V.labelsLL es := fun y hy => by rw [he, labelsLL_app]; exact List.mem_cons_of_mem _ (List.mem_append_right _ (List.mem_append_left _ (m6 y hy)))
  have hC1 := hC
  simp only [V.labelsL, V.labels, List.append_nil, List.nil_append] at hC1
  obtain ⟨w5, hC1, f5, g5⟩ := nd_app hC1
  have w6 := hC1
  have y6_5 : ∀ y ∈ (L5 + 1) :: V.labelsLL e5, ¬ (y ∈ (L6 + 1) :: V.labelsLL e6) := fun y hy h => f5 y hy (by first | exact h | (simp only [List.mem_append]; simp only [h, true_or, or_true]))
  have y5_6 : ∀ y ∈ (L6 + 1) :: V.labelsLL e6, ¬ (y ∈ (L5 + 1) :: V.labelsLL e5) := fun y hy h => y6_5 y h hy
  refine Ok.skip ?_
  refine Ok.seq ?_
  refine Ok.block ?_
  refine Ok.seq ?_
  refine Ok.drop [6, 7, 8, 9] (by simp only [kover] <;> rfl) ?_
  refine Ok.region ?_
  iterate 3 (refine EV ?_)
  refine OkOps.ev tab_ok rfl (ev_idx (j := a.length) (by simp only [kE, kT, kL, kC] <;> rfl) (by simp only [kE, kT, kL, kC] <;> rfl) (get_mid (mkLL_len _ _)) (by simp only [kE, kT, kL, kC] <;> rfl)) (by simp only [kP] <;> rfl) ?_
  refine EV ?_
  refine OkOps.storeU tab_ok rfl rfl (by simp only [kE, kT, kL, kC] <;> rfl) ⟨_, _, by simp only [kE]; rfl⟩ (by simp only [V.labelsLL, V.labelsL, V.labels, mkLL_labels, List.mem_append, List.mem_cons, List.not_mem_nil, List.append_nil, List.nil_append, List.cons_append, not_or, or_false, false_or, not_false_eq_true, and_self, dA, dB, dC]) hU hv (List.mem_cons_self ..) (fun W hW hF => by simp only [List.map_cons, List.map_nil, List.map_append, hW.int, hW.str, hW.bool, hW.any, hW.tup0, hF.sl, hF.ptr, Nat.zero_add, set_mid (mkLL_len _ _), labelsLL_app, V.labelsLL, V.labelsL, V.labels, mkLL_labels, List.mem_append, List.mem_cons, List.not_mem_nil, List.append_nil, List.nil_append, List.cons_append, not_or, or_false, false_or, not_false_eq_true, and_self, dA, dB, dC] <;> rfl) (fun W hW hF => by simp only [List.map_cons, List.map_nil, List.map_append, hW.int, hW.str, hW.bool, hW.any, hW.tup0, hF.sl, hF.ptr, Nat.zero_add, set_mid (mkLL_len _ _), labelsLL_app, V.labelsLL, V.labelsL, V.labels, mkLL_labels, List.mem_append, List.mem_cons, List.not_mem_nil, List.append_nil, List.nil_append, List.cons_append, not_or, or_false, false_or, not_false_eq_true, and_self, dA, dB, dC, kP] <;> rfl) ?_
  intro U hU hv
  refine ON ?_
  refine Ok.seq ?_
  refine Ok.drop [12, 13, 14, 15, 16] (by simp only [kover] <;> rfl) ?_
  refine Ok.region ?_
  refine EV ?_
  refine OkOps.ev tab_ok rfl (by simp (disch := omega) only [kE, kT, kL, kC, wrap_add_one] <;> rfl) (by simp only [kP] <;> rfl) ?_
  refine EV ?_
  refine ON ?_
  refine Ok.seq ?_
  refine Ok.drop [17, 18] (by simp only [kover] <;> rfl) ?_
  refine Ok.region ?_
  iterate 3 (refine EV ?_)
  refine OkOps.S0 rfl (OpS.weak' rfl (by simp only [kE, kT, kL, kC] <;> rfl) (by simp only [kE, kT, kL, kC] <;> rfl) cl127 (w_laws_markText _ (by omega))) (by simp only [kP] <;> rfl) ?_
  refine OkOps.ev tab_ok rfl (ev_idx (j := a.length) (by simp only [kE, kT, kL, kC] <;> rfl) (by simp only [kE, kT, kL, kC] <;> rfl) (get_mid (mkLL_len _ _)) (by simp only [kE, kT, kL, kC] <;> rfl)) (by simp only [kP] <;> rfl) ?_
  refine EV ?_
  refine OkOps.storeU tab_ok rfl rfl (by simp only [kE, kT, kL, kC] <;> rfl) ⟨_, _, by simp only [kE]; rfl⟩ (by simp only [V.labelsLL, V.labelsL, V.labels, mkLL_labels, List.mem_append, List.mem_cons, List.not_mem_nil, List.append_nil, List.nil_append, List.cons_append, not_or, or_false, false_or, not_false_eq_true, and_self, dA, dB, dC]) hU hv (List.mem_cons_self ..) (fun W hW hF => by simp only [List.map_cons, List.map_nil, List.map_append, hW.int, hW.str, hW.bool, hW.any, hW.tup0, hF.sl, hF.ptr, Nat.zero_add, set_mid (mkLL_len _ _), labelsLL_app, V.labelsLL, V.labelsL, V.labels, mkLL_labels, List.mem_append, List.mem_cons, List.not_mem_nil, List.append_nil, List.nil_append, List.cons_append, not_or, or_false, false_or, not_false_eq_true, and_self, dA, dB, dC] <;> rfl) (fun W hW hF => by simp only [List.map_cons, List.map_nil, List.map_append, hW.int, hW.str, hW.bool, hW.any, hW.tup0, hF.sl, hF.ptr, Nat.zero_add, set_mid (mkLL_len _ _), labelsLL_app, V.labelsLL, V.labelsL, V.labels, mkLL_labels, List.mem_append, List.mem_cons, List.not_mem_nil, List.append_nil, List.nil_append, List.cons_append, not_or, or_false, false_or, not_false_eq_true, and_self, dA, dB, dC, kP] <;> rfl) ?_
  intro U hU hv
  refine ON ?_
  refine Ok.seq ?_
  refine Ok.drop [19, 20, 21, 22, 23, 24] (by simp only [kover] <;> rfl) ?_
  refine Ok.region ?_
  refine EV ?_
  refine OkOps.ev tab_ok rfl (by simp (disch := omega) only [kE, kT, kL, kC, wrap_add_one] <;> rfl) (by simp only [kP] <;> rfl) ?_
  refine EV ?_
  refine ON ?_
  refine Ok.seq ?_
  refine Ok.drop [25, 26] (by simp only [kover] <;> rfl) ?_
  refine Ok.region ?_
  iterate 3 (refine EV ?_)
  refine OkOps.ev tab_ok rfl (ev_idx (j := a.length) (by simp only [kE, kT, kL, kC] <;> rfl) (by simp only [kE, kT, kL, kC] <;> rfl) (get_mid (mkLL_len _ _)) (by simp only [kE, kT, kL, kC] <;> rfl)) (by simp only [kP] <;> rfl) ?_
  iterate 2 (refine EV ?_)
  refine OkOps.storeU tab_ok rfl rfl (by simp only [kE, kT, kL, kC] <;> rfl) ⟨_, _, by simp only [kE]; rfl⟩ (by simp only [V.labelsLL, V.labelsL, V.labels, mkLL_labels, List.mem_append, List.mem_cons, List.not_mem_nil, List.append_nil, List.nil_append, List.cons_append, not_or, or_false, false_or, not_false_eq_true, and_self, dA, dB, dC]) hU hv (List.mem_cons_self ..) (fun W hW hF => by simp only [List.map_cons, List.map_nil, List.map_append, hW.int, hW.str, hW.bool, hW.any, hW.tup0, hF.sl, hF.ptr, Nat.zero_add, set_mid (mkLL_len _ _), labelsLL_app, V.labelsLL, V.labelsL, V.labels, mkLL_labels, List.mem_append, List.mem_cons, List.not_mem_nil, List.append_nil, List.nil_append, List.cons_append, not_or, or_false, false_or, not_false_eq_true, and_self, dA, dB, dC] <;> rfl) (fun W hW hF => by simp only [List.map_cons, List.map_nil, List.map_append, hW.int, hW.str, hW.bool, hW.any, hW.tup0, hF.sl, hF.ptr, Nat.zero_add, set_mid (mkLL_len _ _), labelsLL_app, V.labelsLL, V.labelsL, V.labels, mkLL_labels, List.mem_append, List.mem_cons, List.not_mem_nil, List.append_nil, List.nil_append, List.cons_append, not_or, or_false, false_or, not_false_eq_true, and_self, dA, dB, dC, kP] <;> rfl) ?_
  intro U hU hv
  refine ON ?_
  refine Ok.seq ?_
  refine Ok.drop [27, 28, 29, 30, 31, 32] (by simp only [kover] <;> rfl) ?_
  refine Ok.region ?_
  refine EV ?_
  refine OkOps.ev tab_ok rfl (by simp (disch := omega) only [kE, kT, kL, kC, wrap_add_one] <;> rfl) (by simp only [kP] <;> rfl) ?_
  refine EV ?_
  refine ON ?_
  refine Ok.seq ?_
  refine Ok.drop [33, 34] (by simp only [kover] <;> rfl) ?_
  refine Ok.region ?_
  iterate 3 (refine EV ?_)
  refine OkOps.ev tab_ok rfl (ev_idx (j := a.length) (by simp only [kE, kT, kL, kC] <;> rfl) (by simp only [kE, kT, kL, kC] <;> rfl) (get_mid (mkLL_len _ _)) (by simp only [kE, kT, kL, kC] <;> rfl)) (by simp only [kP] <;> rfl) ?_
  iterate 2 (refine EV ?_)
  refine OkOps.storeU tab_ok rfl rfl (by simp only [kE, kT, kL, kC] <;> rfl) ⟨_, _, by simp only [kE]; rfl⟩ (by simp only [V.labelsLL, V.labelsL, V.labels, mkLL_labels, List.mem_append, List.mem_cons, List.not_mem_nil, List.append_nil, List.nil_append, List.cons_append, not_or, or_false, false_or, not_false_eq_true, and_self, dA, dB, dC]) hU hv (List.mem_cons_self ..) (fun W hW hF => by simp only [List.map_cons, List.map_nil, List.map_append, hW.int, hW.str, hW.bool, hW.any, hW.tup0, hF.sl, hF.ptr, Nat.zero_add, set_mid (mkLL_len _ _), labelsLL_app, V.labelsLL, V.labelsL, V.labels, mkLL_labels, List.mem_append, List.mem_cons, List.not_mem_nil, List.append_nil, List.nil_append, List.cons_append, not_or, or_false, false_or, not_false_eq_true, and_self, dA, dB, dC] <;> rfl) (fun W hW hF => by simp only [List.map_cons, List.map_nil, List.map_append, hW.int, hW.str, hW.bool, hW.any, hW.tup0, hF.sl, hF.ptr, Nat.zero_add, set_mid (mkLL_len _ _), labelsLL_app, V.labelsLL, V.labelsL, V.labels, mkLL_labels, List.mem_append, List.mem_cons, List.not_mem_nil, List.append_nil, List.nil_append, List.cons_append, not_or, or_false, false_or, not_false_eq_true, and_self, dA, dB, dC, kP] <;> rfl) ?_
  intro U hU hv
  refine ON ?_
  refine Ok.seq ?_
  refine Ok.drop [35, 36, 37, 38, 39, 40] (by simp only [kover] <;> rfl) ?_
  refine Ok.region ?_
  refine EV ?_
  refine OkOps.ev tab_ok rfl (by simp (disch := omega) only [kE, kT, kL, kC, wrap_add_one] <;> rfl) (by simp only [kP] <;> rfl) ?_
  refine EV ?_
  refine ON ?_
  refine Ok.seq ?_
  refine Ok.drop [41, 42] (by simp only [kover] <;> rfl) ?_
  refine Ok.region ?_
  iterate 3 (refine EV ?_)
  refine OkOps.ev tab_ok rfl (ev_idx (j := a.length) (by simp only [kE, kT, kL, kC] <;> rfl) (by simp only [kE, kT, kL, kC] <;> rfl) (get_mid (mkLL_len _ _)) (by simp only [kE, kT, kL, kC] <;> rfl)) (by simp only [kP] <;> rfl) ?_
  refine EV ?_
  refine OkOps.storeU tab_ok rfl rfl (by simp only [kE, kT, kL, kC] <;> rfl) ⟨_, _, by simp only [kE]; rfl⟩ (by simp only [V.labelsLL, V.labelsL, V.labels, mkLL_labels, List.mem_append, List.mem_cons, List.not_mem_nil, List.append_nil, List.nil_append, List.cons_append, not_or, or_false, false_or, not_false_eq_true, and_self, dA, dB, dC]) hU hv (List.mem_cons_self ..) (fun W hW hF => by simp only [List.map_cons, List.map_nil, List.map_append, hW.int, hW.str, hW.bool, hW.any, hW.tup0, hF.sl, hF.ptr, Nat.zero_add, set_mid (mkLL_len _ _), labelsLL_app, V.labelsLL, V.labelsL, V.labels, mkLL_labels, List.mem_append, List.mem_cons, List.not_mem_nil, List.append_nil, List.nil_append, List.cons_append, not_or, or_false, false_or, not_false_eq_true, and_self, dA, dB, dC] <;> rfl) (fun W hW hF => by simp only [List.map_cons, List.map_nil, List.map_append, hW.int, hW.str, hW.bool, hW.any, hW.tup0, hF.sl, hF.ptr, Nat.zero_add, set_mid (mkLL_len _ _), labelsLL_app, V.labelsLL, V.labelsL, V.labels, mkLL_labels, List.mem_append, List.mem_cons, List.not_mem_nil, List.append_nil, List.nil_append, List.cons_append, not_or, or_false, false_or, not_false_eq_true, and_self, dA, dB, dC, kP] <;> rfl) ?_
  intro U hU hv
  refine ON ?_
  refine Ok.seq ?_
  refine Ok.drop [43, 44, 45, 46, 47] (by simp only [kover] <;> rfl) ?_
  refine Ok.region ?_
  refine EV ?_
  refine OkOps.ev tab_ok rfl (by simp (disch := omega) only [kE, kT, kL, kC, wrap_add_one] <;> rfl) (by simp only [kP] <;> rfl) ?_
  refine EV ?_
  refine ON ?_
  refine Ok.seq ?_
  refine Ok.drop [48, 49] (by simp only [kover] <;> rfl) ?_
  refine Ok.region ?_
  iterate 2 (refine EV ?_)
  refine OkOps.ev tab_ok rfl (ev_idx (j := a.length) (by simp only [kE, kT, kL, kC] <;> rfl) (by simp only [kE, kT, kL, kC] <;> rfl) (get_mid (mkLL_len _ _)) (by simp only [kE, kT, kL, kC] <;> rfl)) (by simp only [kP] <;> rfl) ?_
  iterate 3 (refine EV ?_)
  refine OkOps.turnU 0 rfl rfl (by simp only [kE, kT, kL, kC] <;> rfl) (by simp only [kE, kT, kL, kC] <;> rfl) cl128 (fun h => c_laws_markMailS e5 _ L5 q5 w5 (by omega)) (by first | rfl | (simp only [Nat.add_zero, Nat.reduceAdd] <;> rfl)) hU hv (u5) (fun W hW ha => by have z6 := hW.far (.sl (L6 + 1) 1 0 e6) (fun y hy => y5_6 y hy); have zz6 := fun K => hW.far (.sl (L6 + 1) 1 0 (V.mkLL K e6)) (fun y hy => y5_6 y (by simp only [V.labels, mkLL_labels] at hy; exact hy)); simp only [List.map_cons, List.map_nil, List.map_append, hW.int, hW.str, hW.bool, hW.any, hW.tup0, hW.agg, ha, kP, hW.sl (L + 1) 7 0 _ x5, hW.ptr (L + 1) _ _ _ x5, hW.farLL _ (a5 _), hW.farLL _ b5, z6, zz6] <;> rfl) (fun W hW ha => by have z6 := hW.far (.sl (L6 + 1) 1 0 e6) (fun y hy => y5_6 y hy); have zz6 := fun K => hW.far (.sl (L6 + 1) 1 0 (V.mkLL K e6)) (fun y hy => y5_6 y (by simp only [V.labels, mkLL_labels] at hy; exact hy)); simp only [List.map_cons, List.map_nil, List.map_append, hW.int, hW.str, hW.bool, hW.any, hW.tup0, hW.agg, ha, kP, hW.sl (L + 1) 7 0 _ x5, hW.ptr (L + 1) _ _ _ x5, hW.farLL _ (a5 _), hW.farLL _ b5, z6, zz6] <;> rfl) ?_
  intro U hU hv
  refine EV ?_
  refine ON ?_
  refine Ok.drop [50, 51, 52, 53, 54, 55, 56] (by simp only [kover] <;> rfl) ?_
  refine Ok.region ?_
  iterate 2 (refine EV ?_)
  refine OkOps.ev tab_ok rfl (ev_idx (j := a.length) (by simp only [kE, kT, kL, kC] <;> rfl) (by simp only [kE, kT, kL, kC] <;> rfl) (get_mid (mkLL_len _ _)) (by simp only [kE, kT, kL, kC] <;> rfl)) (by simp only [kP] <;> rfl) ?_
  iterate 3 (refine EV ?_)
  refine OkOps.turnU 0 rfl rfl (by simp only [kE, kT, kL, kC] <;> rfl) (by simp only [kE, kT, kL, kC] <;> rfl) cl64 (fun h => c_laws_markIntS e6 _ L6 q6 w6 (by omega)) (by first | rfl | (simp only [Nat.add_zero, Nat.reduceAdd] <;> rfl)) hU hv (u6) (fun W hW ha => by have z5 := hW.far (.sl (L5 + 1) 4 0 e5) (fun y hy => y6_5 y hy); have zz5 := fun K => hW.far (.sl (L5 + 1) 4 0 (V.mkLL K e5)) (fun y hy => y6_5 y (by simp only [V.labels, mkLL_labels] at hy; exact hy)); simp only [List.map_cons, List.map_nil, List.map_append, hW.int, hW.str, hW.bool, hW.any, hW.tup0, hW.agg, ha, kP, hW.sl (L + 1) 7 0 _ x6, hW.ptr (L + 1) _ _ _ x6, hW.farLL _ (a6 _), hW.farLL _ b6, z5, zz5] <;> rfl) (fun W hW ha => by have z5 := hW.far (.sl (L5 + 1) 4 0 e5) (fun y hy => y6_5 y hy); have zz5 := fun K => hW.far (.sl (L5 + 1) 4 0 (V.mkLL K e5)) (fun y hy => y6_5 y (by simp only [V.labels, mkLL_labels] at hy; exact hy)); simp only [List.map_cons, List.map_nil, List.map_append, hW.int, hW.str, hW.bool, hW.any, hW.tup0, hW.agg, ha, kP, hW.sl (L + 1) 7 0 _ x6, hW.ptr (L + 1) _ _ _ x6, hW.farLL _ (a6 _), hW.farLL _ b6, z5, zz5] <;> rfl) ?_
  intro U hU hv
  refine EV ?_
  refine ON ?_
  refine Ok.drop [57, 58, 59, 60, 61, 62, 63] (by simp only [kover] <;> rfl) ?_
  refine Ok.region ?_
  refine EV ?_
  refine OkOps.ev tab_ok rfl (by simp (disch := omega) only [kE, kT, kL, kC, wrap_add_one] <;> rfl) (by simp only [kP] <;> rfl) ?_
  refine EV ?_
  refine ON ?_
  refine ⟨(a ++ [[.int .i64 v0, .str v1, .int .i64 v2, .int .i64 v3, .int .i64 v4, .sl (L5 + 1) 4 0 e5, .sl (L6 + 1) 1 0 e6]], b, U), ?_, rfl, rfl, ⟨by rw [he]; simp, hU, by dsimp only; rw [hv, mkLL_snoc]; simp only [V.mkL, V.mk, V.mn, List.append_assoc, List.cons_append, List.nil_append] <;> rfl⟩, by simp only [List.length_cons]; omega⟩
  refine ⟨?_, ?_, ?_, ?_, ?_, ?_, ?_, ?_, ?_, ?_, ?_, ?_, ?_, ?_, ?_, ?_, ?_, ?_, ?_, ?_, ?_, ?_, ?_, ?_, ?_, ?_, ?_, ?_, ?_, ?_, ?_, ?_, ?_, ?_, ?_, ?_, ?_, ?_, ?_, ?_, ?_, ?_, ?_, ?_, ?_, ?_, ?_, ?_, ?_, ?_, ?_, ?_, ?_, ?_, ?_, ?_, ?_, ?_, ?_, ?_, ?_, ?_, ?_, ?_, ?_, trivial⟩ <;> first | exact le_any _ | with_reducible exact le_rfl' _ | (dsimp only; first | (refine le_eqm ?_; simp only [List.length_append, List.length_cons, List.length_nil]; done) | (rw [wrap_add_one (by omega)]; refine le_eqm ?_; simp only [List.length_append, List.length_cons, List.length_nil]; done) | (refine le_eqm ?_; rw [mkLL_snoc]; simp only [V.mkL, V.mk, V.mn, List.append_assoc, List.cons_append, List.nil_append] <;> rfl) | (refine le_eqm (congrArg (V.int .i64) (congrArg Nat.cast ?_)); rw [mnLL_snoc]; simp only [V.mnL, V.mn]; omega)) | exact le_rfl' _
 ·
  try simp only [bsimp] at hb2
  have hb : b = [] := by cases b with
    | nil => rfl
    | cons c b' => exfalso; rw [List.length_append, mkLL_len] at hb2; simp only [List.length_cons] at hb2; omega
  subst hb
  rw [List.append_nil] at he
  subst he
  refine Ok.exit ?_
  refine Ok.seq ?_
  refine Ok.drop [6, 7, 8, 9] (by simp only [kover] <;> rfl) ?_
  refine Ok.region ?_
  iterate 2 (refine EV ?_)
  refine ON ?_
  refine Ok.ret ?_
  with_reducible repeat (first | refine thenQ_ret ?_ | refine blockQ_ret ?_)
  refine RT ?_
  exact ⟨rfl, rfl, U, hU, by rw [hv, List.append_nil], rfl⟩
theorem c_laws_markServerS (es : List (List V)) (k L : Nat) (hs : ∀ r ∈ es, isServer r) (hn : ((L + 1) :: V.labelsLL es).Nodup) (hk : k + V.mnLL es ≤ 4611686018427387904) {h : List V} {n : Nat}  : OkCall Tryz.prog 83 [.sl (L + 1) 13 0 es, .int .i64 (k : Int)] h n (MarkQ (· ∈ (L + 1) :: V.labelsLL es) (.sl (L + 1) 13 0 es) (.sl (L + 1) 13 0 (V.mkLL k es)) (.int .i64 ((k + V.mnLL es : Nat) : Int)) h n) := by
 refine OkCall.enter' tab_ok Tryz.func83 rfl (t := [.sl (L + 1) 13 0 es, .int .i64 (k : Int), .any, .any, .any, .any, .any, .any, .any, .any, .any, .any, .any, .any, .any, .any, .any, .any, .any, .any, .any, .any, .any, .any, .any, .any, .any, .any, .any, .any, .any, .any, .any, .any, .any, .any, .any, .any, .any, .any, .any, .any, .any, .any, .any, .any, .any, .any, .any, .any, .any, .any, .any, .any, .any, .any, .any, .any, .any, .any, .any, .any, .any, .any, .any, .any, .any, .any, .any, .any, .any, .any, .any, .any, .any, .any, .any, .any, .any, .any, .any, .any, .any, .any, .any, .any, .any, .any, .any, .any, .any, .any, .any, .any, .any, .any, .any, .any, .any, .any, .any, .any, .any, .any, .any, .any, .any, .any, .any, .any, .any, .any, .any, .any, .any, .any, .any, .any, .any, .any, .any, .any, .any, .any, .any, .any, .any, .any, .any]) rfl ?_
 refine OQ ?_
 refine EV ?_
 refine ON ?_
 refine Ok.seq ?_
 refine OQ ?_
 refine EV ?_
 refine ON ?_
 refine Ok.block ?_
 refine Ok.loopH (τ := List (List V) × List (List V) × (V → V)) (fun x => [(0, .sl (L + 1) 13 0 (V.mkLL k x.1 ++ x.2.1)), (1, .int .i64 ((k + V.mnLL x.1 : Nat) : Int)), (5, .int .i64 (x.1.length : Int))]) [6, 7, 8, 9, 10, 11, 12, 13, 14, 15, 16, 17, 18, 19, 20, 21, 22, 23, 24, 25, 26, 27, 28, 29, 30, 31, 32, 33, 34, 35, 36, 37, 38, 39, 40, 41, 42, 43, 44, 45, 46, 47, 48, 49, 50, 51, 52, 53, 54, 55, 56, 57, 58, 59, 60, 61, 62, 63, 64, 65, 66, 67, 68, 69, 70, 71, 72, 73, 74, 75, 76, 77, 78, 79, 80, 81, 82, 83, 84, 85, 86, 87, 88, 89, 90, 91, 92, 93, 94, 95, 96, 97, 98, 99, 100, 101, 102, 103, 104, 105, 106, 107, 108, 109, 110, 111, 112, 113, 114, 115, 116, 117, 118, 119, 120, 121, 122, 123, 124, 125, 126, 127] (fun x => by simp only [kover] <;> rfl) (fun x => h.map x.2.2) (fun x => es = x.1 ++ x.2.1 ∧ Hom x.2.2 (· ∈ (L + 1) :: V.labelsLL es) ∧ x.2.2 (.sl (L + 1) 13 0 es) = .sl (L + 1) 13 0 (V.mkLL k x.1 ++ x.2.1)) (fun x => x.2.1.length) ([], es, id) (by refine ⟨?_, ?_, ?_, ?_, ?_, ?_, ?_, ?_, ?_, ?_, ?_, ?_, ?_, ?_, ?_, ?_, ?_, ?_, ?_, ?_, ?_, ?_, ?_, ?_, ?_, ?_, ?_, ?_, ?_, ?_, ?_, ?_, ?_, ?_, ?_, ?_, ?_, ?_, ?_, ?_, ?_, ?_, ?_, ?_, ?_, ?_, ?_, ?_, ?_, ?_, ?_, ?_, ?_, ?_, ?_, ?_, ?_, ?_, ?_, ?_, ?_, ?_, ?_, ?_, ?_, ?_, ?_, ?_, ?_, ?_, ?_, ?_, ?_, ?_, ?_, ?_, ?_, ?_, ?_, ?_, ?_, ?_, ?_, ?_, ?_, ?_, ?_, ?_, ?_, ?_, ?_, ?_, ?_, ?_, ?_, ?_, ?_, ?_, ?_, ?_, ?_, ?_, ?_, ?_, ?_, ?_, ?_, ?_, ?_, ?_, ?_, ?_, ?_, ?_, ?_, ?_, ?_, ?_, ?_, ?_, ?_, ?_, ?_, ?_, ?_, ?_, ?_, ?_, ?_, trivial⟩ <;> first | exact le_any _ | with_reducible exact le_rfl' _ | (exact le_rfl' _) | exact le_rfl' _) ((List.map_id h).symm) (⟨rfl, Hom.id' _, rfl⟩) ?_
 rintro ⟨a, b, U⟩ ⟨he, hU, hv⟩
 have he : es = a ++ b := he
 have hU : Hom U (· ∈ (L + 1) :: V.labelsLL es) := hU
 have hv : U (.sl (L + 1) 13 0 es) = .sl (L + 1) 13 0 (V.mkLL k a ++ b) := hv
 refine Ok.seq ?_
 refine OQ ?_
 iterate 4 (refine EV ?_)
 refine ON ?_
 refine Ok.cond (b := _) (by simp only [kE, kT, kL, kC] <;> rfl) (fun hb2 => ?_) (fun hb2 => ?_)
 ·
  try simp only [bsimp] at hb2
  have hlen : (V.mkLL k a ++ b).length = a.length + b.length := by rw [List.length_append, mkLL_len]
  obtain ⟨c, b, rfl⟩ : ∃ c b', b = c :: b' := by
    cases b with
    | nil => exfalso; rw [hlen] at hb2; simp only [List.length_nil] at hb2; omega
    | cons c b' => exact ⟨c, b', rfl⟩
  obtain ⟨v0, v1, L2, e2, L3, e3, v4, v5, v6, v7, v8, v9, v10, L11, e11, v12, rfl, q2, q3, q11⟩ := hs c (by rw [he]; simp)
  have hkk : k + (V.mnLL a + (V.mnL [.int .i64 v0, .int .i64 v1, .sl (L2 + 1) 7 0 e2, .sl (L3 + 1) 1 0 e3, .str v4, .int .i64 v5, .str v6, .str v7, .bool v8, .bool v9, .int .i64 v10, .sl (L11 + 1) 1 0 e11, .bool v12] + V.mnLL b)) ≤ 4611686018427387904 := by rw [he, mnLL_app] at hk; exact hk
  simp only [V.mnL, V.mn] at hkk
  obtain ⟨dA, dC, dB, dAC, dBC, hC⟩ := lab_split (by rw [← he]; exact hn)
  have dC0 := dC
  simp only [V.labelsLL, V.labelsL, V.labels, mkLL_labels, List.mem_append, List.mem_cons, List.not_mem_nil, List.append_nil, List.nil_append, List.cons_append, not_or, or_false, false_or] at dC
  have hz := len_mn es fun r hr => isServer_mn (hs r hr)
  have hal : a.length ≤ 4611686018427387904 := by have e3 := congrArg List.length he; rw [List.length_append] at e3; omega
  have m2 : ∀ y ∈ (L2 + 1) :: V.labelsLL e2, y ∈ V.labelsL [.int .i64 v0, .int .i64 v1, .sl (L2 + 1) 7 0 e2, .sl (L3 + 1) 1 0 e3, .str v4, .int .i64 v5, .str v6, .str v7, .bool v8, .bool v9, .int .i64 v10, .sl (L11 + 1) 1 0 e11, .bool v12] := fun y hy => by simp only [V.labelsL, V.labels, List.mem_append, List.append_nil, List.nil_append]; simp only [hy, true_or, or_true]
  have x2 : ¬ (L + 1 ∈ (L2 + 1) :: V.labelsLL e2) := fun h => dC0 (m2 _ h)
  have a2 : ∀ K, ∀ y ∈ V.labelsLL (V.mkLL K a), ¬ (y ∈ (L2 + 1) :: V.labelsLL e2) := fun K y hy h => dAC y (by rw [mkLL_labels] at hy; exact hy) (m2 _ h)
  have b2 : ∀ y ∈ V.labelsLL b, ¬ (y ∈ (L2 + 1) :: V.labelsLL e2) := fun y hy h => dBC y hy (m2 _ h)
  have u2 : ∀ y, y ∈ (L2 + 1) :: V.labelsLL e2 → y ∈ (L + 1) :: V.labelsLL es := fun y hy => by rw [he, labelsLL_app]; exact List.mem_cons_of_mem _ (List.mem_append_right _ (List.mem_append_left _ (m2 y hy)))
  have m3 : ∀ y ∈ (L3 + 1) :: V.labelsLL e3, y ∈ V.labelsL [.int .i64 v0, .int .i64 v1, .sl (L2 + 1) 7 0 e2, .sl (L3 + 1) 1 0 e3, .str v4, .int .i64 v5, .str v6, .str v7, .bool v8, .bool v9, .int .i64 v10, .sl (L11 + 1) 1 0 e11, .bool v12] := fun y hy => by simp only [V.labelsL, V.labels, List.mem_append, List.append_nil, List.nil_append]; simp only [hy, true_or, or_true]
  have x3 : ¬ (L + 1 ∈ (L3 + 1) :: V.labelsLL e3) := fun h => dC0 (m3 _ h)
  have a3 : ∀ K, ∀ y ∈ V.labelsLL (V.mkLL K a), ¬ (y ∈ (L3 + 1) :: V.labelsLL e3) := fun K y hy h => dAC y (by rw [mkLL_labels] at hy; exact hy) (m3 _ h)
  have b3 : ∀ y ∈ V.labelsLL b, ¬ (y ∈ (L3 + 1) :: V.labelsLL e3) := fun y hy h => dBC y hy (m3 _ h)
  have u3 : ∀ y, y ∈ (L3 + 1) :: V.labelsLL e3 → y ∈ (L + 1) :: V.labelsLL es := fun y hy => by rw [he, labelsLL_app]; exact List.mem_cons_of_mem _ (List.mem_append_right _ (List.mem_append_left _ (m3 y hy)))
  have m11 : ∀ y ∈ (L11 + 1) :: V.labelsLL e11, y ∈ V.labelsL [.int .i64 v0, .int .i64 v1, .sl (L2 + 1) 7 0 e2, .sl (L3 + 1) 1 0 e3, .str v4, .int .i64 v5, .str v6, .str v7, .bool v8, .bool v9, .int .i64 v10, .sl (L11 + 1) 1 0 e11, .bool v12] := fun y hy => by simp only [V.labelsL, V.labels, List.mem_append, List.append_nil, List.nil_append]; simp only [hy, true_or, or_true]
  have x11 : ¬ (L + 1 ∈ (L11 + 1) :: V.labelsLL e11) := fun h => dC0 (m11 _ h)
  have a11 : ∀ K, ∀ y ∈ V.labelsLL (V.mkLL K a), ¬ (y ∈ (L11 + 1) :: V.labelsLL e11) := fun K y hy h => dAC y (by rw [mkLL_labels] at hy; exact hy) (m11 _ h)
  have b11 : ∀ y ∈ V.labelsLL b, ¬ (y ∈ (L11 + 1) :: V.labelsLL e11) := fun y hy h => dBC y hy (m11 _ h)
  have u11 : ∀ y, y ∈ (L11 + 1) :: V.labelsLL e11 → y ∈ (L + 1) :: V.labelsLL es := fun y hy => by rw [he, labelsLL_app]; exact List.mem_cons_of_mem _ (List.mem_append_right _ (List.mem_append_left _ (m11 y hy)))
  have hC1 := hC
  simp only [V.labelsL, V.labels, List.append_nil, List.nil_append] at hC1
  obtain ⟨w2, hC1, f2, g2⟩ := nd_app hC1
  obtain ⟨w3, hC1, f3, g3⟩ := nd_app hC1
  have w11 := hC1
  have y3_2 : ∀ y ∈ (L2 + 1) :: V.labelsLL e2, ¬ (y ∈ (L3 + 1) :: V.labelsLL e3) := fun y hy h => f2 y hy (by first | exact h | (simp only [List.mem_append]; simp only [h, true_or, or_true]))
  have y2_3 : ∀ y ∈ (L3 + 1) :: V.labelsLL e3, ¬ (y ∈ (L2 + 1) :: V.labelsLL e2) := fun y hy h => y3_2 y h hy
  have y11_2 : ∀ y ∈ (L2 + 1) :: V.labelsLL e2, ¬ (y ∈ (L11 + 1) :: V.labelsLL e11) := fun y hy h => f2 y hy (by first | exact h | (simp only [List.mem_append]; simp only [h, true_or, or_true]))
  have y2_11 : ∀ y ∈ (L11 + 1) :: V.labelsLL e11, ¬ (y ∈ (L2 + 1) :: V.labelsLL e2) := fun y hy h => y11_2 y h hy
  have y11_3 : ∀ y ∈ (L3 + 1) :: V.labelsLL e3, ¬ (y ∈ (L11 + 1) :: V.labelsLL e11) := fun y hy h => f3 y hy (by first | exact h | (simp only [List.mem_append]; simp only [h, true_or, or_true]))
  have y3_11 : ∀ y ∈ (L11 + 1) :: V.labelsLL e11, ¬ (y ∈ (L3 + 1) :: V.labelsLL e3) := fun y hy h => y11_3 y h hy
  refine Ok.skip ?_
  refine Ok.seq ?_
  refine Ok.block ?_
  refine Ok.seq ?_
  refine Ok.drop [6, 7, 8, 9] (by simp only [kover] <;> rfl) ?_
  refine Ok.region ?_
  iterate 3 (refine EV ?_)
  refine OkOps.ev tab_ok rfl (ev_idx (j := a.length) (by simp only [kE, kT, kL, kC] <;> rfl) (by simp only [kE, kT, kL, kC] <;> rfl) (get_mid (mkLL_len _ _)) (by simp only [kE, kT, kL, kC] <;> rfl)) (by simp only [kP] <;> rfl) ?_
  iterate 3 (refine EV ?_)
  refine OkOps.storeU tab_ok rfl rfl (by simp only [kE, kT, kL, kC] <;> rfl) ⟨_, _, by simp only [kE]; rfl⟩ (by simp only [V.labelsLL, V.labelsL, V.labels, mkLL_labels, List.mem_append, List.mem_cons, List.not_mem_nil, List.append_nil, List.nil_append, List.cons_append, not_or, or_false, false_or, not_false_eq_true, and_self, dA, dB, dC]) hU hv (List.mem_cons_self ..) (fun W hW hF => by simp only [List.map_cons, List.map_nil, List.map_append, hW.int, hW.str, hW.bool, hW.any, hW.tup0, hF.sl, hF.ptr, Nat.zero_add, set_mid (mkLL_len _ _), labelsLL_app, V.labelsLL, V.labelsL, V.labels, mkLL_labels, List.mem_append, List.mem_cons, List.not_mem_nil, List.append_nil, List.nil_append, List.cons_append, not_or, or_false, false_or, not_false_eq_true, and_self, dA, dB, dC] <;> rfl) (fun W hW hF => by simp only [List.map_cons, List.map_nil, List.map_append, hW.int, hW.str, hW.bool, hW.any, hW.tup0, hF.sl, hF.ptr, Nat.zero_add, set_mid (mkLL_len _ _), labelsLL_app, V.labelsLL, V.labelsL, V.labels, mkLL_labels, List.mem_append, List.mem_cons, List.not_mem_nil, List.append_nil, List.nil_append, List.cons_append, not_or, or_false, false_or, not_false_eq_true, and_self, dA, dB, dC, kP] <;> rfl) ?_
  intro U hU hv
  refine ON ?_
  refine Ok.seq ?_
  refine Ok.drop [12, 13, 14, 15, 16, 17, 18] (by simp only [kover] <;> rfl) ?_
  refine Ok.region ?_
  refine EV ?_
  refine OkOps.ev tab_ok rfl (by simp (disch := omega) only [kE, kT, kL, kC, wrap_add_one] <;> rfl) (by simp only [kP] <;> rfl) ?_
  refine EV ?_
  refine ON ?_
  refine Ok.seq ?_
  refine Ok.drop [19, 20] (by simp only [kover] <;> rfl) ?_
  refine Ok.region ?_
  iterate 3 (refine EV ?_)
  refine OkOps.ev tab_ok rfl (ev_idx (j := a.length) (by simp only [kE, kT, kL, kC] <;> rfl) (by simp only [kE, kT, kL, kC] <;> rfl) (get_mid (mkLL_len _ _)) (by simp only [kE, kT, kL, kC] <;> rfl)) (by simp only [kP] <;> rfl) ?_
  iterate 3 (refine EV ?_)
  refine OkOps.storeU tab_ok rfl rfl (by simp only [kE, kT, kL, kC] <;> rfl) ⟨_, _, by simp only [kE]; rfl⟩ (by simp only [V.labelsLL, V.labelsL, V.labels, mkLL_labels, List.mem_append, List.mem_cons, List.not_mem_nil, List.append_nil, List.nil_append, List.cons_append, not_or, or_false, false_or, not_false_eq_true, and_self, dA, dB, dC]) hU hv (List.mem_cons_self ..) (fun W hW hF => by simp only [List.map_cons, List.map_nil, List.map_append, hW.int, hW.str, hW.bool, hW.any, hW.tup0, hF.sl, hF.ptr, Nat.zero_add, set_mid (mkLL_len _ _), labelsLL_app, V.labelsLL, V.labelsL, V.labels, mkLL_labels, List.mem_append, List.mem_cons, List.not_mem_nil, List.append_nil, List.nil_append, List.cons_append, not_or, or_false, false_or, not_false_eq_true, and_self, dA, dB, dC] <;> rfl) (fun W hW hF => by simp only [List.map_cons, List.map_nil, List.map_append, hW.int, hW.str, hW.bool, hW.any, hW.tup0, hF.sl, hF.ptr, Nat.zero_add, set_mid (mkLL_len _ _), labelsLL_app, V.labelsLL, V.labelsL, V.labels, mkLL_labels, List.mem_append, List.mem_cons, List.not_mem_nil, List.append_nil, List.nil_append, List.cons_append, not_or, or_false, false_or, not_false_eq_true, and_self, dA, dB, dC, kP] <;> rfl) ?_
  intro U hU hv
  refine ON ?_
  refine Ok.seq ?_
  refine Ok.drop [21, 22, 23, 24, 25, 26, 27] (by simp only [kover] <;> rfl) ?_
  refine Ok.region ?_
  refine EV ?_
  refine OkOps.ev tab_ok rfl (by simp (disch := omega) only [kE, kT, kL, kC, wrap_add_one] <;> rfl) (by simp only [kP] <;> rfl) ?_
  refine EV ?_
  refine ON ?_
  refine Ok.seq ?_
  refine Ok.drop [28, 29] (by simp only [kover] <;> rfl) ?_
  refine Ok.region ?_
  iterate 2 (refine EV ?_)
  refine OkOps.ev tab_ok rfl (ev_idx (j := a.length) (by simp only [kE, kT, kL, kC] <;> rfl) (by simp only [kE, kT, kL, kC] <;> rfl) (get_mid (mkLL_len _ _)) (by simp only [kE, kT, kL, kC] <;> rfl)) (by simp only [kP] <;> rfl) ?_
  iterate 5 (refine EV ?_)
  refine OkOps.turnU 0 rfl rfl (by simp only [kE, kT, kL, kC] <;> rfl) (by simp only [kE, kT, kL, kC] <;> rfl) cl63 (fun h => c_laws_markBoxS e2 _ L2 q2 w2 (by omega)) (by first | rfl | (simp only [Nat.add_zero, Nat.reduceAdd] <;> rfl)) hU hv (u2) (fun W hW ha => by have z3 := hW.far (.sl (L3 + 1) 1 0 e3) (fun y hy => y2_3 y hy); have zz3 := fun K => hW.far (.sl (L3 + 1) 1 0 (V.mkLL K e3)) (fun y hy => y2_3 y (by simp only [V.labels, mkLL_labels] at hy; exact hy)); have z11 := hW.far (.sl (L11 + 1) 1 0 e11) (fun y hy => y2_11 y hy); have zz11 := fun K => hW.far (.sl (L11 + 1) 1 0 (V.mkLL K e11)) (fun y hy => y2_11 y (by simp only [V.labels, mkLL_labels] at hy; exact hy)); simp only [List.map_cons, List.map_nil, List.map_append, hW.int, hW.str, hW.bool, hW.any, hW.tup0, hW.agg, ha, kP, hW.sl (L + 1) 13 0 _ x2, hW.ptr (L + 1) _ _ _ x2, hW.farLL _ (a2 _), hW.farLL _ b2, z3, zz3, z11, zz11] <;> rfl) (fun W hW ha => by have z3 := hW.far (.sl (L3 + 1) 1 0 e3) (fun y hy => y2_3 y hy); have zz3 := fun K => hW.far (.sl (L3 + 1) 1 0 (V.mkLL K e3)) (fun y hy => y2_3 y (by simp only [V.labels, mkLL_labels] at hy; exact hy)); have z11 := hW.far (.sl (L11 + 1) 1 0 e11) (fun y hy => y2_11 y hy); have zz11 := fun K => hW.far (.sl (L11 + 1) 1 0 (V.mkLL K e11)) (fun y hy => y2_11 y (by simp only [V.labels, mkLL_labels] at hy; exact hy)); simp only [List.map_cons, List.map_nil, List.map_append, hW.int, hW.str, hW.bool, hW.any, hW.tup0, hW.agg, ha, kP, hW.sl (L + 1) 13 0 _ x2, hW.ptr (L + 1) _ _ _ x2, hW.farLL _ (a2 _), hW.farLL _ b2, z3, zz3, z11, zz11] <;> rfl) ?_
  intro U hU hv
  refine EV ?_
  refine ON ?_
  refine Ok.seq ?_
  refine Ok.drop [30, 31, 32, 33, 34, 35, 36, 37, 38] (by simp only [kover] <;> rfl) ?_
  refine Ok.region ?_
  iterate 2 (refine EV ?_)
  refine OkOps.ev tab_ok rfl (ev_idx (j := a.length) (by simp only [kE, kT, kL, kC] <;> rfl) (by simp only [kE, kT, kL, kC] <;> rfl) (get_mid (mkLL_len _ _)) (by simp only [kE, kT, kL, kC] <;> rfl)) (by simp only [kP] <;> rfl) ?_
  iterate 5 (refine EV ?_)
  refine OkOps.turnU 0 rfl rfl (by simp only [kE, kT, kL, kC] <;> rfl) (by simp only [kE, kT, kL, kC] <;> rfl) cl64 (fun h => c_laws_markIntS e3 _ L3 q3 w3 (by omega)) (by first | rfl | (simp only [Nat.add_zero, Nat.reduceAdd] <;> rfl)) hU hv (u3) (fun W hW ha => by have z2 := hW.far (.sl (L2 + 1) 7 0 e2) (fun y hy => y3_2 y hy); have zz2 := fun K => hW.far (.sl (L2 + 1) 7 0 (V.mkLL K e2)) (fun y hy => y3_2 y (by simp only [V.labels, mkLL_labels] at hy; exact hy)); have z11 := hW.far (.sl (L11 + 1) 1 0 e11) (fun y hy => y3_11 y hy); have zz11 := fun K => hW.far (.sl (L11 + 1) 1 0 (V.mkLL K e11)) (fun y hy => y3_11 y (by simp only [V.labels, mkLL_labels] at hy; exact hy)); simp only [List.map_cons, List.map_nil, List.map_append, hW.int, hW.str, hW.bool, hW.any, hW.tup0, hW.agg, ha, kP, hW.sl (L + 1) 13 0 _ x3, hW.ptr (L + 1) _ _ _ x3, hW.farLL _ (a3 _), hW.farLL _ b3, z2, zz2, z11, zz11] <;> rfl) (fun W hW ha => by have z2 := hW.far (.sl (L2 + 1) 7 0 e2) (fun y hy => y3_2 y hy); have zz2 := fun K => hW.far (.sl (L2 + 1) 7 0 (V.mkLL K e2)) (fun y hy => y3_2 y (by simp only [V.labels, mkLL_labels] at hy; exact hy)); have z11 := hW.far (.sl (L11 + 1) 1 0 e11) (fun y hy => y3_11 y hy); have zz11 := fun K => hW.far (.sl (L11 + 1) 1 0 (V.mkLL K e11)) (fun y hy => y3_11 y (by simp only [V.labels, mkLL_labels] at hy; exact hy)); simp only [List.map_cons, List.map_nil, List.map_append, hW.int, hW.str, hW.bool, hW.any, hW.tup0, hW.agg, ha, kP, hW.sl (L + 1) 13 0 _ x3, hW.ptr (L + 1) _ _ _ x3, hW.farLL _ (a3 _), hW.farLL _ b3, z2, zz2, z11, zz11] <;> rfl) ?_
  intro U hU hv
  refine EV ?_
  refine ON ?_
  refine Ok.seq ?_
  refine Ok.drop [39, 40, 41, 42, 43, 44, 45, 46, 47] (by simp only [kover] <;> rfl) ?_
  refine Ok.region ?_
  iterate 3 (refine EV ?_)
  refine OkOps.S0 rfl (OpS.weak' rfl (by simp only [kE, kT, kL, kC] <;> rfl) (by simp only [kE, kT, kL, kC] <;> rfl) cl127 (w_laws_markText _ (by omega))) (by simp only [kP] <;> rfl) ?_
  refine OkOps.ev tab_ok rfl (ev_idx (j := a.length) (by simp only [kE, kT, kL, kC] <;> rfl) (by simp only [kE, kT, kL, kC] <;> rfl) (get_mid (mkLL_len _ _)) (by simp only [kE, kT, kL, kC] <;> rfl)) (by simp only [kP] <;> rfl) ?_
  iterate 2 (refine EV ?_)
  refine OkOps.storeU tab_ok rfl rfl (by simp only [kE, kT, kL, kC] <;> rfl) ⟨_, _, by simp only [kE]; rfl⟩ (by simp only [V.labelsLL, V.labelsL, V.labels, mkLL_labels, List.mem_append, List.mem_cons, List.not_mem_nil, List.append_nil, List.nil_append, List.cons_append, not_or, or_false, false_or, not_false_eq_true, and_self, dA, dB, dC]) hU hv (List.mem_cons_self ..) (fun W hW hF => by simp only [List.map_cons, List.map_nil, List.map_append, hW.int, hW.str, hW.bool, hW.any, hW.tup0, hF.sl, hF.ptr, Nat.zero_add, set_mid (mkLL_len _ _), labelsLL_app, V.labelsLL, V.labelsL, V.labels, mkLL_labels, List.mem_append, List.mem_cons, List.not_mem_nil, List.append_nil, List.nil_append, List.cons_append, not_or, or_false, false_or, not_false_eq_true, and_self, dA, dB, dC] <;> rfl) (fun W hW hF => by simp only [List.map_cons, List.map_nil, List.map_append, hW.int, hW.str, hW.bool, hW.any, hW.tup0, hF.sl, hF.ptr, Nat.zero_add, set_mid (mkLL_len _ _), labelsLL_app, V.labelsLL, V.labelsL, V.labels, mkLL_labels, List.mem_append, List.mem_cons, List.not_mem_nil, List.append_nil, List.nil_append, List.cons_append, not_or, or_false, false_or, not_false_eq_true, and_self, dA, dB, dC, kP] <;> rfl) ?_
  intro U hU hv
  refine ON ?_
  refine Ok.seq ?_
  refine Ok.drop [48, 49, 50, 51, 52, 53, 54] (by simp only [kover] <;> rfl) ?_
  refine Ok.region ?_
  refine EV ?_
  refine OkOps.ev tab_ok rfl (by simp (disch := omega) only [kE, kT, kL, kC, wrap_add_one] <;> rfl) (by simp only [kP] <;> rfl) ?_
  refine EV ?_
  refine ON ?_
  refine Ok.seq ?_
  refine Ok.drop [55, 56] (by simp only [kover] <;> rfl) ?_
  refine Ok.region ?_
  iterate 3 (refine EV ?_)
  refine OkOps.ev tab_ok rfl (ev_idx (j := a.length) (by simp only [kE, kT, kL, kC] <;> rfl) (by simp only [kE, kT, kL, kC] <;> rfl) (get_mid (mkLL_len _ _)) (by simp only [kE, kT, kL, kC] <;> rfl)) (by simp only [kP] <;> rfl) ?_
  iterate 2 (refine EV ?_)
  refine OkOps.storeU tab_ok rfl rfl (by simp only [kE, kT, kL, kC] <;> rfl) ⟨_, _, by simp only [kE]; rfl⟩ (by simp only [V.labelsLL, V.labelsL, V.labels, mkLL_labels, List.mem_append, List.mem_cons, List.not_mem_nil, List.append_nil, List.nil_append, List.cons_append, not_or, or_false, false_or, not_false_eq_true, and_self, dA, dB, dC]) hU hv (List.mem_cons_self ..) (fun W hW hF => by simp only [List.map_cons, List.map_nil, List.map_append, hW.int, hW.str, hW.bool, hW.any, hW.tup0, hF.sl, hF.ptr, Nat.zero_add, set_mid (mkLL_len _ _), labelsLL_app, V.labelsLL, V.labelsL, V.labels, mkLL_labels, List.mem_append, List.mem_cons, List.not_mem_nil, List.append_nil, List.nil_append, List.cons_append, not_or, or_false, false_or, not_false_eq_true, and_self, dA, dB, dC] <;> rfl) (fun W hW hF => by simp only [List.map_cons, List.map_nil, List.map_append, hW.int, hW.str, hW.bool, hW.any, hW.tup0, hF.sl, hF.ptr, Nat.zero_add, set_mid (mkLL_len _ _), labelsLL_app, V.labelsLL, V.labelsL, V.labels, mkLL_labels, List.mem_append, List.mem_cons, List.not_mem_nil, List.append_nil, List.nil_append, List.cons_append, not_or, or_false, false_or, not_false_eq_true, and_self, dA, dB, dC, kP] <;> rfl) ?_
  intro U hU hv
  refine ON ?_
  refine Ok.seq ?_
  refine Ok.drop [57, 58, 59, 60, 61, 62] (by simp only [kover] <;> rfl) ?_
  refine Ok.region ?_
  refine EV ?_
  refine OkOps.ev tab_ok rfl (by simp (disch := omega) only [kE, kT, kL, kC, wrap_add_one] <;> rfl) (by simp only [kP] <;> rfl) ?_
  refine EV ?_
  refine ON ?_
  refine Ok.seq ?_
  refine Ok.drop [63, 64] (by simp only [kover] <;> rfl) ?_
  refine Ok.region ?_
  iterate 3 (refine EV ?_)
  refine OkOps.S0 rfl (OpS.weak' rfl (by simp only [kE, kT, kL, kC] <;> rfl) (by simp only [kE, kT, kL, kC] <;> rfl) cl127 (w_laws_markText _ (by omega))) (by simp only [kP] <;> rfl) ?_
  refine OkOps.ev tab_ok rfl (ev_idx (j := a.length) (by simp only [kE, kT, kL, kC] <;> rfl) (by simp only [kE, kT, kL, kC] <;> rfl) (get_mid (mkLL_len _ _)) (by simp only [kE, kT, kL, kC] <;> rfl)) (by simp only [kP] <;> rfl) ?_
  iterate 2 (refine EV ?_)
  refine OkOps.storeU tab_ok rfl rfl (by simp only [kE, kT, kL, kC] <;> rfl) ⟨_, _, by simp only [kE]; rfl⟩ (by simp only [V.labelsLL, V.labelsL, V.labels, mkLL_labels, List.mem_append, List.mem_cons, List.not_mem_nil, List.append_nil, List.nil_append, List.cons_append, not_or, or_false, false_or, not_false_eq_true, and_self, dA, dB, dC]) hU hv (List.mem_cons_self ..) (fun W hW hF => by simp only [List.map_cons, List.map_nil, List.map_append, hW.int, hW.str, hW.bool, hW.any, hW.tup0, hF.sl, hF.ptr, Nat.zero_add, set_mid (mkLL_len _ _), labelsLL_app, V.labelsLL, V.labelsL, V.labels, mkLL_labels, List.mem_append, List.mem_cons, List.not_mem_nil, List.append_nil, List.nil_append, List.cons_append, not_or, or_false, false_or, not_false_eq_true, and_self, dA, dB, dC] <;> rfl) (fun W hW hF => by simp only [List.map_cons, List.map_nil, List.map_append, hW.int, hW.str, hW.bool, hW.any, hW.tup0, hF.sl, hF.ptr, Nat.zero_add, set_mid (mkLL_len _ _), labelsLL_app, V.labelsLL, V.labelsL, V.labels, mkLL_labels, List.mem_append, List.mem_cons, List.not_mem_nil, List.append_nil, List.nil_append, List.cons_append, not_or, or_false, false_or, not_false_eq_true, and_self, dA, dB, dC, kP] <;> rfl) ?_
  intro U hU hv
  refine ON ?_
  refine Ok.seq ?_
  refine Ok.drop [65, 66, 67, 68, 69, 70, 71] (by simp only [kover] <;> rfl) ?_
  refine Ok.region ?_
  refine EV ?_
  refine OkOps.ev tab_ok rfl (by simp (disch := omega) only [kE, kT, kL, kC, wrap_add_one] <;> rfl) (by simp only [kP] <;> rfl) ?_
  refine EV ?_
  refine ON ?_
  refine Ok.seq ?_
  refine Ok.drop [72, 73] (by simp only [kover] <;> rfl) ?_
  refine Ok.region ?_
  iterate 3 (refine EV ?_)
  refine OkOps.S0 rfl (OpS.weak' rfl (by simp only [kE, kT, kL, kC] <;> rfl) (by simp only [kE, kT, kL, kC] <;> rfl) cl127 (w_laws_markText _ (by omega))) (by simp only [kP] <;> rfl) ?_
  refine OkOps.ev tab_ok rfl (ev_idx (j := a.length) (by simp only [kE, kT, kL, kC] <;> rfl) (by simp only [kE, kT, kL, kC] <;> rfl) (get_mid (mkLL_len _ _)) (by simp only [kE, kT, kL, kC] <;> rfl)) (by simp only [kP] <;> rfl) ?_
  iterate 2 (refine EV ?_)
  refine OkOps.storeU tab_ok rfl rfl (by simp only [kE, kT, kL, kC] <;> rfl) ⟨_, _, by simp only [kE]; rfl⟩ (by simp only [V.labelsLL, V.labelsL, V.labels, mkLL_labels, List.mem_append, List.mem_cons, List.not_mem_nil, List.append_nil, List.nil_append, List.cons_append, not_or, or_false, false_or, not_false_eq_true, and_self, dA, dB, dC]) hU hv (List.mem_cons_self ..) (fun W hW hF => by simp only [List.map_cons, List.map_nil, List.map_append, hW.int, hW.str, hW.bool, hW.any, hW.tup0, hF.sl, hF.ptr, Nat.zero_add, set_mid (mkLL_len _ _), labelsLL_app, V.labelsLL, V.labelsL, V.labels, mkLL_labels, List.mem_append, List.mem_cons, List.not_mem_nil, List.append_nil, List.nil_append, List.cons_append, not_or, or_false, false_or, not_false_eq_true, and_self, dA, dB, dC] <;> rfl) (fun W hW hF => by simp only [List.map_cons, List.map_nil, List.map_append, hW.int, hW.str, hW.bool, hW.any, hW.tup0, hF.sl, hF.ptr, Nat.zero_add, set_mid (mkLL_len _ _), labelsLL_app, V.labelsLL, V.labelsL, V.labels, mkLL_labels, List.mem_append, List.mem_cons, List.not_mem_nil, List.append_nil, List.nil_append, List.cons_append, not_or, or_false, false_or, not_false_eq_true, and_self, dA, dB, dC, kP] <;> rfl) ?_
  intro U hU hv
  refine ON ?_
  refine Ok.seq ?_
  refine Ok.drop [74, 75, 76, 77, 78, 79, 80] (by simp only [kover] <;> rfl) ?_
  refine Ok.region ?_
  refine EV ?_
  refine OkOps.ev tab_ok rfl (by simp (disch := omega) only [kE, kT, kL, kC, wrap_add_one] <;> rfl) (by simp only [kP] <;> rfl) ?_
  refine EV ?_
  refine ON ?_
  refine Ok.seq ?_
  refine Ok.drop [81, 82] (by simp only [kover] <;> rfl) ?_
  refine Ok.region ?_
  iterate 5 (refine EV ?_)
  refine OkOps.ev tab_ok rfl (ev_idx (j := a.length) (by simp only [kE, kT, kL, kC] <;> rfl) (by simp only [kE, kT, kL, kC] <;> rfl) (get_mid (mkLL_len _ _)) (by simp only [kE, kT, kL, kC] <;> rfl)) (by simp only [kP] <;> rfl) ?_
  iterate 2 (refine EV ?_)
  refine OkOps.storeU tab_ok rfl rfl (by simp only [kE, kT, kL, kC] <;> rfl) ⟨_, _, by simp only [kE]; rfl⟩ (by simp only [V.labelsLL, V.labelsL, V.labels, mkLL_labels, List.mem_append, List.mem_cons, List.not_mem_nil, List.append_nil, List.nil_append, List.cons_append, not_or, or_false, false_or, not_false_eq_true, and_self, dA, dB, dC]) hU hv (List.mem_cons_self ..) (fun W hW hF => by simp only [List.map_cons, List.map_nil, List.map_append, hW.int, hW.str, hW.bool, hW.any, hW.tup0, hF.sl, hF.ptr, Nat.zero_add, set_mid (mkLL_len _ _), labelsLL_app, V.labelsLL, V.labelsL, V.labels, mkLL_labels, List.mem_append, List.mem_cons, List.not_mem_nil, List.append_nil, List.nil_append, List.cons_append, not_or, or_false, false_or, not_false_eq_true, and_self, dA, dB, dC] <;> rfl) (fun W hW hF => by simp only [List.map_cons, List.map_nil, List.map_append, hW.int, hW.str, hW.bool, hW.any, hW.tup0, hF.sl, hF.ptr, Nat.zero_add, set_mid (mkLL_len _ _), labelsLL_app, V.labelsLL, V.labelsL, V.labels, mkLL_labels, List.mem_append, List.mem_cons, List.not_mem_nil, List.append_nil, List.nil_append, List.cons_append, not_or, or_false, false_or, not_false_eq_true, and_self, dA, dB, dC, kP] <;> rfl) ?_
  intro U hU hv
  refine ON ?_
  refine Ok.seq ?_
  refine Ok.drop [83, 84, 85, 86, 87, 88, 89, 90] (by simp only [kover] <;> rfl) ?_
  refine Ok.region ?_
  refine EV ?_
  refine OkOps.ev tab_ok rfl (by simp (disch := omega) only [kE, kT, kL, kC, wrap_add_one] <;> rfl) (by simp only [kP] <;> rfl) ?_
  refine EV ?_
  refine ON ?_
  refine Ok.seq ?_
  refine Ok.drop [91, 92] (by simp only [kover] <;> rfl) ?_
  refine Ok.region ?_
  iterate 5 (refine EV ?_)
  refine OkOps.ev tab_ok rfl (ev_idx (j := a.length) (by simp only [kE, kT, kL, kC] <;> rfl) (by simp only [kE, kT, kL, kC] <;> rfl) (get_mid (mkLL_len _ _)) (by simp only [kE, kT, kL, kC] <;> rfl)) (by simp only [kP] <;> rfl) ?_
  iterate 2 (refine EV ?_)
  refine OkOps.storeU tab_ok rfl rfl (by simp only [kE, kT, kL, kC] <;> rfl) ⟨_, _, by simp only [kE]; rfl⟩ (by simp only [V.labelsLL, V.labelsL, V.labels, mkLL_labels, List.mem_append, List.mem_cons, List.not_mem_nil, List.append_nil, List.nil_append, List.cons_append, not_or, or_false, false_or, not_false_eq_true, and_self, dA, dB, dC]) hU hv (List.mem_cons_self ..) (fun W hW hF => by simp only [List.map_cons, List.map_nil, List.map_append, hW.int, hW.str, hW.bool, hW.any, hW.tup0, hF.sl, hF.ptr, Nat.zero_add, set_mid (mkLL_len _ _), labelsLL_app, V.labelsLL, V.labelsL, V.labels, mkLL_labels, List.mem_append, List.mem_cons, List.not_mem_nil, List.append_nil, List.nil_append, List.cons_append, not_or, or_false, false_or, not_false_eq_true, and_self, dA, dB, dC] <;> rfl) (fun W hW hF => by simp only [List.map_cons, List.map_nil, List.map_append, hW.int, hW.str, hW.bool, hW.any, hW.tup0, hF.sl, hF.ptr, Nat.zero_add, set_mid (mkLL_len _ _), labelsLL_app, V.labelsLL, V.labelsL, V.labels, mkLL_labels, List.mem_append, List.mem_cons, List.not_mem_nil, List.append_nil, List.nil_append, List.cons_append, not_or, or_false, false_or, not_false_eq_true, and_self, dA, dB, dC, kP] <;> rfl) ?_
  intro U hU hv
  refine ON ?_
  refine Ok.seq ?_
  refine Ok.drop [93, 94, 95, 96, 97, 98, 99, 100] (by simp only [kover] <;> rfl) ?_
  refine Ok.region ?_
  refine EV ?_
  refine OkOps.ev tab_ok rfl (by simp (disch := omega) only [kE, kT, kL, kC, wrap_add_one] <;> rfl) (by simp only [kP] <;> rfl) ?_
  refine EV ?_
  refine ON ?_
  refine Ok.seq ?_
  refine Ok.drop [101, 102] (by simp only [kover] <;> rfl) ?_
  refine Ok.region ?_
  iterate 3 (refine EV ?_)
  refine OkOps.ev tab_ok rfl (ev_idx (j := a.length) (by simp only [kE, kT, kL, kC] <;> rfl) (by simp only [kE, kT, kL, kC] <;> rfl) (get_mid (mkLL_len _ _)) (by simp only [kE, kT, kL, kC] <;> rfl)) (by simp only [kP] <;> rfl) ?_
  iterate 2 (refine EV ?_)
  refine OkOps.storeU tab_ok rfl rfl (by simp only [kE, kT, kL, kC] <;> rfl) ⟨_, _, by simp only [kE]; rfl⟩ (by simp only [V.labelsLL, V.labelsL, V.labels, mkLL_labels, List.mem_append, List.mem_cons, List.not_mem_nil, List.append_nil, List.nil_append, List.cons_append, not_or, or_false, false_or, not_false_eq_true, and_self, dA, dB, dC]) hU hv (List.mem_cons_self ..) (fun W hW hF => by simp only [List.map_cons, List.map_nil, List.map_append, hW.int, hW.str, hW.bool, hW.any, hW.tup0, hF.sl, hF.ptr, Nat.zero_add, set_mid (mkLL_len _ _), labelsLL_app, V.labelsLL, V.labelsL, V.labels, mkLL_labels, List.mem_append, List.mem_cons, List.not_mem_nil, List.append_nil, List.nil_append, List.cons_append, not_or, or_false, false_or, not_false_eq_true, and_self, dA, dB, dC] <;> rfl) (fun W hW hF => by simp only [List.map_cons, List.map_nil, List.map_append, hW.int, hW.str, hW.bool, hW.any, hW.tup0, hF.sl, hF.ptr, Nat.zero_add, set_mid (mkLL_len _ _), labelsLL_app, V.labelsLL, V.labelsL, V.labels, mkLL_labels, List.mem_append, List.mem_cons, List.not_mem_nil, List.append_nil, List.nil_append, List.cons_append, not_or, or_false, false_or, not_false_eq_true, and_self, dA, dB, dC, kP] <;> rfl) ?_
  intro U hU hv
  refine ON ?_
  refine Ok.seq ?_
  refine Ok.drop [103, 104, 105, 106, 107, 108] (by simp only [kover] <;> rfl) ?_
  refine Ok.region ?_
  refine EV ?_
  refine OkOps.ev tab_ok rfl (by simp (disch := omega) only [kE, kT, kL, kC, wrap_add_one] <;> rfl) (by simp only [kP] <;> rfl) ?_
  refine EV ?_
  refine ON ?_
  refine Ok.seq ?_
  refine Ok.drop [109, 110] (by simp only [kover] <;> rfl) ?_
  refine Ok.region ?_
  iterate 2 (refine EV ?_)
  refine OkOps.ev tab_ok rfl (ev_idx (j := a.length) (by simp only [kE, kT, kL, kC] <;> rfl) (by simp only [kE, kT, kL, kC] <;> rfl) (get_mid (mkLL_len _ _)) (by simp only [kE, kT, kL, kC] <;> rfl)) (by simp only [kP] <;> rfl) ?_
  iterate 4 (refine EV ?_)
  refine OkOps.turnU 0 rfl rfl (by simp only [kE, kT, kL, kC] <;> rfl) (by simp only [kE, kT, kL, kC] <;> rfl) cl64 (fun h => c_laws_markIntS e11 _ L11 q11 w11 (by omega)) (by first | rfl | (simp only [Nat.add_zero, Nat.reduceAdd] <;> rfl)) hU hv (u11) (fun W hW ha => by have z2 := hW.far (.sl (L2 + 1) 7 0 e2) (fun y hy => y11_2 y hy); have zz2 := fun K => hW.far (.sl (L2 + 1) 7 0 (V.mkLL K e2)) (fun y hy => y11_2 y (by simp only [V.labels, mkLL_labels] at hy; exact hy)); have z3 := hW.far (.sl (L3 + 1) 1 0 e3) (fun y hy => y11_3 y hy); have zz3 := fun K => hW.far (.sl (L3 + 1) 1 0 (V.mkLL K e3)) (fun y hy => y11_3 y (by simp only [V.labels, mkLL_labels] at hy; exact hy)); simp only [List.map_cons, List.map_nil, List.map_append, hW.int, hW.str, hW.bool, hW.any, hW.tup0, hW.agg, ha, kP, hW.sl (L + 1) 13 0 _ x11, hW.ptr (L + 1) _ _ _ x11, hW.farLL _ (a11 _), hW.farLL _ b11, z2, zz2, z3, zz3] <;> rfl) (fun W hW ha => by have z2 := hW.far (.sl (L2 + 1) 7 0 e2) (fun y hy => y11_2 y hy); have zz2 := fun K => hW.far (.sl (L2 + 1) 7 0 (V.mkLL K e2)) (fun y hy => y11_2 y (by simp only [V.labels, mkLL_labels] at hy; exact hy)); have z3 := hW.far (.sl (L3 + 1) 1 0 e3) (fun y hy => y11_3 y hy); have zz3 := fun K => hW.far (.sl (L3 + 1) 1 0 (V.mkLL K e3)) (fun y hy => y11_3 y (by simp only [V.labels, mkLL_labels] at hy; exact hy)); simp only [List.map_cons, List.map_nil, List.map_append, hW.int, hW.str, hW.bool, hW.any, hW.tup0, hW.agg, ha, kP, hW.sl (L + 1) 13 0 _ x11, hW.ptr (L + 1) _ _ _ x11, hW.farLL _ (a11 _), hW.farLL _ b11, z2, zz2, z3, zz3] <;> rfl) ?_
  intro U hU hv
  refine EV ?_
  refine ON ?_
  refine Ok.seq ?_
  refine Ok.drop [111, 112, 113, 114, 115, 116, 117, 118] (by simp only [kover] <;> rfl) ?_
  refine Ok.region ?_
  iterate 5 (refine EV ?_)
  refine OkOps.ev tab_ok rfl (ev_idx (j := a.length) (by simp only [kE, kT, kL, kC] <;> rfl) (by simp only [kE, kT, kL, kC] <;> rfl) (get_mid (mkLL_len _ _)) (by simp only [kE, kT, kL, kC] <;> rfl)) (by simp only [kP] <;> rfl) ?_
  refine EV ?_
  refine OkOps.storeU tab_ok rfl rfl (by simp only [kE, kT, kL, kC] <;> rfl) ⟨_, _, by simp only [kE]; rfl⟩ (by simp only [V.labelsLL, V.labelsL, V.labels, mkLL_labels, List.mem_append, List.mem_cons, List.not_mem_nil, List.append_nil, List.nil_append, List.cons_append, not_or, or_false, false_or, not_false_eq_true, and_self, dA, dB, dC]) hU hv (List.mem_cons_self ..) (fun W hW hF => by simp only [List.map_cons, List.map_nil, List.map_append, hW.int, hW.str, hW.bool, hW.any, hW.tup0, hF.sl, hF.ptr, Nat.zero_add, set_mid (mkLL_len _ _), labelsLL_app, V.labelsLL, V.labelsL, V.labels, mkLL_labels, List.mem_append, List.mem_cons, List.not_mem_nil, List.append_nil, List.nil_append, List.cons_append, not_or, or_false, false_or, not_false_eq_true, and_self, dA, dB, dC] <;> rfl) (fun W hW hF => by simp only [List.map_cons, List.map_nil, List.map_append, hW.int, hW.str, hW.bool, hW.any, hW.tup0, hF.sl, hF.ptr, Nat.zero_add, set_mid (mkLL_len _ _), labelsLL_app, V.labelsLL, V.labelsL, V.labels, mkLL_labels, List.mem_append, List.mem_cons, List.not_mem_nil, List.append_nil, List.nil_append, List.cons_append, not_or, or_false, false_or, not_false_eq_true, and_self, dA, dB, dC, kP] <;> rfl) ?_
  intro U hU hv
  refine ON ?_
  refine Ok.drop [119, 120, 121, 122, 123, 124, 125] (by simp only [kover] <;> rfl) ?_
  refine Ok.region ?_
  refine EV ?_
  refine OkOps.ev tab_ok rfl (by simp (disch := omega) only [kE, kT, kL, kC, wrap_add_one] <;> rfl) (by simp only [kP] <;> rfl) ?_
  refine EV ?_
  refine ON ?_
  refine Ok.drop [126, 127] (by simp only [kover] <;> rfl) ?_
  refine Ok.region ?_
  refine EV ?_
  refine OkOps.ev tab_ok rfl (by simp (disch := omega) only [kE, kT, kL, kC, wrap_add_one] <;> rfl) (by simp only [kP] <;> rfl) ?_
  refine EV ?_
  refine ON ?_
  refine ⟨(a ++ [[.int .i64 v0, .int .i64 v1, .sl (L2 + 1) 7 0 e2, .sl (L3 + 1) 1 0 e3, .str v4, .int .i64 v5, .str v6, .str v7, .bool v8, .bool v9, .int .i64 v10, .sl (L11 + 1) 1 0 e11, .bool v12]], b, U), ?_, rfl, rfl, ⟨by rw [he]; simp, hU, by dsimp only; rw [hv, mkLL_snoc]; simp only [V.mkL, V.mk, V.mn, List.append_assoc, List.cons_append, List.nil_append] <;> rfl⟩, by simp only [List.length_cons]; omega⟩
  refine ⟨?_, ?_, ?_, ?_, ?_, ?_, ?_, ?_, ?_, ?_, ?_, ?_, ?_, ?_, ?_, ?_, ?_, ?_, ?_, ?_, ?_, ?_, ?_, ?_, ?_, ?_, ?_, ?_, ?_, ?_, ?_, ?_, ?_, ?_, ?_, ?_, ?_, ?_, ?_, ?_, ?_, ?_, ?_, ?_, ?_, ?_, ?_, ?_, ?_, ?_, ?_, ?_, ?_, ?_, ?_, ?_, ?_, ?_, ?_, ?_, ?_, ?_, ?_, ?_, ?_, ?_, ?_, ?_, ?_, ?_, ?_, ?_, ?_, ?_, ?_, ?_, ?_, ?_, ?_, ?_, ?_, ?_, ?_, ?_, ?_, ?_, ?_, ?_, ?_, ?_, ?_, ?_, ?_, ?_, ?_, ?_, ?_, ?_, ?_, ?_, ?_, ?_, ?_, ?_, ?_, ?_, ?_, ?_, ?_, ?_, ?_, ?_, ?_, ?_, ?_, ?_, ?_, ?_, ?_, ?_, ?_, ?_, ?_, ?_, ?_, ?_, ?_, ?_, ?_, trivial⟩ <;> first | exact le_any _ | with_reducible exact le_rfl' _ | (dsimp only; first | (refine le_eqm ?_; simp only [List.length_append, List.length_cons, List.length_nil]; done) | (rw [wrap_add_one (by omega)]; refine le_eqm ?_; simp only [List.length_append, List.length_cons, List.length_nil]; done) | (refine le_eqm ?_; rw [mkLL_snoc]; simp only [V.mkL, V.mk, V.mn, List.append_assoc, List.cons_append, List.nil_append] <;> rfl) | (refine le_eqm (congrArg (V.int .i64) (congrArg Nat.cast ?_)); rw [mnLL_snoc]; simp only [V.mnL, V.mn]; omega)) | exact le_rfl' _
 ·
  try simp only [bsimp] at hb2
  have hb : b = [] := by cases b with
    | nil => rfl
    | cons c b' => exfalso; rw [List.length_append, mkLL_len] at hb2; simp only [List.length_cons] at hb2; omega
  subst hb
  rw [List.append_nil] at he
  subst he
  refine Ok.exit ?_
  refine Ok.seq ?_
  refine Ok.drop [6, 7, 8, 9] (by simp only [kover] <;> rfl) ?_
  refine Ok.region ?_
  iterate 2 (refine EV ?_)
  refine ON ?_
  refine Ok.ret ?_
  with_reducible repeat (first | refine thenQ_ret ?_ | refine blockQ_ret ?_)
  refine RT ?_
  exact ⟨rfl, rfl, U, hU, by rw [hv, List.append_nil], rfl⟩
theorem c_laws_markSyncS (es : List (List V)) (k L : Nat) (hs : ∀ r ∈ es, isSync r) (hn : ((L + 1) :: V.labelsLL es).Nodup) (hk : k + V.mnLL es ≤ 4611686018427387904) {h : List V} {n : Nat}  : OkCall Tryz.prog 84 [.sl (L + 1) 9 0 es, .int .i64 (k : Int)] h n (MarkQ (· ∈ (L + 1) :: V.labelsLL es) (.sl (L + 1) 9 0 es) (.sl (L + 1) 9 0 (V.mkLL k es)) (.int .i64 ((k + V.mnLL es : Nat) : Int)) h n) := by
 refine OkCall.enter' tab_ok Tryz.func84 rfl (t := [.sl (L + 1) 9 0 es, .int .i64 (k : Int), .any, .any, .any, .any, .any, .any, .any, .any, .any, .any, .any, .any, .any, .any, .any, .any, .any, .any, .any, .any, .any, .any, .any, .any, .any, .any, .any, .any, .any, .any, .any, .any, .any, .any, .any, .any, .any, .any, .any, .any, .any, .any, .any, .any, .any, .any, .any, .any, .any, .any, .any, .any, .any, .any, .any, .any, .any, .any, .any, .any, .any, .any, .any, .any, .any, .any, .any, .any, .any, .any, .any, .any, .any, .any, .any, .any, .any, .any, .any, .any, .any, .any]) rfl ?_
 refine OQ ?_
 refine EV ?_
 refine ON ?_
 refine Ok.seq ?_
 refine OQ ?_
 refine EV ?_
 refine ON ?_
 refine Ok.block ?_
 refine Ok.loopH (τ := List (List V) × List (List V) × (V → V)) (fun x => [(0, .sl (L + 1) 9 0 (V.mkLL k x.1 ++ x.2.1)), (1, .int .i64 ((k + V.mnLL x.1 : Nat) : Int)), (5, .int .i64 (x.1.length : Int))]) [6, 7, 8, 9, 10, 11, 12, 13, 14, 15, 16, 17, 18, 19, 20, 21, 22, 23, 24, 25, 26, 27, 28, 29, 30, 31, 32, 33, 34, 35, 36, 37, 38, 39, 40, 41, 42, 43, 44, 45, 46, 47, 48, 49, 50, 51, 52, 53, 54, 55, 56, 57, 58, 59, 60, 61, 62, 63, 64, 65, 66, 67, 68, 69, 70, 71, 72, 73, 74, 75, 76, 77, 78, 79, 80, 81, 82] (fun x => by simp only [kover] <;> rfl) (fun x => h.map x.2.2) (fun x => es = x.1 ++ x.2.1 ∧ Hom x.2.2 (· ∈ (L + 1) :: V.labelsLL es) ∧ x.2.2 (.sl (L + 1) 9 0 es) = .sl (L + 1) 9 0 (V.mkLL k x.1 ++ x.2.1)) (fun x => x.2.1.length) ([], es, id) (by refine ⟨?_, ?_, ?_, ?_, ?_, ?_, ?_, ?_, ?_, ?_, ?_, ?_, ?_, ?_, ?_, ?_, ?_, ?_, ?_, ?_, ?_, ?_, ?_, ?_, ?_, ?_, ?_, ?_, ?_, ?_, ?_, ?_, ?_, ?_, ?_, ?_, ?_, ?_, ?_, ?_, ?_, ?_, ?_, ?_, ?_, ?_, ?_, ?_, ?_, ?_, ?_, ?_, ?_, ?_, ?_, ?_, ?_, ?_, ?_, ?_, ?_, ?_, ?_, ?_, ?_, ?_, ?_, ?_, ?_, ?_, ?_, ?_, ?_, ?_, ?_, ?_, ?_, ?_, ?_, ?_, ?_, ?_, ?_, ?_, trivial⟩ <;> first | exact le_any _ | with_reducible exact le_rfl' _ | (exact le_rfl' _) | exact le_rfl' _) ((List.map_id h).symm) (⟨rfl, Hom.id' _, rfl⟩) ?_
 rintro ⟨a, b, U⟩ ⟨he, hU, hv⟩
 have he : es = a ++ b := he
 have hU : Hom U (· ∈ (L + 1) :: V.labelsLL es) := hU
 have hv : U (.sl (L + 1) 9 0 es) = .sl (L + 1) 9 0 (V.mkLL k a ++ b) := hv
 refine Ok.seq ?_
 refine OQ ?_
 iterate 4 (refine EV ?_)
 refine ON ?_
 refine Ok.cond (b := _) (by simp only [kE, kT, kL, kC] <;> rfl) (fun hb2 => ?_) (fun hb2 => ?_)
 ·
  try simp only [bsimp] at hb2
  have hlen : (V.mkLL k a ++ b).length = a.length + b.length := by rw [List.length_append, mkLL_len]
  obtain ⟨c, b, rfl⟩ : ∃ c b', b = c :: b' := by
    cases b with
    | nil => exfalso; rw [hlen] at hb2; simp only [List.length_nil] at hb2; omega
    | cons c b' => exact ⟨c, b', rfl⟩
  obtain ⟨v0, v1, L2, e2, v3, v4, v5, L6, e6, v7, v8, rfl, q2, q6⟩ := hs c (by rw [he]; simp)
  have hkk : k + (V.mnLL a + (V.mnL [.int .i64 v0, .int .i64 v1, .sl (L2 + 1) 1 0 e2, .int .i64 v3, .int .i64 v4, .int .i64 v5, .sl (L6 + 1) 1 0 e6, .bool v7, .bool v8] + V.mnLL b)) ≤ 4611686018427387904 := by rw [he, mnLL_app] at hk; exact hk
  simp only [V.mnL, V.mn] at hkk
  obtain ⟨dA, dC, dB, dAC, dBC, hC⟩ := lab_split (by rw [← he]; exact hn)
  have dC0 := dC
  simp only [V.labelsLL, V.labelsL, V.labels, mkLL_labels, List.mem_append, List.mem_cons, List.not_mem_nil, List.append_nil, List.nil_append, List.cons_append, not_or, or_false, false_or] at dC
  have hz := len_mn es fun r hr => isSync_mn (hs r hr)
  have hal : a.length ≤ 4611686018427387904 := by have e3 := congrArg List.length he; rw [List.length_append] at e3; omega
  have m2 : ∀ y ∈ (L2 + 1) :: V.labelsLL e2, y ∈ V.labelsL [.int .i64 v0, .int .i64 v1, .sl (L2 + 1) 1 0 e2, .int .i64 v3, .int .i64 v4, .int .i64 v5, .sl (L6 + 1) 1 0 e6, .bool v7, .bool v8] := fun y hy => by simp only [V.labelsL, V.labels, List.mem_append, List.append_nil, List.nil_append]; simp only [hy, true_or, or_true]
  have x2 : ¬ (L + 1 ∈ (L2 + 1) :: V.labelsLL e2) := fun h => dC0 (m2 _ h)
  have a2 : ∀ K, ∀ y ∈ V.labelsLL (V.mkLL K a), ¬ (y ∈ (L2 + 1) :: V.labelsLL e2) := fun K y hy h => dAC y (by rw [mkLL_labels] at hy; exact hy) (m2 _ h)
  have b2 : ∀ y ∈ V.labelsLL b, ¬ (y ∈ (L2 + 1) :: V.labelsLL e2) := fun y hy h => dBC y hy (m2 _ h)
  have u2 : ∀ y, y ∈ (L2 + 1) :: V.labelsLL e2 → y ∈ (L + 1) :: V.labelsLL es := fun y hy => by rw [he, labelsLL_app]; exact List.mem_cons_of_mem _ (List.mem_append_right _ (List.mem_append_left _ (m2 y hy)))
  have m6 : ∀ y ∈ (L6 + 1) :: V.labelsLL e6, y ∈ V.labelsL [.int .i64 v0, .int .i64 v1, .sl (L2 + 1) 1 0 e2, .int .i64 v3, .int .i64 v4, .int .i64 v5, .sl (L6 + 1) 1 0 e6, .bool v7, .bool v8] := fun y hy => by simp only [V.labelsL, V.labels, List.mem_append, List.append_nil, List.nil_append]; simp only [hy, true_or, or_true]
  have x6 : ¬ (L + 1 ∈ (L6 + 1) :: V.labelsLL e6) := fun h => dC0 (m6 _ h)
  have a6 : ∀ K, ∀ y ∈ V.labelsLL (V.mkLL K a), ¬ (y ∈ (L6 + 1) :: V.labelsLL e6) := fun K y hy h => dAC y (by rw [mkLL_labels] at hy; exact hy) (m6 _ h)
  have b6 : ∀ y ∈ V.labelsLL b, ¬ (y ∈ (L6 + 1) :: V.labelsLL e6) := fun y hy h => dBC y hy (m6 _ h)
  have u6 : ∀ y, y ∈ (L6 + 1) :: V.labelsLL e6 → y ∈ (L + 1) :: V.labelsLL es := fun y hy => by rw [he, labelsLL_app]; exact List.mem_cons_of_mem _ (List.mem_append_right _ (List.mem_append_left _ (m6 y hy)))
  have hC1 := hC
  simp only [V.labelsL, V.labels, List.append_nil, List.nil_append] at hC1
  obtain ⟨w2, hC1, f2, g2⟩ := nd_app hC1
  have w6 := hC1
  have y6_2 : ∀ y ∈ (L2 + 1) :: V.labelsLL e2, ¬ (y ∈ (L6 + 1) :: V.labelsLL e6) := fun y hy h => f2 y hy (by first | exact h | (simp only [List.mem_append]; simp only [h, true_or, or_true]))
  have y2_6 : ∀ y ∈ (L6 + 1) :: V.labelsLL e6, ¬ (y ∈ (L2 + 1) :: V.labelsLL e2) := fun y hy h => y6_2 y h hy
  refine Ok.skip ?_
  refine Ok.seq ?_
  refine Ok.block ?_
  refine Ok.seq ?_
  refine Ok.drop [6, 7, 8, 9] (by simp only [kover] <;> rfl) ?_
  refine Ok.region ?_
  iterate 3 (refine EV ?_)
  refine OkOps.ev tab_ok rfl (ev_idx (j := a.length) (by simp only [kE, kT, kL, kC] <;> rfl) (by simp only [kE, kT, kL, kC] <;> rfl) (get_mid (mkLL_len _ _)) (by simp only [kE, kT, kL, kC] <;> rfl)) (by simp only [kP] <;> rfl) ?_
  refine EV ?_
  refine OkOps.storeU tab_ok rfl rfl (by simp only [kE, kT, kL, kC] <;> rfl) ⟨_, _, by simp only [kE]; rfl⟩ (by simp only [V.labelsLL, V.labelsL, V.labels, mkLL_labels, List.mem_append, List.mem_cons, List.not_mem_nil, List.append_nil, List.nil_append, List.cons_append, not_or, or_false, false_or, not_false_eq_true, and_self, dA, dB, dC]) hU hv (List.mem_cons_self ..) (fun W hW hF => by simp only [List.map_cons, List.map_nil, List.map_append, hW.int, hW.str, hW.bool, hW.any, hW.tup0, hF.sl, hF.ptr, Nat.zero_add, set_mid (mkLL_len _ _), labelsLL_app, V.labelsLL, V.labelsL, V.labels, mkLL_labels, List.mem_append, List.mem_cons, List.not_mem_nil, List.append_nil, List.nil_append, List.cons_append, not_or, or_false, false_or, not_false_eq_true, and_self, dA, dB, dC] <;> rfl) (fun W hW hF => by simp only [List.map_cons, List.map_nil, List.map_append, hW.int, hW.str, hW.bool, hW.any, hW.tup0, hF.sl, hF.ptr, Nat.zero_add, set_mid (mkLL_len _ _), labelsLL_app, V.labelsLL, V.labelsL, V.labels, mkLL_labels, List.mem_append, List.mem_cons, List.not_mem_nil, List.append_nil, List.nil_append, List.cons_append, not_or, or_false, false_or, not_false_eq_true, and_self, dA, dB, dC, kP] <;> rfl) ?_
  intro U hU hv
  refine ON ?_
  refine Ok.seq ?_
  refine Ok.drop [12, 13, 14, 15, 16] (by simp only [kover] <;> rfl) ?_
  refine Ok.region ?_
  refine EV ?_
  refine OkOps.ev tab_ok rfl (by simp (disch := omega) only [kE, kT, kL, kC, wrap_add_one] <;> rfl) (by simp only [kP] <;> rfl) ?_
  refine EV ?_
  refine ON ?_
  refine Ok.seq ?_
  refine Ok.drop [17, 18] (by simp only [kover] <;> rfl) ?_
  refine Ok.region ?_
  iterate 3 (refine EV ?_)
  refine OkOps.ev tab_ok rfl (ev_idx (j := a.length) (by simp only [kE, kT, kL, kC] <;> rfl) (by simp only [kE, kT, kL, kC] <;> rfl) (get_mid (mkLL_len _ _)) (by simp only [kE, kT, kL, kC] <;> rfl)) (by simp only [kP] <;> rfl) ?_
  iterate 2 (refine EV ?_)
  refine OkOps.storeU tab_ok rfl rfl (by simp only [kE, kT, kL, kC] <;> rfl) ⟨_, _, by simp only [kE]; rfl⟩ (by simp only [V.labelsLL, V.labelsL, V.labels, mkLL_labels, List.mem_append, List.mem_cons, List.not_mem_nil, List.append_nil, List.nil_append, List.cons_append, not_or, or_false, false_or, not_false_eq_true, and_self, dA, dB, dC]) hU hv (List.mem_cons_self ..) (fun W hW hF => by simp only [List.map_cons, List.map_nil, List.map_append, hW.int, hW.str, hW.bool, hW.any, hW.tup0, hF.sl, hF.ptr, Nat.zero_add, set_mid (mkLL_len _ _), labelsLL_app, V.labelsLL, V.labelsL, V.labels, mkLL_labels, List.mem_append, List.mem_cons, List.not_mem_nil, List.append_nil, List.nil_append, List.cons_append, not_or, or_false, false_or, not_false_eq_true, and_self, dA, dB, dC] <;> rfl) (fun W hW hF => by simp only [List.map_cons, List.map_nil, List.map_append, hW.int, hW.str, hW.bool, hW.any, hW.tup0, hF.sl, hF.ptr, Nat.zero_add, set_mid (mkLL_len _ _), labelsLL_app, V.labelsLL, V.labelsL, V.labels, mkLL_labels, List.mem_append, List.mem_cons, List.not_mem_nil, List.append_nil, List.nil_append, List.cons_append, not_or, or_false, false_or, not_false_eq_true, and_self, dA, dB, dC, kP] <;> rfl) ?_
  intro U hU hv
  refine ON ?_
  refine Ok.seq ?_
  refine Ok.drop [19, 20, 21, 22, 23, 24] (by simp only [kover] <;> rfl) ?_
  refine Ok.region ?_
  refine EV ?_
  refine OkOps.ev tab_ok rfl (by simp (disch := omega) only [kE, kT, kL, kC, wrap_add_one] <;> rfl) (by simp only [kP] <;> rfl) ?_
  refine EV ?_
  refine ON ?_
  refine Ok.seq ?_
  refine Ok.drop [25, 26] (by simp only [kover] <;> rfl) ?_
  refine Ok.region ?_
  iterate 2 (refine EV ?_)
  refine OkOps.ev tab_ok rfl (ev_idx (j := a.length) (by simp only [kE, kT, kL, kC] <;> rfl) (by simp only [kE, kT, kL, kC] <;> rfl) (get_mid (mkLL_len _ _)) (by simp only [kE, kT, kL, kC] <;> rfl)) (by simp only [kP] <;> rfl) ?_
  iterate 4 (refine EV ?_)
  refine OkOps.turnU 0 rfl rfl (by simp only [kE, kT, kL, kC] <;> rfl) (by simp only [kE, kT, kL, kC] <;> rfl) cl66 (fun h => c_laws_markStringS e2 _ L2 q2 w2 (by omega)) (by first | rfl | (simp only [Nat.add_zero, Nat.reduceAdd] <;> rfl)) hU hv (u2) (fun W hW ha => by have z6 := hW.far (.sl (L6 + 1) 1 0 e6) (fun y hy => y2_6 y hy); have zz6 := fun K => hW.far (.sl (L6 + 1) 1 0 (V.mkLL K e6)) (fun y hy => y2_6 y (by simp only [V.labels, mkLL_labels] at hy; exact hy)); simp only [List.map_cons, List.map_nil, List.map_append, hW.int, hW.str, hW.bool, hW.any, hW.tup0, hW.agg, ha, kP, hW.sl (L + 1) 9 0 _ x2, hW.ptr (L + 1) _ _ _ x2, hW.farLL _ (a2 _), hW.farLL _ b2, z6, zz6] <;> rfl) (fun W hW ha => by have z6 := hW.far (.sl (L6 + 1) 1 0 e6) (fun y hy => y2_6 y hy); have zz6 := fun K => hW.far (.sl (L6 + 1) 1 0 (V.mkLL K e6)) (fun y hy => y2_6 y (by simp only [V.labels, mkLL_labels] at hy; exact hy)); simp only [List.map_cons, List.map_nil, List.map_append, hW.int, hW.str, hW.bool, hW.any, hW.tup0, hW.agg, ha, kP, hW.sl (L + 1) 9 0 _ x2, hW.ptr (L + 1) _ _ _ x2, hW.farLL _ (a2 _), hW.farLL _ b2, z6, zz6] <;> rfl) ?_
  intro U hU hv
  refine EV ?_
  refine ON ?_
  refine Ok.seq ?_
  refine Ok.drop [27, 28, 29, 30, 31, 32, 33, 34] (by simp only [kover] <;> rfl) ?_
  refine Ok.region ?_
  iterate 3 (refine EV ?_)
  refine OkOps.ev tab_ok rfl (ev_idx (j := a.length) (by simp only [kE, kT, kL, kC] <;> rfl) (by simp only [kE, kT, kL, kC] <;> rfl) (get_mid (mkLL_len _ _)) (by simp only [kE, kT, kL, kC] <;> rfl)) (by simp only [kP] <;> rfl) ?_
  iterate 2 (refine EV ?_)
  refine OkOps.storeU tab_ok rfl rfl (by simp only [kE, kT, kL, kC] <;> rfl) ⟨_, _, by simp only [kE]; rfl⟩ (by simp only [V.labelsLL, V.labelsL, V.labels, mkLL_labels, List.mem_append, List.mem_cons, List.not_mem_nil, List.append_nil, List.nil_append, List.cons_append, not_or, or_false, false_or, not_false_eq_true, and_self, dA, dB, dC]) hU hv (List.mem_cons_self ..) (fun W hW hF => by simp only [List.map_cons, List.map_nil, List.map_append, hW.int, hW.str, hW.bool, hW.any, hW.tup0, hF.sl, hF.ptr, Nat.zero_add, set_mid (mkLL_len _ _), labelsLL_app, V.labelsLL, V.labelsL, V.labels, mkLL_labels, List.mem_append, List.mem_cons, List.not_mem_nil, List.append_nil, List.nil_append, List.cons_append, not_or, or_false, false_or, not_false_eq_true, and_self, dA, dB, dC] <;> rfl) (fun W hW hF => by simp only [List.map_cons, List.map_nil, List.map_append, hW.int, hW.str, hW.bool, hW.any, hW.tup0, hF.sl, hF.ptr, Nat.zero_add, set_mid (mkLL_len _ _), labelsLL_app, V.labelsLL, V.labelsL, V.labels, mkLL_labels, List.mem_append, List.mem_cons, List.not_mem_nil, List.append_nil, List.nil_append, List.cons_append, not_or, or_false, false_or, not_false_eq_true, and_self, dA, dB, dC, kP] <;> rfl) ?_
  intro U hU hv
  refine ON ?_
  refine Ok.seq ?_
  refine Ok.drop [35, 36, 37, 38, 39, 40] (by simp only [kover] <;> rfl) ?_
  refine Ok.region ?_
  refine EV ?_
  refine OkOps.ev tab_ok rfl (by simp (disch := omega) only [kE, kT, kL, kC, wrap_add_one] <;> rfl) (by simp only [kP] <;> rfl) ?_
  refine EV ?_
  refine ON ?_
  refine Ok.seq ?_
  refine Ok.drop [41, 42] (by simp only [kover] <;> rfl) ?_
  refine Ok.region ?_
  iterate 3 (refine EV ?_)
  refine OkOps.ev tab_ok rfl (ev_idx (j := a.length) (by simp only [kE, kT, kL, kC] <;> rfl) (by simp only [kE, kT, kL, kC] <;> rfl) (get_mid (mkLL_len _ _)) (by simp only [kE, kT, kL, kC] <;> rfl)) (by simp only [kP] <;> rfl) ?_
  iterate 2 (refine EV ?_)
  refine OkOps.storeU tab_ok rfl rfl (by simp only [kE, kT, kL, kC] <;> rfl) ⟨_, _, by simp only [kE]; rfl⟩ (by simp only [V.labelsLL, V.labelsL, V.labels, mkLL_labels, List.mem_append, List.mem_cons, List.not_mem_nil, List.append_nil, List.nil_append, List.cons_append, not_or, or_false, false_or, not_false_eq_true, and_self, dA, dB, dC]) hU hv (List.mem_cons_self ..) (fun W hW hF => by simp only [List.map_cons, List.map_nil, List.map_append, hW.int, hW.str, hW.bool, hW.any, hW.tup0, hF.sl, hF.ptr, Nat.zero_add, set_mid (mkLL_len _ _), labelsLL_app, V.labelsLL, V.labelsL, V.labels, mkLL_labels, List.mem_append, List.mem_cons, List.not_mem_nil, List.append_nil, List.nil_append, List.cons_append, not_or, or_false, false_or, not_false_eq_true, and_self, dA, dB, dC] <;> rfl) (fun W hW hF => by simp only [List.map_cons, List.map_nil, List.map_append, hW.int, hW.str, hW.bool, hW.any, hW.tup0, hF.sl, hF.ptr, Nat.zero_add, set_mid (mkLL_len _ _), labelsLL_app, V.labelsLL, V.labelsL, V.labels, mkLL_labels, List.mem_append, List.mem_cons, List.not_mem_nil, List.append_nil, List.nil_append, List.cons_append, not_or, or_false, false_or, not_false_eq_true, and_self, dA, dB, dC, kP] <;> rfl) ?_
  intro U hU hv
  refine ON ?_
  refine Ok.seq ?_
  refine Ok.drop [43, 44, 45, 46, 47, 48] (by simp only [kover] <;> rfl) ?_
  refine Ok.region ?_
  refine EV ?_
  refine OkOps.ev tab_ok rfl (by simp (disch := omega) only [kE, kT, kL, kC, wrap_add_one] <;> rfl) (by simp only [kP] <;> rfl) ?_
  refine EV ?_
  refine ON ?_
  refine Ok.seq ?_
  refine Ok.drop [49, 50] (by simp only [kover] <;> rfl) ?_
  refine Ok.region ?_
  iterate 3 (refine EV ?_)
  refine OkOps.ev tab_ok rfl (ev_idx (j := a.length) (by simp only [kE, kT, kL, kC] <;> rfl) (by simp only [kE, kT, kL, kC] <;> rfl) (get_mid (mkLL_len _ _)) (by simp only [kE, kT, kL, kC] <;> rfl)) (by simp only [kP] <;> rfl) ?_
  refine EV ?_
  refine OkOps.storeU tab_ok rfl rfl (by simp only [kE, kT, kL, kC] <;> rfl) ⟨_, _, by simp only [kE]; rfl⟩ (by simp only [V.labelsLL, V.labelsL, V.labels, mkLL_labels, List.mem_append, List.mem_cons, List.not_mem_nil, List.append_nil, List.nil_append, List.cons_append, not_or, or_false, false_or, not_false_eq_true, and_self, dA, dB, dC]) hU hv (List.mem_cons_self ..) (fun W hW hF => by simp only [List.map_cons, List.map_nil, List.map_append, hW.int, hW.str, hW.bool, hW.any, hW.tup0, hF.sl, hF.ptr, Nat.zero_add, set_mid (mkLL_len _ _), labelsLL_app, V.labelsLL, V.labelsL, V.labels, mkLL_labels, List.mem_append, List.mem_cons, List.not_mem_nil, List.append_nil, List.nil_append, List.cons_append, not_or, or_false, false_or, not_false_eq_true, and_self, dA, dB, dC] <;> rfl) (fun W hW hF => by simp only [List.map_cons, List.map_nil, List.map_append, hW.int, hW.str, hW.bool, hW.any, hW.tup0, hF.sl, hF.ptr, Nat.zero_add, set_mid (mkLL_len _ _), labelsLL_app, V.labelsLL, V.labelsL, V.labels, mkLL_labels, List.mem_append, List.mem_cons, List.not_mem_nil, List.append_nil, List.nil_append, List.cons_append, not_or, or_false, false_or, not_false_eq_true, and_self, dA, dB, dC, kP] <;> rfl) ?_
  intro U hU hv
  refine ON ?_
  refine Ok.seq ?_
  refine Ok.drop [51, 52, 53, 54, 55] (by simp only [kover] <;> rfl) ?_
  refine Ok.region ?_
  refine EV ?_
  refine OkOps.ev tab_ok rfl (by simp (disch := omega) only [kE, kT, kL, kC, wrap_add_one] <;> rfl) (by simp only [kP] <;> rfl) ?_
  refine EV ?_
  refine ON ?_
  refine Ok.seq ?_
  refine Ok.drop [56, 57] (by simp only [kover] <;> rfl) ?_
  refine Ok.region ?_
  iterate 2 (refine EV ?_)
  refine OkOps.ev tab_ok rfl (ev_idx (j := a.length) (by simp only [kE, kT, kL, kC] <;> rfl) (by simp only [kE, kT, kL, kC] <;> rfl) (get_mid (mkLL_len _ _)) (by simp only [kE, kT, kL, kC] <;> rfl)) (by simp only [kP] <;> rfl) ?_
  iterate 3 (refine EV ?_)
  refine OkOps.turnU 0 rfl rfl (by simp only [kE, kT, kL, kC] <;> rfl) (by simp only [kE, kT, kL, kC] <;> rfl) cl66 (fun h => c_laws_markStringS e6 _ L6 q6 w6 (by omega)) (by first | rfl | (simp only [Nat.add_zero, Nat.reduceAdd] <;> rfl)) hU hv (u6) (fun W hW ha => by have z2 := hW.far (.sl (L2 + 1) 1 0 e2) (fun y hy => y6_2 y hy); have zz2 := fun K => hW.far (.sl (L2 + 1) 1 0 (V.mkLL K e2)) (fun y hy => y6_2 y (by simp only [V.labels, mkLL_labels] at hy; exact hy)); simp only [List.map_cons, List.map_nil, List.map_append, hW.int, hW.str, hW.bool, hW.any, hW.tup0, hW.agg, ha, kP, hW.sl (L + 1) 9 0 _ x6, hW.ptr (L + 1) _ _ _ x6, hW.farLL _ (a6 _), hW.farLL _ b6, z2, zz2] <;> rfl) (fun W hW ha => by have z2 := hW.far (.sl (L2 + 1) 1 0 e2) (fun y hy => y6_2 y hy); have zz2 := fun K => hW.far (.sl (L2 + 1) 1 0 (V.mkLL K e2)) (fun y hy => y6_2 y (by simp only [V.labels, mkLL_labels] at hy; exact hy)); simp only [List.map_cons, List.map_nil, List.map_append, hW.int, hW.str, hW.bool, hW.any, hW.tup0, hW.agg, ha, kP, hW.sl (L + 1) 9 0 _ x6, hW.ptr (L + 1) _ _ _ x6, hW.farLL _ (a6 _), hW.farLL _ b6, z2, zz2] <;> rfl) ?_
  intro U hU hv
  refine EV ?_
  refine ON ?_
  refine Ok.seq ?_
  refine Ok.drop [58, 59, 60, 61, 62, 63, 64] (by simp only [kover] <;> rfl) ?_
  refine Ok.region ?_
  iterate 5 (refine EV ?_)
  refine OkOps.ev tab_ok rfl (ev_idx (j := a.length) (by simp only [kE, kT, kL, kC] <;> rfl) (by simp only [kE, kT, kL, kC] <;> rfl) (get_mid (mkLL_len _ _)) (by simp only [kE, kT, kL, kC] <;> rfl)) (by simp only [kP] <;> rfl) ?_
  refine EV ?_
  refine OkOps.storeU tab_ok rfl rfl (by simp only [kE, kT, kL, kC] <;> rfl) ⟨_, _, by simp only [kE]; rfl⟩ (by simp only [V.labelsLL, V.labelsL, V.labels, mkLL_labels, List.mem_append, List.mem_cons, List.not_mem_nil, List.append_nil, List.nil_append, List.cons_append, not_or, or_false, false_or, not_false_eq_true, and_self, dA, dB, dC]) hU hv (List.mem_cons_self ..) (fun W hW hF => by simp only [List.map_cons, List.map_nil, List.map_append, hW.int, hW.str, hW.bool, hW.any, hW.tup0, hF.sl, hF.ptr, Nat.zero_add, set_mid (mkLL_len _ _), labelsLL_app, V.labelsLL, V.labelsL, V.labels, mkLL_labels, List.mem_append, List.mem_cons, List.not_mem_nil, List.append_nil, List.nil_append, List.cons_append, not_or, or_false, false_or, not_false_eq_true, and_self, dA, dB, dC] <;> rfl) (fun W hW hF => by simp only [List.map_cons, List.map_nil, List.map_append, hW.int, hW.str, hW.bool, hW.any, hW.tup0, hF.sl, hF.ptr, Nat.zero_add, set_mid (mkLL_len _ _), labelsLL_app, V.labelsLL, V.labelsL, V.labels, mkLL_labels, List.mem_append, List.mem_cons, List.not_mem_nil, List.append_nil, List.nil_append, List.cons_append, not_or, or_false, false_or, not_false_eq_true, and_self, dA, dB, dC, kP] <;> rfl) ?_
  intro U hU hv
  refine ON ?_
  refine Ok.seq ?_
  refine Ok.drop [65, 66, 67, 68, 69, 70, 71] (by simp only [kover] <;> rfl) ?_
  refine Ok.region ?_
  refine EV ?_
  refine OkOps.ev tab_ok rfl (by simp (disch := omega) only [kE, kT, kL, kC, wrap_add_one] <;> rfl) (by simp only [kP] <;> rfl) ?_
  refine EV ?_
  refine ON ?_
  refine Ok.seq ?_
  refine Ok.drop [72, 73] (by simp only [kover] <;> rfl) ?_
  refine Ok.region ?_
  iterate 5 (refine EV ?_)
  refine OkOps.ev tab_ok rfl (ev_idx (j := a.length) (by simp only [kE, kT, kL, kC] <;> rfl) (by simp only [kE, kT, kL, kC] <;> rfl) (get_mid (mkLL_len _ _)) (by simp only [kE, kT, kL, kC] <;> rfl)) (by simp only [kP] <;> rfl) ?_
  refine EV ?_
  refine OkOps.storeU tab_ok rfl rfl (by simp only [kE, kT, kL, kC] <;> rfl) ⟨_, _, by simp only [kE]; rfl⟩ (by simp only [V.labelsLL, V.labelsL, V.labels, mkLL_labels, List.mem_append, List.mem_cons, List.not_mem_nil, List.append_nil, List.nil_append, List.cons_append, not_or, or_false, false_or, not_false_eq_true, and_self, dA, dB, dC]) hU hv (List.mem_cons_self ..) (fun W hW hF => by simp only [List.map_cons, List.map_nil, List.map_append, hW.int, hW.str, hW.bool, hW.any, hW.tup0, hF.sl, hF.ptr, Nat.zero_add, set_mid (mkLL_len _ _), labelsLL_app, V.labelsLL, V.labelsL, V.labels, mkLL_labels, List.mem_append, List.mem_cons, List.not_mem_nil, List.append_nil, List.nil_append, List.cons_append, not_or, or_false, false_or, not_false_eq_true, and_self, dA, dB, dC] <;> rfl) (fun W hW hF => by simp only [List.map_cons, List.map_nil, List.map_append, hW.int, hW.str, hW.bool, hW.any, hW.tup0, hF.sl, hF.ptr, Nat.zero_add, set_mid (mkLL_len _ _), labelsLL_app, V.labelsLL, V.labelsL, V.labels, mkLL_labels, List.mem_append, List.mem_cons, List.not_mem_nil, List.append_nil, List.nil_append, List.cons_append, not_or, or_false, false_or, not_false_eq_true, and_self, dA, dB, dC, kP] <;> rfl) ?_
  intro U hU hv
  refine ON ?_
  refine Ok.drop [74, 75, 76, 77, 78, 79, 80] (by simp only [kover] <;> rfl) ?_
  refine Ok.region ?_
  refine EV ?_
  refine OkOps.ev tab_ok rfl (by simp (disch := omega) only [kE, kT, kL, kC, wrap_add_one] <;> rfl) (by simp only [kP] <;> rfl) ?_
  refine EV ?_
  refine ON ?_
  refine Ok.drop [81, 82] (by simp only [kover] <;> rfl) ?_
  refine Ok.region ?_
  refine EV ?_
  refine OkOps.ev tab_ok rfl (by simp (disch := omega) only [kE, kT, kL, kC, wrap_add_one] <;> rfl) (by simp only [kP] <;> rfl) ?_
  refine EV ?_
  refine ON ?_
  refine ⟨(a ++ [[.int .i64 v0, .int .i64 v1, .sl (L2 + 1) 1 0 e2, .int .i64 v3, .int .i64 v4, .int .i64 v5, .sl (L6 + 1) 1 0 e6, .bool v7, .bool v8]], b, U), ?_, rfl, rfl, ⟨by rw [he]; simp, hU, by dsimp only; rw [hv, mkLL_snoc]; simp only [V.mkL, V.mk, V.mn, List.append_assoc, List.cons_append, List.nil_append] <;> rfl⟩, by simp only [List.length_cons]; omega⟩
  refine ⟨?_, ?_, ?_, ?_, ?_, ?_, ?_, ?_, ?_, ?_, ?_, ?_, ?_, ?_, ?_, ?_, ?_, ?_, ?_, ?_, ?_, ?_, ?_, ?_, ?_, ?_, ?_, ?_, ?_, ?_, ?_, ?_, ?_, ?_, ?_, ?_, ?_, ?_, ?_, ?_, ?_, ?_, ?_, ?_, ?_, ?_, ?_, ?_, ?_, ?_, ?_, ?_, ?_, ?_, ?_, ?_, ?_, ?_, ?_, ?_, ?_, ?_, ?_, ?_, ?_, ?_, ?_, ?_, ?_, ?_, ?_, ?_, ?_, ?_, ?_, ?_, ?_, ?_, ?_, ?_, ?_, ?_, ?_, ?_, trivial⟩ <;> first | exact le_any _ | with_reducible exact le_rfl' _ | (dsimp only; first | (refine le_eqm ?_; simp only [List.length_append, List.length_cons, List.length_nil]; done) | (rw [wrap_add_one (by omega)]; refine le_eqm ?_; simp only [List.length_append, List.length_cons, List.length_nil]; done) | (refine le_eqm ?_; rw [mkLL_snoc]; simp only [V.mkL, V.mk, V.mn, List.append_assoc, List.cons_append, List.nil_append] <;> rfl) | (refine le_eqm (congrArg (V.int .i64) (congrArg Nat.cast ?_)); rw [mnLL_snoc]; simp only [V.mnL, V.mn]; omega)) | exact le_rfl' _
 ·
  try simp only [bsimp] at hb2
  have hb : b = [] := by cases b with
    | nil => rfl
    | cons c b' => exfalso; rw [List.length_append, mkLL_len] at hb2; simp only [List.length_cons] at hb2; omega
  subst hb
  rw [List.append_nil] at he
  subst he
  refine Ok.exit ?_
  refine Ok.seq ?_
  refine Ok.drop [6, 7, 8, 9] (by simp only [kover] <;> rfl) ?_
  refine Ok.region ?_
  iterate 2 (refine EV ?_)
  refine ON ?_
  refine Ok.ret ?_
  with_reducible repeat (first | refine thenQ_ret ?_ | refine blockQ_ret ?_)
  refine RT ?_
  exact ⟨rfl, rfl, U, hU, by rw [hv, List.append_nil], rfl⟩
theorem c_laws_markLetterS (es : List (List V)) (k L : Nat) (hs : ∀ r ∈ es, isLetter r) (hn : ((L + 1) :: V.labelsLL es).Nodup) (hk : k + V.mnLL es ≤ 4611686018427387904) {h : List V} {n : Nat}  : OkCall Tryz.prog 85 [.sl (L + 1) 2 0 es, .int .i64 (k : Int)] h n (MarkQ (· ∈ (L + 1) :: V.labelsLL es) (.sl (L + 1) 2 0 es) (.sl (L + 1) 2 0 (V.mkLL k es)) (.int .i64 ((k + V.mnLL es : Nat) : Int)) h n) := by
 refine OkCall.enter' tab_ok Tryz.func85 rfl (t := [.sl (L + 1) 2 0 es, .int .i64 (k : Int), .any, .any, .any, .any, .any, .any, .any, .any, .any, .any, .any, .any, .any, .any, .any, .any, .any, .any, .any, .any, .any, .any, .any, .any, .any, .any]) rfl ?_
 refine OQ ?_
 refine EV ?_
 refine ON ?_
 refine Ok.seq ?_
 refine OQ ?_
 refine EV ?_
 refine ON ?_
 refine Ok.block ?_
 refine Ok.loopH (τ := List (List V) × List (List V) × (V → V)) (fun x => [(0, .sl (L + 1) 2 0 (V.mkLL k x.1 ++ x.2.1)), (1, .int .i64 ((k + V.mnLL x.1 : Nat) : Int)), (5, .int .i64 (x.1.length : Int))]) [6, 7, 8, 9, 10, 11, 12, 13, 14, 15, 16, 17, 18, 19, 20, 21, 22, 23, 24, 25, 26] (fun x => by simp only [kover] <;> rfl) (fun x => h.map x.2.2) (fun x => es = x.1 ++ x.2.1 ∧ Hom x.2.2 (· ∈ (L + 1) :: V.labelsLL es) ∧ x.2.2 (.sl (L + 1) 2 0 es) = .sl (L + 1) 2 0 (V.mkLL k x.1 ++ x.2.1)) (fun x => x.2.1.length) ([], es, id) (by refine ⟨?_, ?_, ?_, ?_, ?_, ?_, ?_, ?_, ?_, ?_, ?_, ?_, ?_, ?_, ?_, ?_, ?_, ?_, ?_, ?_, ?_, ?_, ?_, ?_, ?_, ?_, ?_, ?_, trivial⟩ <;> first | exact le_any _ | with_reducible exact le_rfl' _ | (exact le_rfl' _) | exact le_rfl' _) ((List.map_id h).symm) (⟨rfl, Hom.id' _, rfl⟩) ?_
 rintro ⟨a, b, U⟩ ⟨he, hU, hv⟩
 have he : es = a ++ b := he
 have hU : Hom U (· ∈ (L + 1) :: V.labelsLL es) := hU
 have hv : U (.sl (L + 1) 2 0 es) = .sl (L + 1) 2 0 (V.mkLL k a ++ b) := hv
 refine Ok.seq ?_
 refine OQ ?_
 iterate 4 (refine EV ?_)
 refine ON ?_
 refine Ok.cond (b := _) (by simp only [kE, kT, kL, kC] <;> rfl) (fun hb2 => ?_) (fun hb2 => ?_)
 ·
  try simp only [bsimp] at hb2
  have hlen : (V.mkLL k a ++ b).length = a.length + b.length := by rw [List.length_append, mkLL_len]
  obtain ⟨c, b, rfl⟩ : ∃ c b', b = c :: b' := by
    cases b with
    | nil => exfalso; rw [hlen] at hb2; simp only [List.length_nil] at hb2; omega
    | cons c b' => exact ⟨c, b', rfl⟩
  obtain ⟨v0, v1, rfl⟩ := hs c (by rw [he]; simp)
  have hkk : k + (V.mnLL a + (V.mnL [.int .i64 v0, .str v1] + V.mnLL b)) ≤ 4611686018427387904 := by rw [he, mnLL_app] at hk; exact hk
  simp only [V.mnL, V.mn] at hkk
  obtain ⟨dA, dC, dB, dAC, dBC, hC⟩ := lab_split (by rw [← he]; exact hn)
  have dC0 := dC
  simp only [V.labelsLL, V.labelsL, V.labels, mkLL_labels, List.mem_append, List.mem_cons, List.not_mem_nil, List.append_nil, List.nil_append, List.cons_append, not_or, or_false, false_or] at dC
  have hz := len_mn es fun r hr => isLetter_mn (hs r hr)
  have hal : a.length ≤ 4611686018427387904 := by have e3 := congrArg List.length he; rw [List.length_append] at e3; omega
  refine Ok.skip ?_
  refine Ok.seq ?_
  refine Ok.block ?_
  refine Ok.seq ?_
  refine Ok.drop [6, 7, 8, 9] (by simp only [kover] <;> rfl) ?_
  refine Ok.region ?_
  iterate 3 (refine EV ?_)
  refine OkOps.ev tab_ok rfl (ev_idx (j := a.length) (by simp only [kE, kT, kL, kC] <;> rfl) (by simp only [kE, kT, kL, kC] <;> rfl) (get_mid (mkLL_len _ _)) (by simp only [kE, kT, kL, kC] <;> rfl)) (by simp only [kP] <;> rfl) ?_
  refine EV ?_
  refine OkOps.storeU tab_ok rfl rfl (by simp only [kE, kT, kL, kC] <;> rfl) ⟨_, _, by simp only [kE]; rfl⟩ (by simp only [V.labelsLL, V.labelsL, V.labels, mkLL_labels, List.mem_append, List.mem_cons, List.not_mem_nil, List.append_nil, List.nil_append, List.cons_append, not_or, or_false, false_or, not_false_eq_true, and_self, dA, dB]) hU hv (List.mem_cons_self ..) (fun W hW hF => by simp only [List.map_cons, List.map_nil, List.map_append, hW.int, hW.str, hW.bool, hW.any, hW.tup0, hF.sl, hF.ptr, Nat.zero_add, set_mid (mkLL_len _ _), labelsLL_app, V.labelsLL, V.labelsL, V.labels, mkLL_labels, List.mem_append, List.mem_cons, List.not_mem_nil, List.append_nil, List.nil_append, List.cons_append, not_or, or_false, false_or, not_false_eq_true, and_self, dA, dB] <;> rfl) (fun W hW hF => by simp only [List.map_cons, List.map_nil, List.map_append, hW.int, hW.str, hW.bool, hW.any, hW.tup0, hF.sl, hF.ptr, Nat.zero_add, set_mid (mkLL_len _ _), labelsLL_app, V.labelsLL, V.labelsL, V.labels, mkLL_labels, List.mem_append, List.mem_cons, List.not_mem_nil, List.append_nil, List.nil_append, List.cons_append, not_or, or_false, false_or, not_false_eq_true, and_self, dA, dB, kP] <;> rfl) ?_
  intro U hU hv
  refine ON ?_
  refine Ok.seq ?_
  refine Ok.drop [12, 13, 14, 15, 16] (by simp only [kover] <;> rfl) ?_
  refine Ok.region ?_
  refine EV ?_
  refine OkOps.ev tab_ok rfl (by simp (disch := omega) only [kE, kT, kL, kC, wrap_add_one] <;> rfl) (by simp only [kP] <;> rfl) ?_
  refine EV ?_
  refine ON ?_
  refine Ok.seq ?_
  refine Ok.drop [17, 18] (by simp only [kover] <;> rfl) ?_
  refine Ok.region ?_
  iterate 3 (refine EV ?_)
  refine OkOps.S0 rfl (OpS.weak' rfl (by simp only [kE, kT, kL, kC] <;> rfl) (by simp only [kE, kT, kL, kC] <;> rfl) cl127 (w_laws_markText _ (by omega))) (by simp only [kP] <;> rfl) ?_
  refine OkOps.ev tab_ok rfl (ev_idx (j := a.length) (by simp only [kE, kT, kL, kC] <;> rfl) (by simp only [kE, kT, kL, kC] <;> rfl) (get_mid (mkLL_len _ _)) (by simp only [kE, kT, kL, kC] <;> rfl)) (by simp only [kP] <;> rfl) ?_
  refine EV ?_
  refine OkOps.storeU tab_ok rfl rfl (by simp only [kE, kT, kL, kC] <;> rfl) ⟨_, _, by simp only [kE]; rfl⟩ (by simp only [V.labelsLL, V.labelsL, V.labels, mkLL_labels, List.mem_append, List.mem_cons, List.not_mem_nil, List.append_nil, List.nil_append, List.cons_append, not_or, or_false, false_or, not_false_eq_true, and_self, dA, dB]) hU hv (List.mem_cons_self ..) (fun W hW hF => by simp only [List.map_cons, List.map_nil, List.map_append, hW.int, hW.str, hW.bool, hW.any, hW.tup0, hF.sl, hF.ptr, Nat.zero_add, set_mid (mkLL_len _ _), labelsLL_app, V.labelsLL, V.labelsL, V.labels, mkLL_labels, List.mem_append, List.mem_cons, List.not_mem_nil, List.append_nil, List.nil_append, List.cons_append, not_or, or_false, false_or, not_false_eq_true, and_self, dA, dB] <;> rfl) (fun W hW hF => by simp only [List.map_cons, List.map_nil, List.map_append, hW.int, hW.str, hW.bool, hW.any, hW.tup0, hF.sl, hF.ptr, Nat.zero_add, set_mid (mkLL_len _ _), labelsLL_app, V.labelsLL, V.labelsL, V.labels, mkLL_labels, List.mem_append, List.mem_cons, List.not_mem_nil, List.append_nil, List.nil_append, List.cons_append, not_or, or_false, false_or, not_false_eq_true, and_self, dA, dB, kP] <;> rfl) ?_
  intro U hU hv
  refine ON ?_
  refine Ok.drop [19, 20, 21, 22, 23, 24] (by simp only [kover] <;> rfl) ?_
  refine Ok.region ?_
  refine EV ?_
  refine OkOps.ev tab_ok rfl (by simp (disch := omega) only [kE, kT, kL, kC, wrap_add_one] <;> rfl) (by simp only [kP] <;> rfl) ?_
  refine EV ?_
  refine ON ?_
  refine Ok.drop [25, 26] (by simp only [kover] <;> rfl) ?_
  refine Ok.region ?_
  refine EV ?_
  refine OkOps.ev tab_ok rfl (by simp (disch := omega) only [kE, kT, kL, kC, wrap_add_one] <;> rfl) (by simp only [kP] <;> rfl) ?_
  refine EV ?_
  refine ON ?_
  refine ⟨(a ++ [[.int .i64 v0, .str v1]], b, U), ?_, rfl, rfl, ⟨by rw [he]; simp, hU, by dsimp only; rw [hv, mkLL_snoc]; simp only [V.mkL, V.mk, V.mn, List.append_assoc, List.cons_append, List.nil_append] <;> rfl⟩, by simp only [List.length_cons]; omega⟩
  refine ⟨?_, ?_, ?_, ?_, ?_, ?_, ?_, ?_, ?_, ?_, ?_, ?_, ?_, ?_, ?_, ?_, ?_, ?_, ?_, ?_, ?_, ?_, ?_, ?_, ?_, ?_, ?_, ?_, trivial⟩ <;> first | exact le_any _ | with_reducible exact le_rfl' _ | (dsimp only; first | (refine le_eqm ?_; simp only [List.length_append, List.length_cons, List.length_nil]; done) | (rw [wrap_add_one (by omega)]; refine le_eqm ?_; simp only [List.length_append, List.length_cons, List.length_nil]; done) | (refine le_eqm ?_; rw [mkLL_snoc]; simp only [V.mkL, V.mk, V.mn, List.append_assoc, List.cons_append, List.nil_append] <;> rfl) | (refine le_eqm (congrArg (V.int .i64) (congrArg Nat.cast ?_)); rw [mnLL_snoc]; simp only [V.mnL, V.mn]; omega)) | exact le_rfl' _
 ·
  try simp only [bsimp] at hb2
  have hb : b = [] := by cases b with
    | nil => rfl
    | cons c b' => exfalso; rw [List.length_append, mkLL_len] at hb2; simp only [List.length_cons] at hb2; omega
  subst hb
  rw [List.append_nil] at he
  subst he
  refine Ok.exit ?_
  refine Ok.seq ?_
  refine Ok.drop [6, 7, 8, 9] (by simp only [kover] <;> rfl) ?_
  refine Ok.region ?_
  iterate 2 (refine EV ?_)
  refine ON ?_
  refine Ok.ret ?_
  with_reducible repeat (first | refine thenQ_ret ?_ | refine blockQ_ret ?_)
  refine RT ?_
  exact ⟨rfl, rfl, U, hU, by rw [hv, List.append_nil], rfl⟩
end Go.Proofs.YtjhfabimacljhaaGreat.K

/- Walks: marks of records. Printed by w2.py. -/
namespace Go.Proofs.YtjhfabimacljhaaGreat.K
open Go Go.RowKit
set_option linter.unusedVariables false
set_option linter.unusedSimpArgs false
theorem labelsL_app (a b : List V) : V.labelsL (a ++ b) = V.labelsL a ++ V.labelsL b := by
  induction a with
  | nil => rfl
  | cons x a ih => rw [List.cons_append]; show V.labels x ++ V.labelsL (a ++ b) = V.labels x ++ V.labelsL a ++ V.labelsL b; rw [ih, List.append_assoc]
theorem lab_mid {a c b : List V} (h : (V.labelsL (a ++ (c ++ b))).Nodup) : (V.labelsL c).Nodup ∧ (∀ y ∈ V.labelsL a, ¬ y ∈ V.labelsL c) ∧ (∀ y ∈ V.labelsL b, ¬ y ∈ V.labelsL c) ∧ (∀ y ∈ V.labelsL c, y ∈ V.labelsL (a ++ (c ++ b))) := by
  rw [labelsL_app, labelsL_app] at h ⊢
  rw [List.nodup_append, List.nodup_append] at h
  obtain ⟨h1, ⟨h2, h3, h4⟩, h5⟩ := h
  exact ⟨h2, fun y hy hc => h5 y hy y (List.mem_append_left _ hc) rfl, fun y hy hc => h4 y hc y hy rfl, fun y hy => List.mem_append_right _ (List.mem_append_left _ hy)⟩
theorem OkOps.ofMap {P : Program} {t h : List V} {n : Nat} {Q : Exit → List V → List V → Nat → Prop} {ops : Array Oper} {l : List Oper} (hk : OkOps P ops l t (h.map id) n Q) : OkOps P ops l t h n Q := by
  rw [List.map_id] at hk; exact hk
set_option maxHeartbeats 4000000
set_option maxRecDepth 20000
theorem c_laws_markPair (L0 : Nat) (e0 : List (List V)) (L1 : Nat) (e1 : List (List V)) (L2 : Nat) (e2 : List (List V)) (v3 : Int) (k : Nat) (q0 : ∀ r ∈ e0, isServer r) (q1 : ∀ r ∈ e1, isSync r) (q2 : ∀ r ∈ e2, isLetter r) (hn : (V.labelsL [.sl (L0 + 1) 13 0 e0, .sl (L1 + 1) 9 0 e1, .sl (L2 + 1) 2 0 e2, .int .i64 v3]).Nodup) (hk : k + V.mnLL e0 + V.mnLL e1 + V.mnLL e2 ≤ 4611686018427387904) {h : List V} {n : Nat} (hlt : ∀ y ∈ V.labelsL [.sl (L0 + 1) 13 0 e0, .sl (L1 + 1) 9 0 e1, .sl (L2 + 1) 2 0 e2, .int .i64 v3], y < n) : OkCall Tryz.prog 22 [.agg [.sl (L0 + 1) 13 0 e0, .sl (L1 + 1) 9 0 e1, .sl (L2 + 1) 2 0 e2, .int .i64 v3], .int .i64 (k : Int)] h n (MarkQ (· ∈ V.labelsL [.sl (L0 + 1) 13 0 e0, .sl (L1 + 1) 9 0 e1, .sl (L2 + 1) 2 0 e2, .int .i64 v3]) (.agg [.sl (L0 + 1) 13 0 e0, .sl (L1 + 1) 9 0 e1, .sl (L2 + 1) 2 0 e2, .int .i64 v3]) (.agg [.sl (L0 + 1) 13 0 (V.mkLL (k) e0), .sl (L1 + 1) 9 0 (V.mkLL (k + V.mnLL e0) e1), .sl (L2 + 1) 2 0 (V.mkLL (k + V.mnLL e0 + V.mnLL e1) e2), .int .i64 v3]) (.int .i64 ((k + V.mnLL e0 + V.mnLL e1 + V.mnLL e2 : Nat) : Int)) h (n + 1)) := by
 refine OkCall.enter' tab_ok Tryz.func22 rfl (t := [.agg [.sl (L0 + 1) 13 0 e0, .sl (L1 + 1) 9 0 e1, .sl (L2 + 1) 2 0 e2, .int .i64 v3], .int .i64 (k : Int), .any, .any, .any, .any, .any, .any, .any, .any, .any, .any, .any, .any, .any, .any, .any, .any]) rfl ?_
 refine OQ ?_
 iterate 2 (refine EV ?_)
 refine ON ?_
 refine OQ ?_
 refine OkOps.ofMap ?_
 have hU := Hom.id' (· ∈ V.labelsL [.sl (L0 + 1) 13 0 e0, .sl (L1 + 1) 9 0 e1, .sl (L2 + 1) 2 0 e2, .int .i64 v3])
 have hv : id (V.agg [.sl (L0 + 1) 13 0 e0, .sl (L1 + 1) 9 0 e1, .sl (L2 + 1) 2 0 e2, .int .i64 v3]) = .agg [.sl (L0 + 1) 13 0 e0, .sl (L1 + 1) 9 0 e1, .sl (L2 + 1) 2 0 e2, .int .i64 v3] := rfl
 obtain ⟨nc0, da0, db0, du0⟩ := lab_mid (a := []) (c := [.sl (L0 + 1) 13 0 e0]) (b := [.sl (L1 + 1) 9 0 e1, .sl (L2 + 1) 2 0 e2, .int .i64 v3]) hn
 have no0 : ¬ n ∈ V.labelsL [.sl (L0 + 1) 13 0 e0] := fun h => Nat.lt_irrefl _ (hlt n (du0 n h))
 have ncs0 : ((L0 + 1) :: V.labelsLL e0).Nodup := by have := nc0; simp only [V.labelsL, V.labels, List.append_nil] at this; exact this
 have sm0 : ∀ y, y ∈ (L0 + 1) :: V.labelsLL e0 → y ∈ V.labelsL [.sl (L0 + 1) 13 0 e0] := fun y hy => by simp only [V.labelsL, V.labels, List.append_nil]; exact hy
 obtain ⟨nc1, da1, db1, du1⟩ := lab_mid (a := [.sl (L0 + 1) 13 0 e0]) (c := [.sl (L1 + 1) 9 0 e1]) (b := [.sl (L2 + 1) 2 0 e2, .int .i64 v3]) hn
 have no1 : ¬ n ∈ V.labelsL [.sl (L1 + 1) 9 0 e1] := fun h => Nat.lt_irrefl _ (hlt n (du1 n h))
 have ncs1 : ((L1 + 1) :: V.labelsLL e1).Nodup := by have := nc1; simp only [V.labelsL, V.labels, List.append_nil] at this; exact this
 have sm1 : ∀ y, y ∈ (L1 + 1) :: V.labelsLL e1 → y ∈ V.labelsL [.sl (L1 + 1) 9 0 e1] := fun y hy => by simp only [V.labelsL, V.labels, List.append_nil]; exact hy
 obtain ⟨nc2, da2, db2, du2⟩ := lab_mid (a := [.sl (L0 + 1) 13 0 e0, .sl (L1 + 1) 9 0 e1]) (c := [.sl (L2 + 1) 2 0 e2]) (b := [.int .i64 v3]) hn
 have no2 : ¬ n ∈ V.labelsL [.sl (L2 + 1) 2 0 e2] := fun h => Nat.lt_irrefl _ (hlt n (du2 n h))
 have ncs2 : ((L2 + 1) :: V.labelsLL e2).Nodup := by have := nc2; simp only [V.labelsL, V.labels, List.append_nil] at this; exact this
 have sm2 : ∀ y, y ∈ (L2 + 1) :: V.labelsLL e2 → y ∈ V.labelsL [.sl (L2 + 1) 2 0 e2] := fun y hy => by simp only [V.labelsL, V.labels, List.append_nil]; exact hy
 iterate 3 (refine EV ?_)
 refine OkOps.turnU 0 rfl rfl (by simp only [kE, kT, kL, kC] <;> rfl) (by simp only [kE, kT, kL, kC] <;> rfl) cl83 (fun h => c_laws_markServerS e0 _ L0 q0 ncs0 (by omega)) (by first | rfl | (simp only [Nat.add_zero, Nat.reduceAdd] <;> rfl)) hU hv (fun y hy => du0 y (sm0 y hy)) (fun W hW ha => by have z1 := hW.far (.sl (L1 + 1) 9 0 e1) (fun y hy => (fun y hy h => db0 y hy (sm0 y h)) y (by simp only [V.labelsL, List.mem_append]; simp only [hy, true_or, or_true])); have zz1 := fun K => hW.far (.sl (L1 + 1) 9 0 (V.mkLL K e1)) (fun y hy => (fun y hy h => db0 y hy (sm0 y h)) y (by simp only [V.labels, mkLL_labels] at hy; simp only [V.labelsL, V.labels, List.mem_append]; simp only [hy, true_or, or_true])); have z2 := hW.far (.sl (L2 + 1) 2 0 e2) (fun y hy => (fun y hy h => db0 y hy (sm0 y h)) y (by simp only [V.labelsL, List.mem_append]; simp only [hy, true_or, or_true])); have zz2 := fun K => hW.far (.sl (L2 + 1) 2 0 (V.mkLL K e2)) (fun y hy => (fun y hy h => db0 y hy (sm0 y h)) y (by simp only [V.labels, mkLL_labels] at hy; simp only [V.labelsL, V.labels, List.mem_append]; simp only [hy, true_or, or_true])); simp only [List.map_cons, List.map_nil, List.map_append, hW.int, hW.str, hW.bool, hW.any, hW.tup0, hW.agg, ha, kP, hW.ptr n _ _ _ (fun h => no0 (sm0 n h)), z1, zz1, z2, zz2] <;> rfl) (fun W hW ha => by have z1 := hW.far (.sl (L1 + 1) 9 0 e1) (fun y hy => (fun y hy h => db0 y hy (sm0 y h)) y (by simp only [V.labelsL, List.mem_append]; simp only [hy, true_or, or_true])); have zz1 := fun K => hW.far (.sl (L1 + 1) 9 0 (V.mkLL K e1)) (fun y hy => (fun y hy h => db0 y hy (sm0 y h)) y (by simp only [V.labels, mkLL_labels] at hy; simp only [V.labelsL, V.labels, List.mem_append]; simp only [hy, true_or, or_true])); have z2 := hW.far (.sl (L2 + 1) 2 0 e2) (fun y hy => (fun y hy h => db0 y hy (sm0 y h)) y (by simp only [V.labelsL, List.mem_append]; simp only [hy, true_or, or_true])); have zz2 := fun K => hW.far (.sl (L2 + 1) 2 0 (V.mkLL K e2)) (fun y hy => (fun y hy h => db0 y hy (sm0 y h)) y (by simp only [V.labels, mkLL_labels] at hy; simp only [V.labelsL, V.labels, List.mem_append]; simp only [hy, true_or, or_true])); simp only [List.map_cons, List.map_nil, List.map_append, hW.int, hW.str, hW.bool, hW.any, hW.tup0, hW.agg, ha, kP, hW.ptr n _ _ _ (fun h => no0 (sm0 n h)), z1, zz1, z2, zz2] <;> rfl) ?_
 intro U hU hv
 refine EV ?_
 refine ON ?_
 refine Ok.seq ?_
 refine Ok.drop [5, 6, 7, 8] (by simp only [kover] <;> rfl) ?_
 refine Ok.region ?_
 iterate 3 (refine EV ?_)
 refine OkOps.turnU 0 rfl rfl (by simp only [kE, kT, kL, kC] <;> rfl) (by simp only [kE, kT, kL, kC] <;> rfl) cl84 (fun h => c_laws_markSyncS e1 _ L1 q1 ncs1 (by omega)) (by first | rfl | (simp only [Nat.add_zero, Nat.reduceAdd] <;> rfl)) hU hv (fun y hy => du1 y (sm1 y hy)) (fun W hW ha => by have z0 := hW.far (.sl (L0 + 1) 13 0 e0) (fun y hy => (fun y hy h => da1 y hy (sm1 y h)) y (by simp only [V.labelsL, List.mem_append]; simp only [hy, true_or, or_true])); have zz0 := fun K => hW.far (.sl (L0 + 1) 13 0 (V.mkLL K e0)) (fun y hy => (fun y hy h => da1 y hy (sm1 y h)) y (by simp only [V.labels, mkLL_labels] at hy; simp only [V.labelsL, V.labels, List.mem_append]; simp only [hy, true_or, or_true])); have z2 := hW.far (.sl (L2 + 1) 2 0 e2) (fun y hy => (fun y hy h => db1 y hy (sm1 y h)) y (by simp only [V.labelsL, List.mem_append]; simp only [hy, true_or, or_true])); have zz2 := fun K => hW.far (.sl (L2 + 1) 2 0 (V.mkLL K e2)) (fun y hy => (fun y hy h => db1 y hy (sm1 y h)) y (by simp only [V.labels, mkLL_labels] at hy; simp only [V.labelsL, V.labels, List.mem_append]; simp only [hy, true_or, or_true])); simp only [List.map_cons, List.map_nil, List.map_append, hW.int, hW.str, hW.bool, hW.any, hW.tup0, hW.agg, ha, kP, hW.ptr n _ _ _ (fun h => no1 (sm1 n h)), z0, zz0, z2, zz2] <;> rfl) (fun W hW ha => by have z0 := hW.far (.sl (L0 + 1) 13 0 e0) (fun y hy => (fun y hy h => da1 y hy (sm1 y h)) y (by simp only [V.labelsL, List.mem_append]; simp only [hy, true_or, or_true])); have zz0 := fun K => hW.far (.sl (L0 + 1) 13 0 (V.mkLL K e0)) (fun y hy => (fun y hy h => da1 y hy (sm1 y h)) y (by simp only [V.labels, mkLL_labels] at hy; simp only [V.labelsL, V.labels, List.mem_append]; simp only [hy, true_or, or_true])); have z2 := hW.far (.sl (L2 + 1) 2 0 e2) (fun y hy => (fun y hy h => db1 y hy (sm1 y h)) y (by simp only [V.labelsL, List.mem_append]; simp only [hy, true_or, or_true])); have zz2 := fun K => hW.far (.sl (L2 + 1) 2 0 (V.mkLL K e2)) (fun y hy => (fun y hy h => db1 y hy (sm1 y h)) y (by simp only [V.labels, mkLL_labels] at hy; simp only [V.labelsL, V.labels, List.mem_append]; simp only [hy, true_or, or_true])); simp only [List.map_cons, List.map_nil, List.map_append, hW.int, hW.str, hW.bool, hW.any, hW.tup0, hW.agg, ha, kP, hW.ptr n _ _ _ (fun h => no1 (sm1 n h)), z0, zz0, z2, zz2] <;> rfl) ?_
 intro U hU hv
 refine EV ?_
 refine ON ?_
 refine Ok.seq ?_
 refine Ok.drop [9, 10, 11, 12] (by simp only [kover] <;> rfl) ?_
 refine Ok.region ?_
 iterate 3 (refine EV ?_)
 refine OkOps.turnU 0 rfl rfl (by simp only [kE, kT, kL, kC] <;> rfl) (by simp only [kE, kT, kL, kC] <;> rfl) cl85 (fun h => c_laws_markLetterS e2 _ L2 q2 ncs2 (by omega)) (by first | rfl | (simp only [Nat.add_zero, Nat.reduceAdd] <;> rfl)) hU hv (fun y hy => du2 y (sm2 y hy)) (fun W hW ha => by have z0 := hW.far (.sl (L0 + 1) 13 0 e0) (fun y hy => (fun y hy h => da2 y hy (sm2 y h)) y (by simp only [V.labelsL, List.mem_append]; simp only [hy, true_or, or_true])); have zz0 := fun K => hW.far (.sl (L0 + 1) 13 0 (V.mkLL K e0)) (fun y hy => (fun y hy h => da2 y hy (sm2 y h)) y (by simp only [V.labels, mkLL_labels] at hy; simp only [V.labelsL, V.labels, List.mem_append]; simp only [hy, true_or, or_true])); have z1 := hW.far (.sl (L1 + 1) 9 0 e1) (fun y hy => (fun y hy h => da2 y hy (sm2 y h)) y (by simp only [V.labelsL, List.mem_append]; simp only [hy, true_or, or_true])); have zz1 := fun K => hW.far (.sl (L1 + 1) 9 0 (V.mkLL K e1)) (fun y hy => (fun y hy h => da2 y hy (sm2 y h)) y (by simp only [V.labels, mkLL_labels] at hy; simp only [V.labelsL, V.labels, List.mem_append]; simp only [hy, true_or, or_true])); simp only [List.map_cons, List.map_nil, List.map_append, hW.int, hW.str, hW.bool, hW.any, hW.tup0, hW.agg, ha, kP, hW.ptr n _ _ _ (fun h => no2 (sm2 n h)), z0, zz0, z1, zz1] <;> rfl) (fun W hW ha => by have z0 := hW.far (.sl (L0 + 1) 13 0 e0) (fun y hy => (fun y hy h => da2 y hy (sm2 y h)) y (by simp only [V.labelsL, List.mem_append]; simp only [hy, true_or, or_true])); have zz0 := fun K => hW.far (.sl (L0 + 1) 13 0 (V.mkLL K e0)) (fun y hy => (fun y hy h => da2 y hy (sm2 y h)) y (by simp only [V.labels, mkLL_labels] at hy; simp only [V.labelsL, V.labels, List.mem_append]; simp only [hy, true_or, or_true])); have z1 := hW.far (.sl (L1 + 1) 9 0 e1) (fun y hy => (fun y hy h => da2 y hy (sm2 y h)) y (by simp only [V.labelsL, List.mem_append]; simp only [hy, true_or, or_true])); have zz1 := fun K => hW.far (.sl (L1 + 1) 9 0 (V.mkLL K e1)) (fun y hy => (fun y hy h => da2 y hy (sm2 y h)) y (by simp only [V.labels, mkLL_labels] at hy; simp only [V.labelsL, V.labels, List.mem_append]; simp only [hy, true_or, or_true])); simp only [List.map_cons, List.map_nil, List.map_append, hW.int, hW.str, hW.bool, hW.any, hW.tup0, hW.agg, ha, kP, hW.ptr n _ _ _ (fun h => no2 (sm2 n h)), z0, zz0, z1, zz1] <;> rfl) ?_
 intro U hU hv
 refine EV ?_
 refine ON ?_
 refine Ok.seq ?_
 refine Ok.drop [13, 14, 15, 16] (by simp only [kover] <;> rfl) ?_
 refine Ok.region ?_
 iterate 2 (refine EV ?_)
 refine ON ?_
 refine Ok.ret ?_
 with_reducible repeat (first | refine thenQ_ret ?_ | refine blockQ_ret ?_)
 refine RT ?_
 exact ⟨rfl, rfl, U, hU, hv, rfl⟩
end Go.Proofs.YtjhfabimacljhaaGreat.K
