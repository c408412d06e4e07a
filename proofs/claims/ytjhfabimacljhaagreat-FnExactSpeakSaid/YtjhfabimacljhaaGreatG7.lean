/- Walks: numbers as bytes, sums, packets' texts. Printed by w2.py. -/
import Derived.Test.YtjhfabimacljhaaGreatG6
import Derived.Test.YtjhfabimacljhaaGreatG4
import Derived.Test.YtjhfabimacljhaaGreatG5
namespace Go.Proofs.YtjhfabimacljhaaGreat.K
open Go Go.RowKit
set_option linter.unusedVariables false
set_option linter.unusedSimpArgs false
set_option maxHeartbeats 4000000
set_option maxRecDepth 20000
theorem w_spec_l01Var (z : Int) (hz : 0 ≤ z ∧ z ≤ 34359738367) : Weak Tryz.prog 52 [.int .i64 z] (.str (varT z.toNat)) := by
 obtain ⟨n, rfl⟩ : ∃ n : Nat, z = n := ⟨z.toNat, by omega⟩
 rw [Int.toNat_natCast]
 have h : n ≤ 34359738367 := by omega
 refine Weak.enter tab_ok Tryz.func52 rfl (.inr (by simp [V.labelsL, V.labels, zz])) (t := [.int .i64 (n : Int), .any, .any, .any, .any, .any, .any, .any, .any, .any, .any, .any, .any, .any, .any, .any, .any, .any, .any, .any, .any, .any]) rfl ?_
 refine OQ ?_
 refine EV ?_
 refine ON ?_
 refine OQ ?_
 iterate 2 (refine EV ?_)
 refine ON ?_
 refine Ok.seq ?_
 refine Ok.block ?_
 refine Ok.bump (n' := 2) (by omega) ?_
 refine Ok.loopWZ (τ := Str × Nat) (fun x => [(0, .int .i64 (x.2 : Int)), (3, .sl 1 1 0 (x.1.map cB))]) [5, 6, 7, 8, 9, 10, 11, 12, 13, 14, 15] (fun x => by simp only [kover] <;> rfl) (fun x => x.1 ++ varT x.2 = varT n ∧ x.2 ≤ 34359738367 ∧ x.1.length ≤ 5) (fun x => x.2) ([], n) (by omega) (by refine ⟨?_, ?_, ?_, ?_, ?_, ?_, ?_, ?_, ?_, ?_, ?_, ?_, ?_, ?_, ?_, ?_, ?_, ?_, ?_, ?_, ?_, ?_, trivial⟩ <;> first | exact le_any _ | with_reducible exact le_rfl' _ | (exact le_nil 1 1) | exact le_rfl' _) (⟨rfl, h, Nat.zero_le _⟩) ?_
 rintro ⟨xs, m⟩ ⟨h1, h2, h3⟩
 have hx : xs.length + (varT m).length ≤ 5 := by have := congrArg List.length h1; have := varT_len5 h; simp only [List.length_append] at *; omega
 refine Ok.seq ?_
 refine OQ ?_
 iterate 2 (refine EV ?_)
 refine ON ?_
 refine Ok.cond (b := _) (by simp only [kE, kT, kL, kC] <;> rfl) (fun hb2 => ?_) (fun hb2 => ?_)
 ·
  try simp only [bsimp] at hb2
  have hm : 127 < m := by omega
  refine Ok.skip ?_
  refine Ok.block ?_
  refine OQ ?_
  iterate 4 (refine EV ?_)
  refine OkOps.ev tab_ok rfl (by simp only [kE, kT, kL, kC, byte_hi] <;> rfl) (by simp only [kP] <;> rfl) ?_
  refine OkOps.ev tab_ok rfl (ev_bs (by simp only [kT] <;> rfl) (by simp only [kT] <;> rfl) (by decide) (by decide) (by simp only [kE, kT, kL, kC, List.map_cons, List.map_nil] <;> rfl) (by simp only [kfe, beq_self_eq_true, Bool.and_true, Bool.true_and, decide_true, Nat.zero_add, Nat.lt_add_one, Nat.reduceLT, Nat.reduceAdd, Nat.zero_lt_succ, if_true, ↓reduceIte] <;> rfl)) (by simp only [kP] <;> rfl) ?_
  refine OkOps.append tab_ok rfl rfl (by simp only [kT] <;> rfl) (by simp only [kT] <;> rfl) (by decide) rfl (by simp only [kE, kT, kL, kC] <;> rfl) (.inl ⟨_, _, by simp only [kE, kT, kL, kC] <;> rfl⟩) (by omega) (by omega) (by simp; omega) (by simp; omega) (by simp [V.one]) (by simp only [V.killL, V.killLL, V.travL, V.travLL, V.trav, killS, killP, Nat.reduceEqDiff, ↓reduceIte, reduceCtorEq, if_true, if_false, List.append_nil, List.nil_append, List.cons_append, zz] <;> rfl) (by simp only [V.killL, V.killLL, V.travL, V.travLL, V.trav, killS, killP, Nat.reduceEqDiff, ↓reduceIte, reduceCtorEq, if_true, if_false, List.append_nil, List.nil_append, List.cons_append, zz, kP] <;> rfl) (rfl) ?_
  refine EV ?_
  refine ON ?_
  refine Ok.region ?_
  refine EV ?_
  refine OkOps.ev tab_ok rfl (by simp only [kE, kT, kL, kC, quo128 (show m ≤ 9223372036854775807 by omega)] <;> rfl) (by simp only [kP] <;> rfl) ?_
  refine EV ?_
  refine ON ?_
  refine ⟨(xs ++ [UInt8.ofNat (m % 128 + 128)], m / 128), ?_, rfl, ⟨by rw [← h1, varT_hi hm]; simp, by omega, by rw [varT_hi hm] at hx; simp only [List.length_append, List.length_cons, List.length_nil] at *; omega⟩, by show m / 128 < m; omega⟩
  simp only [V.renL, V.travL, V.travLL, V.trav, frz, zz, Nat.reduceLeDiff, ↓reduceIte]
  refine ⟨?_, ?_, ?_, ?_, ?_, ?_, ?_, ?_, ?_, ?_, ?_, ?_, ?_, ?_, ?_, ?_, ?_, ?_, ?_, ?_, ?_, ?_, trivial⟩ <;> first | exact le_any _ | with_reducible exact le_rfl' _ | (simp only [List.map_append, List.map_cons, List.map_nil]; exact le_rfl' _) | exact le_rfl' _
 ·
  try simp only [bsimp] at hb2
  have hm : m ≤ 127 := by omega
  refine Ok.exit ?_
  refine OQ ?_
  iterate 2 (refine EV ?_)
  refine OkOps.ev tab_ok rfl (by simp only [kE, kT, kL, kC, wrap_u8_nat] <;> rfl) (by simp only [kP] <;> rfl) ?_
  refine OkOps.ev tab_ok rfl (ev_bs (by simp only [kT] <;> rfl) (by simp only [kT] <;> rfl) (by decide) (by decide) (by simp only [kE, kT, kL, kC, List.map_cons, List.map_nil] <;> rfl) (by simp only [kfe, beq_self_eq_true, Bool.and_true, Bool.true_and, decide_true, Nat.zero_add, Nat.lt_add_one, Nat.reduceLT, Nat.reduceAdd, Nat.zero_lt_succ, if_true, ↓reduceIte] <;> rfl)) (by simp only [kP] <;> rfl) ?_
  refine OkOps.append tab_ok rfl rfl (by simp only [kT] <;> rfl) (by simp only [kT] <;> rfl) (by decide) rfl (by simp only [kE, kT, kL, kC] <;> rfl) (.inl ⟨_, _, by simp only [kE, kT, kL, kC] <;> rfl⟩) (by omega) (by omega) (by simp; omega) (by simp; omega) (by simp [V.one]) (by simp only [V.killL, V.killLL, V.travL, V.travLL, V.trav, killS, killP, Nat.reduceEqDiff, ↓reduceIte, reduceCtorEq, if_true, if_false, List.append_nil, List.nil_append, List.cons_append, zz] <;> rfl) (by simp only [V.killL, V.killLL, V.travL, V.travLL, V.trav, killS, killP, Nat.reduceEqDiff, ↓reduceIte, reduceCtorEq, if_true, if_false, List.append_nil, List.nil_append, List.cons_append, zz, kP] <;> rfl) (rfl) ?_
  refine OkOps.ev tab_ok rfl (ev_text' (by simp only [kE, kT, kL, kC] <;> rfl) rfl rfl rfl (by simp only [kby, Option.map_some, List.append_assoc, List.cons_append, List.nil_append] <;> rfl)) (by simp only [kP] <;> rfl) ?_
  refine EV ?_
  refine ON ?_
  refine Ok.ret ?_
  with_reducible repeat (first | refine thenQ_ret ?_ | refine blockQ_ret ?_)
  refine RT ?_
  rw [← h1, varT_lo hm]; rfl
theorem w_impl_VarText (z : Int) : Weak Tryz.prog 125 [.int .i64 z] (vO (varText z)) := by
 refine Weak.enter tab_ok Tryz.func125 rfl (.inr (by simp [V.labelsL, V.labels, zz])) (t := [.int .i64 z, .any, .any, .any, .any, .any, .any, .any, .any, .any, .any, .any, .any, .any, .any, .any, .any, .any, .any, .any, .any, .any, .any, .any, .any, .any]) rfl ?_
 refine OQ ?_
 iterate 2 (refine EV ?_)
 refine ON ?_
 refine Ok.seq ?_
 refine OQ ?_
 refine EV ?_
 refine OkOps.S0 rfl (OpS.weak' rfl (by simp only [kE, kT, kL, kC] <;> rfl) (by simp only [kE, kT, kL, kC] <;> rfl) cl124 (w_impl_within _ _ _)) (by simp only [kP] <;> rfl) ?_
 refine EV ?_
 refine ON ?_
 refine Ok.cond (b := _) (by simp only [kE, kT, kL, kC] <;> rfl) (fun hb1 => ?_) (fun hb1 => ?_)
 ·
  try simp only [bsimp] at hb1
  rw [varText_f hb1]
  refine OQ ?_
  iterate 2 (refine EV ?_)
  refine ON ?_
  refine Ok.ret ?_
  with_reducible repeat (first | refine thenQ_ret ?_ | refine blockQ_ret ?_)
  refine RT ?_
  rfl
 ·
  try simp only [bsimp] at hb1
  rw [varText_t hb1]
  obtain ⟨n, rfl⟩ : ∃ n : Nat, z = n := ⟨z.toNat, by have := inR_t.1 hb1; omega⟩
  have h : n ≤ 34359738367 := by have := inR_t.1 hb1; omega
  rw [Int.toNat_natCast]
  refine Ok.skip ?_
  refine OQ ?_
  iterate 2 (refine EV ?_)
  refine ON ?_
  refine Ok.seq ?_
  refine Ok.block ?_
  refine Ok.bump (n' := 2) (by omega) ?_
  refine Ok.loopWZ (τ := Str × Nat) (fun x => [(0, .int .i64 (x.2 : Int)), (4, .sl 1 1 0 (x.1.map cB))]) [9, 10, 11, 12, 13, 14, 15, 16, 17, 18, 19] (fun x => by simp only [kover] <;> rfl) (fun x => x.1 ++ varT x.2 = varT n ∧ x.2 ≤ 34359738367 ∧ x.1.length ≤ 5) (fun x => x.2) ([], n) (by omega) (by refine ⟨?_, ?_, ?_, ?_, ?_, ?_, ?_, ?_, ?_, ?_, ?_, ?_, ?_, ?_, ?_, ?_, ?_, ?_, ?_, ?_, ?_, ?_, ?_, ?_, ?_, ?_, trivial⟩ <;> first | exact le_any _ | with_reducible exact le_rfl' _ | (exact le_nil 1 1) | exact le_rfl' _) (⟨rfl, h, Nat.zero_le _⟩) ?_
  rintro ⟨xs, m⟩ ⟨h1, h2, h3⟩
  have hx : xs.length + (varT m).length ≤ 5 := by have := congrArg List.length h1; have := varT_len5 h; simp only [List.length_append] at *; omega
  refine Ok.seq ?_
  refine OQ ?_
  iterate 2 (refine EV ?_)
  refine ON ?_
  refine Ok.cond (b := _) (by simp only [kE, kT, kL, kC] <;> rfl) (fun hb4 => ?_) (fun hb4 => ?_)
  ·
   try simp only [bsimp] at hb4
   have hm : 127 < m := by omega
   refine Ok.skip ?_
   refine Ok.block ?_
   refine OQ ?_
   iterate 2 (refine EV ?_)
   refine OkOps.ev tab_ok rfl (by simp only [kE, kT, kL, kC, bits_and127 (show m < 9223372036854775808 by omega)] <;> rfl) (by simp only [kP] <;> rfl) ?_
   refine OkOps.ev tab_ok rfl (by simp only [kE, kT, kL, kC, bits_or128 (show m % 128 < 128 by omega)] <;> rfl) (by simp only [kP] <;> rfl) ?_
   refine OkOps.ev tab_ok rfl (by simp only [kE, kT, kL, kC, wrap_u8_nat] <;> rfl) (by simp only [kP] <;> rfl) ?_
   refine OkOps.ev tab_ok rfl (ev_bs (by simp only [kT] <;> rfl) (by simp only [kT] <;> rfl) (by decide) (by decide) (by simp only [kE, kT, kL, kC, List.map_cons, List.map_nil] <;> rfl) (by simp only [kfe, beq_self_eq_true, Bool.and_true, Bool.true_and, decide_true, Nat.zero_add, Nat.lt_add_one, Nat.reduceLT, Nat.reduceAdd, Nat.zero_lt_succ, if_true, ↓reduceIte] <;> rfl)) (by simp only [kP] <;> rfl) ?_
   refine OkOps.append tab_ok rfl rfl (by simp only [kT] <;> rfl) (by simp only [kT] <;> rfl) (by decide) rfl (by simp only [kE, kT, kL, kC] <;> rfl) (.inl ⟨_, _, by simp only [kE, kT, kL, kC] <;> rfl⟩) (by omega) (by omega) (by simp; omega) (by simp; omega) (by simp [V.one]) (by simp only [V.killL, V.killLL, V.travL, V.travLL, V.trav, killS, killP, Nat.reduceEqDiff, ↓reduceIte, reduceCtorEq, if_true, if_false, List.append_nil, List.nil_append, List.cons_append, zz] <;> rfl) (by simp only [V.killL, V.killLL, V.travL, V.travLL, V.trav, killS, killP, Nat.reduceEqDiff, ↓reduceIte, reduceCtorEq, if_true, if_false, List.append_nil, List.nil_append, List.cons_append, zz, kP] <;> rfl) (rfl) ?_
   refine EV ?_
   refine ON ?_
   refine Ok.region ?_
   refine EV ?_
   refine OkOps.ev tab_ok rfl (by simp only [kE, kT, kL, kC, shr7] <;> rfl) (by simp only [kP] <;> rfl) ?_
   refine EV ?_
   refine ON ?_
   refine ⟨(xs ++ [UInt8.ofNat (m % 128 + 128)], m / 128), ?_, rfl, ⟨by rw [← h1, varT_hi hm]; simp, by omega, by rw [varT_hi hm] at hx; simp only [List.length_append, List.length_cons, List.length_nil] at *; omega⟩, by show m / 128 < m; omega⟩
   simp only [V.renL, V.travL, V.travLL, V.trav, frz, zz, Nat.reduceLeDiff, ↓reduceIte]
   refine ⟨?_, ?_, ?_, ?_, ?_, ?_, ?_, ?_, ?_, ?_, ?_, ?_, ?_, ?_, ?_, ?_, ?_, ?_, ?_, ?_, ?_, ?_, ?_, ?_, ?_, ?_, trivial⟩ <;> first | exact le_any _ | with_reducible exact le_rfl' _ | (simp only [List.map_append, List.map_cons, List.map_nil]; exact le_rfl' _) | exact le_rfl' _
  ·
   try simp only [bsimp] at hb4
   have hm : m ≤ 127 := by omega
   refine Ok.exit ?_
   refine OQ ?_
   iterate 2 (refine EV ?_)
   refine OkOps.ev tab_ok rfl (by simp only [kE, kT, kL, kC, wrap_u8_nat] <;> rfl) (by simp only [kP] <;> rfl) ?_
   refine OkOps.ev tab_ok rfl (ev_bs (by simp only [kT] <;> rfl) (by simp only [kT] <;> rfl) (by decide) (by decide) (by simp only [kE, kT, kL, kC, List.map_cons, List.map_nil] <;> rfl) (by simp only [kfe, beq_self_eq_true, Bool.and_true, Bool.true_and, decide_true, Nat.zero_add, Nat.lt_add_one, Nat.reduceLT, Nat.reduceAdd, Nat.zero_lt_succ, if_true, ↓reduceIte] <;> rfl)) (by simp only [kP] <;> rfl) ?_
   refine OkOps.append tab_ok rfl rfl (by simp only [kT] <;> rfl) (by simp only [kT] <;> rfl) (by decide) rfl (by simp only [kE, kT, kL, kC] <;> rfl) (.inl ⟨_, _, by simp only [kE, kT, kL, kC] <;> rfl⟩) (by omega) (by omega) (by simp; omega) (by simp; omega) (by simp [V.one]) (by simp only [V.killL, V.killLL, V.travL, V.travLL, V.trav, killS, killP, Nat.reduceEqDiff, ↓reduceIte, reduceCtorEq, if_true, if_false, List.append_nil, List.nil_append, List.cons_append, zz] <;> rfl) (by simp only [V.killL, V.killLL, V.travL, V.travLL, V.trav, killS, killP, Nat.reduceEqDiff, ↓reduceIte, reduceCtorEq, if_true, if_false, List.append_nil, List.nil_append, List.cons_append, zz, kP] <;> rfl) (rfl) ?_
   refine OkOps.ev tab_ok rfl (ev_text' (by simp only [kE, kT, kL, kC] <;> rfl) rfl rfl rfl (by simp only [kby, Option.map_some, List.append_assoc, List.cons_append, List.nil_append] <;> rfl)) (by simp only [kP] <;> rfl) ?_
   iterate 2 (refine EV ?_)
   refine ON ?_
   refine Ok.ret ?_
   with_reducible repeat (first | refine thenQ_ret ?_ | refine blockQ_ret ?_)
   refine RT ?_
   rw [← h1, varT_lo hm]; rfl
theorem w_impl_ShortText (s : Str) : Weak Tryz.prog 193 [.str s] (vO (shortText s)) := by
 refine Weak.enter tab_ok Tryz.func193 rfl (.inr (by simp [V.labelsL, V.labels, zz])) (t := [.str s, .any, .any, .any, .any, .any, .any, .any, .any, .any, .any, .any, .any, .any, .any, .any, .any, .any]) rfl ?_
 refine OQ ?_
 iterate 2 (refine EV ?_)
 refine ON ?_
 refine Ok.seq ?_
 refine OQ ?_
 iterate 3 (refine EV ?_)
 refine ON ?_
 refine Ok.cond (b := _) (by simp only [kE, kT, kL, kC] <;> rfl) (fun hb1 => ?_) (fun hb1 => ?_)
 ·
  try simp only [bsimp] at hb1
  rw [shortText, if_pos (by omega)]
  refine OQ ?_
  iterate 2 (refine EV ?_)
  refine ON ?_
  refine Ok.ret ?_
  with_reducible repeat (first | refine thenQ_ret ?_ | refine blockQ_ret ?_)
  refine RT ?_
  rfl
 ·
  try simp only [bsimp] at hb1
  rw [shortText, if_neg (by omega)]
  have hv := varText_t (z := (s.length : Int)) (inR_t.2 (by omega))
  have hl := varT_len5 (n := s.length) (by omega)
  refine Ok.skip ?_
  refine OQ ?_
  iterate 2 (refine EV ?_)
  refine OkOps.S0 rfl (OpS.weak' rfl (by simp only [kE, kT, kL, kC] <;> rfl) (by simp only [kE, kT, kL, kC] <;> rfl) cl125 (w_impl_VarText _)) (by simp only [kP] <;> rfl) ?_
  refine EV ?_
  refine OkOps.ev tab_ok rfl (by simp only [kE, kT, kL, kC, hv, Option.getD_some, Int.toNat_natCast] <;> rfl) (by simp only [kP] <;> rfl) ?_
  refine OkOps.ev tab_ok rfl (by simp only [kE, kT, kL, kC, hv, Option.isSome_some] <;> rfl) (by simp only [kP] <;> rfl) ?_
  iterate 2 (refine EV ?_)
  refine ON ?_
  refine OQ ?_
  iterate 2 (refine EV ?_)
  refine OkOps.ev tab_ok rfl (ev_cat (by simp only [kE, kT, kL, kC] <;> rfl) (by simp only [kE, kT, kL, kC] <;> rfl) (by first | omega | (simp only [List.length_append, List.length_cons, List.length_nil] at *; omega))) (by simp only [kP] <;> rfl) ?_
  iterate 2 (refine EV ?_)
  refine ON ?_
  refine Ok.ret ?_
  with_reducible repeat (first | refine thenQ_ret ?_ | refine blockQ_ret ?_)
  refine RT ?_
  rfl
theorem w_impl_short (s : Str) (h : s.length ≤ 20000) : Weak Tryz.prog 145 [.str s] (.str (varT s.length ++ s)) := by
 have hv : shortText s = some (varT s.length ++ s) := if_neg (by omega)
 refine Weak.enter tab_ok Tryz.func145 rfl (.inr (by simp [V.labelsL, V.labels, zz])) (t := [.str s, .any, .any, .any, .any, .any, .any, .any, .any, .any, .any]) rfl ?_
 refine OQ ?_
 refine EV ?_
 refine ON ?_
 refine OQ ?_
 refine EV ?_
 refine OkOps.S0 rfl (OpS.weak' rfl (by simp only [kE, kT, kL, kC] <;> rfl) (by simp only [kE, kT, kL, kC] <;> rfl) cl193 (w_impl_ShortText _)) (by simp only [kP] <;> rfl) ?_
 refine EV ?_
 refine OkOps.ev tab_ok rfl (by simp only [kE, kT, kL, kC, hv, Option.getD_some] <;> rfl) (by simp only [kP] <;> rfl) ?_
 refine OkOps.ev tab_ok rfl (by simp only [kE, kT, kL, kC, hv, Option.isSome_some] <;> rfl) (by simp only [kP] <;> rfl) ?_
 iterate 2 (refine EV ?_)
 refine ON ?_
 refine OQ ?_
 iterate 2 (refine EV ?_)
 refine ON ?_
 refine Ok.ret ?_
 with_reducible repeat (first | refine thenQ_ret ?_ | refine blockQ_ret ?_)
 refine RT ?_
 rfl
theorem w_impl_vars (zs : List Int) (h : ∀ z ∈ zs, inR z 0 1000000000 = true) (hl : zs.length ≤ 1000000000) : Weak Tryz.prog 58 [.sl 0 1 0 (zs.map cZ)] (.str (varsZ zs)) := by
 refine Weak.enter tab_ok Tryz.func58 rfl (.inr (by simp [V.labelsL, V.labels, zz])) (t := [.sl 0 1 0 (zs.map cZ), .any, .any, .any, .any, .any, .any, .any, .any, .any, .any, .any, .any, .any, .any, .any, .any, .any, .any, .any, .any, .any, .any, .any]) rfl ?_
 refine OQ ?_
 refine EV ?_
 refine ON ?_
 refine OQ ?_
 refine EV ?_
 refine ON ?_
 refine Ok.seq ?_
 refine OQ ?_
 iterate 3 (refine EV ?_)
 refine ON ?_
 refine Ok.block ?_
 refine Ok.loopW (τ := Nat) (fun x => [(3, .str (varsZ (zs.take x))), (10, .int .i64 (x : Int))]) [5, 6, 7, 11, 12, 13, 14, 15, 16, 17, 18, 19, 20, 21, 22] (fun x => by simp only [kover] <;> rfl) (fun x => x ≤ zs.length) (fun x => zs.length - x) 0 (by refine ⟨?_, ?_, ?_, ?_, ?_, ?_, ?_, ?_, ?_, ?_, ?_, ?_, ?_, ?_, ?_, ?_, ?_, ?_, ?_, ?_, ?_, ?_, ?_, ?_, trivial⟩ <;> first | exact le_any _ | with_reducible exact le_rfl' _ | (first | exact le_rfl' _ | (rw [List.take_zero]; exact le_rfl' _)) | exact le_rfl' _) (Nat.zero_le _) ?_
 rintro i h1
 have hv := varsZ_len (a := zs.take i) fun z hz => h z (List.mem_of_mem_take hz)
 rw [List.length_take] at hv
 refine OQ ?_
 refine EV ?_
 refine ON ?_
 refine Ok.seq ?_
 refine Ok.cond (b := _) (by simp only [kE, kT, kL, kC] <;> rfl) (fun hb3 => ?_) (fun hb3 => ?_)
 ·
  try simp only [bsimp] at hb3
  have hi : i < zs.length := by omega
  have hz := h _ (List.getElem_mem hi)
  have hz2 := inR_t.1 hz
  have hz3 := varText_t hz
  have hz4 := varT_len5 (n := zs[i].toNat) (by omega)
  refine Ok.skip ?_
  refine Ok.seq ?_
  refine Ok.block ?_
  refine OQ ?_
  refine OkOps.ev tab_ok rfl (ev_idx_map (by simp only [kE, kT, kL, kC] <;> rfl) (by simp only [kE, kT, kL, kC] <;> rfl) (by omega) (by simp only [kE, kT, kL, kC] <;> rfl)) (by simp only [kP] <;> rfl) ?_
  iterate 2 (refine EV ?_)
  refine ON ?_
  refine OQ ?_
  refine EV ?_
  refine OkOps.S0 rfl (OpS.weak' rfl (by simp only [kE, kT, kL, kC] <;> rfl) (by simp only [kE, kT, kL, kC] <;> rfl) cl125 (w_impl_VarText _)) (by simp only [kP] <;> rfl) ?_
  refine EV ?_
  refine OkOps.ev tab_ok rfl (by simp only [kE, kT, kL, kC, hz3, Option.getD_some] <;> rfl) (by simp only [kP] <;> rfl) ?_
  refine OkOps.ev tab_ok rfl (by simp only [kE, kT, kL, kC, hz3, Option.isSome_some] <;> rfl) (by simp only [kP] <;> rfl) ?_
  iterate 2 (refine EV ?_)
  refine ON ?_
  refine Ok.region ?_
  iterate 2 (refine EV ?_)
  refine OkOps.ev tab_ok rfl (ev_cat (by simp only [kE, kT, kL, kC] <;> rfl) (by simp only [kE, kT, kL, kC] <;> rfl) (by omega)) (by simp only [kP] <;> rfl) ?_
  refine EV ?_
  refine ON ?_
  refine Ok.region ?_
  iterate 2 (refine EV ?_)
  refine ON ?_
  refine ⟨i + 1, ?_, rfl, rfl, hi, by omega⟩
  refine ⟨?_, ?_, ?_, ?_, ?_, ?_, ?_, ?_, ?_, ?_, ?_, ?_, ?_, ?_, ?_, ?_, ?_, ?_, ?_, ?_, ?_, ?_, ?_, ?_, trivial⟩ <;> first | exact le_any _ | with_reducible exact le_rfl' _ | (first | (rw [wrap_succ (by omega)]; exact le_rfl' _) | (rw [varsZ_next hi]; exact le_rfl' _)) | exact le_rfl' _
 ·
  try simp only [bsimp] at hb3
  have hi : i = zs.length := by omega
  refine Ok.exit ?_
  refine OQ ?_
  iterate 2 (refine EV ?_)
  refine ON ?_
  refine Ok.ret ?_
  with_reducible repeat (first | refine thenQ_ret ?_ | refine blockQ_ret ?_)
  refine RT ?_
  rw [hi, List.take_length]; rfl
theorem w_spec_SumMore (y : BitVec 32) (s : Str) (hs : s.length ≤ 4611686018427387904) : Weak Tryz.prog 205 [.int .u32 (y.toNat : Int), .str s] (.int .u32 ((sumS y s).toNat : Int)) := by
 refine Weak.enter tab_ok Tryz.func205 rfl (.inr (by simp [V.labelsL, V.labels, zz])) (t := [.int .u32 (y.toNat : Int), .str s, .any, .any, .any, .any, .any, .any, .any, .any, .any, .any, .any, .any, .any, .any, .any, .any, .any, .any, .any, .any, .any, .any, .any, .any, .any, .any, .any, .any, .any, .any, .any]) rfl ?_
 refine OQ ?_
 refine EV ?_
 refine ON ?_
 refine Ok.seq ?_
 refine OQ ?_
 refine EV ?_
 refine ON ?_
 refine Ok.block ?_
 refine Ok.loopW (τ := BitVec 32 × Nat) (fun x => [(0, .int .u32 (x.1.toNat : Int)), (5, .int .i64 (x.2 : Int))]) [6, 7, 8, 9, 10, 11, 12, 13, 14, 15, 16, 17, 18, 19, 20, 21, 22, 23, 24, 25, 26, 27, 28, 29, 30, 31] (fun x => by simp only [kover] <;> rfl) (fun x => sumS x.1 (s.drop x.2) = sumS y s ∧ x.2 ≤ s.length) (fun x => s.length - x.2) (y, 0) (by refine ⟨?_, ?_, ?_, ?_, ?_, ?_, ?_, ?_, ?_, ?_, ?_, ?_, ?_, ?_, ?_, ?_, ?_, ?_, ?_, ?_, ?_, ?_, ?_, ?_, ?_, ?_, ?_, ?_, ?_, ?_, ?_, ?_, ?_, trivial⟩ <;> first | exact le_any _ | with_reducible exact le_rfl' _ | (fail) | exact le_rfl' _) (⟨rfl, Nat.zero_le _⟩) ?_
 rintro ⟨a, i⟩ ⟨h1, h2⟩
 refine Ok.seq ?_
 refine OQ ?_
 iterate 4 (refine EV ?_)
 refine ON ?_
 refine Ok.cond (b := _) (by simp only [kE, kT, kL, kC] <;> rfl) (fun hb2 => ?_) (fun hb2 => ?_)
 ·
  try simp only [bsimp] at hb2
  have hi : i < s.length := by omega
  refine Ok.skip ?_
  refine Ok.seq ?_
  refine Ok.block ?_
  refine OQ ?_
  iterate 3 (refine EV ?_)
  refine OkOps.ev tab_ok rfl (ev_byte_lt (by simp only [kE, kT, kL, kC] <;> rfl) (by simp only [kE, kT, kL, kC] <;> rfl) (hi) rfl) (by simp only [kP] <;> rfl) ?_
  refine EV ?_
  refine OkOps.ev tab_ok rfl (by simp only [kE, kT, kL, kC, xor_byte] <;> rfl) (by simp only [kP] <;> rfl) ?_
  refine EV ?_
  refine ON ?_
  refine OQ ?_
  refine EV ?_
  refine ON ?_
  refine Ok.block ?_
  refine Ok.loopW (τ := BitVec 32 × Nat) (fun x => [(0, .int .u32 (x.1.toNat : Int)), (6, .int .i64 (x.2 : Int))]) [7, 20, 21, 22, 23, 24, 25, 26, 27, 28, 29, 30, 31] (fun x => by simp only [kover] <;> rfl) (fun x => bitsS (8 - x.2) x.1 = bitsS 8 (a ^^^ BitVec.ofNat 32 s[i].toNat) ∧ x.2 ≤ 8) (fun x => 8 - x.2) (a ^^^ BitVec.ofNat 32 s[i].toNat, 0) (by refine ⟨?_, ?_, ?_, ?_, ?_, ?_, ?_, ?_, ?_, ?_, ?_, ?_, ?_, ?_, ?_, ?_, ?_, ?_, ?_, ?_, ?_, ?_, ?_, ?_, ?_, ?_, ?_, ?_, ?_, ?_, ?_, ?_, ?_, trivial⟩ <;> first | exact le_any _ | with_reducible exact le_rfl' _ | (fail) | exact le_rfl' _) (⟨rfl, Nat.zero_le _⟩) ?_
  rintro ⟨b, j⟩ ⟨h3, h4⟩
  refine Ok.seq ?_
  refine OQ ?_
  iterate 2 (refine EV ?_)
  refine ON ?_
  refine Ok.cond (b := _) (by simp only [kE, kT, kL, kC] <;> rfl) (fun hb6 => ?_) (fun hb6 => ?_)
  ·
   try simp only [bsimp] at hb6
   have hj : j < 8 := by omega
   refine Ok.skip ?_
   refine Ok.seq ?_
   refine Ok.block ?_
   refine OQ ?_
   refine EV ?_
   refine OkOps.ev tab_ok rfl (by simp only [kE, kT, kL, kC, rem2_u32] <;> rfl) (by simp only [kP] <;> rfl) ?_
   refine OkOps.ev tab_ok rfl (by simp only [kE, kT, kL, kC, nat_one] <;> rfl) (by simp only [kP] <;> rfl) ?_
   refine EV ?_
   refine ON ?_
   refine OQ ?_
   refine EV ?_
   refine OkOps.ev tab_ok rfl (by simp only [kE, kT, kL, kC, half_u32] <;> rfl) (by simp only [kP] <;> rfl) ?_
   refine EV ?_
   refine ON ?_
   refine OQ ?_
   refine EV ?_
   refine ON ?_
   refine Ok.cond (b := _) (by simp only [kE, kT, kL, kC] <;> rfl) (fun hb10 => ?_) (fun hb10 => ?_)
   ·
    try simp only [bsimp] at hb10
    have hbs := bitS_t hb10
    refine Ok.region ?_
    refine EV ?_
    refine OkOps.ev tab_ok rfl (by simp only [kE, kT, kL, kC, xor_key] <;> rfl) (by simp only [kP] <;> rfl) ?_
    refine EV ?_
    refine ON ?_
    refine Ok.region ?_
    iterate 3 (refine EV ?_)
    refine ON ?_
    refine ⟨(bitS b, j + 1), ?_, rfl, rfl, ⟨by rw [← h3, ← bitsS_next hj], hj⟩, by show 8 - (j + 1) < 8 - j; omega⟩
    refine ⟨?_, ?_, ?_, ?_, ?_, ?_, ?_, ?_, ?_, ?_, ?_, ?_, ?_, ?_, ?_, ?_, ?_, ?_, ?_, ?_, ?_, ?_, ?_, ?_, ?_, ?_, ?_, ?_, ?_, ?_, ?_, ?_, ?_, trivial⟩ <;> first | exact le_any _ | with_reducible exact le_rfl' _ | (first | (rw [wrap_succ (by omega)]; exact le_rfl' _) | (rw [hbs]; exact le_rfl' _)) | exact le_rfl' _
   ·
    try simp only [bsimp] at hb10
    have hbs := bitS_f hb10
    refine Ok.skip ?_
    refine Ok.region ?_
    iterate 3 (refine EV ?_)
    refine ON ?_
    refine ⟨(bitS b, j + 1), ?_, rfl, rfl, ⟨by rw [← h3, ← bitsS_next hj], hj⟩, by show 8 - (j + 1) < 8 - j; omega⟩
    refine ⟨?_, ?_, ?_, ?_, ?_, ?_, ?_, ?_, ?_, ?_, ?_, ?_, ?_, ?_, ?_, ?_, ?_, ?_, ?_, ?_, ?_, ?_, ?_, ?_, ?_, ?_, ?_, ?_, ?_, ?_, ?_, ?_, ?_, trivial⟩ <;> first | exact le_any _ | with_reducible exact le_rfl' _ | (first | (rw [wrap_succ (by omega)]; exact le_rfl' _) | (rw [hbs]; exact le_rfl' _)) | exact le_rfl' _
  ·
   try simp only [bsimp] at hb6
   have hj : j = 8 := by omega
   subst hj
   have h3 : b = bitsS 8 (a ^^^ BitVec.ofNat 32 s[i].toNat) := h3
   subst h3
   refine Ok.exit ?_
   refine Ok.region ?_
   iterate 3 (refine EV ?_)
   refine ON ?_
   refine ⟨(bitsS 8 (a ^^^ BitVec.ofNat 32 s[i].toNat), i + 1), ?_, rfl, rfl, ⟨by rw [← h1, sumS_next hi], hi⟩, by show s.length - (i + 1) < s.length - i; omega⟩
   refine ⟨?_, ?_, ?_, ?_, ?_, ?_, ?_, ?_, ?_, ?_, ?_, ?_, ?_, ?_, ?_, ?_, ?_, ?_, ?_, ?_, ?_, ?_, ?_, ?_, ?_, ?_, ?_, ?_, ?_, ?_, ?_, ?_, ?_, trivial⟩ <;> first | exact le_any _ | with_reducible exact le_rfl' _ | (rw [wrap_succ (by omega)]; exact le_rfl' _) | exact le_rfl' _
 ·
  try simp only [bsimp] at hb2
  have hi : i = s.length := by omega
  refine Ok.exit ?_
  refine OQ ?_
  iterate 2 (refine EV ?_)
  refine ON ?_
  refine Ok.ret ?_
  with_reducible repeat (first | refine thenQ_ret ?_ | refine blockQ_ret ?_)
  refine RT ?_
  rw [← h1, hi, List.drop_length]; rfl
theorem w_impl_SumMore (y : BitVec 32) (s : Str) (hs : s.length ≤ 4611686018427387904) : Weak Tryz.prog 222 [.int .u32 (y.toNat : Int), .str s] (.int .u32 ((sumS y s).toNat : Int)) := by
 refine Weak.enter tab_ok Tryz.func222 rfl (.inr (by simp [V.labelsL, V.labels, zz])) (t := [.int .u32 (y.toNat : Int), .str s, .any, .any, .any, .any, .any, .any, .any, .any, .any, .any, .any, .any, .any, .any, .any, .any, .any, .any, .any, .any, .any, .any, .any, .any, .any, .any, .any, .any, .any]) rfl ?_
 refine OQ ?_
 refine EV ?_
 refine ON ?_
 refine Ok.seq ?_
 refine OQ ?_
 refine EV ?_
 refine ON ?_
 refine Ok.block ?_
 refine Ok.loopW (τ := BitVec 32 × Nat) (fun x => [(0, .int .u32 (x.1.toNat : Int)), (5, .int .i64 (x.2 : Int))]) [6, 7, 8, 9, 10, 11, 12, 13, 14, 15, 16, 17, 18, 19, 20, 21, 22, 23, 24, 25, 26, 27, 28, 29] (fun x => by simp only [kover] <;> rfl) (fun x => sumS x.1 (s.drop x.2) = sumS y s ∧ x.2 ≤ s.length) (fun x => s.length - x.2) (y, 0) (by refine ⟨?_, ?_, ?_, ?_, ?_, ?_, ?_, ?_, ?_, ?_, ?_, ?_, ?_, ?_, ?_, ?_, ?_, ?_, ?_, ?_, ?_, ?_, ?_, ?_, ?_, ?_, ?_, ?_, ?_, ?_, ?_, trivial⟩ <;> first | exact le_any _ | with_reducible exact le_rfl' _ | (fail) | exact le_rfl' _) (⟨rfl, Nat.zero_le _⟩) ?_
 rintro ⟨a, i⟩ ⟨h1, h2⟩
 refine Ok.seq ?_
 refine OQ ?_
 iterate 4 (refine EV ?_)
 refine ON ?_
 refine Ok.cond (b := _) (by simp only [kE, kT, kL, kC] <;> rfl) (fun hb2 => ?_) (fun hb2 => ?_)
 ·
  try simp only [bsimp] at hb2
  have hi : i < s.length := by omega
  refine Ok.skip ?_
  refine Ok.seq ?_
  refine Ok.block ?_
  refine OQ ?_
  iterate 3 (refine EV ?_)
  refine OkOps.ev tab_ok rfl (ev_byte_lt (by simp only [kE, kT, kL, kC] <;> rfl) (by simp only [kE, kT, kL, kC] <;> rfl) (hi) rfl) (by simp only [kP] <;> rfl) ?_
  refine EV ?_
  refine OkOps.ev tab_ok rfl (by simp only [kE, kT, kL, kC, xor_byte] <;> rfl) (by simp only [kP] <;> rfl) ?_
  refine EV ?_
  refine ON ?_
  refine OQ ?_
  refine EV ?_
  refine ON ?_
  refine Ok.block ?_
  refine Ok.loopW (τ := BitVec 32 × Nat) (fun x => [(0, .int .u32 (x.1.toNat : Int)), (19, .int .i64 (x.2 : Int))]) [6, 20, 21, 22, 23, 24, 25, 26, 27, 28, 29] (fun x => by simp only [kover] <;> rfl) (fun x => bitsS (8 - x.2) x.1 = bitsS 8 (a ^^^ BitVec.ofNat 32 s[i].toNat) ∧ x.2 ≤ 8) (fun x => 8 - x.2) (a ^^^ BitVec.ofNat 32 s[i].toNat, 0) (by refine ⟨?_, ?_, ?_, ?_, ?_, ?_, ?_, ?_, ?_, ?_, ?_, ?_, ?_, ?_, ?_, ?_, ?_, ?_, ?_, ?_, ?_, ?_, ?_, ?_, ?_, ?_, ?_, ?_, ?_, ?_, ?_, trivial⟩ <;> first | exact le_any _ | with_reducible exact le_rfl' _ | (fail) | exact le_rfl' _) (⟨rfl, Nat.zero_le _⟩) ?_
  rintro ⟨b, j⟩ ⟨h3, h4⟩
  refine OQ ?_
  refine EV ?_
  refine ON ?_
  refine Ok.seq ?_
  refine Ok.cond (b := _) (by simp only [kE, kT, kL, kC] <;> rfl) (fun hb6 => ?_) (fun hb6 => ?_)
  ·
   try simp only [bsimp] at hb6
   have hj : j < 8 := by omega
   refine Ok.skip ?_
   refine Ok.seq ?_
   refine Ok.block ?_
   refine OQ ?_
   refine EV ?_
   refine OkOps.ev tab_ok rfl (by simp only [kE, kT, kL, kC, and1_u32] <;> rfl) (by simp only [kP] <;> rfl) ?_
   refine EV ?_
   refine ON ?_
   refine OQ ?_
   refine EV ?_
   refine OkOps.ev tab_ok rfl (by simp only [kE, kT, kL, kC, shr1_u32] <;> rfl) (by simp only [kP] <;> rfl) ?_
   refine EV ?_
   refine ON ?_
   refine OQ ?_
   refine EV ?_
   refine OkOps.ev tab_ok rfl (by simp only [kE, kT, kL, kC, nat_one] <;> rfl) (by simp only [kP] <;> rfl) ?_
   refine ON ?_
   refine Ok.cond (b := _) (by simp only [kE, kT, kL, kC] <;> rfl) (fun hb9 => ?_) (fun hb9 => ?_)
   ·
    try simp only [bsimp] at hb9
    have hbs := bitS_t hb9
    refine Ok.region ?_
    refine EV ?_
    refine OkOps.ev tab_ok rfl (by simp only [kE, kT, kL, kC, xor_key] <;> rfl) (by simp only [kP] <;> rfl) ?_
    refine EV ?_
    refine ON ?_
    refine Ok.region ?_
    iterate 2 (refine EV ?_)
    refine ON ?_
    refine ⟨(bitS b, j + 1), ?_, rfl, rfl, ⟨by rw [← h3, ← bitsS_next hj], hj⟩, by show 8 - (j + 1) < 8 - j; omega⟩
    refine ⟨?_, ?_, ?_, ?_, ?_, ?_, ?_, ?_, ?_, ?_, ?_, ?_, ?_, ?_, ?_, ?_, ?_, ?_, ?_, ?_, ?_, ?_, ?_, ?_, ?_, ?_, ?_, ?_, ?_, ?_, ?_, trivial⟩ <;> first | exact le_any _ | with_reducible exact le_rfl' _ | (first | (rw [wrap_succ (by omega)]; exact le_rfl' _) | (rw [hbs]; exact le_rfl' _)) | exact le_rfl' _
   ·
    try simp only [bsimp] at hb9
    have hbs := bitS_f hb9
    refine Ok.skip ?_
    refine Ok.region ?_
    iterate 2 (refine EV ?_)
    refine ON ?_
    refine ⟨(bitS b, j + 1), ?_, rfl, rfl, ⟨by rw [← h3, ← bitsS_next hj], hj⟩, by show 8 - (j + 1) < 8 - j; omega⟩
    refine ⟨?_, ?_, ?_, ?_, ?_, ?_, ?_, ?_, ?_, ?_, ?_, ?_, ?_, ?_, ?_, ?_, ?_, ?_, ?_, ?_, ?_, ?_, ?_, ?_, ?_, ?_, ?_, ?_, ?_, ?_, ?_, trivial⟩ <;> first | exact le_any _ | with_reducible exact le_rfl' _ | (first | (rw [wrap_succ (by omega)]; exact le_rfl' _) | (rw [hbs]; exact le_rfl' _)) | exact le_rfl' _
  ·
   try simp only [bsimp] at hb6
   have hj : j = 8 := by omega
   subst hj
   have h3 : b = bitsS 8 (a ^^^ BitVec.ofNat 32 s[i].toNat) := h3
   subst h3
   refine Ok.exit ?_
   refine Ok.region ?_
   iterate 3 (refine EV ?_)
   refine ON ?_
   refine ⟨(bitsS 8 (a ^^^ BitVec.ofNat 32 s[i].toNat), i + 1), ?_, rfl, rfl, ⟨by rw [← h1, sumS_next hi], hi⟩, by show s.length - (i + 1) < s.length - i; omega⟩
   refine ⟨?_, ?_, ?_, ?_, ?_, ?_, ?_, ?_, ?_, ?_, ?_, ?_, ?_, ?_, ?_, ?_, ?_, ?_, ?_, ?_, ?_, ?_, ?_, ?_, ?_, ?_, ?_, ?_, ?_, ?_, ?_, trivial⟩ <;> first | exact le_any _ | with_reducible exact le_rfl' _ | (rw [wrap_succ (by omega)]; exact le_rfl' _) | exact le_rfl' _
 ·
  try simp only [bsimp] at hb2
  have hi : i = s.length := by omega
  refine Ok.exit ?_
  refine OQ ?_
  iterate 2 (refine EV ?_)
  refine ON ?_
  refine Ok.ret ?_
  with_reducible repeat (first | refine thenQ_ret ?_ | refine blockQ_ret ?_)
  refine RT ?_
  rw [← h1, hi, List.drop_length]; rfl
theorem w_spec_SumOf (s : Str) (hs : s.length ≤ 4611686018427387904) : Weak Tryz.prog 154 [.str s] (.int .u32 ((sumOf s).toNat : Int)) := by
 refine Weak.enter tab_ok Tryz.func154 rfl (.inr (by simp [V.labelsL, V.labels, zz])) (t := [.str s, .any, .any, .any, .any]) rfl ?_
 refine OQ ?_
 refine EV ?_
 refine ON ?_
 refine OQ ?_
 refine EV ?_
 refine OkOps.S0 rfl (OpS.weak' rfl (by simp only [kE, kT, kL, kC] <;> rfl) (by simp only [kE, kT, kL, kC] <;> rfl) cl205 (w_spec_SumMore 4294967295#32 s hs)) (by simp only [kP] <;> rfl) ?_
 refine EV ?_
 refine ON ?_
 refine Ok.ret ?_
 with_reducible repeat (first | refine thenQ_ret ?_ | refine blockQ_ret ?_)
 refine RT ?_
 rfl
theorem w_impl_SumOf (s : Str) (hs : s.length ≤ 4611686018427387904) : Weak Tryz.prog 174 [.str s] (.int .u32 ((sumOf s).toNat : Int)) := by
 refine Weak.enter tab_ok Tryz.func174 rfl (.inr (by simp [V.labelsL, V.labels, zz])) (t := [.str s, .any, .any, .any, .any]) rfl ?_
 refine OQ ?_
 refine EV ?_
 refine ON ?_
 refine OQ ?_
 refine EV ?_
 refine OkOps.S0 rfl (OpS.weak' rfl (by simp only [kE, kT, kL, kC] <;> rfl) (by simp only [kE, kT, kL, kC] <;> rfl) cl222 (w_impl_SumMore 4294967295#32 s hs)) (by simp only [kP] <;> rfl) ?_
 refine EV ?_
 refine ON ?_
 refine Ok.ret ?_
 with_reducible repeat (first | refine thenQ_ret ?_ | refine blockQ_ret ?_)
 refine RT ?_
 rfl
theorem w_spec_l02Four (x : BitVec 32) : Weak Tryz.prog 153 [.int .u32 (x.toNat : Int)] (.str (fourT x)) := by
 refine Weak.enter tab_ok Tryz.func153 rfl (.inr (by simp [V.labelsL, V.labels, zz])) (t := [.int .u32 (x.toNat : Int), .any, .any, .any, .any, .any, .any, .any, .any, .any, .any, .any, .any, .any, .any, .any]) rfl ?_
 refine OQ ?_
 refine EV ?_
 refine ON ?_
 refine OQ ?_
 iterate 2 (refine EV ?_)
 refine OkOps.ev tab_ok rfl (by simp only [kE, kT, kL, kC, by_shr x, wrap_u8_nat] <;> rfl) (by simp only [kP] <;> rfl) ?_
 iterate 2 (refine EV ?_)
 refine OkOps.ev tab_ok rfl (by simp only [kE, kT, kL, kC, by_shr x, wrap_u8_nat] <;> rfl) (by simp only [kP] <;> rfl) ?_
 iterate 2 (refine EV ?_)
 refine OkOps.ev tab_ok rfl (by simp only [kE, kT, kL, kC, by_shr x, wrap_u8_nat] <;> rfl) (by simp only [kP] <;> rfl) ?_
 refine EV ?_
 refine OkOps.ev tab_ok rfl (by simp only [kE, kT, kL, kC, by_shr x, wrap_u8_nat] <;> rfl) (by simp only [kP] <;> rfl) ?_
 refine OkOps.ev tab_ok rfl (ev_bs (by simp only [kT] <;> rfl) (by simp only [kT] <;> rfl) (by decide) (by decide) (by simp only [kE, kT, kL, kC, List.map_cons, List.map_nil] <;> rfl) (by simp only [kfe, beq_self_eq_true, Bool.and_true, Bool.true_and, decide_true, Nat.zero_add, Nat.lt_add_one, Nat.reduceLT, Nat.reduceAdd, Nat.zero_lt_succ, if_true, ↓reduceIte] <;> rfl)) (by simp only [kP] <;> rfl) ?_
 refine OkOps.ev tab_ok rfl (ev_text' (by simp only [kE, kT, kL, kC] <;> rfl) rfl rfl rfl (by simp only [kby, Option.map_some, List.append_assoc, List.cons_append, List.nil_append] <;> rfl)) (by simp only [kP] <;> rfl) ?_
 refine EV ?_
 refine ON ?_
 refine Ok.ret ?_
 with_reducible repeat (first | refine thenQ_ret ?_ | refine blockQ_ret ?_)
 refine RT ?_
 rfl
theorem w_impl_four (x : BitVec 32) : Weak Tryz.prog 173 [.int .i64 (x.toNat : Int)] (.str (fourT x)) := by
 refine Weak.enter tab_ok Tryz.func173 rfl (.inr (by simp [V.labelsL, V.labels, zz])) (t := [.int .i64 (x.toNat : Int), .any, .any, .any, .any, .any, .any, .any, .any, .any, .any, .any, .any, .any, .any, .any]) rfl ?_
 refine OQ ?_
 refine EV ?_
 refine ON ?_
 refine OQ ?_
 iterate 2 (refine EV ?_)
 refine OkOps.ev tab_ok rfl (by simp only [kE, kT, kL, kC, by_shr64 x, wrap_u8_nat] <;> rfl) (by simp only [kP] <;> rfl) ?_
 iterate 2 (refine EV ?_)
 refine OkOps.ev tab_ok rfl (by simp only [kE, kT, kL, kC, by_shr64 x, wrap_u8_nat] <;> rfl) (by simp only [kP] <;> rfl) ?_
 iterate 2 (refine EV ?_)
 refine OkOps.ev tab_ok rfl (by simp only [kE, kT, kL, kC, by_shr64 x, wrap_u8_nat] <;> rfl) (by simp only [kP] <;> rfl) ?_
 refine EV ?_
 refine OkOps.ev tab_ok rfl (by simp only [kE, kT, kL, kC, by_shr64 x, wrap_u8_nat] <;> rfl) (by simp only [kP] <;> rfl) ?_
 refine OkOps.ev tab_ok rfl (ev_bs (by simp only [kT] <;> rfl) (by simp only [kT] <;> rfl) (by decide) (by decide) (by simp only [kE, kT, kL, kC, List.map_cons, List.map_nil] <;> rfl) (by simp only [kfe, beq_self_eq_true, Bool.and_true, Bool.true_and, decide_true, Nat.zero_add, Nat.lt_add_one, Nat.reduceLT, Nat.reduceAdd, Nat.zero_lt_succ, if_true, ↓reduceIte] <;> rfl)) (by simp only [kP] <;> rfl) ?_
 refine OkOps.ev tab_ok rfl (ev_text' (by simp only [kE, kT, kL, kC] <;> rfl) rfl rfl rfl (by simp only [kby, Option.map_some, List.append_assoc, List.cons_append, List.nil_append] <;> rfl)) (by simp only [kP] <;> rfl) ?_
 refine EV ?_
 refine ON ?_
 refine Ok.ret ?_
 with_reducible repeat (first | refine thenQ_ret ?_ | refine blockQ_ret ?_)
 refine RT ?_
 rfl
theorem w_spec_Sealed (s : Str) : Weak Tryz.prog 99 [.str s] (vO (sealed s)) := by
 refine Weak.enter tab_ok Tryz.func99 rfl (.inr (by simp [V.labelsL, V.labels, zz])) (t := [.str s, .any, .any, .any, .any, .any, .any, .any, .any, .any, .any, .any]) rfl ?_
 refine OQ ?_
 iterate 2 (refine EV ?_)
 refine ON ?_
 refine Ok.seq ?_
 refine OQ ?_
 iterate 3 (refine EV ?_)
 refine ON ?_
 refine Ok.cond (b := _) (by simp only [kE, kT, kL, kC] <;> rfl) (fun hb1 => ?_) (fun hb1 => ?_)
 ·
  try simp only [bsimp] at hb1
  rw [sealed, if_pos (by omega)]
  refine OQ ?_
  iterate 2 (refine EV ?_)
  refine ON ?_
  refine Ok.ret ?_
  with_reducible repeat (first | refine thenQ_ret ?_ | refine blockQ_ret ?_)
  refine RT ?_
  rfl
 ·
  try simp only [bsimp] at hb1
  rw [sealed, if_neg (by omega)]
  refine Ok.skip ?_
  refine OQ ?_
  iterate 2 (refine EV ?_)
  refine OkOps.S0 rfl (OpS.weak' rfl (by simp only [kE, kT, kL, kC] <;> rfl) (by simp only [kE, kT, kL, kC] <;> rfl) cl154 (w_spec_SumOf s (by omega))) (by simp only [kP] <;> rfl) ?_
  refine OkOps.S0 rfl (OpS.weak' rfl (by simp only [kE, kT, kL, kC] <;> rfl) (by simp only [kE, kT, kL, kC] <;> rfl) cl153 (w_spec_l02Four (sumOf s))) (by simp only [kP] <;> rfl) ?_
  refine OkOps.ev tab_ok rfl (ev_cat (by simp only [kE, kT, kL, kC] <;> rfl) (by simp only [kE, kT, kL, kC] <;> rfl) (by have := fourT_len (sumOf s); omega)) (by simp only [kP] <;> rfl) ?_
  iterate 2 (refine EV ?_)
  refine ON ?_
  refine Ok.ret ?_
  with_reducible repeat (first | refine thenQ_ret ?_ | refine blockQ_ret ?_)
  refine RT ?_
  rfl
theorem w_impl_Sealed (s : Str) : Weak Tryz.prog 122 [.str s] (vO (sealed s)) := by
 refine Weak.enter tab_ok Tryz.func122 rfl (.inr (by simp [V.labelsL, V.labels, zz])) (t := [.str s, .any, .any, .any, .any, .any, .any, .any, .any, .any, .any, .any, .any]) rfl ?_
 refine OQ ?_
 iterate 2 (refine EV ?_)
 refine ON ?_
 refine Ok.seq ?_
 refine OQ ?_
 iterate 3 (refine EV ?_)
 refine ON ?_
 refine Ok.cond (b := _) (by simp only [kE, kT, kL, kC] <;> rfl) (fun hb1 => ?_) (fun hb1 => ?_)
 ·
  try simp only [bsimp] at hb1
  rw [sealed, if_pos (by omega)]
  refine OQ ?_
  iterate 2 (refine EV ?_)
  refine ON ?_
  refine Ok.ret ?_
  with_reducible repeat (first | refine thenQ_ret ?_ | refine blockQ_ret ?_)
  refine RT ?_
  rfl
 ·
  try simp only [bsimp] at hb1
  rw [sealed, if_neg (by omega)]
  refine Ok.skip ?_
  refine OQ ?_
  iterate 2 (refine EV ?_)
  refine OkOps.S0 rfl (OpS.weak' rfl (by simp only [kE, kT, kL, kC] <;> rfl) (by simp only [kE, kT, kL, kC] <;> rfl) cl174 (w_impl_SumOf s (by omega))) (by simp only [kP] <;> rfl) ?_
  refine OkOps.ev tab_ok rfl (by simp only [kE, kT, kL, kC, wrap_sum] <;> rfl) (by simp only [kP] <;> rfl) ?_
  refine OkOps.S0 rfl (OpS.weak' rfl (by simp only [kE, kT, kL, kC] <;> rfl) (by simp only [kE, kT, kL, kC] <;> rfl) cl173 (w_impl_four (sumOf s))) (by simp only [kP] <;> rfl) ?_
  refine OkOps.ev tab_ok rfl (ev_cat (by simp only [kE, kT, kL, kC] <;> rfl) (by simp only [kE, kT, kL, kC] <;> rfl) (by have := fourT_len (sumOf s); omega)) (by simp only [kP] <;> rfl) ?_
  iterate 2 (refine EV ?_)
  refine ON ?_
  refine Ok.ret ?_
  with_reducible repeat (first | refine thenQ_ret ?_ | refine blockQ_ret ?_)
  refine RT ?_
  rfl
end Go.Proofs.YtjhfabimacljhaaGreat.K

/- Walks: packets' texts. Printed by w2.py. -/
namespace Go.Proofs.YtjhfabimacljhaaGreat.K
open Go Go.RowKit
set_option linter.unusedVariables false
set_option linter.unusedSimpArgs false
set_option maxHeartbeats 4000000
set_option maxRecDepth 20000
theorem w_spec_PacketText (p : Packet) : Weak Tryz.prog 142 [.agg (cPacket p)] (vO (packetText p)) := by
 refine Weak.enter tab_ok Tryz.func142 rfl (.inr (by simp [V.labelsL, V.labels, zz])) (t := [.agg (cPacket p), .any, .any, .any, .any, .any, .any, .any, .any, .any, .any, .any, .any, .any, .any, .any, .any, .any, .any, .any, .any, .any, .any, .any, .any, .any, .any, .any, .any, .any, .any, .any, .any, .any, .any, .any, .any, .any, .any, .any, .any, .any, .any, .any, .any, .any, .any, .any]) rfl ?_
 refine OQ ?_
 iterate 3 (refine EV ?_)
 refine ON ?_
 refine Ok.seq ?_
 refine Ok.seqC [(25, .bool (!packetOk p))] [4, 5, 6, 7, 8, 9, 10, 11, 12, 13, 14, 15, 16, 17, 18, 19, 20, 21, 22, 23, 24] (by simp only [kover] <;> rfl) ?_ ?_
 ·
  refine Ok.region ?_
  iterate 2 (refine EV ?_)
  refine OkOps.S0 rfl (OpS.weak' rfl (by simp only [kE, kT, kL, kC] <;> rfl) (by simp only [kE, kT, kL, kC] <;> rfl) cl118 (w_spec_l01In _ _ _)) (by simp only [kP] <;> rfl) ?_
  iterate 2 (refine EV ?_)
  refine OkOps.split (d := 8) (by simp only [kE, kT, kL, kC] <;> rfl) (by simp only [kP] <;> rfl) (by simp only [kP] <;> rfl) (fun hg1_4 => ?_) (fun hg1_4 => ?_)
  ·
   try simp only [bsimp] at hg1_4
   refine OkOps.offU rfl rfl (.inl (by simp only [kE, kT, kL, kC, Bool.not_true, Bool.not_false])) (by simp only [kP] <;> rfl) ?_
   refine OkOps.offU rfl rfl (.inl (by simp only [kE, kT, kL, kC, Bool.not_true, Bool.not_false])) (by simp only [kP] <;> rfl) ?_
   refine OkOps.offU rfl rfl (.inl (by simp only [kE, kT, kL, kC, Bool.not_true, Bool.not_false])) (by simp only [kP] <;> rfl) ?_
   refine OkOps.offU rfl rfl (.inl (by simp only [kE, kT, kL, kC, Bool.not_true, Bool.not_false])) (by simp only [kP] <;> rfl) ?_
   iterate 2 (refine EV ?_)
   refine OkOps.offU rfl rfl (.inl (by simp only [kE, kT, kL, kC, Bool.not_true, Bool.not_false])) (by simp only [kP] <;> rfl) ?_
   refine OkOps.offU rfl rfl (.inl (by simp only [kE, kT, kL, kC, Bool.not_true, Bool.not_false])) (by simp only [kP] <;> rfl) ?_
   refine OkOps.offU rfl rfl (.inl (by simp only [kE, kT, kL, kC, Bool.not_true, Bool.not_false])) (by simp only [kP] <;> rfl) ?_
   refine OkOps.offU rfl rfl (.inl (by simp only [kE, kT, kL, kC, Bool.not_true, Bool.not_false])) (by simp only [kP] <;> rfl) ?_
   iterate 2 (refine EV ?_)
   refine OkOps.offU rfl rfl (.inl (by simp only [kE, kT, kL, kC, Bool.not_true, Bool.not_false])) (by simp only [kP] <;> rfl) ?_
   refine OkOps.offU rfl rfl (.inl (by simp only [kE, kT, kL, kC, Bool.not_true, Bool.not_false])) (by simp only [kP] <;> rfl) ?_
   refine OkOps.offU rfl rfl (.inl (by simp only [kE, kT, kL, kC, Bool.not_true, Bool.not_false])) (by simp only [kP] <;> rfl) ?_
   refine OkOps.offU rfl rfl (.inl (by simp only [kE, kT, kL, kC, Bool.not_true, Bool.not_false])) (by simp only [kP] <;> rfl) ?_
   refine EV ?_
   refine ON ?_
   refine ⟨rfl, ?_, rfl, rfl⟩
   refine ⟨?_, ?_, ?_, ?_, ?_, ?_, ?_, ?_, ?_, ?_, ?_, ?_, ?_, ?_, ?_, ?_, ?_, ?_, ?_, ?_, ?_, ?_, ?_, ?_, ?_, ?_, ?_, ?_, ?_, ?_, ?_, ?_, ?_, ?_, ?_, ?_, ?_, ?_, ?_, ?_, ?_, ?_, ?_, ?_, ?_, ?_, ?_, ?_, trivial⟩ <;> first | exact le_any _ | with_reducible exact le_rfl' _ | (refine .inl (congrArg V.bool ?_); (first | (simp [packetOk, *]; done) | (simp [packetOk, *] <;> omega) | (rw [Bool.eq_iff_iff]; simp [packetOk, *] <;> omega) | (simp_all [packetOk]; done))) | exact le_rfl' _
  ·
   try simp only [bsimp] at hg1_4
   refine OO ?_
   refine EV ?_
   refine OO ?_
   refine EV ?_
   refine OO ?_
   refine OkOps.S0 rfl (OpS.weak' rfl (by simp only [kE, kT, kL, kC] <;> rfl) (by simp only [kE, kT, kL, kC] <;> rfl) cl118 (w_spec_l01In _ _ _)) (by simp only [kP] <;> rfl) ?_
   refine OO ?_
   iterate 3 (refine EV ?_)
   refine OkOps.split (d := 14) (by simp only [kE, kT, kL, kC] <;> rfl) (by simp only [kP] <;> rfl) (by simp only [kP] <;> rfl) (fun hg1_10 => ?_) (fun hg1_10 => ?_)
   ·
    try simp only [bsimp] at hg1_10
    refine OkOps.offU rfl rfl (.inl (by simp only [kE, kT, kL, kC, Bool.not_true, Bool.not_false])) (by simp only [kP] <;> rfl) ?_
    refine OkOps.offU rfl rfl (.inl (by simp only [kE, kT, kL, kC, Bool.not_true, Bool.not_false])) (by simp only [kP] <;> rfl) ?_
    refine OkOps.offU rfl rfl (.inl (by simp only [kE, kT, kL, kC, Bool.not_true, Bool.not_false])) (by simp only [kP] <;> rfl) ?_
    refine OkOps.offU rfl rfl (.inl (by simp only [kE, kT, kL, kC, Bool.not_true, Bool.not_false])) (by simp only [kP] <;> rfl) ?_
    iterate 2 (refine EV ?_)
    refine OkOps.offU rfl rfl (.inl (by simp only [kE, kT, kL, kC, Bool.not_true, Bool.not_false])) (by simp only [kP] <;> rfl) ?_
    refine OkOps.offU rfl rfl (.inl (by simp only [kE, kT, kL, kC, Bool.not_true, Bool.not_false])) (by simp only [kP] <;> rfl) ?_
    refine OkOps.offU rfl rfl (.inl (by simp only [kE, kT, kL, kC, Bool.not_true, Bool.not_false])) (by simp only [kP] <;> rfl) ?_
    refine OkOps.offU rfl rfl (.inl (by simp only [kE, kT, kL, kC, Bool.not_true, Bool.not_false])) (by simp only [kP] <;> rfl) ?_
    refine EV ?_
    refine ON ?_
    refine ⟨rfl, ?_, rfl, rfl⟩
    refine ⟨?_, ?_, ?_, ?_, ?_, ?_, ?_, ?_, ?_, ?_, ?_, ?_, ?_, ?_, ?_, ?_, ?_, ?_, ?_, ?_, ?_, ?_, ?_, ?_, ?_, ?_, ?_, ?_, ?_, ?_, ?_, ?_, ?_, ?_, ?_, ?_, ?_, ?_, ?_, ?_, ?_, ?_, ?_, ?_, ?_, ?_, ?_, ?_, trivial⟩ <;> first | exact le_any _ | with_reducible exact le_rfl' _ | (refine .inl (congrArg V.bool ?_); (first | (simp [packetOk, *]; done) | (simp [packetOk, *] <;> omega) | (rw [Bool.eq_iff_iff]; simp [packetOk, *] <;> omega) | (simp_all [packetOk]; done))) | exact le_rfl' _
   ·
    try simp only [bsimp] at hg1_10
    refine OO ?_
    refine EV ?_
    refine OO ?_
    refine EV ?_
    refine OO ?_
    refine OkOps.S0 rfl (OpS.weak' rfl (by simp only [kE, kT, kL, kC] <;> rfl) (by simp only [kE, kT, kL, kC] <;> rfl) cl118 (w_spec_l01In _ _ _)) (by simp only [kP] <;> rfl) ?_
    refine OO ?_
    iterate 3 (refine EV ?_)
    refine OkOps.split (d := 20) (by simp only [kE, kT, kL, kC] <;> rfl) (by simp only [kP] <;> rfl) (by simp only [kP] <;> rfl) (fun hg1_16 => ?_) (fun hg1_16 => ?_)
    ·
     try simp only [bsimp] at hg1_16
     refine OkOps.offU rfl rfl (.inl (by simp only [kE, kT, kL, kC, Bool.not_true, Bool.not_false])) (by simp only [kP] <;> rfl) ?_
     refine OkOps.offU rfl rfl (.inl (by simp only [kE, kT, kL, kC, Bool.not_true, Bool.not_false])) (by simp only [kP] <;> rfl) ?_
     refine OkOps.offU rfl rfl (.inl (by simp only [kE, kT, kL, kC, Bool.not_true, Bool.not_false])) (by simp only [kP] <;> rfl) ?_
     refine OkOps.offU rfl rfl (.inl (by simp only [kE, kT, kL, kC, Bool.not_true, Bool.not_false])) (by simp only [kP] <;> rfl) ?_
     refine EV ?_
     refine ON ?_
     refine ⟨rfl, ?_, rfl, rfl⟩
     refine ⟨?_, ?_, ?_, ?_, ?_, ?_, ?_, ?_, ?_, ?_, ?_, ?_, ?_, ?_, ?_, ?_, ?_, ?_, ?_, ?_, ?_, ?_, ?_, ?_, ?_, ?_, ?_, ?_, ?_, ?_, ?_, ?_, ?_, ?_, ?_, ?_, ?_, ?_, ?_, ?_, ?_, ?_, ?_, ?_, ?_, ?_, ?_, ?_, trivial⟩ <;> first | exact le_any _ | with_reducible exact le_rfl' _ | (refine .inl (congrArg V.bool ?_); (first | (simp [packetOk, *]; done) | (simp [packetOk, *] <;> omega) | (rw [Bool.eq_iff_iff]; simp [packetOk, *] <;> omega) | (simp_all [packetOk]; done))) | exact le_rfl' _
    ·
     try simp only [bsimp] at hg1_16
     refine OO ?_
     refine EV ?_
     refine OO ?_
     refine EV ?_
     refine OO ?_
     refine EV ?_
     refine OO ?_
     iterate 2 (refine EV ?_)
     refine ON ?_
     refine ⟨rfl, ?_, rfl, rfl⟩
     refine ⟨?_, ?_, ?_, ?_, ?_, ?_, ?_, ?_, ?_, ?_, ?_, ?_, ?_, ?_, ?_, ?_, ?_, ?_, ?_, ?_, ?_, ?_, ?_, ?_, ?_, ?_, ?_, ?_, ?_, ?_, ?_, ?_, ?_, ?_, ?_, ?_, ?_, ?_, ?_, ?_, ?_, ?_, ?_, ?_, ?_, ?_, ?_, ?_, trivial⟩ <;> first | exact le_any _ | with_reducible exact le_rfl' _ | (refine .inl (congrArg V.bool ?_); (first | (simp [packetOk, *]; done) | (simp [packetOk, *] <;> omega) | (rw [Bool.eq_iff_iff]; simp [packetOk, *] <;> omega) | (simp_all [packetOk]; done))) | exact le_rfl' _
 ·
  refine Ok.cond (b := _) (by simp only [kE, kT, kL, kC] <;> rfl) (fun hb1 => ?_) (fun hb1 => ?_)
  ·
   try simp only [bsimp] at hb1
   have hp : packetOk p = false := by simpa using hb1
   rw [packetText, if_neg (by simp [hp])]
   refine OQ ?_
   iterate 2 (refine EV ?_)
   refine ON ?_
   refine Ok.ret ?_
   with_reducible repeat (first | refine thenQ_ret ?_ | refine blockQ_ret ?_)
   refine RT ?_
   rfl
  ·
   try simp only [bsimp] at hb1
   have hp : packetOk p = true := by simpa using hb1
   rw [packetText, if_pos hp]
   simp only [packetOk, Bool.and_eq_true, inR_t, decide_eq_true_eq] at hp
   obtain ⟨⟨⟨q1, q2⟩, q3⟩, q4⟩ := hp
   have l1 := varT_len5 (n := p.epoch.toNat) (by omega)
   have l2 := varT_len5 (n := p.seq.toNat) (by omega)
   have l3 := varT_len5 (n := p.ack.toNat) (by omega)
   have l4 := varT_len5 (n := p.text.length) (by omega)
   have hbl : (packetBody p).length ≤ 20000 := by simp only [packetBody, List.length_append]; omega
   have hse : sealed (varT p.epoch.toNat ++ varT p.seq.toNat ++ varT p.ack.toNat ++ varT (p.text.length : Int).toNat ++ p.text) = some (sealT (packetBody p)) := by rw [Int.toNat_natCast, sealed, if_neg (by simp only [List.length_append]; omega)]; simp [packetBody]
   have l5 : (varT (p.text.length : Int).toNat).length ≤ 5 := by rw [Int.toNat_natCast]; exact l4
   refine Ok.skip ?_
   refine Ok.seq ?_
   refine Ok.drawn 24 48 [] (by kernel_rfl) (by kernel_rfl) rfl ?_
   iterate 2 (refine SV ?_)
   refine SOps.S0 rfl (OpS.weakM rfl (by simp only [kE, kT, kL, kC] <;> rfl) (by simp only [kE, kT, kL, kC] <;> rfl) cl52 (w_spec_l01Var p.epoch (by omega))) (by simp only [kP] <;> rfl) ?_
   iterate 2 (refine SV ?_)
   refine SOps.S0 rfl (OpS.weakM rfl (by simp only [kE, kT, kL, kC] <;> rfl) (by simp only [kE, kT, kL, kC] <;> rfl) cl52 (w_spec_l01Var p.seq (by omega))) (by simp only [kP] <;> rfl) ?_
   refine SOps.ev tab_ok rfl (ev_cat (by simp only [kE, kT, kL, kC] <;> rfl) (by simp only [kE, kT, kL, kC] <;> rfl) (by first | omega | (simp only [List.length_append] at *; omega))) (by simp only [kP] <;> rfl) ?_
   iterate 2 (refine SV ?_)
   refine SOps.S0 rfl (OpS.weakM rfl (by simp only [kE, kT, kL, kC] <;> rfl) (by simp only [kE, kT, kL, kC] <;> rfl) cl52 (w_spec_l01Var p.ack (by omega))) (by simp only [kP] <;> rfl) ?_
   refine SOps.ev tab_ok rfl (ev_cat (by simp only [kE, kT, kL, kC] <;> rfl) (by simp only [kE, kT, kL, kC] <;> rfl) (by first | omega | (simp only [List.length_append] at *; omega))) (by simp only [kP] <;> rfl) ?_
   iterate 3 (refine SV ?_)
   refine SOps.S0 rfl (OpS.weakM rfl (by simp only [kE, kT, kL, kC] <;> rfl) (by simp only [kE, kT, kL, kC] <;> rfl) cl52 (w_spec_l01Var (p.text.length : Int) (by omega))) (by simp only [kP] <;> rfl) ?_
   refine SOps.ev tab_ok rfl (ev_cat (by simp only [kE, kT, kL, kC] <;> rfl) (by simp only [kE, kT, kL, kC] <;> rfl) (by first | omega | (simp only [List.length_append] at *; omega))) (by simp only [kP] <;> rfl) ?_
   iterate 2 (refine SV ?_)
   refine SOps.ev tab_ok rfl (ev_cat (by simp only [kE, kT, kL, kC] <;> rfl) (by simp only [kE, kT, kL, kC] <;> rfl) (by first | omega | (simp only [List.length_append] at *; omega))) (by simp only [kP] <;> rfl) ?_
   refine SOps.S0 rfl (OpS.weakM rfl (by simp only [kE, kT, kL, kC] <;> rfl) (by simp only [kE, kT, kL, kC] <;> rfl) cl99 (w_spec_Sealed _)) (by simp only [kP] <;> rfl) ?_
   refine SOps.ev tab_ok rfl (by simp only [kE, kT, kL, kC, hse, Option.getD_some] <;> rfl) (by simp only [kP] <;> rfl) ?_
   refine SOps.ev tab_ok rfl (by simp only [kE, kT, kL, kC, hse, Option.isSome_some] <;> rfl) (by simp only [kP] <;> rfl) ?_
   iterate 2 (refine SV ?_)
   refine SOps.nil ?_
   refine TOps.nil ?_
   refine Ok.ret ?_
   with_reducible repeat (first | refine thenQ_ret ?_ | refine blockQ_ret ?_)
   refine RT ?_
   rfl
theorem w_impl_PacketText (p : Packet) : Weak Tryz.prog 90 [.agg (cPacket p)] (vO (packetText p)) := by
 refine Weak.enter tab_ok Tryz.func90 rfl (.inr (by simp [V.labelsL, V.labels, zz])) (t := [.agg (cPacket p), .any, .any, .any, .any, .any, .any, .any, .any, .any, .any, .any, .any, .any, .any, .any, .any, .any, .any, .any, .any, .any, .any, .any, .any, .any, .any, .any, .any, .any, .any, .any, .any, .any, .any, .any, .any, .any, .any, .any, .any]) rfl ?_
 refine OQ ?_
 iterate 3 (refine EV ?_)
 refine ON ?_
 refine Ok.seq ?_
 refine OQ ?_
 iterate 6 (refine EV ?_)
 refine OkOps.ev tab_ok rfl (ev_bs (by simp only [kT] <;> rfl) (by simp only [kT] <;> rfl) (by decide) (by decide) (by simp only [kE, kT, kL, kC, List.map_cons, List.map_nil] <;> rfl) (by simp only [kfe, beq_self_eq_true, Bool.and_true, Bool.true_and, decide_true, Nat.zero_add, Nat.lt_add_one, Nat.reduceLT, Nat.reduceAdd, Nat.zero_lt_succ, if_true, ↓reduceIte] <;> rfl)) (by simp only [kP] <;> rfl) ?_
 iterate 2 (refine EV ?_)
 refine ON ?_
 refine Ok.block ?_
 refine Ok.loopW (τ := Nat) (fun x => [(12, .sl 2 1 0 ([p.epoch, p.seq, p.ack].map cZ)), (14, .int .i64 (x : Int))]) [2, 3, 5, 15, 16, 17, 18, 19, 20, 21] (fun x => by simp only [kover] <;> rfl) (fun x => x ≤ 3 ∧ ∀ z ∈ [p.epoch, p.seq, p.ack].take x, inR z 0 1000000000 = true) (fun x => 3 - x) 0 (by refine ⟨?_, ?_, ?_, ?_, ?_, ?_, ?_, ?_, ?_, ?_, ?_, ?_, ?_, ?_, ?_, ?_, ?_, ?_, ?_, ?_, ?_, ?_, ?_, ?_, ?_, ?_, ?_, ?_, ?_, ?_, ?_, ?_, ?_, ?_, ?_, ?_, ?_, ?_, ?_, ?_, ?_, trivial⟩ <;> first | exact le_any _ | with_reducible exact le_rfl' _ | (exact le_rfl' _) | exact le_rfl' _) (⟨Nat.zero_le _, by simp⟩) ?_
 rintro i ⟨h1, h2⟩
 refine OQ ?_
 refine EV ?_
 refine ON ?_
 refine Ok.seq ?_
 refine Ok.cond (b := _) (by simp only [kE, kT, kL, kC] <;> rfl) (fun hb2 => ?_) (fun hb2 => ?_)
 ·
  try simp only [bsimp] at hb2
  simp only [List.length_cons, List.length_nil] at hb2
  have hi3 : i < 3 := by omega
  have hi : i < [p.epoch, p.seq, p.ack].length := hi3
  refine Ok.skip ?_
  refine Ok.seq ?_
  refine Ok.block ?_
  refine OQ ?_
  refine OkOps.ev tab_ok rfl (ev_idx_map (by simp only [kE, kT, kL, kC] <;> rfl) (by simp only [kE, kT, kL, kC] <;> rfl) (hi) (by simp only [kE, kT, kL, kC] <;> rfl)) (by simp only [kP] <;> rfl) ?_
  iterate 2 (refine EV ?_)
  refine ON ?_
  refine OQ ?_
  refine EV ?_
  refine OkOps.S0 rfl (OpS.weak' rfl (by simp only [kE, kT, kL, kC] <;> rfl) (by simp only [kE, kT, kL, kC] <;> rfl) cl124 (w_impl_within _ _ _)) (by simp only [kP] <;> rfl) ?_
  refine EV ?_
  refine ON ?_
  refine Ok.cond (b := _) (by simp only [kE, kT, kL, kC] <;> rfl) (fun hb4 => ?_) (fun hb4 => ?_)
  ·
   try simp only [bsimp] at hb4
   have hp : packetOk p = false := by
     have hm := List.getElem_mem hi
     simp only [List.mem_cons, List.not_mem_nil, or_false] at hm
     rcases hm with hm | hm | hm <;> (rw [hm] at hb4; simp [packetOk, hb4])
   rw [packetText, if_neg (by simp [hp])]
   refine OQ ?_
   iterate 2 (refine EV ?_)
   refine ON ?_
   refine Ok.ret ?_
   with_reducible repeat (first | refine thenQ_ret ?_ | refine blockQ_ret ?_)
   refine RT ?_
   rfl
  ·
   try simp only [bsimp] at hb4
   refine Ok.skip ?_
   refine Ok.region ?_
   iterate 2 (refine EV ?_)
   refine ON ?_
   refine ⟨i + 1, ?_, rfl, rfl, ⟨by omega, fun z hz => by rw [List.take_succ_eq_append_getElem hi] at hz; rcases List.mem_append.1 hz with hz | hz; exact h2 z hz; obtain rfl := List.mem_singleton.1 hz; exact hb4⟩, by omega⟩
   refine ⟨?_, ?_, ?_, ?_, ?_, ?_, ?_, ?_, ?_, ?_, ?_, ?_, ?_, ?_, ?_, ?_, ?_, ?_, ?_, ?_, ?_, ?_, ?_, ?_, ?_, ?_, ?_, ?_, ?_, ?_, ?_, ?_, ?_, ?_, ?_, ?_, ?_, ?_, ?_, ?_, ?_, trivial⟩ <;> first | exact le_any _ | with_reducible exact le_rfl' _ | (rw [wrap_succ (by omega)]; exact le_rfl' _) | exact le_rfl' _
 ·
  try simp only [bsimp] at hb2
  have hi : i = 3 := by simp only [List.length_cons, List.length_nil] at hb2; omega
  subst hi
  have q0 := h2 p.epoch (by simp)
  have q00 := h2 p.seq (by simp)
  have q000 := h2 p.ack (by simp)
  refine Ok.exit ?_
  refine Ok.seq ?_
  refine OQ ?_
  iterate 4 (refine EV ?_)
  refine ON ?_
  refine Ok.cond (b := _) (by simp only [kE, kT, kL, kC] <;> rfl) (fun hb7 => ?_) (fun hb7 => ?_)
  ·
   try simp only [bsimp] at hb7
   have hp : packetOk p = false := by simp [packetOk]; intros; omega
   rw [packetText, if_neg (by simp [hp])]
   refine OQ ?_
   iterate 2 (refine EV ?_)
   refine ON ?_
   refine Ok.ret ?_
   with_reducible repeat (first | refine thenQ_ret ?_ | refine blockQ_ret ?_)
   refine RT ?_
   rfl
  ·
   try simp only [bsimp] at hb7
   have hp : packetOk p = true := by simp only [packetOk, q0, q00, q000, Bool.true_and, decide_eq_true_eq]; omega
   rw [packetText, if_pos hp]
   simp only [packetOk, Bool.and_eq_true, inR_t, decide_eq_true_eq] at hp
   obtain ⟨⟨⟨q1, q2⟩, q3⟩, q4⟩ := hp
   have l1 := varT_len5 (n := p.epoch.toNat) (by omega)
   have l2 := varT_len5 (n := p.seq.toNat) (by omega)
   have l3 := varT_len5 (n := p.ack.toNat) (by omega)
   have l4 := varT_len5 (n := p.text.length) (by omega)
   have hbl : (packetBody p).length ≤ 20000 := by simp only [packetBody, List.length_append]; omega
   have hse : sealed (varsZ [p.epoch, p.seq, p.ack] ++ (varT p.text.length ++ p.text)) = some (sealT (packetBody p)) := by rw [sealed, if_neg (by simp only [varsZ, List.length_append, List.length_nil]; omega)]; simp [packetBody, varsZ]
   refine Ok.skip ?_
   refine Ok.seq ?_
   refine Ok.drawn 17 41 [] (by kernel_rfl) (by kernel_rfl) rfl ?_
   iterate 6 (refine SV ?_)
   refine SOps.ev tab_ok rfl (ev_bs (by simp only [kT] <;> rfl) (by simp only [kT] <;> rfl) (by decide) (by decide) (by simp only [kE, kT, kL, kC, List.map_cons, List.map_nil] <;> rfl) (by simp only [kfe, beq_self_eq_true, Bool.and_true, Bool.true_and, decide_true, Nat.zero_add, Nat.lt_add_one, Nat.reduceLT, Nat.reduceAdd, Nat.zero_lt_succ, if_true, ↓reduceIte] <;> rfl)) (by simp only [kP] <;> rfl) ?_
   refine SOps.S0 rfl (OpS.weakEM rfl (by simp only [kE, kT, kL, kC] <;> rfl) (by simp only [kE, kT, kL, kC, V.eraseL, V.erase, V.travL, V.trav, zz] <;> rfl) cl58 (by simp [V.labels, V.labelsL, V.labelsLL, zz]) (w_impl_vars [p.epoch, p.seq, p.ack] (fun z hz => h2 z (by simpa using hz)) (by simp))) (by simp only [kP] <;> rfl) ?_
   iterate 2 (refine SV ?_)
   refine SOps.S0 rfl (OpS.weakM rfl (by simp only [kE, kT, kL, kC] <;> rfl) (by simp only [kE, kT, kL, kC] <;> rfl) cl145 (w_impl_short p.text (by omega))) (by simp only [kP] <;> rfl) ?_
   refine SOps.ev tab_ok rfl (ev_cat (by simp only [kE, kT, kL, kC] <;> rfl) (by simp only [kE, kT, kL, kC] <;> rfl) (by simp only [varsZ, List.length_append, List.length_nil]; omega)) (by simp only [kP] <;> rfl) ?_
   refine SOps.S0 rfl (OpS.weakM rfl (by simp only [kE, kT, kL, kC] <;> rfl) (by simp only [kE, kT, kL, kC] <;> rfl) cl122 (w_impl_Sealed _)) (by simp only [kP] <;> rfl) ?_
   refine SOps.ev tab_ok rfl (by simp only [kE, kT, kL, kC, hse, Option.getD_some] <;> rfl) (by simp only [kP] <;> rfl) ?_
   refine SOps.ev tab_ok rfl (by simp only [kE, kT, kL, kC, hse, Option.isSome_some] <;> rfl) (by simp only [kP] <;> rfl) ?_
   iterate 2 (refine SV ?_)
   refine SOps.nil ?_
   refine TOps.nil ?_
   refine Ok.ret ?_
   with_reducible repeat (first | refine thenQ_ret ?_ | refine blockQ_ret ?_)
   refine RT ?_
   rfl
end Go.Proofs.YtjhfabimacljhaaGreat.K

/- How many marks a server's data takes. -/
namespace Go.Proofs.YtjhfabimacljhaaGreat.K
open Go Go.RowKit
set_option linter.unusedVariables false
set_option linter.unusedSimpArgs false
end Go.Proofs.YtjhfabimacljhaaGreat.K

/- Pairs of servers: which place there is; who rises. -/
namespace Go.Proofs.YtjhfabimacljhaaGreat.K
open Go Go.RowKit
set_option linter.unusedVariables false
set_option linter.unusedSimpArgs false
def hasP (p : Pair) (i : Int) : Bool := decide (0 ≤ i ∧ i ≤ 1 ∧ i < (p.servers.length : Int) ∧ i < (p.syncs.length : Int))
theorem hasP_no {p : Pair} {i : Int} (h : ¬ (0 ≤ i ∧ i ≤ 1 ∧ i < (p.servers.length : Int) ∧ i < (p.syncs.length : Int))) : hasP p i = false := decide_eq_false h
theorem hasP_is {p : Pair} {i : Int} (h : hasP p i = true) : ∃ j : Nat, i = (j : Int) ∧ j ≤ 1 ∧ j < p.servers.length ∧ j < p.syncs.length := by
  have h := of_decide_eq_true h
  exact ⟨i.toNat, by omega, by omega, by omega, by omega⟩
theorem hasP_nat {p : Pair} {j : Nat} (h1 : j ≤ 1) (h2 : j < p.servers.length) (h3 : j < p.syncs.length) : hasP p (j : Int) = true := decide_eq_true (by omega)
def upAt (p : Pair) (i : Int) : Bool := match p.servers[i.toNat]? with | some s => s.up | none => false
theorem upAt_get {p : Pair} {j : Nat} (h : j < p.servers.length) : upAt p (j : Int) = p.servers[j].up := by
  unfold upAt; rw [Int.toNat_natCast, List.getElem?_eq_getElem h]
def riseB (p : Pair) (i : Int) : Bool := hasP p i && !upAt p i
def riseS (p : Pair) (i : Int) : List Server := match p.servers[i.toNat]? with | some s => p.servers.set i.toNat ⟨s.kept, s.session, true⟩ | none => p.servers
def riseP (p : Pair) (i : Int) : Pair := if riseB p i = true then { p with servers := riseS p i } else p
theorem sum_zero {α : Type} (l : List α) : (l.map fun _ => 0).sum = 0 := by
  induction l with
  | nil => rfl
  | cons y l ih => rw [List.map_cons, List.sum_cons, ih]
def Took (f : Int → Int) (k : Nat) : Prop := ∀ left, 0 ≤ left → left ≤ 1048576 → ¬ f left < 0 → f left + (k : Int) ≤ left
theorem cut_took {n : Nat} (hn : n ≤ BB) : Took (szCut n) 0 := by
  intro left h0 h1 h
  have := (cut_cnt hn left h0 h1 h).1
  omega
theorem len_took {n : Nat} (hn : n ≤ BB) : Took (szLen n) n := by
  intro left h0 h1 h
  unfold szLen at *
  rw [wrap_sub h0 h1 hn] at *
  split at h
  · omega
  · rename_i hl
    rw [if_neg hl]; omega
theorem fold_took {α : Type} {f : α → Int → Int} {k : α → Nat} : ∀ {l : List α}, (∀ a ∈ l, Took (f a) (k a)) → Took (szFold f l) ((l.map k).sum)
  | [], _ => fun left _ _ _ => by simp [szFold]
  | a :: l, hp => by
    intro left h0 h1 h
    simp only [szFold] at *
    split at h
    · omega
    · rename_i hl
      rw [if_neg hl]
      have h2 := hp a (List.mem_cons_self ..) left h0 h1 hl
      have h3 := fold_took (fun b hb => hp b (List.mem_cons_of_mem _ hb)) (f a left) (by omega) (by omega) h
      rw [List.map_cons, List.sum_cons]
      omega
theorem all_took {α : Type} {f : α → Int → Int} {k : α → Nat} {l : List α} (hl : l.length ≤ BB) (hp : ∀ a ∈ l, Took (f a) (k a)) : Took (szAll f l) (l.length + (l.map k).sum) := by
  intro left h0 h1 h
  unfold szAll at *
  rw [wrap_sub h0 h1 hl] at *
  split at h
  · omega
  · rename_i hc
    rw [if_neg hc]
    have := fold_took hp (left - l.length) (by omega) (by omega) h
    omega
theorem seq_took {f : Int → Int} {fs : List (Int → Int)} {k m : Nat} (hp : Took f k) (hq : Took (szSeq fs) m) : Took (szSeq (f :: fs)) (k + m) := by
  intro left h0 h1 h
  simp only [szSeq] at *
  split at h
  · omega
  · rename_i hl
    rw [if_neg hl]
    have h2 := hp left h0 h1 hl
    have h3 := hq (f left) (by omega) (by omega) h
    omega
theorem nil_took : Took (szSeq []) 0 := fun left _ _ _ => by simp [szSeq]
theorem one_took {f : Int → Int} {k : Nat} (hp : Took f k) : Took (szSeq [f]) k := by
  have := seq_took hp nil_took; simpa using this
theorem Took.eq {f g : Int → Int} {k : Nat} (h : Took f k) (e : ∀ l, g l = f l) : Took g k := fun left h0 h1 h2 => by rw [e] at h2 ⊢; exact h left h0 h1 h2
theorem strs_took {a : List Str} (ha : StrsB a) : Took (szStrs a) a.length := by
  have h := all_took (f := fun (s : Str) => szCut s.length) (k := fun _ => 0) (l := a) ha.1 fun s hs => cut_took (ha.2 s hs)
  have hz : (a.map fun _ => 0).sum = 0 := sum_zero a
  rw [hz] at h
  exact h.eq fun left => by
    unfold szStrs szAll
    split
    · rfl
    · exact szLoop_eq a _
def kMail (x : Mail) : Nat := x.flags.length
def kBox (x : Box) : Nat := x.mails.length + (x.mails.map kMail).sum + x.gone.length
def kStore (x : Store) : Nat := x.boxes.length + (x.boxes.map kBox).sum + x.gone.length
def kServer (x : Server) : Nat := kStore x.kept.store + x.session.view.length
def kSync (x : Sync) : Nat := x.link.way.length + x.pieces.length
def kPair (x : Pair) : Nat := x.servers.length + (x.servers.map kServer).sum + (x.syncs.length + (x.syncs.map kSync).sum + x.net.length)
theorem mail_took {x : Mail} (h : okMail x) : Took (szMail x) (kMail x) := seq_took (len_took h.1.1) (one_took (cut_took h.2))
theorem box_took {x : Box} (h : okBox x) : Took (szBox x) (kBox x) := by
  have := seq_took (cut_took h.1) (seq_took (all_took h.2.2.1.1 fun z hz => mail_took (h.2.2.1.2 z hz)) (one_took (len_took h.2.2.2)))
  rw [show 0 + (x.mails.length + (x.mails.map kMail).sum + x.gone.length) = kBox x from Nat.zero_add _] at this
  exact this
theorem store_took {x : Store} (h : okStore x) : Took (szStore x) (kStore x) := seq_took (all_took h.1.1 fun z hz => box_took (h.1.2 z hz)) (one_took (len_took h.2))
theorem server_took {x : Server} (h : okServer x) : Took (szServer x) (kServer x) := by
  have h1 := seq_took (store_took h.1.1) (one_took (cut_took h.1.2))
  have h2 := seq_took (cut_took h.2.1) (seq_took (cut_took h.2.2.1) (one_took (len_took h.2.2.2)))
  have h3 := seq_took h1 (one_took h2)
  rw [show kStore x.kept.store + 0 + (0 + (0 + x.session.view.length)) = kServer x by unfold kServer; omega] at h3
  exact h3
theorem sync_took {x : Sync} (h : okSync x) : Took (szSync x) (kSync x) := by
  have h1 := seq_took ((one_took (strs_took h.1)).eq (g := szLink x.link) fun l => by simp [szLink, szSeq]) (one_took (strs_took h.2))
  exact h1.eq fun l => by simp [szSync, szSeq]
theorem letter_took {x : Letter} (h : okLetter x) : Took (szLetter x) 0 := one_took (cut_took h)
theorem pair_took {x : Pair} (h : okPair x) : Took (szPair x) (kPair x) := by
  have h1 := seq_took (all_took h.1.1 fun z hz => server_took (h.1.2 z hz)) (seq_took (all_took h.2.1.1 fun z hz => sync_took (h.2.1.2 z hz)) (one_took (all_took h.2.2.1 fun z hz => letter_took (h.2.2.2 z hz))))
  have hz : (x.net.map fun _ => 0).sum = 0 := sum_zero x.net
  rw [hz] at h1
  exact h1
theorem mn_rows {α : Type} {f : α → List V} {k : α → Nat} : ∀ {l : List α}, (∀ a ∈ l, V.mnL (f a) ≤ 13 * (1 + k a)) → V.mnLL (l.map f) ≤ 13 * (l.length + (l.map k).sum)
  | [], _ => by simp [V.mnLL]
  | a :: l, h => by
    have h1 := h a (List.mem_cons_self ..)
    have h2 := mn_rows (l := l) fun b hb => h b (List.mem_cons_of_mem _ hb)
    rw [List.map_cons, List.map_cons, List.sum_cons, List.length_cons]
    show V.mnL (f a) + V.mnLL _ ≤ _
    omega
theorem mn_flat {α : Type} {f : α → List V} {l : List α} (h : ∀ a ∈ l, V.mnL (f a) ≤ 13) : V.mnLL (l.map f) ≤ 13 * l.length := by
  have := mn_rows (k := fun _ => 0) (l := l) (f := f) fun a ha => by have := h a ha; omega
  rw [sum_zero] at this
  exact this
theorem mnq_mail (x : Mail) : V.mnL (cMail x) ≤ 13 * (1 + kMail x) := by
  have := mn_flat (f := cReg) (l := x.flags) fun a _ => by simp [cReg, V.mnL, V.mn]
  simp only [cMail, V.mnL, V.mn, kMail]; omega
theorem mnq_box (x : Box) : V.mnL (cBox x) ≤ 13 * (1 + kBox x) := by
  have h1 := mn_rows (f := cMail) (l := x.mails) fun a _ => mnq_mail a
  have h2 := mn_flat (f := cZ) (l := x.gone) fun a _ => by simp [cZ, V.mnL, V.mn]
  simp only [cBox, V.mnL, V.mn, kBox]; omega
theorem mnq_boxes (x : Store) : V.mnLL (x.boxes.map cBox) + V.mnLL (x.gone.map cZ) ≤ 13 * kStore x := by
  have h1 := mn_rows (f := cBox) (l := x.boxes) fun a _ => mnq_box a
  have h2 := mn_flat (f := cZ) (l := x.gone) fun a _ => by simp [cZ, V.mnL, V.mn]
  unfold kStore; omega
theorem mnq_server (x : Server) : V.mnL (cServer x) ≤ 13 * (1 + kServer x) := by
  have h1 := mnq_boxes x.kept.store
  have h2 := mn_flat (f := cZ) (l := x.session.view) fun a _ => by simp [cZ, V.mnL, V.mn]
  simp only [cServer, V.mnL, V.mn, kServer]; omega
theorem mnq_sync (x : Sync) : V.mnL (cSync x) ≤ 13 * (1 + kSync x) := by
  have h1 := mn_flat (f := cS) (l := x.link.way) fun a _ => by simp [cS, V.mnL, V.mn]
  have h2 := mn_flat (f := cS) (l := x.pieces) fun a _ => by simp [cS, V.mnL, V.mn]
  simp only [cSync, V.mnL, V.mn, kSync]; omega
theorem mnq_pair (x : Pair) : V.mnLL (x.servers.map cServer) + V.mnLL (x.syncs.map cSync) + V.mnLL (x.net.map cLetter) ≤ 13 * kPair x := by
  have h1 := mn_rows (f := cServer) (l := x.servers) fun a _ => mnq_server a
  have h2 := mn_rows (f := cSync) (l := x.syncs) fun a _ => mnq_sync a
  have h3 := mn_flat (f := cLetter) (l := x.net) fun a _ => by simp [cLetter, V.mnL, V.mn]
  unfold kPair; omega
theorem pair_few {p : Pair} (h : okPair p) (hs : ¬ szPair p 1048576 < 0) : kPair p ≤ 1048576 := by
  have := pair_took h 1048576 (by omega) (by omega) hs
  omega
end Go.Proofs.YtjhfabimacljhaaGreat.K

/- What is said to the other server. -/
namespace Go.Proofs.YtjhfabimacljhaaGreat.K
open Go Go.RowKit
set_option linter.unusedVariables false
set_option linter.unusedSimpArgs false
def post (net : List Letter) (l : Letter) : List Letter := (net ++ [l]).drop ((net ++ [l]).length - 6)
theorem post_few {net : List Letter} {l : Letter} (h : net.length + 1 ≤ 6) : post net l = net ++ [l] := by
  unfold post
  rw [show (net ++ [l]).length - 6 = 0 by rw [List.length_append]; simp only [List.length_cons, List.length_nil]; omega, List.drop_zero]
theorem post_len (net : List Letter) (l : Letter) : (post net l).length ≤ net.length + 1 := by
  unfold post
  rw [List.length_drop, List.length_append]; simp only [List.length_cons, List.length_nil]; omega
theorem snoc_letter (net : List Letter) (l : Letter) : net.map cLetter ++ [[.int .i64 l.to_, .str l.text]] = (net ++ [l]).map cLetter := by
  rw [List.map_append]; rfl
def failAt (p : Pair) (i : Int) : Bool := match p.syncs[i.toNat]? with | some s => s.failed | none => false
theorem failAt_get {p : Pair} {j : Nat} (h : j < p.syncs.length) : failAt p (j : Int) = p.syncs[j].failed := by
  unfold failAt; rw [Int.toNat_natCast, List.getElem?_eq_getElem h]
def linkAt (p : Pair) (i : Int) : Link := match p.syncs[i.toNat]? with | some s => s.link | none => ⟨0, [], 0, 0⟩
theorem linkAt_get {p : Pair} {j : Nat} (h : j < p.syncs.length) : linkAt p (j : Int) = p.syncs[j].link := by
  unfold linkAt; rw [Int.toNat_natCast, List.getElem?_eq_getElem h]
def speakT (p : Pair) (i : Int) : Option Str := if (hasP p i && (upAt p i && !failAt p i)) = true then packetText (linkSays (linkAt p i)) else none
def speakP (p : Pair) (i : Int) : Pair := match speakT p i with | some t => { p with net := post p.net ⟨1 - i, t⟩ } | none => p
def speakB (p : Pair) (i : Int) : Bool := (speakT p i).isSome
theorem speakT_has {p : Pair} {i : Int} (h : hasP p i = false) : speakT p i = none := by unfold speakT; rw [h]; rfl
theorem speakT_nat {p : Pair} {j : Nat} (h1 : j ≤ 1) (h2 : j < p.servers.length) (h3 : j < p.syncs.length) : speakT p (j : Int) = if (p.servers[j].up && !p.syncs[j].failed) = true then packetText (linkSays p.syncs[j].link) else none := by
  unfold speakT; rw [hasP_nat h1 h2 h3, upAt_get h2, failAt_get h3, linkAt_get h3, Bool.true_and]
theorem speak_no {p : Pair} {i : Int} (h : speakT p i = none) : speakP p i = p ∧ speakB p i = false := by unfold speakP speakB; rw [h]; exact ⟨rfl, rfl⟩
theorem speak_yes {p : Pair} {i : Int} {t : Str} (h : speakT p i = some t) : speakP p i = { p with net := post p.net ⟨1 - i, t⟩ } ∧ speakB p i = true := by unfold speakP speakB; rw [h]; exact ⟨rfl, rfl⟩
theorem speak_is {p : Pair} {i : Int} {t : Str} (h : speakT p i = some t) : ∃ j : Nat, i = (j : Int) ∧ j ≤ 1 ∧ ∃ (h2 : j < p.servers.length) (h3 : j < p.syncs.length), p.servers[j].up = true ∧ p.syncs[j].failed = false ∧ packetText (linkSays p.syncs[j].link) = some t := by
  cases hh : hasP p i with
  | false => rw [speakT_has hh] at h; cases h
  | true =>
    obtain ⟨j, rfl, h1, h2, h3⟩ := hasP_is hh
    rw [speakT_nat h1 h2 h3] at h
    split at h
    · next hc =>
      simp only [Bool.and_eq_true, Bool.not_eq_true'] at hc
      exact ⟨j, rfl, h1, h2, h3, hc.1, hc.2, h⟩
    · cases h
theorem kSpeak (p : Pair) (i : Int) : kPair (speakP p i) ≤ kPair p + 1 := by
  unfold speakP
  split
  · next t ht =>
    have := post_len p.net ⟨1 - i, t⟩
    show p.servers.length + (p.servers.map kServer).sum + (p.syncs.length + (p.syncs.map kSync).sum + (post p.net ⟨1 - i, t⟩).length) ≤ _
    unfold kPair; omega
  · omega
theorem upd_far {L i : Nat} {e : List V} {x : V} (h : L ∉ V.labels x) : V.trav V.nil (updS L i e) (updP L i e) x = x :=
  trav_far (L := L) (fun M sz off es hM => if_neg fun hh => hM hh.1) (fun M i o e hM => if_neg fun hh => hM hh.1) x h
theorem kill_far {L : Nat} {x : V} (h : L ∉ V.labels x) : V.trav V.nil (killS L) (killP L) x = x :=
  trav_far (L := L) (fun M sz off es hM => if_neg hM) (fun M i o e hM => if_neg hM) x h
theorem killL_map (L : Nat) (h : List V) : V.killL L h = h.map (V.kill L) := by unfold V.killL; rw [travL_eq]; rfl
theorem updL_map (L i : Nat) (e : List V) (h : List V) : V.updL L i e h = h.map (V.upd L i e) := by unfold V.updL; rw [travL_eq]; rfl
theorem flat_letters : ∀ {es : List (List V)}, (∀ r ∈ es, isLetter r) → V.travLL (fun sz => V.sl 0 sz 0 []) (fun _ sz _ es => V.sl 0 sz 0 es) (fun _ _ o e => V.ptr 0 0 o e) es = es
  | [], _ => rfl
  | r :: es, h => by
    obtain ⟨a, b, rfl⟩ := h r (List.mem_cons_self ..)
    show _ :: V.travLL _ _ _ es = _
    rw [flat_letters fun r hr => h r (List.mem_cons_of_mem _ hr)]
    rfl
end Go.Proofs.YtjhfabimacljhaaGreat.K
