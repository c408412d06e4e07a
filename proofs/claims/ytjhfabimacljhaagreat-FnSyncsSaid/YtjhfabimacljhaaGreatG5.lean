/- Walks: numbers as bytes, sums, packets' texts. Printed by w2.py. -/
import Derived.Test.YtjhfabimacljhaaGreatG4
namespace Go.Proofs.YtjhfabimacljhaaGreat.K
open Go Go.RowKit
set_option linter.unusedVariables false
set_option linter.unusedSimpArgs false
set_option maxHeartbeats 4000000
set_option maxRecDepth 20000
theorem w_spec_l01Var (z : Int) (hz : 0 ≤ z ∧ z ≤ 34359738367) : Weak Tryz.prog 52 [.int .i64 z] (.str (varT z.toNat)) := by
 obtain ⟨n, rfl⟩ : ∃ n : Nat, z = n := ⟨z.toNat, by omega⟩
 rw [Int.toNat_natCast]
 have h : n ≤ 34359738367 := by omega
 refine Weak.enter tab_ok Tryz.func52 rfl (.inr (by simp [V.labelsL, V.labels, zz])) (t := [.int .i64 (n : Int), .any, .any, .any, .any, .any, .any, .any, .any, .any, .any, .any, .any, .any, .any, .any, .any, .any, .any, .any, .any, .any]) rfl ?_
 refine OQ ?_
 refine EV ?_
 refine ON ?_
 refine OQ ?_
 iterate 2 (refine EV ?_)
 refine ON ?_
 refine Ok.seq ?_
 refine Ok.block ?_
 refine Ok.bump (n' := 2) (by omega) ?_
 refine Ok.loopWZ (τ := Str × Nat) (fun x => [(0, .int .i64 (x.2 : Int)), (3, .sl 1 1 0 (x.1.map cB))]) [5, 6, 7, 8, 9, 10, 11, 12, 13, 14, 15] (fun x => by simp only [kover] <;> rfl) (fun x => x.1 ++ varT x.2 = varT n ∧ x.2 ≤ 34359738367 ∧ x.1.length ≤ 5) (fun x => x.2) ([], n) (by omega) (by (repeat (first | exact trivial | refine leC ?_ | refine leK ?_ ?_)) <;> first | (exact le_nil 1 1) | exact le_rfl' _) (⟨rfl, h, Nat.zero_le _⟩) ?_
 rintro ⟨xs, m⟩ ⟨h1, h2, h3⟩
 have hx : xs.length + (varT m).length ≤ 5 := by have := congrArg List.length h1; have := varT_len5 h; simp only [List.length_append] at *; omega
 refine Ok.seq ?_
 refine OQ ?_
 iterate 2 (refine EV ?_)
 refine ON ?_
 refine OC (fun hb2 => ?_) (fun hb2 => ?_)
 ·
  try simp only [bsimp] at hb2
  have hm : 127 < m := by omega
  refine Ok.skip ?_
  refine Ok.block ?_
  refine OQ ?_
  iterate 4 (refine EV ?_)
  refine OkOps.ev tab_ok rfl (by simp only [kE, kT, kL, kC, byte_hi] <;> rfl) (by simp only [kP] <;> rfl) ?_
  refine OkOps.ev tab_ok rfl (ev_bs (by simp only [kT] <;> rfl) (by simp only [kT] <;> rfl) (by decide) (by decide) (by simp only [kE, kT, kL, kC, List.map_cons, List.map_nil] <;> rfl) (by simp only [kfe, beq_self_eq_true, Bool.and_true, Bool.true_and, decide_true, Nat.zero_add, Nat.lt_add_one, Nat.reduceLT, Nat.reduceAdd, Nat.zero_lt_succ, if_true, ↓reduceIte] <;> rfl)) (by simp only [kP] <;> rfl) ?_
  refine OkOps.append tab_ok rfl rfl (by simp only [kT] <;> rfl) (by simp only [kT] <;> rfl) (by decide) rfl (by simp only [kE, kT, kL, kC] <;> rfl) (.inl ⟨_, _, by simp only [kE, kT, kL, kC] <;> rfl⟩) (by omega) (by omega) (by simp; omega) (by simp; omega) (by simp [V.one]) (by simp only [V.killL, V.killLL, V.travL, V.travLL, V.trav, killS, killP, Nat.reduceEqDiff, ↓reduceIte, reduceCtorEq, if_true, if_false, List.append_nil, List.nil_append, List.cons_append, zz] <;> rfl) (by simp only [V.killL, V.killLL, V.travL, V.travLL, V.trav, killS, killP, Nat.reduceEqDiff, ↓reduceIte, reduceCtorEq, if_true, if_false, List.append_nil, List.nil_append, List.cons_append, zz, kP] <;> rfl) (rfl) ?_
  refine EV ?_
  refine ON ?_
  refine Ok.region ?_
  refine EV ?_
  refine OkOps.ev tab_ok rfl (by simp only [kE, kT, kL, kC, quo128 (show m ≤ 9223372036854775807 by omega)] <;> rfl) (by simp only [kP] <;> rfl) ?_
  refine EV ?_
  refine ON ?_
  refine ⟨(xs ++ [UInt8.ofNat (m % 128 + 128)], m / 128), ?_, rfl, ⟨by rw [← h1, varT_hi hm]; simp, by omega, by rw [varT_hi hm] at hx; simp only [List.length_append, List.length_cons, List.length_nil] at *; omega⟩, by show m / 128 < m; omega⟩
  simp only [V.renL, V.travL, V.travLL, V.trav, frz, zz, Nat.reduceLeDiff, ↓reduceIte]
  (repeat (first | exact trivial | refine leC ?_ | refine leK ?_ ?_)) <;> first | (simp only [List.map_append, List.map_cons, List.map_nil]; exact le_rfl' _) | exact le_rfl' _
 try simp only [bsimp] at hb2
 have hm : m ≤ 127 := by omega
 refine Ok.exit ?_
 refine OQ ?_
 iterate 2 (refine EV ?_)
 refine OkOps.ev tab_ok rfl (by simp only [kE, kT, kL, kC, wrap_u8_nat] <;> rfl) (by simp only [kP] <;> rfl) ?_
 refine OkOps.ev tab_ok rfl (ev_bs (by simp only [kT] <;> rfl) (by simp only [kT] <;> rfl) (by decide) (by decide) (by simp only [kE, kT, kL, kC, List.map_cons, List.map_nil] <;> rfl) (by simp only [kfe, beq_self_eq_true, Bool.and_true, Bool.true_and, decide_true, Nat.zero_add, Nat.lt_add_one, Nat.reduceLT, Nat.reduceAdd, Nat.zero_lt_succ, if_true, ↓reduceIte] <;> rfl)) (by simp only [kP] <;> rfl) ?_
 refine OkOps.append tab_ok rfl rfl (by simp only [kT] <;> rfl) (by simp only [kT] <;> rfl) (by decide) rfl (by simp only [kE, kT, kL, kC] <;> rfl) (.inl ⟨_, _, by simp only [kE, kT, kL, kC] <;> rfl⟩) (by omega) (by omega) (by simp; omega) (by simp; omega) (by simp [V.one]) (by simp only [V.killL, V.killLL, V.travL, V.travLL, V.trav, killS, killP, Nat.reduceEqDiff, ↓reduceIte, reduceCtorEq, if_true, if_false, List.append_nil, List.nil_append, List.cons_append, zz] <;> rfl) (by simp only [V.killL, V.killLL, V.travL, V.travLL, V.trav, killS, killP, Nat.reduceEqDiff, ↓reduceIte, reduceCtorEq, if_true, if_false, List.append_nil, List.nil_append, List.cons_append, zz, kP] <;> rfl) (rfl) ?_
 refine OkOps.ev tab_ok rfl (ev_text' (by simp only [kE, kT, kL, kC] <;> rfl) rfl rfl rfl (by simp only [kby, Option.map_some, List.append_assoc, List.cons_append, List.nil_append] <;> rfl)) (by simp only [kP] <;> rfl) ?_
 refine EV ?_
 refine ON ?_
 refine Ok.ret ?_
 with_reducible repeat (first | refine thenQ_ret ?_ | refine blockQ_ret ?_)
 refine RT ?_
 rw [← h1, varT_lo hm]; rfl
theorem w_impl_VarText (z : Int) : Weak Tryz.prog 125 [.int .i64 z] (vO (varText z)) := by
 refine Weak.enter tab_ok Tryz.func125 rfl (.inr (by simp [V.labelsL, V.labels, zz])) (t := [.int .i64 z, .any, .any, .any, .any, .any, .any, .any, .any, .any, .any, .any, .any, .any, .any, .any, .any, .any, .any, .any, .any, .any, .any, .any, .any, .any]) rfl ?_
 refine OQ ?_
 iterate 2 (refine EV ?_)
 refine ON ?_
 refine Ok.seq ?_
 refine OQ ?_
 refine EV ?_
 refine OW cl124 (w_impl_within _ _ _) ?_
 refine EV ?_
 refine ON ?_
 refine OC (fun hb1 => ?_) (fun hb1 => ?_)
 ·
  try simp only [bsimp] at hb1
  rw [varText_f hb1]
  refine OQ ?_
  iterate 2 (refine EV ?_)
  refine ON ?_
  refine Ok.ret ?_
  with_reducible repeat (first | refine thenQ_ret ?_ | refine blockQ_ret ?_)
  refine RT ?_
  rfl
 try simp only [bsimp] at hb1
 rw [varText_t hb1]
 obtain ⟨n, rfl⟩ : ∃ n : Nat, z = n := ⟨z.toNat, by have := inR_t.1 hb1; omega⟩
 have h : n ≤ 34359738367 := by have := inR_t.1 hb1; omega
 rw [Int.toNat_natCast]
 refine Ok.skip ?_
 refine OQ ?_
 iterate 2 (refine EV ?_)
 refine ON ?_
 refine Ok.seq ?_
 refine Ok.block ?_
 refine Ok.bump (n' := 2) (by omega) ?_
 refine Ok.loopWZ (τ := Str × Nat) (fun x => [(0, .int .i64 (x.2 : Int)), (4, .sl 1 1 0 (x.1.map cB))]) [9, 10, 11, 12, 13, 14, 15, 16, 17, 18, 19] (fun x => by simp only [kover] <;> rfl) (fun x => x.1 ++ varT x.2 = varT n ∧ x.2 ≤ 34359738367 ∧ x.1.length ≤ 5) (fun x => x.2) ([], n) (by omega) (by (repeat (first | exact trivial | refine leC ?_ | refine leK ?_ ?_)) <;> first | (exact le_nil 1 1) | exact le_rfl' _) (⟨rfl, h, Nat.zero_le _⟩) ?_
 rintro ⟨xs, m⟩ ⟨h1, h2, h3⟩
 have hx : xs.length + (varT m).length ≤ 5 := by have := congrArg List.length h1; have := varT_len5 h; simp only [List.length_append] at *; omega
 refine Ok.seq ?_
 refine OQ ?_
 iterate 2 (refine EV ?_)
 refine ON ?_
 refine OC (fun hb4 => ?_) (fun hb4 => ?_)
 ·
  try simp only [bsimp] at hb4
  have hm : 127 < m := by omega
  refine Ok.skip ?_
  refine Ok.block ?_
  refine OQ ?_
  iterate 2 (refine EV ?_)
  refine OkOps.ev tab_ok rfl (by simp only [kE, kT, kL, kC, bits_and127 (show m < 9223372036854775808 by omega)] <;> rfl) (by simp only [kP] <;> rfl) ?_
  refine OkOps.ev tab_ok rfl (by simp only [kE, kT, kL, kC, bits_or128 (show m % 128 < 128 by omega)] <;> rfl) (by simp only [kP] <;> rfl) ?_
  refine OkOps.ev tab_ok rfl (by simp only [kE, kT, kL, kC, wrap_u8_nat] <;> rfl) (by simp only [kP] <;> rfl) ?_
  refine OkOps.ev tab_ok rfl (ev_bs (by simp only [kT] <;> rfl) (by simp only [kT] <;> rfl) (by decide) (by decide) (by simp only [kE, kT, kL, kC, List.map_cons, List.map_nil] <;> rfl) (by simp only [kfe, beq_self_eq_true, Bool.and_true, Bool.true_and, decide_true, Nat.zero_add, Nat.lt_add_one, Nat.reduceLT, Nat.reduceAdd, Nat.zero_lt_succ, if_true, ↓reduceIte] <;> rfl)) (by simp only [kP] <;> rfl) ?_
  refine OkOps.append tab_ok rfl rfl (by simp only [kT] <;> rfl) (by simp only [kT] <;> rfl) (by decide) rfl (by simp only [kE, kT, kL, kC] <;> rfl) (.inl ⟨_, _, by simp only [kE, kT, kL, kC] <;> rfl⟩) (by omega) (by omega) (by simp; omega) (by simp; omega) (by simp [V.one]) (by simp only [V.killL, V.killLL, V.travL, V.travLL, V.trav, killS, killP, Nat.reduceEqDiff, ↓reduceIte, reduceCtorEq, if_true, if_false, List.append_nil, List.nil_append, List.cons_append, zz] <;> rfl) (by simp only [V.killL, V.killLL, V.travL, V.travLL, V.trav, killS, killP, Nat.reduceEqDiff, ↓reduceIte, reduceCtorEq, if_true, if_false, List.append_nil, List.nil_append, List.cons_append, zz, kP] <;> rfl) (rfl) ?_
  refine EV ?_
  refine ON ?_
  refine Ok.region ?_
  refine EV ?_
  refine OkOps.ev tab_ok rfl (by simp only [kE, kT, kL, kC, shr7] <;> rfl) (by simp only [kP] <;> rfl) ?_
  refine EV ?_
  refine ON ?_
  refine ⟨(xs ++ [UInt8.ofNat (m % 128 + 128)], m / 128), ?_, rfl, ⟨by rw [← h1, varT_hi hm]; simp, by omega, by rw [varT_hi hm] at hx; simp only [List.length_append, List.length_cons, List.length_nil] at *; omega⟩, by show m / 128 < m; omega⟩
  simp only [V.renL, V.travL, V.travLL, V.trav, frz, zz, Nat.reduceLeDiff, ↓reduceIte]
  (repeat (first | exact trivial | refine leC ?_ | refine leK ?_ ?_)) <;> first | (simp only [List.map_append, List.map_cons, List.map_nil]; exact le_rfl' _) | exact le_rfl' _
 try simp only [bsimp] at hb4
 have hm : m ≤ 127 := by omega
 refine Ok.exit ?_
 refine OQ ?_
 iterate 2 (refine EV ?_)
 refine OkOps.ev tab_ok rfl (by simp only [kE, kT, kL, kC, wrap_u8_nat] <;> rfl) (by simp only [kP] <;> rfl) ?_
 refine OkOps.ev tab_ok rfl (ev_bs (by simp only [kT] <;> rfl) (by simp only [kT] <;> rfl) (by decide) (by decide) (by simp only [kE, kT, kL, kC, List.map_cons, List.map_nil] <;> rfl) (by simp only [kfe, beq_self_eq_true, Bool.and_true, Bool.true_and, decide_true, Nat.zero_add, Nat.lt_add_one, Nat.reduceLT, Nat.reduceAdd, Nat.zero_lt_succ, if_true, ↓reduceIte] <;> rfl)) (by simp only [kP] <;> rfl) ?_
 refine OkOps.append tab_ok rfl rfl (by simp only [kT] <;> rfl) (by simp only [kT] <;> rfl) (by decide) rfl (by simp only [kE, kT, kL, kC] <;> rfl) (.inl ⟨_, _, by simp only [kE, kT, kL, kC] <;> rfl⟩) (by omega) (by omega) (by simp; omega) (by simp; omega) (by simp [V.one]) (by simp only [V.killL, V.killLL, V.travL, V.travLL, V.trav, killS, killP, Nat.reduceEqDiff, ↓reduceIte, reduceCtorEq, if_true, if_false, List.append_nil, List.nil_append, List.cons_append, zz] <;> rfl) (by simp only [V.killL, V.killLL, V.travL, V.travLL, V.trav, killS, killP, Nat.reduceEqDiff, ↓reduceIte, reduceCtorEq, if_true, if_false, List.append_nil, List.nil_append, List.cons_append, zz, kP] <;> rfl) (rfl) ?_
 refine OkOps.ev tab_ok rfl (ev_text' (by simp only [kE, kT, kL, kC] <;> rfl) rfl rfl rfl (by simp only [kby, Option.map_some, List.append_assoc, List.cons_append, List.nil_append] <;> rfl)) (by simp only [kP] <;> rfl) ?_
 iterate 2 (refine EV ?_)
 refine ON ?_
 refine Ok.ret ?_
 with_reducible repeat (first | refine thenQ_ret ?_ | refine blockQ_ret ?_)
 refine RT ?_
 rw [← h1, varT_lo hm]; rfl
theorem w_impl_ShortText (s : Str) : Weak Tryz.prog 193 [.str s] (vO (shortText s)) := by
 refine Weak.enter tab_ok Tryz.func193 rfl (.inr (by simp [V.labelsL, V.labels, zz])) (t := [.str s, .any, .any, .any, .any, .any, .any, .any, .any, .any, .any, .any, .any, .any, .any, .any, .any, .any]) rfl ?_
 refine OQ ?_
 iterate 2 (refine EV ?_)
 refine ON ?_
 refine Ok.seq ?_
 refine OQ ?_
 iterate 3 (refine EV ?_)
 refine ON ?_
 refine OC (fun hb1 => ?_) (fun hb1 => ?_)
 ·
  try simp only [bsimp] at hb1
  rw [shortText, if_pos (by omega)]
  refine OQ ?_
  iterate 2 (refine EV ?_)
  refine ON ?_
  refine Ok.ret ?_
  with_reducible repeat (first | refine thenQ_ret ?_ | refine blockQ_ret ?_)
  refine RT ?_
  rfl
 try simp only [bsimp] at hb1
 rw [shortText, if_neg (by omega)]
 have hv := varText_t (z := (s.length : Int)) (inR_t.2 (by omega))
 have hl := varT_len5 (n := s.length) (by omega)
 refine Ok.skip ?_
 refine OQ ?_
 iterate 2 (refine EV ?_)
 refine OW cl125 (w_impl_VarText _) ?_
 refine EV ?_
 refine OkOps.ev tab_ok rfl (by simp only [kE, kT, kL, kC, hv, Option.getD_some, Int.toNat_natCast] <;> rfl) (by simp only [kP] <;> rfl) ?_
 refine OkOps.ev tab_ok rfl (by simp only [kE, kT, kL, kC, hv, Option.isSome_some] <;> rfl) (by simp only [kP] <;> rfl) ?_
 iterate 2 (refine EV ?_)
 refine ON ?_
 refine OQ ?_
 iterate 2 (refine EV ?_)
 refine OkOps.ev tab_ok rfl (ev_cat (by simp only [kE, kT, kL, kC] <;> rfl) (by simp only [kE, kT, kL, kC] <;> rfl) (by first | omega | (simp only [List.length_append, List.length_cons, List.length_nil] at *; omega))) (by simp only [kP] <;> rfl) ?_
 iterate 2 (refine EV ?_)
 refine ON ?_
 refine Ok.ret ?_
 with_reducible repeat (first | refine thenQ_ret ?_ | refine blockQ_ret ?_)
 refine RT ?_
 rfl
theorem w_impl_short (s : Str) (h : s.length ≤ 20000) : Weak Tryz.prog 145 [.str s] (.str (varT s.length ++ s)) := by
 have hv : shortText s = some (varT s.length ++ s) := if_neg (by omega)
 refine Weak.enter tab_ok Tryz.func145 rfl (.inr (by simp [V.labelsL, V.labels, zz])) (t := [.str s, .any, .any, .any, .any, .any, .any, .any, .any, .any, .any]) rfl ?_
 refine OQ ?_
 refine EV ?_
 refine ON ?_
 refine OQ ?_
 refine EV ?_
 refine OW cl193 (w_impl_ShortText _) ?_
 refine EV ?_
 refine OkOps.ev tab_ok rfl (by simp only [kE, kT, kL, kC, hv, Option.getD_some] <;> rfl) (by simp only [kP] <;> rfl) ?_
 refine OkOps.ev tab_ok rfl (by simp only [kE, kT, kL, kC, hv, Option.isSome_some] <;> rfl) (by simp only [kP] <;> rfl) ?_
 iterate 2 (refine EV ?_)
 refine ON ?_
 refine OQ ?_
 iterate 2 (refine EV ?_)
 refine ON ?_
 refine Ok.ret ?_
 with_reducible repeat (first | refine thenQ_ret ?_ | refine blockQ_ret ?_)
 refine RT ?_
 rfl
theorem w_impl_vars (zs : List Int) (h : ∀ z ∈ zs, inR z 0 1000000000 = true) (hl : zs.length ≤ 1000000000) : Weak Tryz.prog 58 [.sl 0 1 0 (zs.map cZ)] (.str (varsZ zs)) := by
 refine Weak.enter tab_ok Tryz.func58 rfl (.inr (by simp [V.labelsL, V.labels, zz])) (t := [.sl 0 1 0 (zs.map cZ), .any, .any, .any, .any, .any, .any, .any, .any, .any, .any, .any, .any, .any, .any, .any, .any, .any, .any, .any, .any, .any, .any, .any]) rfl ?_
 refine OQ ?_
 refine EV ?_
 refine ON ?_
 refine OQ ?_
 refine EV ?_
 refine ON ?_
 refine Ok.seq ?_
 refine OQ ?_
 iterate 3 (refine EV ?_)
 refine ON ?_
 refine Ok.block ?_
 refine Ok.loopW (τ := Nat) (fun x => [(3, .str (varsZ (zs.take x))), (10, .int .i64 (x : Int))]) [5, 6, 7, 11, 12, 13, 14, 15, 16, 17, 18, 19, 20, 21, 22] (fun x => by simp only [kover] <;> rfl) (fun x => x ≤ zs.length) (fun x => zs.length - x) 0 (by (repeat (first | exact trivial | refine leC ?_ | refine leK ?_ ?_)) <;> first | (first | exact le_rfl' _ | (rw [List.take_zero]; exact le_rfl' _)) | exact le_rfl' _) (Nat.zero_le _) ?_
 rintro i h1
 have hv := varsZ_len (a := zs.take i) fun z hz => h z (List.mem_of_mem_take hz)
 rw [List.length_take] at hv
 refine OQ ?_
 refine EV ?_
 refine ON ?_
 refine Ok.seq ?_
 refine OC (fun hb3 => ?_) (fun hb3 => ?_)
 ·
  try simp only [bsimp] at hb3
  have hi : i < zs.length := by omega
  have hz := h _ (List.getElem_mem hi)
  have hz2 := inR_t.1 hz
  have hz3 := varText_t hz
  have hz4 := varT_len5 (n := zs[i].toNat) (by omega)
  refine Ok.skip ?_
  refine Ok.seq ?_
  refine Ok.block ?_
  refine OQ ?_
  refine OkOps.ev tab_ok rfl (ev_idx_map (by simp only [kE, kT, kL, kC] <;> rfl) (by simp only [kE, kT, kL, kC] <;> rfl) (by omega) (by simp only [kE, kT, kL, kC] <;> rfl)) (by simp only [kP] <;> rfl) ?_
  iterate 2 (refine EV ?_)
  refine ON ?_
  refine OQ ?_
  refine EV ?_
  refine OW cl125 (w_impl_VarText _) ?_
  refine EV ?_
  refine OkOps.ev tab_ok rfl (by simp only [kE, kT, kL, kC, hz3, Option.getD_some] <;> rfl) (by simp only [kP] <;> rfl) ?_
  refine OkOps.ev tab_ok rfl (by simp only [kE, kT, kL, kC, hz3, Option.isSome_some] <;> rfl) (by simp only [kP] <;> rfl) ?_
  iterate 2 (refine EV ?_)
  refine ON ?_
  refine Ok.region ?_
  iterate 2 (refine EV ?_)
  refine OkOps.ev tab_ok rfl (ev_cat (by simp only [kE, kT, kL, kC] <;> rfl) (by simp only [kE, kT, kL, kC] <;> rfl) (by omega)) (by simp only [kP] <;> rfl) ?_
  refine EV ?_
  refine ON ?_
  refine Ok.region ?_
  iterate 2 (refine EV ?_)
  refine ON ?_
  refine ⟨i + 1, ?_, rfl, rfl, hi, by omega⟩
  (repeat (first | exact trivial | refine leC ?_ | refine leK ?_ ?_)) <;> first | (first | (rw [wrap_succ (by omega)]; exact le_rfl' _) | (rw [varsZ_next hi]; exact le_rfl' _)) | exact le_rfl' _
 try simp only [bsimp] at hb3
 have hi : i = zs.length := by omega
 refine Ok.exit ?_
 refine OQ ?_
 iterate 2 (refine EV ?_)
 refine ON ?_
 refine Ok.ret ?_
 with_reducible repeat (first | refine thenQ_ret ?_ | refine blockQ_ret ?_)
 refine RT ?_
 rw [hi, List.take_length]; rfl
theorem w_spec_SumMore (y : BitVec 32) (s : Str) (hs : s.length ≤ 4611686018427387904) : Weak Tryz.prog 205 [.int .u32 (y.toNat : Int), .str s] (.int .u32 ((sumS y s).toNat : Int)) := by
 refine Weak.enter tab_ok Tryz.func205 rfl (.inr (by simp [V.labelsL, V.labels, zz])) (t := [.int .u32 (y.toNat : Int), .str s, .any, .any, .any, .any, .any, .any, .any, .any, .any, .any, .any, .any, .any, .any, .any, .any, .any, .any, .any, .any, .any, .any, .any, .any, .any, .any, .any, .any, .any, .any, .any]) rfl ?_
 refine OQ ?_
 refine EV ?_
 refine ON ?_
 refine Ok.seq ?_
 refine OQ ?_
 refine EV ?_
 refine ON ?_
 refine Ok.block ?_
 refine Ok.loopW (τ := BitVec 32 × Nat) (fun x => [(0, .int .u32 (x.1.toNat : Int)), (5, .int .i64 (x.2 : Int))]) [6, 7, 8, 9, 10, 11, 12, 13, 14, 15, 16, 17, 18, 19, 20, 21, 22, 23, 24, 25, 26, 27, 28, 29, 30, 31] (fun x => by simp only [kover] <;> rfl) (fun x => sumS x.1 (s.drop x.2) = sumS y s ∧ x.2 ≤ s.length) (fun x => s.length - x.2) (y, 0) (by (repeat (first | exact trivial | refine leC ?_ | refine leK ?_ ?_)) <;> first | (fail) | exact le_rfl' _) (⟨rfl, Nat.zero_le _⟩) ?_
 rintro ⟨a, i⟩ ⟨h1, h2⟩
 refine Ok.seq ?_
 refine OQ ?_
 iterate 4 (refine EV ?_)
 refine ON ?_
 refine OC (fun hb2 => ?_) (fun hb2 => ?_)
 ·
  try simp only [bsimp] at hb2
  have hi : i < s.length := by omega
  refine Ok.skip ?_
  refine Ok.seq ?_
  refine Ok.block ?_
  refine OQ ?_
  iterate 3 (refine EV ?_)
  refine OkOps.ev tab_ok rfl (ev_byte_lt (by simp only [kE, kT, kL, kC] <;> rfl) (by simp only [kE, kT, kL, kC] <;> rfl) (hi) rfl) (by simp only [kP] <;> rfl) ?_
  refine EV ?_
  refine OkOps.ev tab_ok rfl (by simp only [kE, kT, kL, kC, xor_byte] <;> rfl) (by simp only [kP] <;> rfl) ?_
  refine EV ?_
  refine ON ?_
  refine OQ ?_
  refine EV ?_
  refine ON ?_
  refine Ok.block ?_
  refine Ok.loopW (τ := BitVec 32 × Nat) (fun x => [(0, .int .u32 (x.1.toNat : Int)), (6, .int .i64 (x.2 : Int))]) [7, 20, 21, 22, 23, 24, 25, 26, 27, 28, 29, 30, 31] (fun x => by simp only [kover] <;> rfl) (fun x => bitsS (8 - x.2) x.1 = bitsS 8 (a ^^^ BitVec.ofNat 32 s[i].toNat) ∧ x.2 ≤ 8) (fun x => 8 - x.2) (a ^^^ BitVec.ofNat 32 s[i].toNat, 0) (by (repeat (first | exact trivial | refine leC ?_ | refine leK ?_ ?_)) <;> first | (fail) | exact le_rfl' _) (⟨rfl, Nat.zero_le _⟩) ?_
  rintro ⟨b, j⟩ ⟨h3, h4⟩
  refine Ok.seq ?_
  refine OQ ?_
  iterate 2 (refine EV ?_)
  refine ON ?_
  refine OC (fun hb6 => ?_) (fun hb6 => ?_)
  ·
   try simp only [bsimp] at hb6
   have hj : j < 8 := by omega
   refine Ok.skip ?_
   refine Ok.seq ?_
   refine Ok.block ?_
   refine OQ ?_
   refine EV ?_
   refine OkOps.ev tab_ok rfl (by simp only [kE, kT, kL, kC, rem2_u32] <;> rfl) (by simp only [kP] <;> rfl) ?_
   refine OkOps.ev tab_ok rfl (by simp only [kE, kT, kL, kC, nat_one] <;> rfl) (by simp only [kP] <;> rfl) ?_
   refine EV ?_
   refine ON ?_
   refine OQ ?_
   refine EV ?_
   refine OkOps.ev tab_ok rfl (by simp only [kE, kT, kL, kC, half_u32] <;> rfl) (by simp only [kP] <;> rfl) ?_
   refine EV ?_
   refine ON ?_
   refine OQ ?_
   refine EV ?_
   refine ON ?_
   refine OC (fun hb10 => ?_) (fun hb10 => ?_)
   ·
    try simp only [bsimp] at hb10
    have hbs := bitS_t hb10
    refine Ok.region ?_
    refine EV ?_
    refine OkOps.ev tab_ok rfl (by simp only [kE, kT, kL, kC, xor_key] <;> rfl) (by simp only [kP] <;> rfl) ?_
    refine EV ?_
    refine ON ?_
    refine Ok.region ?_
    iterate 3 (refine EV ?_)
    refine ON ?_
    refine ⟨(bitS b, j + 1), ?_, rfl, rfl, ⟨by rw [← h3, ← bitsS_next hj], hj⟩, by show 8 - (j + 1) < 8 - j; omega⟩
    (repeat (first | exact trivial | refine leC ?_ | refine leK ?_ ?_)) <;> first | (first | (rw [wrap_succ (by omega)]; exact le_rfl' _) | (rw [hbs]; exact le_rfl' _)) | exact le_rfl' _
   try simp only [bsimp] at hb10
   have hbs := bitS_f hb10
   refine Ok.skip ?_
   refine Ok.region ?_
   iterate 3 (refine EV ?_)
   refine ON ?_
   refine ⟨(bitS b, j + 1), ?_, rfl, rfl, ⟨by rw [← h3, ← bitsS_next hj], hj⟩, by show 8 - (j + 1) < 8 - j; omega⟩
   (repeat (first | exact trivial | refine leC ?_ | refine leK ?_ ?_)) <;> first | (first | (rw [wrap_succ (by omega)]; exact le_rfl' _) | (rw [hbs]; exact le_rfl' _)) | exact le_rfl' _
  try simp only [bsimp] at hb6
  have hj : j = 8 := by omega
  subst hj
  have h3 : b = bitsS 8 (a ^^^ BitVec.ofNat 32 s[i].toNat) := h3
  subst h3
  refine Ok.exit ?_
  refine Ok.region ?_
  iterate 3 (refine EV ?_)
  refine ON ?_
  refine ⟨(bitsS 8 (a ^^^ BitVec.ofNat 32 s[i].toNat), i + 1), ?_, rfl, rfl, ⟨by rw [← h1, sumS_next hi], hi⟩, by show s.length - (i + 1) < s.length - i; omega⟩
  (repeat (first | exact trivial | refine leC ?_ | refine leK ?_ ?_)) <;> first | (rw [wrap_succ (by omega)]; exact le_rfl' _) | exact le_rfl' _
 try simp only [bsimp] at hb2
 have hi : i = s.length := by omega
 refine Ok.exit ?_
 refine OQ ?_
 iterate 2 (refine EV ?_)
 refine ON ?_
 refine Ok.ret ?_
 with_reducible repeat (first | refine thenQ_ret ?_ | refine blockQ_ret ?_)
 refine RT ?_
 rw [← h1, hi, List.drop_length]; rfl
theorem w_impl_SumMore (y : BitVec 32) (s : Str) (hs : s.length ≤ 4611686018427387904) : Weak Tryz.prog 222 [.int .u32 (y.toNat : Int), .str s] (.int .u32 ((sumS y s).toNat : Int)) := by
 refine Weak.enter tab_ok Tryz.func222 rfl (.inr (by simp [V.labelsL, V.labels, zz])) (t := [.int .u32 (y.toNat : Int), .str s, .any, .any, .any, .any, .any, .any, .any, .any, .any, .any, .any, .any, .any, .any, .any, .any, .any, .any, .any, .any, .any, .any, .any, .any, .any, .any, .any, .any, .any]) rfl ?_
 refine OQ ?_
 refine EV ?_
 refine ON ?_
 refine Ok.seq ?_
 refine OQ ?_
 refine EV ?_
 refine ON ?_
 refine Ok.block ?_
 refine Ok.loopW (τ := BitVec 32 × Nat) (fun x => [(0, .int .u32 (x.1.toNat : Int)), (5, .int .i64 (x.2 : Int))]) [6, 7, 8, 9, 10, 11, 12, 13, 14, 15, 16, 17, 18, 19, 20, 21, 22, 23, 24, 25, 26, 27, 28, 29] (fun x => by simp only [kover] <;> rfl) (fun x => sumS x.1 (s.drop x.2) = sumS y s ∧ x.2 ≤ s.length) (fun x => s.length - x.2) (y, 0) (by (repeat (first | exact trivial | refine leC ?_ | refine leK ?_ ?_)) <;> first | (fail) | exact le_rfl' _) (⟨rfl, Nat.zero_le _⟩) ?_
 rintro ⟨a, i⟩ ⟨h1, h2⟩
 refine Ok.seq ?_
 refine OQ ?_
 iterate 4 (refine EV ?_)
 refine ON ?_
 refine OC (fun hb2 => ?_) (fun hb2 => ?_)
 ·
  try simp only [bsimp] at hb2
  have hi : i < s.length := by omega
  refine Ok.skip ?_
  refine Ok.seq ?_
  refine Ok.block ?_
  refine OQ ?_
  iterate 3 (refine EV ?_)
  refine OkOps.ev tab_ok rfl (ev_byte_lt (by simp only [kE, kT, kL, kC] <;> rfl) (by simp only [kE, kT, kL, kC] <;> rfl) (hi) rfl) (by simp only [kP] <;> rfl) ?_
  refine EV ?_
  refine OkOps.ev tab_ok rfl (by simp only [kE, kT, kL, kC, xor_byte] <;> rfl) (by simp only [kP] <;> rfl) ?_
  refine EV ?_
  refine ON ?_
  refine OQ ?_
  refine EV ?_
  refine ON ?_
  refine Ok.block ?_
  refine Ok.loopW (τ := BitVec 32 × Nat) (fun x => [(0, .int .u32 (x.1.toNat : Int)), (19, .int .i64 (x.2 : Int))]) [6, 20, 21, 22, 23, 24, 25, 26, 27, 28, 29] (fun x => by simp only [kover] <;> rfl) (fun x => bitsS (8 - x.2) x.1 = bitsS 8 (a ^^^ BitVec.ofNat 32 s[i].toNat) ∧ x.2 ≤ 8) (fun x => 8 - x.2) (a ^^^ BitVec.ofNat 32 s[i].toNat, 0) (by (repeat (first | exact trivial | refine leC ?_ | refine leK ?_ ?_)) <;> first | (fail) | exact le_rfl' _) (⟨rfl, Nat.zero_le _⟩) ?_
  rintro ⟨b, j⟩ ⟨h3, h4⟩
  refine OQ ?_
  refine EV ?_
  refine ON ?_
  refine Ok.seq ?_
  refine OC (fun hb6 => ?_) (fun hb6 => ?_)
  ·
   try simp only [bsimp] at hb6
   have hj : j < 8 := by omega
   refine Ok.skip ?_
   refine Ok.seq ?_
   refine Ok.block ?_
   refine OQ ?_
   refine EV ?_
   refine OkOps.ev tab_ok rfl (by simp only [kE, kT, kL, kC, and1_u32] <;> rfl) (by simp only [kP] <;> rfl) ?_
   refine EV ?_
   refine ON ?_
   refine OQ ?_
   refine EV ?_
   refine OkOps.ev tab_ok rfl (by simp only [kE, kT, kL, kC, shr1_u32] <;> rfl) (by simp only [kP] <;> rfl) ?_
   refine EV ?_
   refine ON ?_
   refine OQ ?_
   refine EV ?_
   refine OkOps.ev tab_ok rfl (by simp only [kE, kT, kL, kC, nat_one] <;> rfl) (by simp only [kP] <;> rfl) ?_
   refine ON ?_
   refine OC (fun hb9 => ?_) (fun hb9 => ?_)
   ·
    try simp only [bsimp] at hb9
    have hbs := bitS_t hb9
    refine Ok.region ?_
    refine EV ?_
    refine OkOps.ev tab_ok rfl (by simp only [kE, kT, kL, kC, xor_key] <;> rfl) (by simp only [kP] <;> rfl) ?_
    refine EV ?_
    refine ON ?_
    refine Ok.region ?_
    iterate 2 (refine EV ?_)
    refine ON ?_
    refine ⟨(bitS b, j + 1), ?_, rfl, rfl, ⟨by rw [← h3, ← bitsS_next hj], hj⟩, by show 8 - (j + 1) < 8 - j; omega⟩
    (repeat (first | exact trivial | refine leC ?_ | refine leK ?_ ?_)) <;> first | (first | (rw [wrap_succ (by omega)]; exact le_rfl' _) | (rw [hbs]; exact le_rfl' _)) | exact le_rfl' _
   try simp only [bsimp] at hb9
   have hbs := bitS_f hb9
   refine Ok.skip ?_
   refine Ok.region ?_
   iterate 2 (refine EV ?_)
   refine ON ?_
   refine ⟨(bitS b, j + 1), ?_, rfl, rfl, ⟨by rw [← h3, ← bitsS_next hj], hj⟩, by show 8 - (j + 1) < 8 - j; omega⟩
   (repeat (first | exact trivial | refine leC ?_ | refine leK ?_ ?_)) <;> first | (first | (rw [wrap_succ (by omega)]; exact le_rfl' _) | (rw [hbs]; exact le_rfl' _)) | exact le_rfl' _
  try simp only [bsimp] at hb6
  have hj : j = 8 := by omega
  subst hj
  have h3 : b = bitsS 8 (a ^^^ BitVec.ofNat 32 s[i].toNat) := h3
  subst h3
  refine Ok.exit ?_
  refine Ok.region ?_
  iterate 3 (refine EV ?_)
  refine ON ?_
  refine ⟨(bitsS 8 (a ^^^ BitVec.ofNat 32 s[i].toNat), i + 1), ?_, rfl, rfl, ⟨by rw [← h1, sumS_next hi], hi⟩, by show s.length - (i + 1) < s.length - i; omega⟩
  (repeat (first | exact trivial | refine leC ?_ | refine leK ?_ ?_)) <;> first | (rw [wrap_succ (by omega)]; exact le_rfl' _) | exact le_rfl' _
 try simp only [bsimp] at hb2
 have hi : i = s.length := by omega
 refine Ok.exit ?_
 refine OQ ?_
 iterate 2 (refine EV ?_)
 refine ON ?_
 refine Ok.ret ?_
 with_reducible repeat (first | refine thenQ_ret ?_ | refine blockQ_ret ?_)
 refine RT ?_
 rw [← h1, hi, List.drop_length]; rfl
theorem w_spec_SumOf (s : Str) (hs : s.length ≤ 4611686018427387904) : Weak Tryz.prog 154 [.str s] (.int .u32 ((sumOf s).toNat : Int)) := by
 refine Weak.enter tab_ok Tryz.func154 rfl (.inr (by simp [V.labelsL, V.labels, zz])) (t := [.str s, .any, .any, .any, .any]) rfl ?_
 refine OQ ?_
 refine EV ?_
 refine ON ?_
 refine OQ ?_
 refine EV ?_
 refine OW cl205 (w_spec_SumMore 4294967295#32 s hs) ?_
 refine EV ?_
 refine ON ?_
 refine Ok.ret ?_
 with_reducible repeat (first | refine thenQ_ret ?_ | refine blockQ_ret ?_)
 refine RT ?_
 rfl
theorem w_impl_SumOf (s : Str) (hs : s.length ≤ 4611686018427387904) : Weak Tryz.prog 174 [.str s] (.int .u32 ((sumOf s).toNat : Int)) := by
 refine Weak.enter tab_ok Tryz.func174 rfl (.inr (by simp [V.labelsL, V.labels, zz])) (t := [.str s, .any, .any, .any, .any]) rfl ?_
 refine OQ ?_
 refine EV ?_
 refine ON ?_
 refine OQ ?_
 refine EV ?_
 refine OW cl222 (w_impl_SumMore 4294967295#32 s hs) ?_
 refine EV ?_
 refine ON ?_
 refine Ok.ret ?_
 with_reducible repeat (first | refine thenQ_ret ?_ | refine blockQ_ret ?_)
 refine RT ?_
 rfl
theorem w_spec_l02Four (x : BitVec 32) : Weak Tryz.prog 153 [.int .u32 (x.toNat : Int)] (.str (fourT x)) := by
 refine Weak.enter tab_ok Tryz.func153 rfl (.inr (by simp [V.labelsL, V.labels, zz])) (t := [.int .u32 (x.toNat : Int), .any, .any, .any, .any, .any, .any, .any, .any, .any, .any, .any, .any, .any, .any, .any]) rfl ?_
 refine OQ ?_
 refine EV ?_
 refine ON ?_
 refine OQ ?_
 iterate 2 (refine EV ?_)
 refine OkOps.ev tab_ok rfl (by simp only [kE, kT, kL, kC, by_shr x, wrap_u8_nat] <;> rfl) (by simp only [kP] <;> rfl) ?_
 iterate 2 (refine EV ?_)
 refine OkOps.ev tab_ok rfl (by simp only [kE, kT, kL, kC, by_shr x, wrap_u8_nat] <;> rfl) (by simp only [kP] <;> rfl) ?_
 iterate 2 (refine EV ?_)
 refine OkOps.ev tab_ok rfl (by simp only [kE, kT, kL, kC, by_shr x, wrap_u8_nat] <;> rfl) (by simp only [kP] <;> rfl) ?_
 refine EV ?_
 refine OkOps.ev tab_ok rfl (by simp only [kE, kT, kL, kC, by_shr x, wrap_u8_nat] <;> rfl) (by simp only [kP] <;> rfl) ?_
 refine OkOps.ev tab_ok rfl (ev_bs (by simp only [kT] <;> rfl) (by simp only [kT] <;> rfl) (by decide) (by decide) (by simp only [kE, kT, kL, kC, List.map_cons, List.map_nil] <;> rfl) (by simp only [kfe, beq_self_eq_true, Bool.and_true, Bool.true_and, decide_true, Nat.zero_add, Nat.lt_add_one, Nat.reduceLT, Nat.reduceAdd, Nat.zero_lt_succ, if_true, ↓reduceIte] <;> rfl)) (by simp only [kP] <;> rfl) ?_
 refine OkOps.ev tab_ok rfl (ev_text' (by simp only [kE, kT, kL, kC] <;> rfl) rfl rfl rfl (by simp only [kby, Option.map_some, List.append_assoc, List.cons_append, List.nil_append] <;> rfl)) (by simp only [kP] <;> rfl) ?_
 refine EV ?_
 refine ON ?_
 refine Ok.ret ?_
 with_reducible repeat (first | refine thenQ_ret ?_ | refine blockQ_ret ?_)
 refine RT ?_
 rfl
theorem w_impl_four (x : BitVec 32) : Weak Tryz.prog 173 [.int .i64 (x.toNat : Int)] (.str (fourT x)) := by
 refine Weak.enter tab_ok Tryz.func173 rfl (.inr (by simp [V.labelsL, V.labels, zz])) (t := [.int .i64 (x.toNat : Int), .any, .any, .any, .any, .any, .any, .any, .any, .any, .any, .any, .any, .any, .any, .any]) rfl ?_
 refine OQ ?_
 refine EV ?_
 refine ON ?_
 refine OQ ?_
 iterate 2 (refine EV ?_)
 refine OkOps.ev tab_ok rfl (by simp only [kE, kT, kL, kC, by_shr64 x, wrap_u8_nat] <;> rfl) (by simp only [kP] <;> rfl) ?_
 iterate 2 (refine EV ?_)
 refine OkOps.ev tab_ok rfl (by simp only [kE, kT, kL, kC, by_shr64 x, wrap_u8_nat] <;> rfl) (by simp only [kP] <;> rfl) ?_
 iterate 2 (refine EV ?_)
 refine OkOps.ev tab_ok rfl (by simp only [kE, kT, kL, kC, by_shr64 x, wrap_u8_nat] <;> rfl) (by simp only [kP] <;> rfl) ?_
 refine EV ?_
 refine OkOps.ev tab_ok rfl (by simp only [kE, kT, kL, kC, by_shr64 x, wrap_u8_nat] <;> rfl) (by simp only [kP] <;> rfl) ?_
 refine OkOps.ev tab_ok rfl (ev_bs (by simp only [kT] <;> rfl) (by simp only [kT] <;> rfl) (by decide) (by decide) (by simp only [kE, kT, kL, kC, List.map_cons, List.map_nil] <;> rfl) (by simp only [kfe, beq_self_eq_true, Bool.and_true, Bool.true_and, decide_true, Nat.zero_add, Nat.lt_add_one, Nat.reduceLT, Nat.reduceAdd, Nat.zero_lt_succ, if_true, ↓reduceIte] <;> rfl)) (by simp only [kP] <;> rfl) ?_
 refine OkOps.ev tab_ok rfl (ev_text' (by simp only [kE, kT, kL, kC] <;> rfl) rfl rfl rfl (by simp only [kby, Option.map_some, List.append_assoc, List.cons_append, List.nil_append] <;> rfl)) (by simp only [kP] <;> rfl) ?_
 refine EV ?_
 refine ON ?_
 refine Ok.ret ?_
 with_reducible repeat (first | refine thenQ_ret ?_ | refine blockQ_ret ?_)
 refine RT ?_
 rfl
theorem w_spec_Sealed (s : Str) : Weak Tryz.prog 99 [.str s] (vO (sealed s)) := by
 refine Weak.enter tab_ok Tryz.func99 rfl (.inr (by simp [V.labelsL, V.labels, zz])) (t := [.str s, .any, .any, .any, .any, .any, .any, .any, .any, .any, .any, .any]) rfl ?_
 refine OQ ?_
 iterate 2 (refine EV ?_)
 refine ON ?_
 refine Ok.seq ?_
 refine OQ ?_
 iterate 3 (refine EV ?_)
 refine ON ?_
 refine OC (fun hb1 => ?_) (fun hb1 => ?_)
 ·
  try simp only [bsimp] at hb1
  rw [sealed, if_pos (by omega)]
  refine OQ ?_
  iterate 2 (refine EV ?_)
  refine ON ?_
  refine Ok.ret ?_
  with_reducible repeat (first | refine thenQ_ret ?_ | refine blockQ_ret ?_)
  refine RT ?_
  rfl
 try simp only [bsimp] at hb1
 rw [sealed, if_neg (by omega)]
 refine Ok.skip ?_
 refine OQ ?_
 iterate 2 (refine EV ?_)
 refine OW cl154 (w_spec_SumOf s (by omega)) ?_
 refine OW cl153 (w_spec_l02Four (sumOf s)) ?_
 refine OkOps.ev tab_ok rfl (ev_cat (by simp only [kE, kT, kL, kC] <;> rfl) (by simp only [kE, kT, kL, kC] <;> rfl) (by have := fourT_len (sumOf s); omega)) (by simp only [kP] <;> rfl) ?_
 iterate 2 (refine EV ?_)
 refine ON ?_
 refine Ok.ret ?_
 with_reducible repeat (first | refine thenQ_ret ?_ | refine blockQ_ret ?_)
 refine RT ?_
 rfl
theorem w_impl_Sealed (s : Str) : Weak Tryz.prog 122 [.str s] (vO (sealed s)) := by
 refine Weak.enter tab_ok Tryz.func122 rfl (.inr (by simp [V.labelsL, V.labels, zz])) (t := [.str s, .any, .any, .any, .any, .any, .any, .any, .any, .any, .any, .any, .any]) rfl ?_
 refine OQ ?_
 iterate 2 (refine EV ?_)
 refine ON ?_
 refine Ok.seq ?_
 refine OQ ?_
 iterate 3 (refine EV ?_)
 refine ON ?_
 refine OC (fun hb1 => ?_) (fun hb1 => ?_)
 ·
  try simp only [bsimp] at hb1
  rw [sealed, if_pos (by omega)]
  refine OQ ?_
  iterate 2 (refine EV ?_)
  refine ON ?_
  refine Ok.ret ?_
  with_reducible repeat (first | refine thenQ_ret ?_ | refine blockQ_ret ?_)
  refine RT ?_
  rfl
 try simp only [bsimp] at hb1
 rw [sealed, if_neg (by omega)]
 refine Ok.skip ?_
 refine OQ ?_
 iterate 2 (refine EV ?_)
 refine OW cl174 (w_impl_SumOf s (by omega)) ?_
 refine OkOps.ev tab_ok rfl (by simp only [kE, kT, kL, kC, wrap_sum] <;> rfl) (by simp only [kP] <;> rfl) ?_
 refine OW cl173 (w_impl_four (sumOf s)) ?_
 refine OkOps.ev tab_ok rfl (ev_cat (by simp only [kE, kT, kL, kC] <;> rfl) (by simp only [kE, kT, kL, kC] <;> rfl) (by have := fourT_len (sumOf s); omega)) (by simp only [kP] <;> rfl) ?_
 iterate 2 (refine EV ?_)
 refine ON ?_
 refine Ok.ret ?_
 with_reducible repeat (first | refine thenQ_ret ?_ | refine blockQ_ret ?_)
 refine RT ?_
 rfl
end Go.Proofs.YtjhfabimacljhaaGreat.K

/- Walks: packets' texts. Printed by w2.py. -/
namespace Go.Proofs.YtjhfabimacljhaaGreat.K
open Go Go.RowKit
set_option linter.unusedVariables false
set_option linter.unusedSimpArgs false
set_option maxHeartbeats 4000000
set_option maxRecDepth 20000
end Go.Proofs.YtjhfabimacljhaaGreat.K

/- Walks: numbers and texts read. Printed by w2.py. -/
namespace Go.Proofs.YtjhfabimacljhaaGreat.K
open Go Go.RowKit
set_option linter.unusedVariables false
set_option linter.unusedSimpArgs false
set_option maxHeartbeats 4000000
set_option maxRecDepth 20000
theorem w_spec_ReadVar (s : Str) (z : Int) (hs : s.length ≤ 4611686018427387904) : Weak Tryz.prog 155 [.str s, .int .i64 z] (vR (readVar s z)) := by
 refine Weak.enter tab_ok Tryz.func155 rfl (.inr (by simp [V.labelsL, V.labels, zz])) (t := [.str s, .int .i64 z, .any, .any, .any, .any, .any, .any, .any, .any, .any, .any, .any, .any, .any, .any, .any, .any, .any, .any, .any, .any, .any, .any, .any, .any, .any, .any, .any, .any, .any, .any, .any, .any, .any, .any, .any, .any, .any, .any, .any, .any, .any, .any, .any, .any, .any, .any, .any, .any, .any, .any, .any, .any, .any, .any, .any, .any]) rfl ?_
 refine OQ ?_
 iterate 3 (refine EV ?_)
 refine ON ?_
 refine Ok.seq ?_
 refine OQ ?_
 iterate 3 (refine EV ?_)
 refine OW cl118 (w_spec_l01In _ _ _) ?_
 refine EV ?_
 refine ON ?_
 refine OC (fun hb1 => ?_) (fun hb1 => ?_)
 ·
  try simp only [bsimp] at hb1
  rw [readVar, if_neg (by simp [hb1])]
  refine OQ ?_
  iterate 3 (refine EV ?_)
  refine ON ?_
  refine Ok.ret ?_
  with_reducible repeat (first | refine thenQ_ret ?_ | refine blockQ_ret ?_)
  refine retQ.end (by show resVs tab _ [.tmp 4, .tmp 5, .tmp 6] = _; simp only [kE, kT, kL, kC] <;> rfl) rfl ?_
  rfl
 try simp only [bsimp] at hb1
 rw [readVar, if_pos hb1]
 obtain ⟨p, rfl⟩ : ∃ p : Nat, z = p := ⟨z.toNat, by have := inR_t.1 hb1; omega⟩
 have hp : p ≤ s.length := by have := inR_t.1 hb1; omega
 rw [Int.toNat_natCast]
 refine Ok.skip ?_
 refine OQ ?_
 refine EV ?_
 refine ON ?_
 refine OQ ?_
 refine EV ?_
 refine ON ?_
 refine Ok.seq ?_
 refine OQ ?_
 iterate 2 (refine EV ?_)
 refine ON ?_
 refine Ok.block ?_
 refine Ok.loopW (τ := Nat × Nat) (fun x => [(7, .int .i64 (x.2 : Int)), (8, .int .i64 ((128 ^ x.1 : Nat) : Int)), (9, .int .i64 ((p + x.1 : Nat) : Int))]) [4, 5, 6, 16, 17, 18, 19, 20, 21, 22, 23, 24, 25, 26, 27, 28, 29, 30, 31, 32, 33, 34, 35, 36, 37, 38, 39, 40, 41, 42, 43, 44, 45, 46, 47, 48, 49, 50, 51, 52, 53, 54, 55, 56, 57] (fun x => by simp only [kover] <;> rfl) (fun x => rdV s p (5 - x.1) x.1 x.2 = rdV s p 5 0 0 ∧ x.2 < 128 ^ x.1 ∧ x.1 ≤ 5) (fun x => 5 - x.1) (0, 0) (by (repeat (first | exact trivial | refine leC ?_ | refine leK ?_ ?_)) <;> first | (exact le_rfl' _) | exact le_rfl' _) (⟨rfl, by decide, by decide⟩) ?_
 rintro ⟨i, n⟩ ⟨h1, h2, h3⟩
 have h1 : rdV s p (5 - i) i n = rdV s p 5 0 0 := h1
 have h2 : n < 128 ^ i := h2
 have h3 : i ≤ 5 := h3
 refine Ok.seq ?_
 refine Ok.seqC [(25, .bool (decide (i < 5 ∧ p + i < s.length)))] [16, 17, 18, 19, 20, 21, 22, 23, 24] (by simp only [kover] <;> rfl) ?_ ?_
 ·
  refine Ok.region ?_
  iterate 5 (refine EV ?_)
  refine OP (d := 20) (fun hg6_4 => ?_) (fun hg6_4 => ?_)
  ·
   try simp only [bsimp] at hg6_4
   refine OX ?_
   refine OX ?_
   refine OO ?_
   refine OkOps.ev tab_ok rfl (by simp only [kE, kT, kL, kC, wrap_add_five (show p + 5 ≤ 9223372036854775807 by omega)] <;> rfl) (by simp only [kP] <;> rfl) ?_
   refine OO ?_
   iterate 2 (refine EV ?_)
   refine ON ?_
   refine ⟨rfl, ?_, rfl, rfl⟩
   (repeat (first | exact trivial | refine leC ?_ | refine leK ?_ ?_)) <;> first | (refine .inl (congrArg V.bool ?_); rw [Bool.eq_iff_iff]; simp only [Bool.false_eq_true, false_iff, decide_eq_true_eq] at *; omega) | exact le_rfl' _
  try simp only [bsimp] at hg6_4
  iterate 4 (refine OU ?_)
  refine EV ?_
  refine ON ?_
  refine ⟨rfl, ?_, rfl, rfl⟩
  (repeat (first | exact trivial | refine leC ?_ | refine leK ?_ ?_)) <;> first | (refine .inl (congrArg V.bool ?_); rw [Bool.eq_iff_iff]; simp only [Bool.false_eq_true, false_iff, decide_eq_true_eq] at *; omega) | exact le_rfl' _
 refine OC (fun hb6 => ?_) (fun hb6 => ?_)
 ·
  try simp only [bsimp] at hb6
  obtain ⟨hi5, hpi⟩ : i < 5 ∧ p + i < s.length := hb6
  have hsh := next_scale hi5
  have hgl := grp_lt (b := s[p + i].toNat) hi5 h2
  have hf : 5 - i = (5 - (i + 1)) + 1 := by omega
  refine Ok.skip ?_
  refine Ok.seq ?_
  refine Ok.block ?_
  refine OQ ?_
  iterate 3 (refine EV ?_)
  refine OkOps.ev tab_ok rfl (ev_byte_lt (by simp only [kE, kT, kL, kC] <;> rfl) (by simp only [kE, kT, kL, kC] <;> rfl) (by omega) rfl) (by simp only [kP] <;> rfl) ?_
  refine EV ?_
  refine OkOps.ev tab_ok rfl (by simp only [kE, kT, kL, kC, rem_byte] <;> rfl) (by simp only [kP] <;> rfl) ?_
  refine EV ?_
  refine OkOps.ev tab_ok rfl (by simp only [kE, kT, kL, kC, mul_grp hi5] <;> rfl) (by simp only [kP] <;> rfl) ?_
  refine OkOps.ev tab_ok rfl (by simp only [kE, kT, kL, kC, add_grp hi5 h2] <;> rfl) (by simp only [kP] <;> rfl) ?_
  refine EV ?_
  refine ON ?_
  refine OQ ?_
  refine EV ?_
  refine OkOps.ev tab_ok rfl (by simp only [kE, kT, kL, kC, hsh] <;> rfl) (by simp only [kP] <;> rfl) ?_
  refine EV ?_
  refine ON ?_
  refine OQ ?_
  iterate 2 (refine EV ?_)
  refine OkOps.ev tab_ok rfl (ev_byte_lt (by simp only [kE, kT, kL, kC] <;> rfl) (by simp only [kE, kT, kL, kC] <;> rfl) (by omega) rfl) (by simp only [kP] <;> rfl) ?_
  refine EV ?_
  refine ON ?_
  refine OC (fun hb10 => ?_) (fun hb10 => ?_)
  ·
   try simp only [bsimp] at hb10
   have hb : s[p + i].toNat < 128 := by omega
   rw [hf, rdV_lo hpi hb] at h1
   refine Ok.seq ?_
   refine Ok.seqC [(54, .bool (!decide (n + s[p + i].toNat % 128 * 128 ^ i ≤ 1000000000 ∧ varT (n + s[p + i].toNat % 128 * 128 ^ i) = (s.take (p + i + 1)).drop p)))] [43, 44, 45, 46, 47, 48, 49, 50, 51, 52, 53] (by simp only [kover] <;> rfl) ?_ ?_
   ·
    refine Ok.drawn 12 58 [] (by kernel_rfl) (by kernel_rfl) rfl ?_
    iterate 3 (refine SV ?_)
    refine SOps.split (d := 45) (by simp only [kE, kT, kL, kC] <;> rfl) (by simp only [kP] <;> rfl) (by simp only [kP] <;> rfl) (fun hg11_2 => ?_) (fun hg11_2 => ?_)
    ·
     try simp only [bsimp] at hg11_2
     iterate 8 (refine SU ?_)
     refine SV ?_
     refine SOps.nil ?_
     refine TOps.nil ?_
     refine ⟨rfl, ?_, rfl, rfl⟩
     (repeat (first | exact trivial | refine leC ?_ | refine leK ?_ ?_)) <;> first | (refine .inl (congrArg V.bool ?_); first | (simp only [Int.toNat_natCast]; simp [hn9]; done) | (simp; omega)) | exact le_rfl' _
    try simp only [bsimp] at hg11_2
    have hn9 : n + s[p + i].toNat % 128 * 128 ^ i ≤ 1000000000 := by omega
    refine SN ?_
    refine SOps.onS0 rfl rfl (by simp only [kE, kT, kL, kC]) (OpS.weakM rfl (by simp only [kE, kT, kL, kC] <;> rfl) (by simp only [kE, kT, kL, kC] <;> rfl) cl52 (w_spec_l01Var ((n + s[p + i].toNat % 128 * 128 ^ i : Nat) : Int) (by omega))) (by simp only [kP] <;> rfl) ?_
    iterate 3 (refine SN ?_)
    refine SOps.onEv tab_ok rfl rfl (by simp only [kE, kT, kL, kC]) (by simp only [kE, kT, kL, kC, wrap_add_one (show p + i + 1 ≤ 9223372036854775807 by omega)] <;> rfl) (by simp only [kP] <;> rfl) ?_
    refine SOps.onEv tab_ok rfl rfl (by simp only [kE, kT, kL, kC]) (ev_cut (by simp only [kE, kT, kL, kC] <;> rfl) (by simp only [kE, kT, kL, kC] <;> rfl) (by simp only [kE, kT, kL, kC] <;> rfl) rfl (by omega) (by omega)) (by simp only [kP] <;> rfl) ?_
    refine SN ?_
    refine SV ?_
    refine SOps.nil ?_
    refine TOps.nil ?_
    refine ⟨rfl, ?_, rfl, rfl⟩
    (repeat (first | exact trivial | refine leC ?_ | refine leK ?_ ?_)) <;> first | (refine .inl (congrArg V.bool ?_); first | (simp only [Int.toNat_natCast]; simp [hn9]; done) | (simp; omega)) | exact le_rfl' _
   refine OC (fun hb11 => ?_) (fun hb11 => ?_)
   ·
    try simp only [bsimp] at hb11
    rw [if_neg (by simpa using hb11)] at h1
    rw [← h1]
    refine OQ ?_
    iterate 3 (refine EV ?_)
    refine ON ?_
    refine Ok.ret ?_
    with_reducible repeat (first | refine thenQ_ret ?_ | refine blockQ_ret ?_)
    refine retQ.end (by show resVs tab _ [.tmp 4, .tmp 5, .tmp 6] = _; simp only [kE, kT, kL, kC] <;> rfl) rfl ?_
    rfl
   try simp only [bsimp] at hb11
   have hc : n + s[p + i].toNat % 128 * 128 ^ i ≤ 1000000000 ∧ varT (n + s[p + i].toNat % 128 * 128 ^ i) = (s.take (p + i + 1)).drop p := by simpa using hb11
   rw [if_pos hc] at h1
   rw [← h1]
   refine Ok.skip ?_
   refine OQ ?_
   iterate 2 (refine EV ?_)
   refine OkOps.ev tab_ok rfl (by simp only [kE, kT, kL, kC, wrap_add_one (show p + i + 1 ≤ 9223372036854775807 by omega)] <;> rfl) (by simp only [kP] <;> rfl) ?_
   iterate 3 (refine EV ?_)
   refine ON ?_
   refine Ok.ret ?_
   with_reducible repeat (first | refine thenQ_ret ?_ | refine blockQ_ret ?_)
   refine retQ.end (by show resVs tab _ [.tmp 4, .tmp 5, .tmp 6] = _; simp only [kE, kT, kL, kC] <;> rfl) rfl ?_
   rfl
  try simp only [bsimp] at hb10
  have hb : ¬ s[p + i].toNat < 128 := by omega
  rw [hf, rdV_hi hpi hb] at h1
  refine Ok.skip ?_
  refine Ok.region ?_
  iterate 3 (refine EV ?_)
  refine ON ?_
  refine ⟨(i + 1, n + s[p + i].toNat % 128 * 128 ^ i), ?_, rfl, rfl, ⟨h1, hgl.1, by omega⟩, by show 5 - (i + 1) < 5 - i; omega⟩
  (repeat (first | exact trivial | refine leC ?_ | refine leK ?_ ?_)) <;> first | (first | exact le_rfl' _ | (rw [wrap_add_one (by omega)]; exact le_rfl' _)) | exact le_rfl' _
 try simp only [bsimp] at hb6
 have he : ¬ (i < 5 ∧ p + i < s.length) := hb6
 have hr : rdV s p (5 - i) i n = none := by by_cases h : p + i < s.length; (rw [show 5 - i = 0 by omega]; rfl); exact rdV_end h
 refine Ok.exit ?_
 refine OQ ?_
 iterate 3 (refine EV ?_)
 refine ON ?_
 refine Ok.ret ?_
 with_reducible repeat (first | refine thenQ_ret ?_ | refine blockQ_ret ?_)
 refine retQ.end (by show resVs tab _ [.tmp 4, .tmp 5, .tmp 6] = _; simp only [kE, kT, kL, kC] <;> rfl) rfl ?_
 rw [← h1, hr]; rfl
theorem w_impl_ReadVar (s : Str) (z : Int) (hs : s.length ≤ 4611686018427387904) : Weak Tryz.prog 96 [.str s, .int .i64 z] (vR (readVar s z)) := by
 refine Weak.enter tab_ok Tryz.func96 rfl (.inr (by simp [V.labelsL, V.labels, zz])) (t := [.str s, .int .i64 z, .any, .any, .any, .any, .any, .any, .any, .any, .any, .any, .any, .any, .any, .any, .any, .any, .any, .any, .any, .any, .any, .any, .any, .any, .any, .any, .any, .any, .any, .any, .any, .any, .any, .any, .any, .any, .any, .any, .any, .any, .any, .any, .any, .any, .any, .any, .any, .any, .any, .any, .any, .any, .any, .any, .any, .any, .any, .any, .any, .any, .any, .any, .any, .any, .any, .any, .any]) rfl ?_
 refine OQ ?_
 iterate 3 (refine EV ?_)
 refine ON ?_
 refine Ok.seq ?_
 refine OQ ?_
 iterate 3 (refine EV ?_)
 refine OW cl124 (w_impl_within _ _ _) ?_
 refine EV ?_
 refine ON ?_
 refine OC (fun hb1 => ?_) (fun hb1 => ?_)
 ·
  try simp only [bsimp] at hb1
  rw [readVar, if_neg (by simp [hb1])]
  refine OQ ?_
  iterate 3 (refine EV ?_)
  refine ON ?_
  refine Ok.ret ?_
  with_reducible repeat (first | refine thenQ_ret ?_ | refine blockQ_ret ?_)
  refine retQ.end (by show resVs tab _ [.tmp 4, .tmp 5, .tmp 6] = _; simp only [kE, kT, kL, kC] <;> rfl) rfl ?_
  rfl
 try simp only [bsimp] at hb1
 rw [readVar, if_pos hb1]
 obtain ⟨p, rfl⟩ : ∃ p : Nat, z = p := ⟨z.toNat, by have := inR_t.1 hb1; omega⟩
 have hp : p ≤ s.length := by have := inR_t.1 hb1; omega
 rw [Int.toNat_natCast]
 refine Ok.skip ?_
 refine OQ ?_
 refine EV ?_
 refine ON ?_
 refine Ok.seq ?_
 refine OQ ?_
 refine EV ?_
 refine ON ?_
 refine Ok.block ?_
 refine Ok.loopW (τ := Nat × Nat) (fun x => [(7, .int .i64 (x.2 : Int)), (8, .int .i64 (x.1 : Int))]) [4, 5, 6, 9, 10, 16, 17, 18, 19, 20, 21, 22, 23, 24, 25, 26, 27, 28, 29, 30, 31, 32, 33, 34, 35, 36, 37, 38, 39, 40, 41, 42, 43, 44, 45, 46, 47, 48, 49, 50, 51, 52, 53, 54, 55, 56, 57, 58, 59, 60, 61, 62, 63, 64, 65, 66, 67, 68] (fun x => by simp only [kover] <;> rfl) (fun x => rdV s p (5 - x.1) x.1 x.2 = rdV s p 5 0 0 ∧ x.2 < 128 ^ x.1 ∧ x.1 ≤ 5) (fun x => 5 - x.1) (0, 0) (by (repeat (first | exact trivial | refine leC ?_ | refine leK ?_ ?_)) <;> first | (exact le_rfl' _) | exact le_rfl' _) (⟨rfl, by decide, by decide⟩) ?_
 rintro ⟨i, n⟩ ⟨h1, h2, h3⟩
 have h1 : rdV s p (5 - i) i n = rdV s p 5 0 0 := h1
 have h2 : n < 128 ^ i := h2
 have h3 : i ≤ 5 := h3
 refine Ok.seq ?_
 refine Ok.seqC [(25, .bool (decide (i < 5 ∧ p + i < s.length)))] [16, 17, 18, 19, 20, 21, 22, 23, 24] (by simp only [kover] <;> rfl) ?_ ?_
 ·
  refine Ok.region ?_
  iterate 3 (refine EV ?_)
  refine OP (d := 18) (fun hg5_2 => ?_) (fun hg5_2 => ?_)
  ·
   try simp only [bsimp] at hg5_2
   refine OX ?_
   refine OX ?_
   refine OO ?_
   refine OkOps.ev tab_ok rfl (by simp only [kE, kT, kL, kC, wrap_add_nat (show p + i ≤ 9223372036854775807 by omega)] <;> rfl) (by simp only [kP] <;> rfl) ?_
   refine OX ?_
   refine OX ?_
   refine OO ?_
   iterate 2 (refine EV ?_)
   refine ON ?_
   refine ⟨rfl, ?_, rfl, rfl⟩
   (repeat (first | exact trivial | refine leC ?_ | refine leK ?_ ?_)) <;> first | (refine .inl (congrArg V.bool ?_); rw [Bool.eq_iff_iff]; simp only [Bool.false_eq_true, false_iff, decide_eq_true_eq] at *; omega) | exact le_rfl' _
  try simp only [bsimp] at hg5_2
  iterate 6 (refine OU ?_)
  refine EV ?_
  refine ON ?_
  refine ⟨rfl, ?_, rfl, rfl⟩
  (repeat (first | exact trivial | refine leC ?_ | refine leK ?_ ?_)) <;> first | (refine .inl (congrArg V.bool ?_); rw [Bool.eq_iff_iff]; simp only [Bool.false_eq_true, false_iff, decide_eq_true_eq] at *; omega) | exact le_rfl' _
 refine OC (fun hb5 => ?_) (fun hb5 => ?_)
 ·
  try simp only [bsimp] at hb5
  obtain ⟨hi5, hpi⟩ : i < 5 ∧ p + i < s.length := hb5
  have hgl := grp_lt (b := s[p + i].toNat) hi5 h2
  have hf : 5 - i = (5 - (i + 1)) + 1 := by omega
  refine Ok.skip ?_
  refine Ok.seq ?_
  refine Ok.block ?_
  refine OQ ?_
  iterate 4 (refine EV ?_)
  refine OkOps.ev tab_ok rfl (by simp only [kE, kT, kL, kC, wrap_add_nat (show p + i ≤ 9223372036854775807 by omega)] <;> rfl) (by simp only [kP] <;> rfl) ?_
  refine OkOps.ev tab_ok rfl (ev_byte_lt (by simp only [kE, kT, kL, kC] <;> rfl) (by simp only [kE, kT, kL, kC] <;> rfl) (by omega) rfl) (by simp only [kP] <;> rfl) ?_
  refine OkOps.ev tab_ok rfl (by simp only [kE, kT, kL, kC, and_byte] <;> rfl) (by simp only [kP] <;> rfl) ?_
  refine OkOps.ev tab_ok rfl (by simp only [kE, kT, kL, kC, wrap_nat (show s[p + i].toNat % 128 ≤ 9223372036854775807 by omega)] <;> rfl) (by simp only [kP] <;> rfl) ?_
  refine EV ?_
  refine OkOps.ev tab_ok rfl (by simp only [kE, kT, kL, kC, mul7 hi5] <;> rfl) (by simp only [kP] <;> rfl) ?_
  refine OkOps.ev tab_ok rfl ((ev_shl (by simp only [kE, kT, kL, kC] <;> rfl) (by simp only [kE, kT, kL, kC] <;> rfl) (by omega)).trans (by simp only [shl_grp hi5] <;> rfl)) (by simp only [kP] <;> rfl) ?_
  refine OkOps.ev tab_ok rfl (by simp only [kE, kT, kL, kC, or_grp hi5 h2] <;> rfl) (by simp only [kP] <;> rfl) ?_
  refine EV ?_
  refine ON ?_
  refine Ok.seq ?_
  refine OQ ?_
  iterate 3 (refine EV ?_)
  refine OkOps.ev tab_ok rfl (by simp only [kE, kT, kL, kC, wrap_add_nat (show p + i ≤ 9223372036854775807 by omega)] <;> rfl) (by simp only [kP] <;> rfl) ?_
  refine OkOps.ev tab_ok rfl (ev_byte_lt (by simp only [kE, kT, kL, kC] <;> rfl) (by simp only [kE, kT, kL, kC] <;> rfl) (by omega) rfl) (by simp only [kP] <;> rfl) ?_
  refine EV ?_
  refine ON ?_
  refine OC (fun hb8 => ?_) (fun hb8 => ?_)
  ·
   try simp only [bsimp] at hb8
   have hb : ¬ s[p + i].toNat < 128 := by omega
   rw [hf, rdV_hi hpi hb] at h1
   refine Ok.exit ?_
   refine Ok.region ?_
   iterate 3 (refine EV ?_)
   refine ON ?_
   refine ⟨(i + 1, n + s[p + i].toNat % 128 * 128 ^ i), ?_, rfl, rfl, ⟨h1, hgl.1, by omega⟩, by show 5 - (i + 1) < 5 - i; omega⟩
   (repeat (first | exact trivial | refine leC ?_ | refine leK ?_ ?_)) <;> first | (first | exact le_rfl' _ | (rw [wrap_add_one (by omega)]; exact le_rfl' _)) | exact le_rfl' _
  try simp only [bsimp] at hb8
  have hb : s[p + i].toNat < 128 := by omega
  rw [hf, rdV_lo hpi hb] at h1
  refine Ok.skip ?_
  refine Ok.seq ?_
  refine OQ ?_
  refine EV ?_
  refine OW cl125 (w_impl_VarText _) ?_
  iterate 5 (refine EV ?_)
  refine ON ?_
  refine Ok.seqC [(63, .bool (!decide (n + s[p + i].toNat % 128 * 128 ^ i ≤ 1000000000 ∧ varT (n + s[p + i].toNat % 128 * 128 ^ i) = (s.take (p + i + 1)).drop p)))] [51, 52, 53, 54, 55, 56, 57, 58, 59, 60, 61, 62] (by simp only [kover] <;> rfl) ?_ ?_
  ·
   refine Ok.region ?_
   iterate 3 (refine EV ?_)
   refine OP (d := 53) (fun hg10_2 => ?_) (fun hg10_2 => ?_)
   ·
    try simp only [bsimp] at hg10_2
    have hn9 : ¬ n + s[p + i].toNat % 128 * 128 ^ i ≤ 1000000000 := fun hq => by rw [varText_t (inR_t.2 (by omega))] at hg10_2; simp at hg10_2
    iterate 9 (refine OU ?_)
    refine EV ?_
    refine ON ?_
    refine ⟨rfl, ?_, rfl, rfl⟩
    (repeat (first | exact trivial | refine leC ?_ | refine leK ?_ ?_)) <;> first | (refine .inl (congrArg V.bool ?_); first | (simp only [varText_t hk, Option.getD_some, Int.toNat_natCast]; simp [hn9]; done) | (simp only [Bool.true_eq, Bool.not_eq_true', decide_eq_false_iff_not]; exact fun hq => hn9 hq.1) | (simp [hn9]; done)) | exact le_rfl' _
   try simp only [bsimp] at hg10_2
   have hk : inR ((n + s[p + i].toNat % 128 * 128 ^ i : Nat) : Int) 0 1000000000 = true := by cases hq : inR ((n + s[p + i].toNat % 128 * 128 ^ i : Nat) : Int) 0 1000000000 with | true => rfl | false => rw [varText_f hq] at hg10_2; simp at hg10_2
   have hn9 : n + s[p + i].toNat % 128 * 128 ^ i ≤ 1000000000 := by have := inR_t.1 hk; omega
   iterate 5 (refine OX ?_)
   refine OO ?_
   refine OkOps.ev tab_ok rfl (by simp only [kE, kT, kL, kC, wrap_add_nat (show p + i ≤ 9223372036854775807 by omega)] <;> rfl) (by simp only [kP] <;> rfl) ?_
   refine OO ?_
   refine OkOps.ev tab_ok rfl (by simp only [kE, kT, kL, kC, wrap_add_one (show p + i + 1 ≤ 9223372036854775807 by omega)] <;> rfl) (by simp only [kP] <;> rfl) ?_
   refine OO ?_
   refine OkOps.ev tab_ok rfl (ev_cut (by simp only [kE, kT, kL, kC] <;> rfl) (by simp only [kE, kT, kL, kC] <;> rfl) (by simp only [kE, kT, kL, kC] <;> rfl) rfl (by omega) (by omega)) (by simp only [kP] <;> rfl) ?_
   refine OO ?_
   iterate 2 (refine EV ?_)
   refine ON ?_
   refine ⟨rfl, ?_, rfl, rfl⟩
   (repeat (first | exact trivial | refine leC ?_ | refine leK ?_ ?_)) <;> first | (refine .inl (congrArg V.bool ?_); first | (simp only [varText_t hk, Option.getD_some, Int.toNat_natCast]; simp [hn9]; done) | (simp only [Bool.true_eq, Bool.not_eq_true', decide_eq_false_iff_not]; exact fun hq => hn9 hq.1) | (simp [hn9]; done)) | exact le_rfl' _
  refine OC (fun hb10 => ?_) (fun hb10 => ?_)
  ·
   try simp only [bsimp] at hb10
   rw [if_neg (by simpa using hb10)] at h1
   rw [← h1]
   refine OQ ?_
   iterate 3 (refine EV ?_)
   refine ON ?_
   refine Ok.ret ?_
   with_reducible repeat (first | refine thenQ_ret ?_ | refine blockQ_ret ?_)
   refine retQ.end (by show resVs tab _ [.tmp 4, .tmp 5, .tmp 6] = _; simp only [kE, kT, kL, kC] <;> rfl) rfl ?_
   rfl
  try simp only [bsimp] at hb10
  have hc : n + s[p + i].toNat % 128 * 128 ^ i ≤ 1000000000 ∧ varT (n + s[p + i].toNat % 128 * 128 ^ i) = (s.take (p + i + 1)).drop p := by simpa using hb10
  rw [if_pos hc] at h1
  rw [← h1]
  refine Ok.skip ?_
  refine OQ ?_
  iterate 3 (refine EV ?_)
  refine OkOps.ev tab_ok rfl (by simp only [kE, kT, kL, kC, wrap_add_nat (show p + i ≤ 9223372036854775807 by omega)] <;> rfl) (by simp only [kP] <;> rfl) ?_
  refine OkOps.ev tab_ok rfl (by simp only [kE, kT, kL, kC, wrap_add_one (show p + i + 1 ≤ 9223372036854775807 by omega)] <;> rfl) (by simp only [kP] <;> rfl) ?_
  iterate 3 (refine EV ?_)
  refine ON ?_
  refine Ok.ret ?_
  with_reducible repeat (first | refine thenQ_ret ?_ | refine blockQ_ret ?_)
  refine retQ.end (by show resVs tab _ [.tmp 4, .tmp 5, .tmp 6] = _; simp only [kE, kT, kL, kC] <;> rfl) rfl ?_
  rfl
 try simp only [bsimp] at hb5
 have he : ¬ (i < 5 ∧ p + i < s.length) := hb5
 have hr : rdV s p (5 - i) i n = none := by by_cases h : p + i < s.length; (rw [show 5 - i = 0 by omega]; rfl); exact rdV_end h
 refine Ok.exit ?_
 refine OQ ?_
 iterate 3 (refine EV ?_)
 refine ON ?_
 refine Ok.ret ?_
 with_reducible repeat (first | refine thenQ_ret ?_ | refine blockQ_ret ?_)
 refine retQ.end (by show resVs tab _ [.tmp 4, .tmp 5, .tmp 6] = _; simp only [kE, kT, kL, kC] <;> rfl) rfl ?_
 rw [← h1, hr]; rfl
theorem w_spec_ReadShort (s : Str) (z : Int) (hs : s.length ≤ 4611686018427387904) : Weak Tryz.prog 206 [.str s, .int .i64 z] (vS (readShort s z)) := by
 refine Weak.enter tab_ok Tryz.func206 rfl (.inr (by simp [V.labelsL, V.labels, zz])) (t := [.str s, .int .i64 z, .any, .any, .any, .any, .any, .any, .any, .any, .any, .any, .any, .any, .any, .any, .any, .any, .any, .any, .any, .any, .any, .any, .any, .any, .any, .any, .any, .any, .any, .any, .any, .any, .any, .any, .any, .any, .any, .any]) rfl ?_
 refine OQ ?_
 iterate 3 (refine EV ?_)
 refine ON ?_
 refine OQ ?_
 iterate 2 (refine EV ?_)
 refine OW cl155 (w_spec_ReadVar s z hs) ?_
 iterate 7 (refine EV ?_)
 refine ON ?_
 refine Ok.seq ?_
 refine Ok.seqC [(30, .bool (!(readShort s z).isSome))] [17, 18, 19, 20, 21, 22, 23, 24, 25, 26, 27, 28, 29] (by simp only [kover] <;> rfl) ?_ ?_
 ·
  refine Ok.region ?_
  iterate 3 (refine EV ?_)
  refine OP (d := 19) (fun hg2_2 => ?_) (fun hg2_2 => ?_)
  ·
   try simp only [bsimp] at hg2_2
   refine OU ?_
   refine OU ?_
   iterate 2 (refine EV ?_)
   iterate 6 (refine OU ?_)
   refine EV ?_
   refine ON ?_
   refine ⟨rfl, ?_, rfl, rfl⟩
   (repeat (first | exact trivial | refine leC ?_ | refine leK ?_ ?_)) <;> first | (refine .inl (congrArg V.bool ?_); (rw [short_cond hs]; first | (simp [*]; done) | (simp_all; done))) | exact le_rfl' _
  try simp only [bsimp] at hg2_2
  refine OX ?_
  refine OO ?_
  iterate 3 (refine EV ?_)
  refine OP (d := 23) (fun hg2_6 => ?_) (fun hg2_6 => ?_)
  ·
   try simp only [bsimp] at hg2_6
   iterate 6 (refine OU ?_)
   refine EV ?_
   refine ON ?_
   refine ⟨rfl, ?_, rfl, rfl⟩
   (repeat (first | exact trivial | refine leC ?_ | refine leK ?_ ?_)) <;> first | (refine .inl (congrArg V.bool ?_); (rw [short_cond hs]; first | (simp [*]; done) | (simp_all; done))) | exact le_rfl' _
  try simp only [bsimp] at hg2_6
  iterate 5 (refine OX ?_)
  refine OO ?_
  iterate 2 (refine EV ?_)
  refine ON ?_
  refine ⟨rfl, ?_, rfl, rfl⟩
  (repeat (first | exact trivial | refine leC ?_ | refine leK ?_ ?_)) <;> first | (refine .inl (congrArg V.bool ?_); (rw [short_cond hs]; first | (simp [*]; done) | (simp_all; done))) | exact le_rfl' _
 refine OC (fun hb2 => ?_) (fun hb2 => ?_)
 ·
  try simp only [bsimp] at hb2
  have hn : readShort s z = none := by simpa using hb2
  rw [hn]
  refine OQ ?_
  iterate 3 (refine EV ?_)
  refine ON ?_
  refine Ok.ret ?_
  with_reducible repeat (first | refine thenQ_ret ?_ | refine blockQ_ret ?_)
  refine retQ.end (by show resVs tab _ [.tmp 4, .tmp 5, .tmp 6] = _; simp only [kE, kT, kL, kC] <;> rfl) rfl ?_
  rfl
 try simp only [bsimp] at hb2
 obtain ⟨q, hq⟩ : ∃ q, readShort s z = some q := Option.isSome_iff_exists.1 (by simpa using hb2)
 obtain ⟨m, e, hv, hme, rfl⟩ : ∃ m e, readVar s z = some (m, e) ∧ (m ≤ 20000 ∧ m + e ≤ s.length) ∧ q = ((s.take (e + m)).drop e, e + m) := by
   unfold readShort at hq
   split at hq
   · rename_i m e hv
     split at hq
     · rename_i hme; exact ⟨m, e, hv, hme, (Option.some.inj hq).symm⟩
     · cases hq
   · cases hq
 rw [hq]
 simp only [hv, Option.getD_some, Option.isSome_some]
 refine Ok.skip ?_
 refine OQ ?_
 iterate 4 (refine EV ?_)
 refine OkOps.ev tab_ok rfl (by simp only [kE, kT, kL, kC, wrap_add_nat (show e + m ≤ 9223372036854775807 by omega)] <;> rfl) (by simp only [kP] <;> rfl) ?_
 refine OkOps.ev tab_ok rfl (ev_cut (by simp only [kE, kT, kL, kC] <;> rfl) (by simp only [kE, kT, kL, kC] <;> rfl) (by simp only [kE, kT, kL, kC] <;> rfl) rfl (by omega) (by omega)) (by simp only [kP] <;> rfl) ?_
 iterate 2 (refine EV ?_)
 refine OkOps.ev tab_ok rfl (by simp only [kE, kT, kL, kC, wrap_add_nat (show e + m ≤ 9223372036854775807 by omega)] <;> rfl) (by simp only [kP] <;> rfl) ?_
 iterate 3 (refine EV ?_)
 refine ON ?_
 refine Ok.ret ?_
 with_reducible repeat (first | refine thenQ_ret ?_ | refine blockQ_ret ?_)
 refine retQ.end (by show resVs tab _ [.tmp 4, .tmp 5, .tmp 6] = _; simp only [kE, kT, kL, kC] <;> rfl) rfl ?_
 rfl
theorem w_spec_Unsealed (t : Str) (ht : t.length ≤ 4611686018427387904) : Weak Tryz.prog 100 [.str t] (vO (unsealed t)) := by
 refine Weak.enter tab_ok Tryz.func100 rfl (.inr (by simp [V.labelsL, V.labels, zz])) (t := [.str t, .any, .any, .any, .any, .any, .any, .any, .any, .any, .any, .any, .any, .any, .any, .any, .any, .any, .any, .any, .any, .any, .any, .any, .any, .any, .any, .any]) rfl ?_
 refine OQ ?_
 iterate 2 (refine EV ?_)
 refine ON ?_
 refine OQ ?_
 iterate 4 (refine EV ?_)
 refine ON ?_
 refine Ok.seq ?_
 refine Ok.seqC [(24, .bool (!(unsealed t).isSome))] [8, 9, 10, 11, 12, 13, 14, 15, 16, 17, 18, 19, 20, 21, 22, 23] (by simp only [kover] <;> rfl) ?_ ?_
 ·
  refine Ok.drawn 17 28 [] (by kernel_rfl) (by kernel_rfl) rfl ?_
  iterate 3 (refine SV ?_)
  refine SOps.split (d := 10) (by simp only [kE, kT, kL, kC] <;> rfl) (by simp only [kP] <;> rfl) (by simp only [kP] <;> rfl) (fun hg2_2 => ?_) (fun hg2_2 => ?_)
  ·
   try simp only [bsimp] at hg2_2
   refine SU ?_
   refine SU ?_
   iterate 2 (refine SV ?_)
   iterate 9 (refine SU ?_)
   refine SV ?_
   refine SOps.nil ?_
   refine TOps.nil ?_
   refine ⟨rfl, ?_, rfl, rfl⟩
   (repeat (first | exact trivial | refine leC ?_ | refine leK ?_ ?_)) <;> first | (refine .inl (congrArg V.bool ?_); rw [unsealed_condS ht]; first | (simp [*]; done) | (simp [*]; rintro (h | h) <;> omega) | (simp_all; done)) | exact le_rfl' _
  try simp only [bsimp] at hg2_2
  have h4 : 4 ≤ t.length := by have := wrap_lt4 ht; omega
  have hsub := wrap_sub4 h4 ht
  refine SN ?_
  refine SN ?_
  iterate 2 (refine SV ?_)
  refine SOps.split (d := 14) (by simp only [kE, kT, kL, kC] <;> rfl) (by simp only [kP] <;> rfl) (by simp only [kP] <;> rfl) (fun hg2_6 => ?_) (fun hg2_6 => ?_)
  ·
   try simp only [bsimp] at hg2_6
   iterate 9 (refine SU ?_)
   refine SV ?_
   refine SOps.nil ?_
   refine TOps.nil ?_
   refine ⟨rfl, ?_, rfl, rfl⟩
   (repeat (first | exact trivial | refine leC ?_ | refine leK ?_ ?_)) <;> first | (refine .inl (congrArg V.bool ?_); rw [unsealed_condS ht]; first | (simp [*]; done) | (simp [*]; rintro (h | h) <;> omega) | (simp_all; done)) | exact le_rfl' _
  try simp only [bsimp] at hg2_6
  refine SN ?_
  refine SOps.onEv tab_ok rfl rfl (by simp only [kE, kT, kL, kC]) (by simp only [kE, kT, kL, kC, hsub] <;> rfl) (by simp only [kP] <;> rfl) ?_
  refine SOps.onEv tab_ok rfl rfl (by simp only [kE, kT, kL, kC]) (ev_cutLo (by simp only [kE, kT, kL, kC] <;> rfl) (by simp only [kE, kT, kL, kC] <;> rfl) rfl (by omega)) (by simp only [kP] <;> rfl) ?_
  refine SN ?_
  refine SOps.onEv tab_ok rfl rfl (by simp only [kE, kT, kL, kC]) (by simp only [kE, kT, kL, kC, hsub] <;> rfl) (by simp only [kP] <;> rfl) ?_
  refine SOps.onEv tab_ok rfl rfl (by simp only [kE, kT, kL, kC]) (ev_cutHi (by simp only [kE, kT, kL, kC] <;> rfl) (by simp only [kE, kT, kL, kC] <;> rfl) rfl (by omega)) (by simp only [kP] <;> rfl) ?_
  refine SOps.onS0 rfl rfl (by simp only [kE, kT, kL, kC]) (OpS.weakM rfl (by simp only [kE, kT, kL, kC] <;> rfl) (by simp only [kE, kT, kL, kC] <;> rfl) cl154 (w_spec_SumOf (t.take (t.length - 4)) (by rw [List.length_take]; omega))) (by simp only [kP] <;> rfl) ?_
  refine SOps.onS0 rfl rfl (by simp only [kE, kT, kL, kC]) (OpS.weakM rfl (by simp only [kE, kT, kL, kC] <;> rfl) (by simp only [kE, kT, kL, kC] <;> rfl) cl153 (w_spec_l02Four _)) (by simp only [kP] <;> rfl) ?_
  refine SN ?_
  refine SV ?_
  refine SOps.nil ?_
  refine TOps.nil ?_
  refine ⟨rfl, ?_, rfl, rfl⟩
  (repeat (first | exact trivial | refine leC ?_ | refine leK ?_ ?_)) <;> first | (refine .inl (congrArg V.bool ?_); rw [unsealed_condS ht]; first | (simp [*]; done) | (simp [*]; rintro (h | h) <;> omega) | (simp_all; done)) | exact le_rfl' _
 refine OC (fun hb2 => ?_) (fun hb2 => ?_)
 ·
  try simp only [bsimp] at hb2
  have hn : unsealed t = none := by simpa using hb2
  rw [hn]
  refine OQ ?_
  iterate 2 (refine EV ?_)
  refine ON ?_
  refine Ok.ret ?_
  with_reducible repeat (first | refine thenQ_ret ?_ | refine blockQ_ret ?_)
  refine RT ?_
  rfl
 try simp only [bsimp] at hb2
 obtain ⟨q, hq⟩ : ∃ q, unsealed t = some q := Option.isSome_iff_exists.1 (by simpa using hb2)
 have hc := unsealed_len hq
 rw [hq, hc.2.2]
 have hsub := wrap_sub4 hc.1 ht
 refine Ok.skip ?_
 refine OQ ?_
 refine EV ?_
 refine OkOps.ev tab_ok rfl (by simp only [kE, kT, kL, kC, hsub] <;> rfl) (by simp only [kP] <;> rfl) ?_
 refine OkOps.ev tab_ok rfl (ev_cutHi (by simp only [kE, kT, kL, kC] <;> rfl) (by simp only [kE, kT, kL, kC] <;> rfl) rfl (by omega)) (by simp only [kP] <;> rfl) ?_
 iterate 2 (refine EV ?_)
 refine ON ?_
 refine Ok.ret ?_
 with_reducible repeat (first | refine thenQ_ret ?_ | refine blockQ_ret ?_)
 refine RT ?_
 rfl
theorem c_spec_l05Var (c : Scan) (L : Nat) (hs : c.text.length ≤ 4611686018427387904) {h : List V} {n : Nat}  : OkCall Tryz.prog 101 [.ptr (L + 1) 0 0 (cScan c)] h n (fun r h1 n1 => r = .int .i64 ((scanNum c).1 : Int) ∧ h1 = V.updL (L + 1) 0 (cScan (scanNum c).2) h ∧ n1 = n) := by
 refine OkCall.enter' tab_ok Tryz.func101 rfl (t := [.ptr (L + 1) 0 0 (cScan c), .any, .any, .any, .any, .any, .any, .any, .any, .any, .any, .any, .any, .any, .any, .any, .any, .any, .any, .any, .any, .any, .any, .any, .any, .any, .any, .any, .any, .any, .any, .any, .any, .any, .any]) rfl ?_
 refine OQ ?_
 refine EV ?_
 refine ON ?_
 refine Ok.seq ?_
 refine Ok.drawn 16 35 [] (by kernel_rfl) (by kernel_rfl) rfl ?_
 iterate 8 (refine SV ?_)
 refine SOps.S0 rfl (OpS.weakM rfl (by simp only [kE, kT, kL, kC] <;> rfl) (by simp only [kE, kT, kL, kC] <;> rfl) cl155 (w_spec_ReadVar c.text c.pos hs)) (by simp only [kP] <;> rfl) ?_
 iterate 7 (refine SV ?_)
 refine SOps.nil ?_
 refine TOps.nil ?_
 refine Ok.seq ?_
 refine Ok.seqC [(26, .bool (c.bad || !(readVar c.text c.pos).isSome))] [19, 20, 21, 22, 23, 24, 25] (by simp only [kover] <;> rfl) ?_ ?_
 ·
  refine Ok.region ?_
  iterate 5 (refine EV ?_)
  refine OP (d := 23) (fun hg2_4 => ?_) (fun hg2_4 => ?_)
  ·
   try simp only [bsimp] at hg2_4
   refine OU ?_
   refine OU ?_
   refine EV ?_
   refine ON ?_
   refine ⟨rfl, ?_, rfl, rfl⟩
   (repeat (first | exact trivial | refine leC ?_ | refine leK ?_ ?_)) <;> first | (refine .inl (congrArg V.bool ?_); first | (simp [*]; done) | (simp_all; done)) | exact le_rfl' _
  try simp only [bsimp] at hg2_4
  refine OX ?_
  refine OO ?_
  iterate 2 (refine EV ?_)
  refine ON ?_
  refine ⟨rfl, ?_, rfl, rfl⟩
  (repeat (first | exact trivial | refine leC ?_ | refine leK ?_ ?_)) <;> first | (refine .inl (congrArg V.bool ?_); first | (simp [*]; done) | (simp_all; done)) | exact le_rfl' _
 refine OC (fun hb2 => ?_) (fun hb2 => ?_)
 ·
  try simp only [bsimp] at hb2
  have hsc := scanNum_t hb2
  rw [hsc]
  refine OQ ?_
  iterate 3 (refine EV ?_)
  refine OkOps.storeE tab_ok rfl rfl (by simp only [kE, kT, kL, kC] <;> rfl) ⟨_, _, by simp only [kE]; rfl⟩ (by first | (simp [V.labelsL, V.labelsLL, V.labels, zz]; done) | (simp [-List.map_map, -List.map_set, -List.map_drop, -List.map_take, -List.map_tail, -List.drop_one, V.labelsL, V.labelsLL, V.labels, zz]; done)) (by simp only [eq_self, V.updL, V.travL, V.travLL, V.trav, updS, updP, and_self, true_and, and_true, false_and, and_false, Nat.reduceEqDiff, Nat.reduceSub, Nat.le_refl, Nat.zero_le, ↓reduceIte, if_true, if_false, kP, zz] <;> rfl) (rfl) ?_
  refine ON ?_
  refine OQ ?_
  refine EV ?_
  refine ON ?_
  refine Ok.ret ?_
  with_reducible repeat (first | refine thenQ_ret ?_ | refine blockQ_ret ?_)
  refine RT ?_
  exact ⟨rfl, rfl, rfl⟩
 try simp only [bsimp] at hb2
 obtain ⟨m, e, hv, hsc⟩ := scanNum_f hb2
 rw [hsc]
 simp only [hv, Option.getD_some, Option.isSome_some]
 refine Ok.skip ?_
 refine OQ ?_
 iterate 4 (refine EV ?_)
 refine OkOps.storeE tab_ok rfl rfl (by simp only [kE, kT, kL, kC] <;> rfl) ⟨_, _, by simp only [kE]; rfl⟩ (by first | (simp [V.labelsL, V.labelsLL, V.labels, zz]; done) | (simp [-List.map_map, -List.map_set, -List.map_drop, -List.map_take, -List.map_tail, -List.drop_one, V.labelsL, V.labelsLL, V.labels, zz]; done)) (by simp only [eq_self, V.updL, V.travL, V.travLL, V.trav, updS, updP, and_self, true_and, and_true, false_and, and_false, Nat.reduceEqDiff, Nat.reduceSub, Nat.le_refl, Nat.zero_le, ↓reduceIte, if_true, if_false, kP, zz] <;> rfl) (rfl) ?_
 refine ON ?_
 refine OQ ?_
 iterate 2 (refine EV ?_)
 refine ON ?_
 refine Ok.ret ?_
 with_reducible repeat (first | refine thenQ_ret ?_ | refine blockQ_ret ?_)
 refine RT ?_
 exact ⟨rfl, rfl, rfl⟩
theorem c_spec_l05Short (c : Scan) (L : Nat) (hs : c.text.length ≤ 4611686018427387904) {h : List V} {n : Nat}  : OkCall Tryz.prog 156 [.ptr (L + 1) 0 0 (cScan c)] h n (fun r h1 n1 => r = .str (scanShort c).1 ∧ h1 = V.updL (L + 1) 0 (cScan (scanShort c).2) h ∧ n1 = n) := by
 refine OkCall.enter' tab_ok Tryz.func156 rfl (t := [.ptr (L + 1) 0 0 (cScan c), .any, .any, .any, .any, .any, .any, .any, .any, .any, .any, .any, .any, .any, .any, .any, .any, .any, .any, .any, .any, .any, .any, .any, .any, .any, .any, .any, .any, .any, .any, .any, .any, .any, .any]) rfl ?_
 refine OQ ?_
 refine EV ?_
 refine ON ?_
 refine Ok.seq ?_
 refine Ok.drawn 16 35 [] (by kernel_rfl) (by kernel_rfl) rfl ?_
 iterate 8 (refine SV ?_)
 refine SOps.S0 rfl (OpS.weakM rfl (by simp only [kE, kT, kL, kC] <;> rfl) (by simp only [kE, kT, kL, kC] <;> rfl) cl206 (w_spec_ReadShort c.text c.pos hs)) (by simp only [kP] <;> rfl) ?_
 iterate 7 (refine SV ?_)
 refine SOps.nil ?_
 refine TOps.nil ?_
 refine Ok.seq ?_
 refine Ok.seqC [(26, .bool (c.bad || !(readShort c.text c.pos).isSome))] [19, 20, 21, 22, 23, 24, 25] (by simp only [kover] <;> rfl) ?_ ?_
 ·
  refine Ok.region ?_
  iterate 5 (refine EV ?_)
  refine OP (d := 23) (fun hg2_4 => ?_) (fun hg2_4 => ?_)
  ·
   try simp only [bsimp] at hg2_4
   refine OU ?_
   refine OU ?_
   refine EV ?_
   refine ON ?_
   refine ⟨rfl, ?_, rfl, rfl⟩
   (repeat (first | exact trivial | refine leC ?_ | refine leK ?_ ?_)) <;> first | (refine .inl (congrArg V.bool ?_); first | (simp [*]; done) | (simp_all; done)) | exact le_rfl' _
  try simp only [bsimp] at hg2_4
  refine OX ?_
  refine OO ?_
  iterate 2 (refine EV ?_)
  refine ON ?_
  refine ⟨rfl, ?_, rfl, rfl⟩
  (repeat (first | exact trivial | refine leC ?_ | refine leK ?_ ?_)) <;> first | (refine .inl (congrArg V.bool ?_); first | (simp [*]; done) | (simp_all; done)) | exact le_rfl' _
 refine OC (fun hb2 => ?_) (fun hb2 => ?_)
 ·
  try simp only [bsimp] at hb2
  have hsc := scanShort_t hb2
  rw [hsc]
  refine OQ ?_
  iterate 3 (refine EV ?_)
  refine OkOps.storeE tab_ok rfl rfl (by simp only [kE, kT, kL, kC] <;> rfl) ⟨_, _, by simp only [kE]; rfl⟩ (by first | (simp [V.labelsL, V.labelsLL, V.labels, zz]; done) | (simp [-List.map_map, -List.map_set, -List.map_drop, -List.map_take, -List.map_tail, -List.drop_one, V.labelsL, V.labelsLL, V.labels, zz]; done)) (by simp only [eq_self, V.updL, V.travL, V.travLL, V.trav, updS, updP, and_self, true_and, and_true, false_and, and_false, Nat.reduceEqDiff, Nat.reduceSub, Nat.le_refl, Nat.zero_le, ↓reduceIte, if_true, if_false, kP, zz] <;> rfl) (rfl) ?_
  refine ON ?_
  refine OQ ?_
  refine EV ?_
  refine ON ?_
  refine Ok.ret ?_
  with_reducible repeat (first | refine thenQ_ret ?_ | refine blockQ_ret ?_)
  refine RT ?_
  exact ⟨rfl, rfl, rfl⟩
 try simp only [bsimp] at hb2
 obtain ⟨m, e, hv, hsc⟩ := scanShort_f hb2
 rw [hsc]
 simp only [hv, Option.getD_some, Option.isSome_some]
 refine Ok.skip ?_
 refine OQ ?_
 iterate 4 (refine EV ?_)
 refine OkOps.storeE tab_ok rfl rfl (by simp only [kE, kT, kL, kC] <;> rfl) ⟨_, _, by simp only [kE]; rfl⟩ (by first | (simp [V.labelsL, V.labelsLL, V.labels, zz]; done) | (simp [-List.map_map, -List.map_set, -List.map_drop, -List.map_take, -List.map_tail, -List.drop_one, V.labelsL, V.labelsLL, V.labels, zz]; done)) (by simp only [eq_self, V.updL, V.travL, V.travLL, V.trav, updS, updP, and_self, true_and, and_true, false_and, and_false, Nat.reduceEqDiff, Nat.reduceSub, Nat.le_refl, Nat.zero_le, ↓reduceIte, if_true, if_false, kP, zz] <;> rfl) (rfl) ?_
 refine ON ?_
 refine OQ ?_
 iterate 2 (refine EV ?_)
 refine ON ?_
 refine Ok.ret ?_
 with_reducible repeat (first | refine thenQ_ret ?_ | refine blockQ_ret ?_)
 refine RT ?_
 exact ⟨rfl, rfl, rfl⟩
end Go.Proofs.YtjhfabimacljhaaGreat.K

/- Walks: what is right of registers, flags, names, mails. Printed by w2.py. -/
namespace Go.Proofs.YtjhfabimacljhaaGreat.K
open Go Go.RowKit
set_option linter.unusedVariables false
set_option linter.unusedSimpArgs false
theorem wrap_pred {i : Nat} (h : 0 < i) (h2 : i ≤ 9223372036854775807) : IntKind.i64.wrap ((i : Int) - 1) = ((i - 1 : Nat) : Int) := by rw [IntKind.wrap_i64]; omega
set_option maxHeartbeats 4000000
set_option maxRecDepth 20000
theorem w_impl_isGid (x : Int) : Weak Tryz.prog 214 [.int .i64 x] (.bool (gidOk x)) := by
 refine Weak.enter tab_ok Tryz.func214 rfl (.inr (by simp [V.labelsL, V.labels, zz, zf, zy])) (t := [.int .i64 x, .any, .any, .any, .any]) rfl ?_
 refine OQ ?_
 refine EV ?_
 refine ON ?_
 refine OQ ?_
 refine EV ?_
 refine OW cl124 (w_impl_within x 1 9999) ?_
 refine EV ?_
 refine ON ?_
 refine Ok.ret ?_
 with_reducible repeat (first | refine thenQ_ret ?_ | refine blockQ_ret ?_)
 refine RT ?_
 rfl
theorem w_impl_StampOk (s : Stamp) : Weak Tryz.prog 216 [.agg (cStamp s)] (.bool (stampOk s)) := by
 refine Weak.enter tab_ok Tryz.func216 rfl (.inr (by simp [V.labelsL, V.labels, zz, zf, zy])) (t := [.agg (cStamp s), .any, .any, .any, .any, .any, .any, .any, .any, .any, .any]) rfl ?_
 refine OQ ?_
 iterate 2 (refine EV ?_)
 refine ON ?_
 refine OQ ?_
 iterate 2 (refine EV ?_)
 refine OW cl124 (w_impl_within _ _ _) ?_
 refine EV ?_
 refine OP (d := 6) (fun hg1_3 => ?_) (fun hg1_3 => ?_)
 ·
  try simp only [bsimp] at hg1_3
  refine OX ?_
  refine OX ?_
  refine OO ?_
  refine OW cl124 (w_impl_within _ _ _) ?_
  iterate 2 (refine EV ?_)
  refine ON ?_
  refine Ok.ret ?_
  with_reducible repeat (first | refine thenQ_ret ?_ | refine blockQ_ret ?_)
  refine RT ?_
  first | (simp_all [stampOk, V.erase, V.trav, packV]; done) | (simp_all [stampOk, V.erase, V.trav, packV] <;> omega)
 try simp only [bsimp] at hg1_3
 iterate 3 (refine OU ?_)
 iterate 2 (refine EV ?_)
 refine ON ?_
 refine Ok.ret ?_
 with_reducible repeat (first | refine thenQ_ret ?_ | refine blockQ_ret ?_)
 refine RT ?_
 first | (simp_all [stampOk, V.erase, V.trav, packV]; done) | (simp_all [stampOk, V.erase, V.trav, packV] <;> omega)
theorem w_impl_RegOk (r : Reg) : Weak Tryz.prog 254 [.agg (cReg r)] (.bool (regOk r)) := by
 refine Weak.enter tab_ok Tryz.func254 rfl (.inr (by simp [V.labelsL, V.labels, zz, zf, zy])) (t := [.agg (cReg r), .any, .any, .any, .any, .any, .any, .any, .any, .any, .any]) rfl ?_
 refine OQ ?_
 iterate 2 (refine EV ?_)
 refine ON ?_
 refine OQ ?_
 iterate 2 (refine EV ?_)
 refine OW cl216 (w_impl_StampOk r.stamp) ?_
 refine EV ?_
 refine OP (d := 6) (fun hg1_3 => ?_) (fun hg1_3 => ?_)
 ·
  try simp only [bsimp] at hg1_3
  refine OX ?_
  refine OX ?_
  refine OO ?_
  refine OW cl124 (w_impl_within _ _ _) ?_
  iterate 2 (refine EV ?_)
  refine ON ?_
  refine Ok.ret ?_
  with_reducible repeat (first | refine thenQ_ret ?_ | refine blockQ_ret ?_)
  refine RT ?_
  first | (simp_all [regOk, V.erase, V.trav, packV]; done) | (simp_all [regOk, V.erase, V.trav, packV] <;> omega)
 try simp only [bsimp] at hg1_3
 iterate 3 (refine OU ?_)
 iterate 2 (refine EV ?_)
 refine ON ?_
 refine Ok.ret ?_
 with_reducible repeat (first | refine thenQ_ret ?_ | refine blockQ_ret ?_)
 refine RT ?_
 first | (simp_all [regOk, V.erase, V.trav, packV]; done) | (simp_all [regOk, V.erase, V.trav, packV] <;> omega)
theorem w_impl_FlagsOk (a : List Reg) (ha : a.length ≤ 4611686018427387904) : Weak Tryz.prog 242 [.sl 0 3 0 (a.map cReg)] (.bool (flagsOk a)) := by
 refine Weak.enter tab_ok Tryz.func242 rfl (.inr (by simp [V.labelsL, V.labels, V.labelsLL, zz, zf, zy, or_imp, forall_and])) (t := [.sl 0 3 0 (a.map cReg), .any, .any, .any, .any, .any, .any, .any, .any, .any, .any, .any, .any, .any, .any, .any, .any, .any, .any, .any, .any, .any, .any]) rfl ?_
 refine OQ ?_
 refine EV ?_
 refine ON ?_
 refine Ok.seq ?_
 refine OQ ?_
 iterate 3 (refine EV ?_)
 refine ON ?_
 refine Ok.block ?_
 refine Ok.loopWZ (τ := Nat) (fun x => [(7, .int .i64 (x : Int))]) [2, 4, 8, 9, 10, 11, 12, 13, 14, 15, 16, 17, 18, 19] (fun x => by simp only [kover] <;> rfl) (fun x => x ≤ a.length ∧ ∀ k, k < x → atB a flagOk k = true) (fun x => a.length - x) 0 (by omega) (by (repeat (first | exact trivial | refine leC ?_ | refine leK ?_ ?_)) <;> first | (exact le_rfl' _) | exact le_rfl' _) (⟨Nat.zero_le _, fun k h => by omega⟩) ?_
 rintro i ⟨h1, h2⟩
 refine OQ ?_
 refine EV ?_
 refine ON ?_
 refine Ok.seq ?_
 refine OC (fun hb2 => ?_) (fun hb2 => ?_)
 ·
  try simp only [bsimp] at hb2
  have hi : i < a.length := by omega
  have hat := atB_get (p := flagOk) hi
  refine Ok.skip ?_
  refine Ok.seq ?_
  refine Ok.block ?_
  refine OQ ?_
  refine OkOps.ev tab_ok rfl (ev_idx_map (by simp only [kE, kT, kL, kC] <;> rfl) (by simp only [kE, kT, kL, kC] <;> rfl) (by omega) (by simp only [kE, kT, kL, kC] <;> rfl)) (by simp only [kP] <;> rfl) ?_
  iterate 2 (refine EV ?_)
  refine OE ?_
  refine ON ?_
  refine Ok.seqC [(18, .bool (!atB a flagOk i))] [11, 12, 13, 14, 15, 16, 17] (by simp only [kover] <;> rfl) ?_ ?_
  ·
   refine Ok.region ?_
   refine EV ?_
   refine OW cl254 (w_impl_RegOk a[i]) ?_
   iterate 2 (refine EV ?_)
   refine OP (d := 14) (fun hg4_3 => ?_) (fun hg4_3 => ?_)
   ·
    try simp only [bsimp] at hg4_3
    iterate 3 (refine OU ?_)
    refine EV ?_
    refine ON ?_
    refine ⟨rfl, ?_, rfl, rfl⟩
    (repeat (first | exact trivial | refine leC ?_ | refine leK ?_ ?_)) <;> first | (refine .inl (congrArg V.bool ?_); (first | (simp [flagOk, *]; done) | (simp [flagOk, *] <;> omega) | (rw [Bool.eq_iff_iff]; simp [flagOk, *] <;> omega) | (simp_all [flagOk]; done) | (simp_all [flagOk]; omega))) | exact le_rfl' _
   try simp only [bsimp] at hg4_3
   refine OX ?_
   refine OX ?_
   refine OO ?_
   iterate 2 (refine EV ?_)
   refine ON ?_
   refine ⟨rfl, ?_, rfl, rfl⟩
   (repeat (first | exact trivial | refine leC ?_ | refine leK ?_ ?_)) <;> first | (refine .inl (congrArg V.bool ?_); (first | (simp [flagOk, *]; done) | (simp [flagOk, *] <;> omega) | (rw [Bool.eq_iff_iff]; simp [flagOk, *] <;> omega) | (simp_all [flagOk]; done) | (simp_all [flagOk]; omega))) | exact le_rfl' _
  refine OC (fun hb4 => ?_) (fun hb4 => ?_)
  ·
   try simp only [bsimp] at hb4
   have e : flagsOk a = false := by unfold flagsOk; rw [allUp_no hi hb4, Bool.false_and]
   rw [e]
   refine OQ ?_
   refine EV ?_
   refine ON ?_
   refine Ok.ret ?_
   with_reducible repeat (first | refine thenQ_ret ?_ | refine blockQ_ret ?_)
   refine RT ?_
   rfl
  try simp only [bsimp] at hb4
  refine Ok.skip ?_
  refine Ok.region ?_
  iterate 2 (refine EV ?_)
  refine ON ?_
  refine ⟨i + 1, ?_, rfl, ⟨by omega, up_next h2 hb4⟩, by omega⟩
  simp only [V.renL, V.travL, V.travLL, V.trav, frz, zz, zf, zy, Nat.reduceLeDiff, ↓reduceIte]
  (repeat (first | exact trivial | refine leC ?_ | refine leK ?_ ?_)) <;> first | ((rw [wrap_add_one (by omega)]; exact le_rfl' _)) | exact le_rfl' _
 try simp only [bsimp] at hb2
 obtain rfl : i = a.length := by omega
 have e : flagsOk a = decide ((a.length : Int) = 3) := by unfold flagsOk; rw [allUp_yes h2, Bool.true_and]
 rw [e]
 refine Ok.exit ?_
 refine OQ ?_
 iterate 4 (refine EV ?_)
 refine ON ?_
 refine Ok.ret ?_
 with_reducible repeat (first | refine thenQ_ret ?_ | refine blockQ_ret ?_)
 refine RT ?_
 rfl
theorem w_impl_NameOk (s : Str) (ha : s.length ≤ 4611686018427387904) : Weak Tryz.prog 215 [.str s] (.bool (nameOk s)) := by
 refine Weak.enter tab_ok Tryz.func215 rfl (.inr (by simp [V.labelsL, V.labels, V.labelsLL, zz, zf, zy, or_imp, forall_and])) (t := [.str s, .any, .any, .any, .any, .any, .any, .any, .any, .any, .any, .any, .any, .any, .any, .any, .any, .any, .any, .any, .any, .any, .any, .any, .any, .any, .any, .any, .any, .any, .any, .any, .any, .any, .any]) rfl ?_
 refine OQ ?_
 refine EV ?_
 refine ON ?_
 refine Ok.seq ?_
 refine OQ ?_
 refine EV ?_
 refine ON ?_
 refine Ok.block ?_
 refine Ok.loopW (τ := Nat) (fun x => [(3, .int .i64 (x : Int))]) [2, 4, 5, 6, 7, 8, 9, 10, 11, 12, 13, 14, 15, 16, 17, 18, 19, 20, 21, 22, 23, 24, 25, 26, 27, 28, 29, 30, 31] (fun x => by simp only [kover] <;> rfl) (fun x => x ≤ s.length ∧ ∀ k, k < x → atB s nameB k = true) (fun x => s.length - x) 0 (by (repeat (first | exact trivial | refine leC ?_ | refine leK ?_ ?_)) <;> first | (exact le_rfl' _) | exact le_rfl' _) (⟨Nat.zero_le _, fun k h => by omega⟩) ?_
 rintro i ⟨h1, h2⟩
 refine Ok.seq ?_
 refine OQ ?_
 iterate 4 (refine EV ?_)
 refine ON ?_
 refine OC (fun hb2 => ?_) (fun hb2 => ?_)
 ·
  try simp only [bsimp] at hb2
  have hi : i < s.length := by omega
  have hat := atB_get (p := nameB) hi
  refine Ok.skip ?_
  refine Ok.seq ?_
  refine Ok.block ?_
  refine Ok.seqC [(31, .bool (!atB s nameB i))] [10, 11, 12, 13, 14, 15, 16, 17, 18, 19, 20, 21, 22, 23, 24, 25, 26, 27, 28, 29, 30] (by simp only [kover] <;> rfl) ?_ ?_
  ·
   refine Ok.region ?_
   iterate 2 (refine EV ?_)
   refine OkOps.ev tab_ok rfl (ev_byte_lt (by simp only [kE, kT, kL, kC] <;> rfl) (by simp only [kE, kT, kL, kC] <;> rfl) (by omega) rfl) (by simp only [kP] <;> rfl) ?_
   iterate 2 (refine EV ?_)
   refine OP (d := 14) (fun hg4_4 => ?_) (fun hg4_4 => ?_)
   ·
    try simp only [bsimp] at hg4_4
    iterate 4 (refine OU ?_)
    iterate 2 (refine EV ?_)
    refine OX ?_
    refine OX ?_
    refine OO ?_
    refine OkOps.ev tab_ok rfl (ev_byte_lt (by simp only [kE, kT, kL, kC] <;> rfl) (by simp only [kE, kT, kL, kC] <;> rfl) (by omega) rfl) (by simp only [kP] <;> rfl) ?_
    refine OX ?_
    refine OX ?_
    refine OP (d := 25) (fun hg4_15 => ?_) (fun hg4_15 => ?_)
    ·
     try simp only [bsimp] at hg4_15
     iterate 4 (refine OU ?_)
     refine OO ?_
     iterate 2 (refine EV ?_)
     refine ON ?_
     refine ⟨rfl, ?_, rfl, rfl⟩
     (repeat (first | exact trivial | refine leC ?_ | refine leK ?_ ?_)) <;> first | (refine .inl (congrArg V.bool ?_); (first | (simp [nameB, *]; done) | (simp [nameB, *] <;> omega) | (rw [Bool.eq_iff_iff]; simp [nameB, *] <;> omega) | (simp_all [nameB]; done) | (simp_all [nameB]; omega))) | exact le_rfl' _
    try simp only [bsimp] at hg4_15
    refine OX ?_
    refine OX ?_
    refine OO ?_
    refine OkOps.ev tab_ok rfl (ev_byte_lt (by simp only [kE, kT, kL, kC] <;> rfl) (by simp only [kE, kT, kL, kC] <;> rfl) (by omega) rfl) (by simp only [kP] <;> rfl) ?_
    refine OX ?_
    refine OO ?_
    iterate 2 (refine EV ?_)
    refine ON ?_
    refine ⟨rfl, ?_, rfl, rfl⟩
    (repeat (first | exact trivial | refine leC ?_ | refine leK ?_ ?_)) <;> first | (refine .inl (congrArg V.bool ?_); (first | (simp [nameB, *]; done) | (simp [nameB, *] <;> omega) | (rw [Bool.eq_iff_iff]; simp [nameB, *] <;> omega) | (simp_all [nameB]; done) | (simp_all [nameB]; omega))) | exact le_rfl' _
   try simp only [bsimp] at hg4_4
   refine OX ?_
   refine OX ?_
   refine OO ?_
   refine OkOps.ev tab_ok rfl (ev_byte_lt (by simp only [kE, kT, kL, kC] <;> rfl) (by simp only [kE, kT, kL, kC] <;> rfl) (by omega) rfl) (by simp only [kP] <;> rfl) ?_
   refine OO ?_
   iterate 3 (refine EV ?_)
   refine OP (d := 20) (fun hg4_10 => ?_) (fun hg4_10 => ?_)
   ·
    try simp only [bsimp] at hg4_10
    refine OX ?_
    refine OX ?_
    refine OO ?_
    refine OkOps.ev tab_ok rfl (ev_byte_lt (by simp only [kE, kT, kL, kC] <;> rfl) (by simp only [kE, kT, kL, kC] <;> rfl) (by omega) rfl) (by simp only [kP] <;> rfl) ?_
    refine OX ?_
    refine OX ?_
    refine OP (d := 25) (fun hg4_15 => ?_) (fun hg4_15 => ?_)
    ·
     try simp only [bsimp] at hg4_15
     iterate 4 (refine OU ?_)
     refine OO ?_
     iterate 2 (refine EV ?_)
     refine ON ?_
     refine ⟨rfl, ?_, rfl, rfl⟩
     (repeat (first | exact trivial | refine leC ?_ | refine leK ?_ ?_)) <;> first | (refine .inl (congrArg V.bool ?_); (first | (simp [nameB, *]; done) | (simp [nameB, *] <;> omega) | (rw [Bool.eq_iff_iff]; simp [nameB, *] <;> omega) | (simp_all [nameB]; done) | (simp_all [nameB]; omega))) | exact le_rfl' _
    try simp only [bsimp] at hg4_15
    refine OX ?_
    refine OX ?_
    refine OO ?_
    refine OkOps.ev tab_ok rfl (ev_byte_lt (by simp only [kE, kT, kL, kC] <;> rfl) (by simp only [kE, kT, kL, kC] <;> rfl) (by omega) rfl) (by simp only [kP] <;> rfl) ?_
    refine OX ?_
    refine OO ?_
    iterate 2 (refine EV ?_)
    refine ON ?_
    refine ⟨rfl, ?_, rfl, rfl⟩
    (repeat (first | exact trivial | refine leC ?_ | refine leK ?_ ?_)) <;> first | (refine .inl (congrArg V.bool ?_); (first | (simp [nameB, *]; done) | (simp [nameB, *] <;> omega) | (rw [Bool.eq_iff_iff]; simp [nameB, *] <;> omega) | (simp_all [nameB]; done) | (simp_all [nameB]; omega))) | exact le_rfl' _
   try simp only [bsimp] at hg4_10
   iterate 10 (refine OU ?_)
   refine EV ?_
   refine ON ?_
   refine ⟨rfl, ?_, rfl, rfl⟩
   (repeat (first | exact trivial | refine leC ?_ | refine leK ?_ ?_)) <;> first | (refine .inl (congrArg V.bool ?_); (first | (simp [nameB, *]; done) | (simp [nameB, *] <;> omega) | (rw [Bool.eq_iff_iff]; simp [nameB, *] <;> omega) | (simp_all [nameB]; done) | (simp_all [nameB]; omega))) | exact le_rfl' _
  refine OC (fun hb4 => ?_) (fun hb4 => ?_)
  ·
   try simp only [bsimp] at hb4
   have e : nameOk s = false := by unfold nameOk; rw [allUp_no hi hb4, Bool.false_and]
   rw [e]
   refine OQ ?_
   refine EV ?_
   refine ON ?_
   refine Ok.ret ?_
   with_reducible repeat (first | refine thenQ_ret ?_ | refine blockQ_ret ?_)
   refine RT ?_
   rfl
  try simp only [bsimp] at hb4
  refine Ok.skip ?_
  refine Ok.region ?_
  iterate 3 (refine EV ?_)
  refine ON ?_
  refine ⟨i + 1, ?_, rfl, rfl, ⟨by omega, up_next h2 hb4⟩, by omega⟩
  (repeat (first | exact trivial | refine leC ?_ | refine leK ?_ ?_)) <;> first | ((rw [wrap_add_one (by omega)]; exact le_rfl' _)) | exact le_rfl' _
 try simp only [bsimp] at hb2
 obtain rfl : i = s.length := by omega
 have e : nameOk s = inR (s.length : Int) 1 12 := by unfold nameOk; rw [allUp_yes h2, Bool.true_and]
 rw [e]
 refine Ok.exit ?_
 refine OQ ?_
 iterate 2 (refine EV ?_)
 refine OW cl124 (w_impl_within (s.length : Int) 1 12) ?_
 refine EV ?_
 refine ON ?_
 refine Ok.ret ?_
 with_reducible repeat (first | refine thenQ_ret ?_ | refine blockQ_ret ?_)
 refine RT ?_
 rfl
theorem w_impl_areGids (a : List Int) (most : Int) (ha : a.length ≤ 4611686018427387904) : Weak Tryz.prog 167 [.sl 0 1 0 (a.map cZ), .int .i64 most] (.bool (gidsOk a most)) := by
 refine Weak.enter tab_ok Tryz.func167 rfl (.inr (by simp [V.labelsL, V.labels, V.labelsLL, zz, zf, zy, or_imp, forall_and])) (t := [.sl 0 1 0 (a.map cZ), .int .i64 most, .any, .any, .any, .any, .any, .any, .any, .any, .any, .any, .any, .any, .any, .any, .any, .any, .any, .any, .any, .any, .any, .any, .any, .any, .any, .any, .any, .any, .any, .any, .any, .any, .any]) rfl ?_
 refine OQ ?_
 refine EV ?_
 refine ON ?_
 refine Ok.seq ?_
 refine OQ ?_
 iterate 3 (refine EV ?_)
 refine ON ?_
 refine Ok.block ?_
 refine Ok.loopWZ (τ := Nat) (fun x => [(9, .int .i64 (x : Int))]) [4, 5, 6, 10, 11, 12, 13, 14, 15, 16, 17, 18, 19, 20, 21, 22, 23, 24, 25, 26, 27, 28, 29, 30] (fun x => by simp only [kover] <;> rfl) (fun x => x ≤ a.length ∧ ∀ k, k < x → gidAt a k = true) (fun x => a.length - x) 0 (by omega) (by (repeat (first | exact trivial | refine leC ?_ | refine leK ?_ ?_)) <;> first | (exact le_rfl' _) | exact le_rfl' _) (⟨Nat.zero_le _, fun k h => by omega⟩) ?_
 rintro i ⟨h1, h2⟩
 refine OQ ?_
 refine EV ?_
 refine ON ?_
 refine Ok.seq ?_
 refine OC (fun hb2 => ?_) (fun hb2 => ?_)
 ·
  try simp only [bsimp] at hb2
  have hi : i < a.length := by omega
  have hat := atB_get (p := gidOk) hi
  refine Ok.skip ?_
  refine Ok.seq ?_
  refine Ok.block ?_
  refine OQ ?_
  refine EV ?_
  refine OkOps.ev tab_ok rfl (ev_idx_map (by simp only [kE, kT, kL, kC] <;> rfl) (by simp only [kE, kT, kL, kC] <;> rfl) (by omega) (by simp only [kE, kT, kL, kC] <;> rfl)) (by simp only [kP] <;> rfl) ?_
  iterate 3 (refine EV ?_)
  refine ON ?_
  refine Ok.seqC [(29, .bool (!gidAt a i))] [14, 15, 16, 17, 18, 19, 20, 21, 22, 23, 24, 25, 26, 27, 28] (by simp only [kover] <;> rfl) ?_ ?_
  ·
   refine Ok.region ?_
   refine EV ?_
   refine OW cl214 (w_impl_isGid a[i]) ?_
   iterate 2 (refine EV ?_)
   refine OP (d := 17) (fun hg4_3 => ?_) (fun hg4_3 => ?_)
   ·
    try simp only [bsimp] at hg4_3
    iterate 11 (refine OU ?_)
    refine EV ?_
    refine ON ?_
    refine ⟨rfl, ?_, rfl, rfl⟩
    (repeat (first | exact trivial | refine leC ?_ | refine leK ?_ ?_)) <;> first | (refine .inl (congrArg V.bool ?_); (first | (simp [gidAt, *]; done) | (simp [gidAt, *] <;> omega) | (rw [Bool.eq_iff_iff]; simp [gidAt, *] <;> omega) | (simp_all [gidAt]; done) | (simp_all [gidAt]; omega))) | exact le_rfl' _
   try simp only [bsimp] at hg4_3
   iterate 3 (refine OX ?_)
   refine OP (d := 20) (fun hg4_6 => ?_) (fun hg4_6 => ?_)
   ·
    try simp only [bsimp] at hg4_6
    have hpos : 0 < i := by omega
    have hbf := beforeB_get (p := fun a b => decide (a < b)) hi hpos
    refine OX ?_
    refine OX ?_
    refine OO ?_
    refine OkOps.ev tab_ok rfl (by simp only [kE, kT, kL, kC, wrap_pred hpos (by omega)] <;> rfl) (by simp only [kP] <;> rfl) ?_
    refine OO ?_
    refine OkOps.ev tab_ok rfl (ev_idx_map (by simp only [kE, kT, kL, kC] <;> rfl) (by simp only [kE, kT, kL, kC] <;> rfl) (by omega) (by simp only [kE, kT, kL, kC] <;> rfl)) (by simp only [kP] <;> rfl) ?_
    iterate 3 (refine OX ?_)
    refine OO ?_
    iterate 2 (refine EV ?_)
    refine ON ?_
    refine ⟨rfl, ?_, rfl, rfl⟩
    (repeat (first | exact trivial | refine leC ?_ | refine leK ?_ ?_)) <;> first | (refine .inl (congrArg V.bool ?_); (first | (simp [gidAt, *]; done) | (simp [gidAt, *] <;> omega) | (rw [Bool.eq_iff_iff]; simp [gidAt, *] <;> omega) | (simp_all [gidAt]; done) | (simp_all [gidAt]; omega))) | exact le_rfl' _
   try simp only [bsimp] at hg4_6
   have hbf : beforeB a (fun a b => decide (a < b)) i = true := by rw [show i = 0 by omega]; rfl
   iterate 7 (refine OU ?_)
   refine OO ?_
   iterate 2 (refine EV ?_)
   refine ON ?_
   refine ⟨rfl, ?_, rfl, rfl⟩
   (repeat (first | exact trivial | refine leC ?_ | refine leK ?_ ?_)) <;> first | (refine .inl (congrArg V.bool ?_); (first | (simp [gidAt, *]; done) | (simp [gidAt, *] <;> omega) | (rw [Bool.eq_iff_iff]; simp [gidAt, *] <;> omega) | (simp_all [gidAt]; done) | (simp_all [gidAt]; omega))) | exact le_rfl' _
  refine OC (fun hb4 => ?_) (fun hb4 => ?_)
  ·
   try simp only [bsimp] at hb4
   have e : gidsOk a most = false := by unfold gidsOk; rw [allUp_no hi hb4, Bool.false_and]
   rw [e]
   refine OQ ?_
   refine EV ?_
   refine ON ?_
   refine Ok.ret ?_
   with_reducible repeat (first | refine thenQ_ret ?_ | refine blockQ_ret ?_)
   refine RT ?_
   rfl
  try simp only [bsimp] at hb4
  refine Ok.skip ?_
  refine Ok.region ?_
  iterate 2 (refine EV ?_)
  refine ON ?_
  refine ⟨i + 1, ?_, rfl, ⟨by omega, up_next h2 hb4⟩, by omega⟩
  simp only [V.renL, V.travL, V.travLL, V.trav, frz, zz, zf, zy, Nat.reduceLeDiff, ↓reduceIte]
  (repeat (first | exact trivial | refine leC ?_ | refine leK ?_ ?_)) <;> first | ((rw [wrap_add_one (by omega)]; exact le_rfl' _)) | exact le_rfl' _
 try simp only [bsimp] at hb2
 obtain rfl : i = a.length := by omega
 have e : gidsOk a most = decide ((a.length : Int) ≤ most) := by unfold gidsOk; rw [allUp_yes h2, Bool.true_and]
 rw [e]
 refine Ok.exit ?_
 refine OQ ?_
 iterate 5 (refine EV ?_)
 refine ON ?_
 refine Ok.ret ?_
 with_reducible repeat (first | refine thenQ_ret ?_ | refine blockQ_ret ?_)
 refine RT ?_
 rfl
theorem w_impl_MailOk (m : Mail) (ha : m.flags.length ≤ 4611686018427387904) : Weak Tryz.prog 217 [.agg (cMail m)] (.bool (mailOk m)) := by
 refine Weak.enter tab_ok Tryz.func217 rfl (.inr (by simp [V.labelsL, V.labels, V.labelsLL, zz, zf, zy, or_imp, forall_and])) (t := [.agg (cMail m), .any, .any, .any, .any, .any, .any, .any, .any, .any, .any, .any, .any, .any, .any, .any, .any, .any, .any, .any, .any, .any]) rfl ?_
 refine OQ ?_
 iterate 2 (refine EV ?_)
 refine ON ?_
 refine OQ ?_
 iterate 2 (refine EV ?_)
 refine OW cl214 (w_impl_isGid _) ?_
 refine EV ?_
 refine OP (d := 6) (fun hg1_3 => ?_) (fun hg1_3 => ?_)
 ·
  try simp only [bsimp] at hg1_3
  refine OX ?_
  refine OX ?_
  refine OO ?_
  refine OW cl214 (w_impl_isGid _) ?_
  iterate 2 (refine EV ?_)
  refine OP (d := 11) (fun hg1_8 => ?_) (fun hg1_8 => ?_)
  ·
   try simp only [bsimp] at hg1_8
   refine OX ?_
   refine OX ?_
   refine OO ?_
   refine OW cl242 (w_impl_FlagsOk m.flags ha) ?_
   iterate 2 (refine EV ?_)
   refine OP (d := 16) (fun hg1_13 => ?_) (fun hg1_13 => ?_)
   ·
    try simp only [bsimp] at hg1_13
    iterate 3 (refine OX ?_)
    refine OO ?_
    iterate 3 (refine EV ?_)
    refine ON ?_
    refine Ok.ret ?_
    with_reducible repeat (first | refine thenQ_ret ?_ | refine blockQ_ret ?_)
    refine RT ?_
    first | (simp_all [mailOk, gidOk, V.erase, V.trav, packV]; done) | (simp_all [mailOk, gidOk, V.erase, V.trav, packV] <;> omega)
   try simp only [bsimp] at hg1_13
   iterate 4 (refine OU ?_)
   iterate 2 (refine EV ?_)
   refine ON ?_
   refine Ok.ret ?_
   with_reducible repeat (first | refine thenQ_ret ?_ | refine blockQ_ret ?_)
   refine RT ?_
   first | (simp_all [mailOk, gidOk, V.erase, V.trav, packV]; done) | (simp_all [mailOk, gidOk, V.erase, V.trav, packV] <;> omega)
  try simp only [bsimp] at hg1_8
  iterate 3 (refine OU ?_)
  iterate 2 (refine EV ?_)
  iterate 4 (refine OU ?_)
  iterate 2 (refine EV ?_)
  refine ON ?_
  refine Ok.ret ?_
  with_reducible repeat (first | refine thenQ_ret ?_ | refine blockQ_ret ?_)
  refine RT ?_
  first | (simp_all [mailOk, gidOk, V.erase, V.trav, packV]; done) | (simp_all [mailOk, gidOk, V.erase, V.trav, packV] <;> omega)
 try simp only [bsimp] at hg1_3
 iterate 3 (refine OU ?_)
 iterate 2 (refine EV ?_)
 iterate 3 (refine OU ?_)
 iterate 2 (refine EV ?_)
 iterate 4 (refine OU ?_)
 iterate 2 (refine EV ?_)
 refine ON ?_
 refine Ok.ret ?_
 with_reducible repeat (first | refine thenQ_ret ?_ | refine blockQ_ret ?_)
 refine RT ?_
 first | (simp_all [mailOk, gidOk, V.erase, V.trav, packV]; done) | (simp_all [mailOk, gidOk, V.erase, V.trav, packV] <;> omega)
theorem w_spec_StampOk (s : Stamp) : Weak Tryz.prog 202 [.agg (cStamp s)] (.bool (stampOk s)) := by
 refine Weak.enter tab_ok Tryz.func202 rfl (.inr (by simp [V.labelsL, V.labels, zz, zf, zy])) (t := [.agg (cStamp s), .any, .any, .any, .any, .any, .any, .any, .any, .any, .any]) rfl ?_
 refine OQ ?_
 iterate 2 (refine EV ?_)
 refine ON ?_
 refine OQ ?_
 iterate 2 (refine EV ?_)
 refine OW cl118 (w_spec_l01In _ _ _) ?_
 refine EV ?_
 refine OP (d := 6) (fun hg1_3 => ?_) (fun hg1_3 => ?_)
 ·
  try simp only [bsimp] at hg1_3
  refine OX ?_
  refine OX ?_
  refine OO ?_
  refine OW cl118 (w_spec_l01In _ _ _) ?_
  iterate 2 (refine EV ?_)
  refine ON ?_
  refine Ok.ret ?_
  with_reducible repeat (first | refine thenQ_ret ?_ | refine blockQ_ret ?_)
  refine RT ?_
  first | (simp_all [stampOk, V.erase, V.trav, packV]; done) | (simp_all [stampOk, V.erase, V.trav, packV] <;> omega)
 try simp only [bsimp] at hg1_3
 iterate 3 (refine OU ?_)
 iterate 2 (refine EV ?_)
 refine ON ?_
 refine Ok.ret ?_
 with_reducible repeat (first | refine thenQ_ret ?_ | refine blockQ_ret ?_)
 refine RT ?_
 first | (simp_all [stampOk, V.erase, V.trav, packV]; done) | (simp_all [stampOk, V.erase, V.trav, packV] <;> omega)
theorem w_spec_RegOk (r : Reg) : Weak Tryz.prog 249 [.agg (cReg r)] (.bool (regOk r)) := by
 refine Weak.enter tab_ok Tryz.func249 rfl (.inr (by simp [V.labelsL, V.labels, zz, zf, zy])) (t := [.agg (cReg r), .any, .any, .any, .any, .any, .any, .any, .any, .any, .any]) rfl ?_
 refine OQ ?_
 iterate 2 (refine EV ?_)
 refine ON ?_
 refine OQ ?_
 iterate 2 (refine EV ?_)
 refine OW cl202 (w_spec_StampOk r.stamp) ?_
 refine EV ?_
 refine OP (d := 6) (fun hg1_3 => ?_) (fun hg1_3 => ?_)
 ·
  try simp only [bsimp] at hg1_3
  refine OX ?_
  refine OX ?_
  refine OO ?_
  refine OW cl118 (w_spec_l01In _ _ _) ?_
  iterate 2 (refine EV ?_)
  refine ON ?_
  refine Ok.ret ?_
  with_reducible repeat (first | refine thenQ_ret ?_ | refine blockQ_ret ?_)
  refine RT ?_
  first | (simp_all [regOk, V.erase, V.trav, packV]; done) | (simp_all [regOk, V.erase, V.trav, packV] <;> omega)
 try simp only [bsimp] at hg1_3
 iterate 3 (refine OU ?_)
 iterate 2 (refine EV ?_)
 refine ON ?_
 refine Ok.ret ?_
 with_reducible repeat (first | refine thenQ_ret ?_ | refine blockQ_ret ?_)
 refine RT ?_
 first | (simp_all [regOk, V.erase, V.trav, packV]; done) | (simp_all [regOk, V.erase, V.trav, packV] <;> omega)
theorem w_spec_FlagsOk (a : List Reg) (ha : a.length ≤ 4611686018427387904) : Weak Tryz.prog 235 [.sl 0 3 0 (a.map cReg)] (.bool (flagsOk a)) := by
 refine Weak.enter tab_ok Tryz.func235 rfl (.inr (by simp [V.labelsL, V.labels, V.labelsLL, zz, zf, zy, or_imp, forall_and])) (t := [.sl 0 3 0 (a.map cReg), .any, .any, .any, .any, .any, .any, .any, .any, .any, .any, .any, .any, .any, .any, .any, .any, .any, .any, .any, .any, .any, .any, .any, .any, .any, .any]) rfl ?_
 refine OQ ?_
 refine EV ?_
 refine ON ?_
 refine Ok.seq ?_
 refine OQ ?_
 refine EV ?_
 refine ON ?_
 refine Ok.block ?_
 refine Ok.loopW (τ := Nat) (fun x => [(3, .int .i64 (x : Int))]) [2, 4, 5, 6, 7, 8, 9, 10, 11, 12, 13, 14, 15, 16, 17, 18, 19, 20, 21, 22, 23] (fun x => by simp only [kover] <;> rfl) (fun x => x ≤ a.length ∧ ∀ k, k < x → atB a flagOk k = true) (fun x => a.length - x) 0 (by (repeat (first | exact trivial | refine leC ?_ | refine leK ?_ ?_)) <;> first | (exact le_rfl' _) | exact le_rfl' _) (⟨Nat.zero_le _, fun k h => by omega⟩) ?_
 rintro i ⟨h1, h2⟩
 refine Ok.seq ?_
 refine OQ ?_
 iterate 4 (refine EV ?_)
 refine ON ?_
 refine OC (fun hb2 => ?_) (fun hb2 => ?_)
 ·
  try simp only [bsimp] at hb2
  have hi : i < a.length := by omega
  have hat := atB_get (p := flagOk) hi
  refine Ok.skip ?_
  refine Ok.seq ?_
  refine Ok.block ?_
  refine Ok.seqC [(23, .bool (!atB a flagOk i))] [10, 11, 12, 13, 14, 15, 16, 17, 18, 19, 20, 21, 22] (by simp only [kover] <;> rfl) ?_ ?_
  ·
   refine Ok.region ?_
   iterate 2 (refine EV ?_)
   refine OkOps.ev tab_ok rfl (ev_idx_map (by simp only [kE, kT, kL, kC] <;> rfl) (by simp only [kE, kT, kL, kC] <;> rfl) (by omega) (by simp only [kE, kT, kL, kC] <;> rfl)) (by simp only [kP] <;> rfl) ?_
   refine EV ?_
   refine OW cl249 (w_spec_RegOk a[i]) ?_
   iterate 2 (refine EV ?_)
   refine OP (d := 16) (fun hg4_6 => ?_) (fun hg4_6 => ?_)
   ·
    try simp only [bsimp] at hg4_6
    iterate 6 (refine OU ?_)
    refine EV ?_
    refine ON ?_
    refine ⟨rfl, ?_, rfl, rfl⟩
    (repeat (first | exact trivial | refine leC ?_ | refine leK ?_ ?_)) <;> first | (refine .inl (congrArg V.bool ?_); (first | (simp [flagOk, *]; done) | (simp [flagOk, *] <;> omega) | (rw [Bool.eq_iff_iff]; simp [flagOk, *] <;> omega) | (simp_all [flagOk]; done) | (simp_all [flagOk]; omega))) | exact le_rfl' _
   try simp only [bsimp] at hg4_6
   refine OX ?_
   refine OX ?_
   refine OO ?_
   refine OkOps.ev tab_ok rfl (ev_idx_map (by simp only [kE, kT, kL, kC] <;> rfl) (by simp only [kE, kT, kL, kC] <;> rfl) (by omega) (by simp only [kE, kT, kL, kC] <;> rfl)) (by simp only [kP] <;> rfl) ?_
   refine OX ?_
   refine OX ?_
   refine OO ?_
   iterate 2 (refine EV ?_)
   refine ON ?_
   refine ⟨rfl, ?_, rfl, rfl⟩
   (repeat (first | exact trivial | refine leC ?_ | refine leK ?_ ?_)) <;> first | (refine .inl (congrArg V.bool ?_); (first | (simp [flagOk, *]; done) | (simp [flagOk, *] <;> omega) | (rw [Bool.eq_iff_iff]; simp [flagOk, *] <;> omega) | (simp_all [flagOk]; done) | (simp_all [flagOk]; omega))) | exact le_rfl' _
  refine OC (fun hb4 => ?_) (fun hb4 => ?_)
  ·
   try simp only [bsimp] at hb4
   have e : flagsOk a = false := by unfold flagsOk; rw [allUp_no hi hb4, Bool.false_and]
   rw [e]
   refine OQ ?_
   refine EV ?_
   refine ON ?_
   refine Ok.ret ?_
   with_reducible repeat (first | refine thenQ_ret ?_ | refine blockQ_ret ?_)
   refine RT ?_
   rfl
  try simp only [bsimp] at hb4
  refine Ok.skip ?_
  refine Ok.region ?_
  iterate 3 (refine EV ?_)
  refine ON ?_
  refine ⟨i + 1, ?_, rfl, rfl, ⟨by omega, up_next h2 hb4⟩, by omega⟩
  (repeat (first | exact trivial | refine leC ?_ | refine leK ?_ ?_)) <;> first | ((rw [wrap_add_one (by omega)]; exact le_rfl' _)) | exact le_rfl' _
 try simp only [bsimp] at hb2
 obtain rfl : i = a.length := by omega
 have e : flagsOk a = decide ((a.length : Int) = 3) := by unfold flagsOk; rw [allUp_yes h2, Bool.true_and]
 rw [e]
 refine Ok.exit ?_
 refine OQ ?_
 iterate 4 (refine EV ?_)
 refine ON ?_
 refine Ok.ret ?_
 with_reducible repeat (first | refine thenQ_ret ?_ | refine blockQ_ret ?_)
 refine RT ?_
 rfl
theorem w_spec_NameOk (s : Str) (ha : s.length ≤ 4611686018427387904) : Weak Tryz.prog 201 [.str s] (.bool (nameOk s)) := by
 refine Weak.enter tab_ok Tryz.func201 rfl (.inr (by simp [V.labelsL, V.labels, V.labelsLL, zz, zf, zy, or_imp, forall_and])) (t := [.str s, .any, .any, .any, .any, .any, .any, .any, .any, .any, .any, .any, .any, .any, .any, .any, .any, .any, .any, .any, .any, .any, .any, .any, .any, .any, .any, .any, .any, .any, .any, .any, .any, .any, .any]) rfl ?_
 refine OQ ?_
 refine EV ?_
 refine ON ?_
 refine Ok.seq ?_
 refine OQ ?_
 refine EV ?_
 refine ON ?_
 refine Ok.block ?_
 refine Ok.loopW (τ := Nat) (fun x => [(3, .int .i64 (x : Int))]) [2, 4, 5, 6, 7, 8, 9, 10, 11, 12, 13, 14, 15, 16, 17, 18, 19, 20, 21, 22, 23, 24, 25, 26, 27, 28, 29, 30, 31] (fun x => by simp only [kover] <;> rfl) (fun x => x ≤ s.length ∧ ∀ k, k < x → atB s nameB k = true) (fun x => s.length - x) 0 (by (repeat (first | exact trivial | refine leC ?_ | refine leK ?_ ?_)) <;> first | (exact le_rfl' _) | exact le_rfl' _) (⟨Nat.zero_le _, fun k h => by omega⟩) ?_
 rintro i ⟨h1, h2⟩
 refine Ok.seq ?_
 refine OQ ?_
 iterate 4 (refine EV ?_)
 refine ON ?_
 refine OC (fun hb2 => ?_) (fun hb2 => ?_)
 ·
  try simp only [bsimp] at hb2
  have hi : i < s.length := by omega
  have hat := atB_get (p := nameB) hi
  refine Ok.skip ?_
  refine Ok.seq ?_
  refine Ok.block ?_
  refine Ok.seqC [(31, .bool (!atB s nameB i))] [10, 11, 12, 13, 14, 15, 16, 17, 18, 19, 20, 21, 22, 23, 24, 25, 26, 27, 28, 29, 30] (by simp only [kover] <;> rfl) ?_ ?_
  ·
   refine Ok.region ?_
   iterate 2 (refine EV ?_)
   refine OkOps.ev tab_ok rfl (ev_byte_lt (by simp only [kE, kT, kL, kC] <;> rfl) (by simp only [kE, kT, kL, kC] <;> rfl) (by omega) rfl) (by simp only [kP] <;> rfl) ?_
   iterate 2 (refine EV ?_)
   refine OP (d := 14) (fun hg4_4 => ?_) (fun hg4_4 => ?_)
   ·
    try simp only [bsimp] at hg4_4
    iterate 4 (refine OU ?_)
    iterate 2 (refine EV ?_)
    refine OX ?_
    refine OX ?_
    refine OO ?_
    refine OkOps.ev tab_ok rfl (ev_byte_lt (by simp only [kE, kT, kL, kC] <;> rfl) (by simp only [kE, kT, kL, kC] <;> rfl) (by omega) rfl) (by simp only [kP] <;> rfl) ?_
    refine OX ?_
    refine OX ?_
    refine OP (d := 25) (fun hg4_15 => ?_) (fun hg4_15 => ?_)
    ·
     try simp only [bsimp] at hg4_15
     iterate 4 (refine OU ?_)
     refine OO ?_
     iterate 2 (refine EV ?_)
     refine ON ?_
     refine ⟨rfl, ?_, rfl, rfl⟩
     (repeat (first | exact trivial | refine leC ?_ | refine leK ?_ ?_)) <;> first | (refine .inl (congrArg V.bool ?_); (first | (simp [nameB, *]; done) | (simp [nameB, *] <;> omega) | (rw [Bool.eq_iff_iff]; simp [nameB, *] <;> omega) | (simp_all [nameB]; done) | (simp_all [nameB]; omega))) | exact le_rfl' _
    try simp only [bsimp] at hg4_15
    refine OX ?_
    refine OX ?_
    refine OO ?_
    refine OkOps.ev tab_ok rfl (ev_byte_lt (by simp only [kE, kT, kL, kC] <;> rfl) (by simp only [kE, kT, kL, kC] <;> rfl) (by omega) rfl) (by simp only [kP] <;> rfl) ?_
    refine OX ?_
    refine OO ?_
    iterate 2 (refine EV ?_)
    refine ON ?_
    refine ⟨rfl, ?_, rfl, rfl⟩
    (repeat (first | exact trivial | refine leC ?_ | refine leK ?_ ?_)) <;> first | (refine .inl (congrArg V.bool ?_); (first | (simp [nameB, *]; done) | (simp [nameB, *] <;> omega) | (rw [Bool.eq_iff_iff]; simp [nameB, *] <;> omega) | (simp_all [nameB]; done) | (simp_all [nameB]; omega))) | exact le_rfl' _
   try simp only [bsimp] at hg4_4
   refine OX ?_
   refine OX ?_
   refine OO ?_
   refine OkOps.ev tab_ok rfl (ev_byte_lt (by simp only [kE, kT, kL, kC] <;> rfl) (by simp only [kE, kT, kL, kC] <;> rfl) (by omega) rfl) (by simp only [kP] <;> rfl) ?_
   refine OO ?_
   iterate 3 (refine EV ?_)
   refine OP (d := 20) (fun hg4_10 => ?_) (fun hg4_10 => ?_)
   ·
    try simp only [bsimp] at hg4_10
    refine OX ?_
    refine OX ?_
    refine OO ?_
    refine OkOps.ev tab_ok rfl (ev_byte_lt (by simp only [kE, kT, kL, kC] <;> rfl) (by simp only [kE, kT, kL, kC] <;> rfl) (by omega) rfl) (by simp only [kP] <;> rfl) ?_
    refine OX ?_
    refine OX ?_
    refine OP (d := 25) (fun hg4_15 => ?_) (fun hg4_15 => ?_)
    ·
     try simp only [bsimp] at hg4_15
     iterate 4 (refine OU ?_)
     refine OO ?_
     iterate 2 (refine EV ?_)
     refine ON ?_
     refine ⟨rfl, ?_, rfl, rfl⟩
     (repeat (first | exact trivial | refine leC ?_ | refine leK ?_ ?_)) <;> first | (refine .inl (congrArg V.bool ?_); (first | (simp [nameB, *]; done) | (simp [nameB, *] <;> omega) | (rw [Bool.eq_iff_iff]; simp [nameB, *] <;> omega) | (simp_all [nameB]; done) | (simp_all [nameB]; omega))) | exact le_rfl' _
    try simp only [bsimp] at hg4_15
    refine OX ?_
    refine OX ?_
    refine OO ?_
    refine OkOps.ev tab_ok rfl (ev_byte_lt (by simp only [kE, kT, kL, kC] <;> rfl) (by simp only [kE, kT, kL, kC] <;> rfl) (by omega) rfl) (by simp only [kP] <;> rfl) ?_
    refine OX ?_
    refine OO ?_
    iterate 2 (refine EV ?_)
    refine ON ?_
    refine ⟨rfl, ?_, rfl, rfl⟩
    (repeat (first | exact trivial | refine leC ?_ | refine leK ?_ ?_)) <;> first | (refine .inl (congrArg V.bool ?_); (first | (simp [nameB, *]; done) | (simp [nameB, *] <;> omega) | (rw [Bool.eq_iff_iff]; simp [nameB, *] <;> omega) | (simp_all [nameB]; done) | (simp_all [nameB]; omega))) | exact le_rfl' _
   try simp only [bsimp] at hg4_10
   iterate 10 (refine OU ?_)
   refine EV ?_
   refine ON ?_
   refine ⟨rfl, ?_, rfl, rfl⟩
   (repeat (first | exact trivial | refine leC ?_ | refine leK ?_ ?_)) <;> first | (refine .inl (congrArg V.bool ?_); (first | (simp [nameB, *]; done) | (simp [nameB, *] <;> omega) | (rw [Bool.eq_iff_iff]; simp [nameB, *] <;> omega) | (simp_all [nameB]; done) | (simp_all [nameB]; omega))) | exact le_rfl' _
  refine OC (fun hb4 => ?_) (fun hb4 => ?_)
  ·
   try simp only [bsimp] at hb4
   have e : nameOk s = false := by unfold nameOk; rw [allUp_no hi hb4, Bool.false_and]
   rw [e]
   refine OQ ?_
   refine EV ?_
   refine ON ?_
   refine Ok.ret ?_
   with_reducible repeat (first | refine thenQ_ret ?_ | refine blockQ_ret ?_)
   refine RT ?_
   rfl
  try simp only [bsimp] at hb4
  refine Ok.skip ?_
  refine Ok.region ?_
  iterate 3 (refine EV ?_)
  refine ON ?_
  refine ⟨i + 1, ?_, rfl, rfl, ⟨by omega, up_next h2 hb4⟩, by omega⟩
  (repeat (first | exact trivial | refine leC ?_ | refine leK ?_ ?_)) <;> first | ((rw [wrap_add_one (by omega)]; exact le_rfl' _)) | exact le_rfl' _
 try simp only [bsimp] at hb2
 obtain rfl : i = s.length := by omega
 have e : nameOk s = inR (s.length : Int) 1 12 := by unfold nameOk; rw [allUp_yes h2, Bool.true_and]
 rw [e]
 refine Ok.exit ?_
 refine OQ ?_
 iterate 2 (refine EV ?_)
 refine OW cl118 (w_spec_l01In (s.length : Int) 1 12) ?_
 refine EV ?_
 refine ON ?_
 refine Ok.ret ?_
 with_reducible repeat (first | refine thenQ_ret ?_ | refine blockQ_ret ?_)
 refine RT ?_
 rfl
theorem w_spec_l06Sorted (a : List Int) (most : Int) (ha : a.length ≤ 4611686018427387904) : Weak Tryz.prog 147 [.sl 0 1 0 (a.map cZ), .int .i64 most] (.bool (gidsOk a most)) := by
 refine Weak.enter tab_ok Tryz.func147 rfl (.inr (by simp [V.labelsL, V.labels, V.labelsLL, zz, zf, zy, or_imp, forall_and])) (t := [.sl 0 1 0 (a.map cZ), .int .i64 most, .any, .any, .any, .any, .any, .any, .any, .any, .any, .any, .any, .any, .any, .any, .any, .any, .any, .any, .any, .any, .any, .any, .any, .any, .any, .any, .any, .any, .any, .any, .any, .any, .any, .any, .any, .any]) rfl ?_
 refine OQ ?_
 refine EV ?_
 refine ON ?_
 refine Ok.seq ?_
 refine OQ ?_
 refine EV ?_
 refine ON ?_
 refine Ok.block ?_
 refine Ok.loopW (τ := Nat) (fun x => [(5, .int .i64 (x : Int))]) [4, 6, 7, 8, 9, 10, 11, 12, 13, 14, 15, 16, 17, 18, 19, 20, 21, 22, 23, 24, 25, 26, 27, 28, 29, 30, 31, 32, 33] (fun x => by simp only [kover] <;> rfl) (fun x => x ≤ a.length ∧ ∀ k, k < x → gidAt a k = true) (fun x => a.length - x) 0 (by (repeat (first | exact trivial | refine leC ?_ | refine leK ?_ ?_)) <;> first | (exact le_rfl' _) | exact le_rfl' _) (⟨Nat.zero_le _, fun k h => by omega⟩) ?_
 rintro i ⟨h1, h2⟩
 refine Ok.seq ?_
 refine OQ ?_
 iterate 4 (refine EV ?_)
 refine ON ?_
 refine OC (fun hb2 => ?_) (fun hb2 => ?_)
 ·
  try simp only [bsimp] at hb2
  have hi : i < a.length := by omega
  have hat : atB a gidOk i = inR a[i] 1 9999 := atB_get hi
  refine Ok.skip ?_
  refine Ok.seq ?_
  refine Ok.block ?_
  refine Ok.seqC [(33, .bool (!gidAt a i))] [12, 13, 14, 15, 16, 17, 18, 19, 20, 21, 22, 23, 24, 25, 26, 27, 28, 29, 30, 31, 32] (by simp only [kover] <;> rfl) ?_ ?_
  ·
   refine Ok.drawn 22 38 [] (by kernel_rfl) (by kernel_rfl) rfl ?_
   iterate 2 (refine SV ?_)
   refine SOps.ev tab_ok rfl (ev_idx_map (by simp only [kE, kT, kL, kC] <;> rfl) (by simp only [kE, kT, kL, kC] <;> rfl) (by omega) (by simp only [kE, kT, kL, kC] <;> rfl)) (by simp only [kP] <;> rfl) ?_
   refine SV ?_
   refine SOps.S0 rfl (OpS.weakM rfl (by simp only [kE, kT, kL, kC] <;> rfl) (by simp only [kE, kT, kL, kC] <;> rfl) cl118 (w_spec_l01In a[i] 1 9999)) (by simp only [kP] <;> rfl) ?_
   iterate 2 (refine SV ?_)
   refine SOps.split (d := 18) (by simp only [kE, kT, kL, kC] <;> rfl) (by simp only [kP] <;> rfl) (by simp only [kP] <;> rfl) (fun hg4_6 => ?_) (fun hg4_6 => ?_)
   ·
    try simp only [bsimp] at hg4_6
    iterate 14 (refine SU ?_)
    refine SV ?_
    refine SOps.nil ?_
    refine TOps.nil ?_
    refine ⟨rfl, ?_, rfl, rfl⟩
    (repeat (first | exact trivial | refine leC ?_ | refine leK ?_ ?_)) <;> first | (refine .inl (congrArg V.bool ?_); (first | (simp [gidAt, *]; done) | (simp [gidAt, *] <;> omega) | (rw [Bool.eq_iff_iff]; simp [gidAt, *] <;> omega) | (simp_all [gidAt]; done) | (simp_all [gidAt]; omega))) | exact le_rfl' _
   try simp only [bsimp] at hg4_6
   iterate 3 (refine SN ?_)
   refine SOps.split (d := 21) (by simp only [kE, kT, kL, kC] <;> rfl) (by simp only [kP] <;> rfl) (by simp only [kP] <;> rfl) (fun hg4_9 => ?_) (fun hg4_9 => ?_)
   ·
    try simp only [bsimp] at hg4_9
    have hpos : 0 < i := by omega
    have hbf := beforeB_get (p := fun a b => decide (a < b)) hi hpos
    refine SN ?_
    refine SN ?_
    refine SOps.onEv tab_ok rfl rfl (by simp only [kE, kT, kL, kC]) (by simp only [kE, kT, kL, kC, wrap_pred hpos (by omega)] <;> rfl) (by simp only [kP] <;> rfl) ?_
    refine SOps.onEv tab_ok rfl rfl (by simp only [kE, kT, kL, kC]) (ev_idx_map (by simp only [kE, kT, kL, kC] <;> rfl) (by simp only [kE, kT, kL, kC] <;> rfl) (by omega) (by simp only [kE, kT, kL, kC] <;> rfl)) (by simp only [kP] <;> rfl) ?_
    iterate 3 (refine SN ?_)
    refine SOps.onEv tab_ok rfl rfl (by simp only [kE, kT, kL, kC]) (ev_idx_map (by simp only [kE, kT, kL, kC] <;> rfl) (by simp only [kE, kT, kL, kC] <;> rfl) (by omega) (by simp only [kE, kT, kL, kC] <;> rfl)) (by simp only [kP] <;> rfl) ?_
    iterate 3 (refine SN ?_)
    refine SV ?_
    refine SOps.nil ?_
    refine TOps.nil ?_
    refine ⟨rfl, ?_, rfl, rfl⟩
    (repeat (first | exact trivial | refine leC ?_ | refine leK ?_ ?_)) <;> first | (refine .inl (congrArg V.bool ?_); (first | (simp [gidAt, *]; done) | (simp [gidAt, *] <;> omega) | (rw [Bool.eq_iff_iff]; simp [gidAt, *] <;> omega) | (simp_all [gidAt]; done) | (simp_all [gidAt]; omega))) | exact le_rfl' _
   try simp only [bsimp] at hg4_9
   have hbf : beforeB a (fun a b => decide (a < b)) i = true := by rw [show i = 0 by omega]; rfl
   iterate 10 (refine SU ?_)
   refine SN ?_
   refine SV ?_
   refine SOps.nil ?_
   refine TOps.nil ?_
   refine ⟨rfl, ?_, rfl, rfl⟩
   (repeat (first | exact trivial | refine leC ?_ | refine leK ?_ ?_)) <;> first | (refine .inl (congrArg V.bool ?_); (first | (simp [gidAt, *]; done) | (simp [gidAt, *] <;> omega) | (rw [Bool.eq_iff_iff]; simp [gidAt, *] <;> omega) | (simp_all [gidAt]; done) | (simp_all [gidAt]; omega))) | exact le_rfl' _
  refine OC (fun hb4 => ?_) (fun hb4 => ?_)
  ·
   try simp only [bsimp] at hb4
   have e : gidsOk a most = false := by unfold gidsOk; rw [allUp_no hi hb4, Bool.false_and]
   rw [e]
   refine OQ ?_
   refine EV ?_
   refine ON ?_
   refine Ok.ret ?_
   with_reducible repeat (first | refine thenQ_ret ?_ | refine blockQ_ret ?_)
   refine RT ?_
   rfl
  try simp only [bsimp] at hb4
  refine Ok.skip ?_
  refine Ok.region ?_
  iterate 3 (refine EV ?_)
  refine ON ?_
  refine ⟨i + 1, ?_, rfl, rfl, ⟨by omega, up_next h2 hb4⟩, by omega⟩
  (repeat (first | exact trivial | refine leC ?_ | refine leK ?_ ?_)) <;> first | ((rw [wrap_add_one (by omega)]; exact le_rfl' _)) | exact le_rfl' _
 try simp only [bsimp] at hb2
 obtain rfl : i = a.length := by omega
 have e : gidsOk a most = decide ((a.length : Int) ≤ most) := by unfold gidsOk; rw [allUp_yes h2, Bool.true_and]
 rw [e]
 refine Ok.exit ?_
 refine OQ ?_
 iterate 5 (refine EV ?_)
 refine ON ?_
 refine Ok.ret ?_
 with_reducible repeat (first | refine thenQ_ret ?_ | refine blockQ_ret ?_)
 refine RT ?_
 rfl
theorem w_spec_MailOk (m : Mail) (ha : m.flags.length ≤ 4611686018427387904) : Weak Tryz.prog 203 [.agg (cMail m)] (.bool (mailOk m)) := by
 refine Weak.enter tab_ok Tryz.func203 rfl (.inr (by simp [V.labelsL, V.labels, V.labelsLL, zz, zf, zy, or_imp, forall_and])) (t := [.agg (cMail m), .any, .any, .any, .any, .any, .any, .any, .any, .any, .any, .any, .any, .any, .any, .any, .any, .any, .any, .any, .any, .any]) rfl ?_
 refine OQ ?_
 iterate 2 (refine EV ?_)
 refine ON ?_
 refine OQ ?_
 iterate 2 (refine EV ?_)
 refine OW cl118 (w_spec_l01In _ _ _) ?_
 refine EV ?_
 refine OP (d := 6) (fun hg1_3 => ?_) (fun hg1_3 => ?_)
 ·
  try simp only [bsimp] at hg1_3
  refine OX ?_
  refine OX ?_
  refine OO ?_
  refine OW cl118 (w_spec_l01In _ _ _) ?_
  iterate 2 (refine EV ?_)
  refine OP (d := 11) (fun hg1_8 => ?_) (fun hg1_8 => ?_)
  ·
   try simp only [bsimp] at hg1_8
   refine OX ?_
   refine OX ?_
   refine OO ?_
   refine OW cl235 (w_spec_FlagsOk m.flags ha) ?_
   iterate 2 (refine EV ?_)
   refine OP (d := 16) (fun hg1_13 => ?_) (fun hg1_13 => ?_)
   ·
    try simp only [bsimp] at hg1_13
    iterate 3 (refine OX ?_)
    refine OO ?_
    iterate 3 (refine EV ?_)
    refine ON ?_
    refine Ok.ret ?_
    with_reducible repeat (first | refine thenQ_ret ?_ | refine blockQ_ret ?_)
    refine RT ?_
    first | (simp_all [mailOk, gidOk, V.erase, V.trav, packV]; done) | (simp_all [mailOk, gidOk, V.erase, V.trav, packV] <;> omega)
   try simp only [bsimp] at hg1_13
   iterate 4 (refine OU ?_)
   iterate 2 (refine EV ?_)
   refine ON ?_
   refine Ok.ret ?_
   with_reducible repeat (first | refine thenQ_ret ?_ | refine blockQ_ret ?_)
   refine RT ?_
   first | (simp_all [mailOk, gidOk, V.erase, V.trav, packV]; done) | (simp_all [mailOk, gidOk, V.erase, V.trav, packV] <;> omega)
  try simp only [bsimp] at hg1_8
  iterate 3 (refine OU ?_)
  iterate 2 (refine EV ?_)
  iterate 4 (refine OU ?_)
  iterate 2 (refine EV ?_)
  refine ON ?_
  refine Ok.ret ?_
  with_reducible repeat (first | refine thenQ_ret ?_ | refine blockQ_ret ?_)
  refine RT ?_
  first | (simp_all [mailOk, gidOk, V.erase, V.trav, packV]; done) | (simp_all [mailOk, gidOk, V.erase, V.trav, packV] <;> omega)
 try simp only [bsimp] at hg1_3
 iterate 3 (refine OU ?_)
 iterate 2 (refine EV ?_)
 iterate 3 (refine OU ?_)
 iterate 2 (refine EV ?_)
 iterate 4 (refine OU ?_)
 iterate 2 (refine EV ?_)
 refine ON ?_
 refine Ok.ret ?_
 with_reducible repeat (first | refine thenQ_ret ?_ | refine blockQ_ret ?_)
 refine RT ?_
 first | (simp_all [mailOk, gidOk, V.erase, V.trav, packV]; done) | (simp_all [mailOk, gidOk, V.erase, V.trav, packV] <;> omega)
end Go.Proofs.YtjhfabimacljhaaGreat.K

/- Walks: what is found in lists. Printed by w2.py. -/
namespace Go.Proofs.YtjhfabimacljhaaGreat.K
open Go Go.RowKit
set_option linter.unusedVariables false
set_option linter.unusedSimpArgs false
def eqI (x y : Int) : Bool := decide (x = y)
theorem idx_mem (x : Int) (a : List Int) : decide (idxI (a.findIdx? (eqI x)) ≥ 0) = decide (x ∈ a) := by
  cases h : a.findIdx? (eqI x) with
  | some i =>
    obtain ⟨h1, h2⟩ := find_some h
    have : x = a[i] := by simpa [eqI] using h2
    rw [decide_eq_true (show x ∈ a by rw [this]; exact List.getElem_mem h1)]
    exact decide_eq_true (by show ((i : Nat) : Int) ≥ 0; omega)
  | none =>
    have : ¬ x ∈ a := fun hm => by
      obtain ⟨i, hi, rfl⟩ := List.mem_iff_getElem.1 hm
      have := List.findIdx?_eq_none_iff.1 h _ (List.getElem_mem hi)
      simp [eqI] at this
    rw [decide_eq_false this]
    rfl
theorem any_here {α : Type} {l : List α} {p : α → Bool} {i : Nat} (h : i < l.length) (hp : p l[i] = true) : l.any p = true := List.any_eq_true.2 ⟨_, List.getElem_mem h, hp⟩
theorem any_none {α : Type} {l : List α} {p : α → Bool} (h : ∀ k (hk : k < l.length), p l[k] = false) : l.any p = false := by
  rw [List.any_eq_false]
  intro x hx
  obtain ⟨i, hi, rfl⟩ := List.mem_iff_getElem.1 hx
  rw [h i hi]; simp
set_option maxHeartbeats 4000000
set_option maxRecDepth 20000
theorem w_impl_MailAt_1 (m : Mail) (g : Int) : Weak Tryz.prog 244 [.agg (cMail m), .ptr 0 0 0 [.int .i64 g]] (.bool (hasGid g m)) := by
 refine Weak.enter tab_ok Tryz.func244 rfl (.inr (by simp [V.labelsL, V.labels, V.labelsLL, zz, zf, zy, or_imp, forall_and])) (t := [.agg (cMail m), .ptr 0 0 0 [.int .i64 g], .any, .any, .any, .any, .any, .any]) rfl ?_
 refine OQ ?_
 iterate 2 (refine EV ?_)
 refine ON ?_
 refine OQ ?_
 iterate 5 (refine EV ?_)
 refine ON ?_
 refine Ok.ret ?_
 with_reducible repeat (first | refine thenQ_ret ?_ | refine blockQ_ret ?_)
 refine RT ?_
 rfl
theorem w_impl_BoxNamed_1 (b : Box) (g : Str) : Weak Tryz.prog 220 [.agg (cBox b), .ptr 0 0 0 [.str g]] (.bool (isNamed g b)) := by
 refine Weak.enter tab_ok Tryz.func220 rfl (.inr (by simp [V.labelsL, V.labels, V.labelsLL, zz, zf, zy, or_imp, forall_and])) (t := [.agg (cBox b), .ptr 0 0 0 [.str g], .any, .any, .any, .any, .any, .any]) rfl ?_
 refine OQ ?_
 iterate 2 (refine EV ?_)
 refine ON ?_
 refine OQ ?_
 iterate 5 (refine EV ?_)
 refine ON ?_
 refine Ok.ret ?_
 with_reducible repeat (first | refine thenQ_ret ?_ | refine blockQ_ret ?_)
 refine RT ?_
 rfl
theorem w_idx_impl_MailAt_1 (a : List Mail) (g : Int) (ha : a.length ≤ 4611686018427387904) : Weak Tryz.prog 243 [.sl 0 4 0 (a.map cMail), .fn 244 [.ptr 0 0 0 [.int .i64 g]]] (.int .i64 (idxI (a.findIdx? (hasGid g)))) := by
 refine Weak.enter tab_ok Tryz.func243 rfl (.inr (by simp [V.labelsL, V.labels, V.labelsLL, zz, zf, zy, or_imp, forall_and])) (t := [.sl 0 4 0 (a.map cMail), .fn 244 [.ptr 0 0 0 [.int .i64 g]], .any, .any, .any, .any, .any, .any, .any, .any, .any, .any, .any, .any, .any, .any, .any, .any, .any]) rfl ?_
 refine OQ ?_
 refine EV ?_
 refine ON ?_
 refine Ok.seq ?_
 refine OQ ?_
 iterate 3 (refine EV ?_)
 refine ON ?_
 refine Ok.block ?_
 refine Ok.loopW (τ := Nat) (fun x => [(8, .int .i64 (x : Int))]) [4, 5, 9, 10, 11, 12, 13, 14, 15, 16, 17, 18] (fun x => by simp only [kover] <;> rfl) (fun x => x ≤ a.length ∧ ∀ k (hk : k < a.length), k < x → hasGid g a[k] = false) (fun x => a.length - x) 0 (by (repeat (first | exact trivial | refine leC ?_ | refine leK ?_ ?_)) <;> first | (exact le_rfl' _) | exact le_rfl' _) (⟨Nat.zero_le _, fun k hk h => by omega⟩) ?_
 rintro i ⟨h1, h2⟩
 refine OQ ?_
 refine EV ?_
 refine ON ?_
 refine Ok.seq ?_
 refine OC (fun hb2 => ?_) (fun hb2 => ?_)
 ·
  try simp only [bsimp] at hb2
  have hi : i < a.length := by omega
  refine Ok.skip ?_
  refine Ok.seq ?_
  refine Ok.block ?_
  refine OQ ?_
  iterate 2 (refine EV ?_)
  refine ON ?_
  refine OQ ?_
  iterate 3 (refine EV ?_)
  refine OkOps.ev tab_ok rfl (ev_idx_map (by simp only [kE, kT, kL, kC] <;> rfl) (by simp only [kE, kT, kL, kC] <;> rfl) (by omega) (by simp only [kE, kT, kL, kC] <;> rfl)) (by simp only [kP] <;> rfl) ?_
  refine EV ?_
  refine OW cl244 (w_impl_MailAt_1 a[i] g) ?_
  refine ON ?_
  refine OC (fun hb4 => ?_) (fun hb4 => ?_)
  ·
   try simp only [bsimp] at hb4
   rw [find_here hi h2 hb4]
   refine OQ ?_
   iterate 2 (refine EV ?_)
   refine ON ?_
   refine Ok.ret ?_
   with_reducible repeat (first | refine thenQ_ret ?_ | refine blockQ_ret ?_)
   refine RT ?_
   rfl
  try simp only [bsimp] at hb4
  have hf : hasGid g a[i] = false := by first | exact hb4 | (simpa [eqI] using hb4)
  refine Ok.skip ?_
  refine Ok.region ?_
  iterate 2 (refine EV ?_)
  refine ON ?_
  refine ⟨i + 1, ?_, rfl, rfl, ⟨by omega, no_next h2 hi hf⟩, by omega⟩
  (repeat (first | exact trivial | refine leC ?_ | refine leK ?_ ?_)) <;> first | ((rw [wrap_add_one (by omega)]; exact le_rfl' _)) | exact le_rfl' _
 try simp only [bsimp] at hb2
 have hall : ∀ k (hk : k < a.length), hasGid g a[k] = false := fun k hk => h2 k hk (by omega)
 rw [find_none hall]
 refine Ok.exit ?_
 refine OQ ?_
 refine EV ?_
 refine ON ?_
 refine Ok.ret ?_
 with_reducible repeat (first | refine thenQ_ret ?_ | refine blockQ_ret ?_)
 refine RT ?_
 rfl
theorem w_idx_impl_BoxNamed_1 (a : List Box) (g : Str) (ha : a.length ≤ 4611686018427387904) : Weak Tryz.prog 219 [.sl 0 7 0 (a.map cBox), .fn 220 [.ptr 0 0 0 [.str g]]] (.int .i64 (idxI (a.findIdx? (isNamed g)))) := by
 refine Weak.enter tab_ok Tryz.func219 rfl (.inr (by simp [V.labelsL, V.labels, V.labelsLL, zz, zf, zy, or_imp, forall_and])) (t := [.sl 0 7 0 (a.map cBox), .fn 220 [.ptr 0 0 0 [.str g]], .any, .any, .any, .any, .any, .any, .any, .any, .any, .any, .any, .any, .any, .any, .any, .any, .any]) rfl ?_
 refine OQ ?_
 refine EV ?_
 refine ON ?_
 refine Ok.seq ?_
 refine OQ ?_
 iterate 3 (refine EV ?_)
 refine ON ?_
 refine Ok.block ?_
 refine Ok.loopW (τ := Nat) (fun x => [(8, .int .i64 (x : Int))]) [4, 5, 9, 10, 11, 12, 13, 14, 15, 16, 17, 18] (fun x => by simp only [kover] <;> rfl) (fun x => x ≤ a.length ∧ ∀ k (hk : k < a.length), k < x → isNamed g a[k] = false) (fun x => a.length - x) 0 (by (repeat (first | exact trivial | refine leC ?_ | refine leK ?_ ?_)) <;> first | (exact le_rfl' _) | exact le_rfl' _) (⟨Nat.zero_le _, fun k hk h => by omega⟩) ?_
 rintro i ⟨h1, h2⟩
 refine OQ ?_
 refine EV ?_
 refine ON ?_
 refine Ok.seq ?_
 refine OC (fun hb2 => ?_) (fun hb2 => ?_)
 ·
  try simp only [bsimp] at hb2
  have hi : i < a.length := by omega
  refine Ok.skip ?_
  refine Ok.seq ?_
  refine Ok.block ?_
  refine OQ ?_
  iterate 2 (refine EV ?_)
  refine ON ?_
  refine OQ ?_
  iterate 3 (refine EV ?_)
  refine OkOps.ev tab_ok rfl (ev_idx_map (by simp only [kE, kT, kL, kC] <;> rfl) (by simp only [kE, kT, kL, kC] <;> rfl) (by omega) (by simp only [kE, kT, kL, kC] <;> rfl)) (by simp only [kP] <;> rfl) ?_
  refine EV ?_
  refine OW cl220 (w_impl_BoxNamed_1 a[i] g) ?_
  refine ON ?_
  refine OC (fun hb4 => ?_) (fun hb4 => ?_)
  ·
   try simp only [bsimp] at hb4
   rw [find_here hi h2 hb4]
   refine OQ ?_
   iterate 2 (refine EV ?_)
   refine ON ?_
   refine Ok.ret ?_
   with_reducible repeat (first | refine thenQ_ret ?_ | refine blockQ_ret ?_)
   refine RT ?_
   rfl
  try simp only [bsimp] at hb4
  have hf : isNamed g a[i] = false := by first | exact hb4 | (simpa [eqI] using hb4)
  refine Ok.skip ?_
  refine Ok.region ?_
  iterate 2 (refine EV ?_)
  refine ON ?_
  refine ⟨i + 1, ?_, rfl, rfl, ⟨by omega, no_next h2 hi hf⟩, by omega⟩
  (repeat (first | exact trivial | refine leC ?_ | refine leK ?_ ?_)) <;> first | ((rw [wrap_add_one (by omega)]; exact le_rfl' _)) | exact le_rfl' _
 try simp only [bsimp] at hb2
 have hall : ∀ k (hk : k < a.length), isNamed g a[k] = false := fun k hk => h2 k hk (by omega)
 rw [find_none hall]
 refine Ok.exit ?_
 refine OQ ?_
 refine EV ?_
 refine ON ?_
 refine Ok.ret ?_
 with_reducible repeat (first | refine thenQ_ret ?_ | refine blockQ_ret ?_)
 refine RT ?_
 rfl
theorem w_impl_MailAt (b : Box) (g : Int) (ha : b.mails.length ≤ 4611686018427387904) : Weak Tryz.prog 218 [.agg (cBox b), .int .i64 g] (.int .i64 (idxI (mailAt b g))) := by
 refine Weak.enter tab_ok Tryz.func218 rfl (.inr (by simp [V.labelsL, V.labels, V.labelsLL, zz, zf, zy, or_imp, forall_and])) (t := [.agg (cBox b), .int .i64 g, .any, .any, .any, .any, .any, .any, .any]) rfl ?_
 refine OQ ?_
 iterate 3 (refine EV ?_)
 refine ON ?_
 refine OQ ?_
 iterate 3 (refine EV ?_)
 refine OkOps.S0 rfl (OpS.weakE rfl (by simp only [kE, kT, kL, kC] <;> rfl) (by simp only [kE, kT, kL, kC, V.eraseL, V.erase, V.travL, V.trav, zz, zf, zy] <;> rfl) cl243 (by simp [V.labels, V.labelsL, V.labelsLL, zz, zf, zy]) (w_idx_impl_MailAt_1 b.mails g ha)) (by simp only [kP] <;> rfl) ?_
 refine EV ?_
 refine ON ?_
 refine Ok.ret ?_
 with_reducible repeat (first | refine thenQ_ret ?_ | refine blockQ_ret ?_)
 refine RT ?_
 rfl
theorem w_impl_BoxNamed (s : Store) (g : Str) (ha : s.boxes.length ≤ 4611686018427387904) : Weak Tryz.prog 169 [.agg (cStore s), .str g] (.int .i64 (idxI (boxNamed s g))) := by
 refine Weak.enter tab_ok Tryz.func169 rfl (.inr (by simp [V.labelsL, V.labels, V.labelsLL, zz, zf, zy, or_imp, forall_and])) (t := [.agg (cStore s), .str g, .any, .any, .any, .any, .any, .any, .any]) rfl ?_
 refine OQ ?_
 iterate 3 (refine EV ?_)
 refine ON ?_
 refine OQ ?_
 iterate 3 (refine EV ?_)
 refine OkOps.S0 rfl (OpS.weakE rfl (by simp only [kE, kT, kL, kC] <;> rfl) (by simp only [kE, kT, kL, kC, V.eraseL, V.erase, V.travL, V.trav, zz, zf, zy] <;> rfl) cl219 (by simp [V.labels, V.labelsL, V.labelsLL, zz, zf, zy]) (w_idx_impl_BoxNamed_1 s.boxes g ha)) (by simp only [kP] <;> rfl) ?_
 refine EV ?_
 refine ON ?_
 refine Ok.ret ?_
 with_reducible repeat (first | refine thenQ_ret ?_ | refine blockQ_ret ?_)
 refine RT ?_
 rfl
theorem w_spec_MailAt (x0 : Box) (g : Int) (ha : x0.mails.length ≤ 4611686018427387904) : Weak Tryz.prog 204 [.agg (cBox x0), .int .i64 g] (.int .i64 (idxI (mailAt x0 g))) := by
 refine Weak.enter tab_ok Tryz.func204 rfl (.inr (by simp [V.labelsL, V.labels, V.labelsLL, zz, zf, zy, or_imp, forall_and])) (t := [.agg (cBox x0), .int .i64 g, .any, .any, .any, .any, .any, .any, .any, .any, .any, .any, .any, .any, .any, .any, .any, .any, .any, .any, .any, .any]) rfl ?_
 refine OQ ?_
 iterate 2 (refine EV ?_)
 refine ON ?_
 refine Ok.seq ?_
 refine OQ ?_
 refine EV ?_
 refine ON ?_
 refine Ok.block ?_
 refine Ok.loopW (τ := Nat) (fun x => [(5, .int .i64 (x : Int))]) [4, 6, 7, 8, 9, 10, 11, 12, 13, 14, 15, 16, 17, 18, 19, 20, 21] (fun x => by simp only [kover] <;> rfl) (fun x => x ≤ x0.mails.length ∧ ∀ k (hk : k < x0.mails.length), k < x → hasGid g x0.mails[k] = false) (fun x => x0.mails.length - x) 0 (by (repeat (first | exact trivial | refine leC ?_ | refine leK ?_ ?_)) <;> first | (exact le_rfl' _) | exact le_rfl' _) (⟨Nat.zero_le _, fun k hk h => by omega⟩) ?_
 rintro i ⟨h1, h2⟩
 refine Ok.seq ?_
 refine OQ ?_
 iterate 5 (refine EV ?_)
 refine ON ?_
 refine OC (fun hb2 => ?_) (fun hb2 => ?_)
 ·
  try simp only [bsimp] at hb2
  have hi : i < x0.mails.length := by omega
  refine Ok.skip ?_
  refine Ok.seq ?_
  refine Ok.block ?_
  refine OQ ?_
  iterate 3 (refine EV ?_)
  refine OkOps.ev tab_ok rfl (ev_idx_map (by simp only [kE, kT, kL, kC] <;> rfl) (by simp only [kE, kT, kL, kC] <;> rfl) (by omega) (by simp only [kE, kT, kL, kC] <;> rfl)) (by simp only [kP] <;> rfl) ?_
  iterate 4 (refine EV ?_)
  refine ON ?_
  refine OC (fun hb4 => ?_) (fun hb4 => ?_)
  ·
   try simp only [bsimp] at hb4
   have hh : hasGid g x0.mails[i] = true := by simpa [hasGid] using hb4
   rw [show mailAt x0 g = some i from find_here hi h2 hh]
   refine OQ ?_
   iterate 2 (refine EV ?_)
   refine ON ?_
   refine Ok.ret ?_
   with_reducible repeat (first | refine thenQ_ret ?_ | refine blockQ_ret ?_)
   refine RT ?_
   rfl
  try simp only [bsimp] at hb4
  have hf : hasGid g x0.mails[i] = false := by first | exact hb4 | (simpa [hasGid] using hb4)
  refine Ok.skip ?_
  refine Ok.region ?_
  iterate 3 (refine EV ?_)
  refine ON ?_
  refine ⟨i + 1, ?_, rfl, rfl, ⟨by omega, no_next h2 hi hf⟩, by omega⟩
  (repeat (first | exact trivial | refine leC ?_ | refine leK ?_ ?_)) <;> first | ((rw [wrap_add_one (by omega)]; exact le_rfl' _)) | exact le_rfl' _
 try simp only [bsimp] at hb2
 have hall : ∀ k (hk : k < x0.mails.length), hasGid g x0.mails[k] = false := fun k hk => h2 k hk (by omega)
 rw [show mailAt x0 g = none from find_none hall]
 refine Ok.exit ?_
 refine OQ ?_
 refine EV ?_
 refine ON ?_
 refine Ok.ret ?_
 with_reducible repeat (first | refine thenQ_ret ?_ | refine blockQ_ret ?_)
 refine RT ?_
 rfl
theorem w_spec_BoxNamed (x0 : Store) (g : Str) (ha : x0.boxes.length ≤ 4611686018427387904) : Weak Tryz.prog 149 [.agg (cStore x0), .str g] (.int .i64 (idxI (boxNamed x0 g))) := by
 refine Weak.enter tab_ok Tryz.func149 rfl (.inr (by simp [V.labelsL, V.labels, V.labelsLL, zz, zf, zy, or_imp, forall_and])) (t := [.agg (cStore x0), .str g, .any, .any, .any, .any, .any, .any, .any, .any, .any, .any, .any, .any, .any, .any, .any, .any, .any, .any, .any, .any]) rfl ?_
 refine OQ ?_
 iterate 2 (refine EV ?_)
 refine ON ?_
 refine Ok.seq ?_
 refine OQ ?_
 refine EV ?_
 refine ON ?_
 refine Ok.block ?_
 refine Ok.loopW (τ := Nat) (fun x => [(5, .int .i64 (x : Int))]) [4, 6, 7, 8, 9, 10, 11, 12, 13, 14, 15, 16, 17, 18, 19, 20, 21] (fun x => by simp only [kover] <;> rfl) (fun x => x ≤ x0.boxes.length ∧ ∀ k (hk : k < x0.boxes.length), k < x → isNamed g x0.boxes[k] = false) (fun x => x0.boxes.length - x) 0 (by (repeat (first | exact trivial | refine leC ?_ | refine leK ?_ ?_)) <;> first | (exact le_rfl' _) | exact le_rfl' _) (⟨Nat.zero_le _, fun k hk h => by omega⟩) ?_
 rintro i ⟨h1, h2⟩
 refine Ok.seq ?_
 refine OQ ?_
 iterate 5 (refine EV ?_)
 refine ON ?_
 refine OC (fun hb2 => ?_) (fun hb2 => ?_)
 ·
  try simp only [bsimp] at hb2
  have hi : i < x0.boxes.length := by omega
  refine Ok.skip ?_
  refine Ok.seq ?_
  refine Ok.block ?_
  refine OQ ?_
  iterate 3 (refine EV ?_)
  refine OkOps.ev tab_ok rfl (ev_idx_map (by simp only [kE, kT, kL, kC] <;> rfl) (by simp only [kE, kT, kL, kC] <;> rfl) (by omega) (by simp only [kE, kT, kL, kC] <;> rfl)) (by simp only [kP] <;> rfl) ?_
  iterate 4 (refine EV ?_)
  refine ON ?_
  refine OC (fun hb4 => ?_) (fun hb4 => ?_)
  ·
   try simp only [bsimp] at hb4
   have hh : isNamed g x0.boxes[i] = true := by simpa [isNamed] using hb4
   rw [show boxNamed x0 g = some i from find_here hi h2 hh]
   refine OQ ?_
   iterate 2 (refine EV ?_)
   refine ON ?_
   refine Ok.ret ?_
   with_reducible repeat (first | refine thenQ_ret ?_ | refine blockQ_ret ?_)
   refine RT ?_
   rfl
  try simp only [bsimp] at hb4
  have hf : isNamed g x0.boxes[i] = false := by first | exact hb4 | (simpa [isNamed] using hb4)
  refine Ok.skip ?_
  refine Ok.region ?_
  iterate 3 (refine EV ?_)
  refine ON ?_
  refine ⟨i + 1, ?_, rfl, rfl, ⟨by omega, no_next h2 hi hf⟩, by omega⟩
  (repeat (first | exact trivial | refine leC ?_ | refine leK ?_ ?_)) <;> first | ((rw [wrap_add_one (by omega)]; exact le_rfl' _)) | exact le_rfl' _
 try simp only [bsimp] at hb2
 have hall : ∀ k (hk : k < x0.boxes.length), isNamed g x0.boxes[k] = false := fun k hk => h2 k hk (by omega)
 rw [show boxNamed x0 g = none from find_none hall]
 refine Ok.exit ?_
 refine OQ ?_
 refine EV ?_
 refine ON ?_
 refine Ok.ret ?_
 with_reducible repeat (first | refine thenQ_ret ?_ | refine blockQ_ret ?_)
 refine RT ?_
 rfl
theorem w_spec_BoxAt (x0 : Store) (g : Int) (ha : x0.boxes.length ≤ 4611686018427387904) : Weak Tryz.prog 229 [.agg (cStore x0), .int .i64 g] (.int .i64 (idxI (boxAt x0 g))) := by
 refine Weak.enter tab_ok Tryz.func229 rfl (.inr (by simp [V.labelsL, V.labels, V.labelsLL, zz, zf, zy, or_imp, forall_and])) (t := [.agg (cStore x0), .int .i64 g, .any, .any, .any, .any, .any, .any, .any, .any, .any, .any, .any, .any, .any, .any, .any, .any, .any, .any, .any, .any]) rfl ?_
 refine OQ ?_
 iterate 2 (refine EV ?_)
 refine ON ?_
 refine Ok.seq ?_
 refine OQ ?_
 refine EV ?_
 refine ON ?_
 refine Ok.block ?_
 refine Ok.loopW (τ := Nat) (fun x => [(5, .int .i64 (x : Int))]) [4, 6, 7, 8, 9, 10, 11, 12, 13, 14, 15, 16, 17, 18, 19, 20, 21] (fun x => by simp only [kover] <;> rfl) (fun x => x ≤ x0.boxes.length ∧ ∀ k (hk : k < x0.boxes.length), k < x → boxIs g x0.boxes[k] = false) (fun x => x0.boxes.length - x) 0 (by (repeat (first | exact trivial | refine leC ?_ | refine leK ?_ ?_)) <;> first | (exact le_rfl' _) | exact le_rfl' _) (⟨Nat.zero_le _, fun k hk h => by omega⟩) ?_
 rintro i ⟨h1, h2⟩
 refine Ok.seq ?_
 refine OQ ?_
 iterate 5 (refine EV ?_)
 refine ON ?_
 refine OC (fun hb2 => ?_) (fun hb2 => ?_)
 ·
  try simp only [bsimp] at hb2
  have hi : i < x0.boxes.length := by omega
  refine Ok.skip ?_
  refine Ok.seq ?_
  refine Ok.block ?_
  refine OQ ?_
  iterate 3 (refine EV ?_)
  refine OkOps.ev tab_ok rfl (ev_idx_map (by simp only [kE, kT, kL, kC] <;> rfl) (by simp only [kE, kT, kL, kC] <;> rfl) (by omega) (by simp only [kE, kT, kL, kC] <;> rfl)) (by simp only [kP] <;> rfl) ?_
  iterate 4 (refine EV ?_)
  refine ON ?_
  refine OC (fun hb4 => ?_) (fun hb4 => ?_)
  ·
   try simp only [bsimp] at hb4
   have hh : boxIs g x0.boxes[i] = true := by simpa [boxIs] using hb4
   rw [show boxAt x0 g = some i from find_here hi h2 hh]
   refine OQ ?_
   iterate 2 (refine EV ?_)
   refine ON ?_
   refine Ok.ret ?_
   with_reducible repeat (first | refine thenQ_ret ?_ | refine blockQ_ret ?_)
   refine RT ?_
   rfl
  try simp only [bsimp] at hb4
  have hf : boxIs g x0.boxes[i] = false := by first | exact hb4 | (simpa [boxIs] using hb4)
  refine Ok.skip ?_
  refine Ok.region ?_
  iterate 3 (refine EV ?_)
  refine ON ?_
  refine ⟨i + 1, ?_, rfl, rfl, ⟨by omega, no_next h2 hi hf⟩, by omega⟩
  (repeat (first | exact trivial | refine leC ?_ | refine leK ?_ ?_)) <;> first | ((rw [wrap_add_one (by omega)]; exact le_rfl' _)) | exact le_rfl' _
 try simp only [bsimp] at hb2
 have hall : ∀ k (hk : k < x0.boxes.length), boxIs g x0.boxes[k] = false := fun k hk => h2 k hk (by omega)
 rw [show boxAt x0 g = none from find_none hall]
 refine Ok.exit ?_
 refine OQ ?_
 refine EV ?_
 refine ON ?_
 refine Ok.ret ?_
 with_reducible repeat (first | refine thenQ_ret ?_ | refine blockQ_ret ?_)
 refine RT ?_
 rfl
theorem w_slices_Index___int_int_ (a : List Int) (g : Int) (ha : a.length ≤ 4611686018427387904) : Weak Tryz.prog 221 [.sl 0 1 0 (a.map cZ), .int .i64 g] (.int .i64 (idxI (a.findIdx? (eqI g)))) := by
 refine Weak.enter tab_ok Tryz.func221 rfl (.inr (by simp [V.labelsL, V.labels, V.labelsLL, zz, zf, zy, or_imp, forall_and])) (t := [.sl 0 1 0 (a.map cZ), .int .i64 g, .any, .any, .any, .any, .any, .any, .any, .any, .any, .any, .any, .any, .any, .any, .any, .any, .any]) rfl ?_
 refine OQ ?_
 refine EV ?_
 refine ON ?_
 refine Ok.seq ?_
 refine OQ ?_
 iterate 3 (refine EV ?_)
 refine ON ?_
 refine Ok.block ?_
 refine Ok.loopW (τ := Nat) (fun x => [(8, .int .i64 (x : Int))]) [4, 5, 9, 10, 11, 12, 13, 14, 15, 16, 17, 18] (fun x => by simp only [kover] <;> rfl) (fun x => x ≤ a.length ∧ ∀ k (hk : k < a.length), k < x → eqI g a[k] = false) (fun x => a.length - x) 0 (by (repeat (first | exact trivial | refine leC ?_ | refine leK ?_ ?_)) <;> first | (exact le_rfl' _) | exact le_rfl' _) (⟨Nat.zero_le _, fun k hk h => by omega⟩) ?_
 rintro i ⟨h1, h2⟩
 refine OQ ?_
 refine EV ?_
 refine ON ?_
 refine Ok.seq ?_
 refine OC (fun hb2 => ?_) (fun hb2 => ?_)
 ·
  try simp only [bsimp] at hb2
  have hi : i < a.length := by omega
  refine Ok.skip ?_
  refine Ok.seq ?_
  refine Ok.block ?_
  refine OQ ?_
  iterate 2 (refine EV ?_)
  refine ON ?_
  refine OQ ?_
  iterate 3 (refine EV ?_)
  refine OkOps.ev tab_ok rfl (ev_idx_map (by simp only [kE, kT, kL, kC] <;> rfl) (by simp only [kE, kT, kL, kC] <;> rfl) (by omega) (by simp only [kE, kT, kL, kC] <;> rfl)) (by simp only [kP] <;> rfl) ?_
  iterate 2 (refine EV ?_)
  refine ON ?_
  refine OC (fun hb4 => ?_) (fun hb4 => ?_)
  ·
   try simp only [bsimp] at hb4
   have hh : eqI g a[i] = true := by simpa [eqI] using hb4
   rw [find_here hi h2 hh]
   refine OQ ?_
   iterate 2 (refine EV ?_)
   refine ON ?_
   refine Ok.ret ?_
   with_reducible repeat (first | refine thenQ_ret ?_ | refine blockQ_ret ?_)
   refine RT ?_
   rfl
  try simp only [bsimp] at hb4
  have hf : eqI g a[i] = false := by first | exact hb4 | (simpa [eqI] using hb4)
  refine Ok.skip ?_
  refine Ok.region ?_
  iterate 2 (refine EV ?_)
  refine ON ?_
  refine ⟨i + 1, ?_, rfl, rfl, ⟨by omega, no_next h2 hi hf⟩, by omega⟩
  (repeat (first | exact trivial | refine leC ?_ | refine leK ?_ ?_)) <;> first | ((rw [wrap_add_one (by omega)]; exact le_rfl' _)) | exact le_rfl' _
 try simp only [bsimp] at hb2
 have hall : ∀ k (hk : k < a.length), eqI g a[k] = false := fun k hk => h2 k hk (by omega)
 rw [find_none hall]
 refine Ok.exit ?_
 refine OQ ?_
 refine EV ?_
 refine ON ?_
 refine Ok.ret ?_
 with_reducible repeat (first | refine thenQ_ret ?_ | refine blockQ_ret ?_)
 refine RT ?_
 rfl
theorem w_slices_Contains___int_int_ (a : List Int) (g : Int) (ha : a.length ≤ 4611686018427387904) : Weak Tryz.prog 170 [.sl 0 1 0 (a.map cZ), .int .i64 g] (.bool (decide (g ∈ a))) := by
 rw [← idx_mem]
 refine Weak.enter tab_ok Tryz.func170 rfl (.inr (by simp [V.labelsL, V.labels, V.labelsLL, zz, zf, zy, or_imp, forall_and])) (t := [.sl 0 1 0 (a.map cZ), .int .i64 g, .any, .any, .any, .any, .any, .any, .any]) rfl ?_
 refine OQ ?_
 refine EV ?_
 refine ON ?_
 refine OQ ?_
 iterate 2 (refine EV ?_)
 refine OW cl221 (w_slices_Index___int_int_ a g ha) ?_
 iterate 2 (refine EV ?_)
 refine ON ?_
 refine Ok.ret ?_
 with_reducible repeat (first | refine thenQ_ret ?_ | refine blockQ_ret ?_)
 refine RT ?_
 rfl
theorem w_spec_l06In (a : List Int) (g : Int) (ha : a.length ≤ 4611686018427387904) : Weak Tryz.prog 150 [.sl 0 1 0 (a.map cZ), .int .i64 g] (.bool (decide (g ∈ a))) := by
 refine Weak.enter tab_ok Tryz.func150 rfl (.inr (by simp [V.labelsL, V.labels, V.labelsLL, zz, zf, zy, or_imp, forall_and])) (t := [.sl 0 1 0 (a.map cZ), .int .i64 g, .any, .any, .any, .any, .any, .any, .any, .any, .any, .any, .any, .any, .any, .any, .any, .any]) rfl ?_
 refine OQ ?_
 refine EV ?_
 refine ON ?_
 refine Ok.seq ?_
 refine OQ ?_
 refine EV ?_
 refine ON ?_
 refine Ok.block ?_
 refine Ok.loopW (τ := Nat) (fun x => [(5, .int .i64 (x : Int))]) [4, 6, 7, 8, 9, 10, 11, 12, 13, 14, 15, 16, 17] (fun x => by simp only [kover] <;> rfl) (fun x => x ≤ a.length ∧ ∀ k (hk : k < a.length), k < x → eqI g a[k] = false) (fun x => a.length - x) 0 (by (repeat (first | exact trivial | refine leC ?_ | refine leK ?_ ?_)) <;> first | (exact le_rfl' _) | exact le_rfl' _) (⟨Nat.zero_le _, fun k hk h => by omega⟩) ?_
 rintro i ⟨h1, h2⟩
 refine Ok.seq ?_
 refine OQ ?_
 iterate 4 (refine EV ?_)
 refine ON ?_
 refine OC (fun hb2 => ?_) (fun hb2 => ?_)
 ·
  try simp only [bsimp] at hb2
  have hi : i < a.length := by omega
  refine Ok.skip ?_
  refine Ok.seq ?_
  refine Ok.block ?_
  refine OQ ?_
  iterate 2 (refine EV ?_)
  refine OkOps.ev tab_ok rfl (ev_idx_map (by simp only [kE, kT, kL, kC] <;> rfl) (by simp only [kE, kT, kL, kC] <;> rfl) (by omega) (by simp only [kE, kT, kL, kC] <;> rfl)) (by simp only [kP] <;> rfl) ?_
  iterate 3 (refine EV ?_)
  refine ON ?_
  refine OC (fun hb4 => ?_) (fun hb4 => ?_)
  ·
   try simp only [bsimp] at hb4
   have hh : a[i] = g := by simpa using hb4
   rw [decide_eq_true (show g ∈ a by rw [← hh]; exact List.getElem_mem hi)]
   refine OQ ?_
   refine EV ?_
   refine ON ?_
   refine Ok.ret ?_
   with_reducible repeat (first | refine thenQ_ret ?_ | refine blockQ_ret ?_)
   refine RT ?_
   rfl
  try simp only [bsimp] at hb4
  have hf : eqI g a[i] = false := by (have hq : ¬ a[i] = g := by simpa using hb4); simp only [eqI, decide_eq_false_iff_not]; exact fun h => hq h.symm
  refine Ok.skip ?_
  refine Ok.region ?_
  iterate 3 (refine EV ?_)
  refine ON ?_
  refine ⟨i + 1, ?_, rfl, rfl, ⟨by omega, no_next h2 hi hf⟩, by omega⟩
  (repeat (first | exact trivial | refine leC ?_ | refine leK ?_ ?_)) <;> first | ((rw [wrap_add_one (by omega)]; exact le_rfl' _)) | exact le_rfl' _
 try simp only [bsimp] at hb2
 have hall : ∀ k (hk : k < a.length), eqI g a[k] = false := fun k hk => h2 k hk (by omega)
 rw [decide_eq_false (show ¬ g ∈ a from fun hm => by obtain ⟨k, hk, rfl⟩ := List.mem_iff_getElem.1 hm; have := hall k hk; simp [eqI] at this)]
 refine Ok.exit ?_
 refine OQ ?_
 refine EV ?_
 refine ON ?_
 refine Ok.ret ?_
 with_reducible repeat (first | refine thenQ_ret ?_ | refine blockQ_ret ?_)
 refine RT ?_
 rfl
theorem w_impl_isLate (b : Box) (t : Int) (ha : b.mails.length ≤ 4611686018427387904) (hb : ∀ m ∈ b.mails, m.flags.length ≤ 4611686018427387904) : Weak Tryz.prog 171 [.agg (cBox b), .int .i64 t] (.bool (lateB b t)) := by
 refine Weak.enter tab_ok Tryz.func171 rfl (.inr (by simp [V.labelsL, V.labels, V.labelsLL, zz, zf, zy, or_imp, forall_and])) (t := [.agg (cBox b), .int .i64 t, .any, .any, .any, .any, .any, .any, .any, .any, .any, .any, .any, .any, .any, .any, .any, .any, .any, .any, .any, .any, .any, .any, .any, .any, .any, .any, .any, .any, .any, .any, .any, .any, .any]) rfl ?_
 refine OQ ?_
 iterate 2 (refine EV ?_)
 refine ON ?_
 refine Ok.seq ?_
 refine OQ ?_
 iterate 4 (refine EV ?_)
 refine ON ?_
 refine Ok.block ?_
 refine Ok.loopWZ (τ := Nat) (fun x => [(12, .int .i64 (x : Int))]) [4, 6, 8, 13, 14, 15, 16, 17, 18, 19, 20, 21, 22, 23, 24, 25, 26, 27, 28, 29] (fun x => by simp only [kover] <;> rfl) (fun x => x ≤ b.mails.length ∧ ∀ k (hk : k < b.mails.length), k < x → lateM t b.mails[k] = false) (fun x => b.mails.length - x) 0 (by omega) (by (repeat (first | exact trivial | refine leC ?_ | refine leK ?_ ?_)) <;> first | (exact le_rfl' _) | exact le_rfl' _) (⟨Nat.zero_le _, fun k hk h => by omega⟩) ?_
 rintro i ⟨h1, h2⟩
 refine OQ ?_
 refine EV ?_
 refine ON ?_
 refine Ok.seq ?_
 refine OC (fun hb2 => ?_) (fun hb2 => ?_)
 ·
  try simp only [bsimp] at hb2
  have hil : i < b.mails.length := by omega
  have hfl := hb _ (List.getElem_mem hil)
  refine Ok.skip ?_
  refine Ok.seq ?_
  refine Ok.block ?_
  refine OQ ?_
  refine OkOps.ev tab_ok rfl (ev_idx_map (by simp only [kE, kT, kL, kC] <;> rfl) (by simp only [kE, kT, kL, kC] <;> rfl) (by omega) (by simp only [kE, kT, kL, kC] <;> rfl)) (by simp only [kP] <;> rfl) ?_
  iterate 2 (refine EV ?_)
  refine OE ?_
  refine ON ?_
  refine OQ ?_
  iterate 4 (refine EV ?_)
  refine ON ?_
  refine Ok.block ?_
  refine Ok.loopWZ (τ := Nat) (fun x => [(19, .int .i64 (x : Int))]) [4, 8, 20, 21, 22, 23, 24, 25, 26, 27, 28] (fun x => by simp only [kover] <;> rfl) (fun x => x ≤ b.mails[i].flags.length ∧ ∀ k (hk : k < b.mails[i].flags.length), k < x → lateR t b.mails[i].flags[k] = false) (fun x => b.mails[i].flags.length - x) 0 (by omega) (by (repeat (first | exact trivial | refine leC ?_ | refine leK ?_ ?_)) <;> first | (exact le_rfl' _) | exact le_rfl' _) (⟨Nat.zero_le _, fun k hk h => by omega⟩) ?_
  rintro j ⟨g1, g2⟩
  refine OQ ?_
  refine EV ?_
  refine ON ?_
  refine Ok.seq ?_
  refine OC (fun hb5 => ?_) (fun hb5 => ?_)
  ·
   try simp only [bsimp] at hb5
   have hjl : j < b.mails[i].flags.length := by omega
   refine Ok.skip ?_
   refine Ok.seq ?_
   refine Ok.block ?_
   refine OQ ?_
   refine OkOps.ev tab_ok rfl (ev_idx_map (by simp only [kE, kT, kL, kC] <;> rfl) (by simp only [kE, kT, kL, kC] <;> rfl) (by omega) (by simp only [kE, kT, kL, kC] <;> rfl)) (by simp only [kP] <;> rfl) ?_
   iterate 2 (refine EV ?_)
   refine OE ?_
   refine ON ?_
   refine OQ ?_
   iterate 5 (refine EV ?_)
   refine ON ?_
   refine OC (fun hb7 => ?_) (fun hb7 => ?_)
   ·
    try simp only [bsimp] at hb7
    have hr : lateR t b.mails[i].flags[j] = true := by simpa [lateR] using hb7
    rw [show lateB b t = true by unfold lateB; rw [any_here hil (show lateM t b.mails[i] = true from any_here hjl hr), Bool.true_or]]
    refine OQ ?_
    refine EV ?_
    refine ON ?_
    refine Ok.ret ?_
    with_reducible repeat (first | refine thenQ_ret ?_ | refine blockQ_ret ?_)
    refine RT ?_
    rfl
   try simp only [bsimp] at hb7
   have hr : lateR t b.mails[i].flags[j] = false := by simpa [lateR] using hb7
   refine Ok.skip ?_
   refine Ok.region ?_
   iterate 2 (refine EV ?_)
   refine ON ?_
   refine ⟨j + 1, ?_, rfl, ⟨by omega, no_next g2 hjl hr⟩, by omega⟩
   simp only [V.renL, V.travL, V.travLL, V.trav, frz, zz, zf, zy, Nat.reduceLeDiff, ↓reduceIte]
   (repeat (first | exact trivial | refine leC ?_ | refine leK ?_ ?_)) <;> first | ((rw [wrap_add_one (by omega)]; exact le_rfl' _)) | exact le_rfl' _
  try simp only [bsimp] at hb5
  have hm : lateM t b.mails[i] = false := any_none (fun k hk => g2 k hk (by omega))
  refine Ok.exit ?_
  refine Ok.region ?_
  iterate 2 (refine EV ?_)
  refine ON ?_
  refine ⟨i + 1, ?_, rfl, ⟨by omega, no_next h2 hil hm⟩, by omega⟩
  simp only [V.renL, V.travL, V.travLL, V.trav, frz, zz, zf, zy, Nat.reduceLeDiff, ↓reduceIte]
  (repeat (first | exact trivial | refine leC ?_ | refine leK ?_ ?_)) <;> first | ((rw [wrap_add_one (by omega)]; exact le_rfl' _)) | exact le_rfl' _
 try simp only [bsimp] at hb2
 rw [show lateB b t = decide (b.named.time > t) by unfold lateB; rw [any_none (fun k hk => h2 k hk (by omega)), Bool.false_or]]
 refine Ok.exit ?_
 refine OQ ?_
 iterate 6 (refine EV ?_)
 refine ON ?_
 refine Ok.ret ?_
 with_reducible repeat (first | refine thenQ_ret ?_ | refine blockQ_ret ?_)
 refine RT ?_
 rfl
theorem w_spec_l07Times (b : Box) (t : Int) (ha : b.mails.length ≤ 4611686018427387904) (hb : ∀ m ∈ b.mails, m.flags.length ≤ 4611686018427387904) : Weak Tryz.prog 151 [.agg (cBox b), .int .i64 t] (.bool (!lateB b t)) := by
 refine Weak.enter tab_ok Tryz.func151 rfl (.inr (by simp [V.labelsL, V.labels, V.labelsLL, zz, zf, zy, or_imp, forall_and])) (t := [.agg (cBox b), .int .i64 t, .any, .any, .any, .any, .any, .any, .any, .any, .any, .any, .any, .any, .any, .any, .any, .any, .any, .any, .any, .any, .any, .any, .any, .any, .any, .any, .any, .any, .any, .any, .any, .any, .any, .any, .any, .any, .any, .any, .any, .any, .any]) rfl ?_
 refine OQ ?_
 iterate 2 (refine EV ?_)
 refine ON ?_
 refine Ok.seq ?_
 refine OQ ?_
 iterate 5 (refine EV ?_)
 refine ON ?_
 refine OC (fun hb1 => ?_) (fun hb1 => ?_)
 ·
  try simp only [bsimp] at hb1
  rw [show lateB b t = true by unfold lateB; rw [decide_eq_true (show b.named.time > t by omega), Bool.or_true]]
  refine OQ ?_
  refine EV ?_
  refine ON ?_
  refine Ok.ret ?_
  with_reducible repeat (first | refine thenQ_ret ?_ | refine blockQ_ret ?_)
  refine RT ?_
  rfl
 try simp only [bsimp] at hb1
 have hn : decide (b.named.time > t) = false := decide_eq_false (by omega)
 refine Ok.skip ?_
 refine Ok.seq ?_
 refine OQ ?_
 refine EV ?_
 refine ON ?_
 refine Ok.block ?_
 refine Ok.loopW (τ := Nat) (fun x => [(5, .int .i64 (x : Int))]) [4, 6, 12, 13, 14, 15, 16, 17, 18, 19, 20, 21, 22, 23, 24, 25, 26, 27, 28, 29, 30, 31, 32, 33, 34, 35, 36, 37, 38, 39, 40, 41, 42] (fun x => by simp only [kover] <;> rfl) (fun x => x ≤ b.mails.length ∧ ∀ k (hk : k < b.mails.length), k < x → lateM t b.mails[k] = false) (fun x => b.mails.length - x) 0 (by (repeat (first | exact trivial | refine leC ?_ | refine leK ?_ ?_)) <;> first | (exact le_rfl' _) | exact le_rfl' _) (⟨Nat.zero_le _, fun k hk h => by omega⟩) ?_
 rintro i ⟨h1, h2⟩
 refine Ok.seq ?_
 refine OQ ?_
 iterate 5 (refine EV ?_)
 refine ON ?_
 refine OC (fun hb4 => ?_) (fun hb4 => ?_)
 ·
  try simp only [bsimp] at hb4
  have hil : i < b.mails.length := by omega
  have hfl := hb _ (List.getElem_mem hil)
  refine Ok.skip ?_
  refine Ok.seq ?_
  refine Ok.block ?_
  refine OQ ?_
  refine EV ?_
  refine ON ?_
  refine Ok.block ?_
  refine Ok.loopW (τ := Nat) (fun x => [(6, .int .i64 (x : Int))]) [4, 19, 20, 21, 22, 23, 24, 25, 26, 27, 28, 29, 30, 31, 32, 33, 34, 35, 36, 37, 38, 39, 40, 41, 42] (fun x => by simp only [kover] <;> rfl) (fun x => x ≤ b.mails[i].flags.length ∧ ∀ k (hk : k < b.mails[i].flags.length), k < x → lateR t b.mails[i].flags[k] = false) (fun x => b.mails[i].flags.length - x) 0 (by (repeat (first | exact trivial | refine leC ?_ | refine leK ?_ ?_)) <;> first | (exact le_rfl' _) | exact le_rfl' _) (⟨Nat.zero_le _, fun k hk h => by omega⟩) ?_
  rintro j ⟨g1, g2⟩
  refine Ok.seq ?_
  refine OQ ?_
  iterate 4 (refine EV ?_)
  refine OkOps.ev tab_ok rfl (ev_idx_map (by simp only [kE, kT, kL, kC] <;> rfl) (by simp only [kE, kT, kL, kC] <;> rfl) (by omega) (by simp only [kE, kT, kL, kC] <;> rfl)) (by simp only [kP] <;> rfl) ?_
  iterate 4 (refine EV ?_)
  refine ON ?_
  refine OC (fun hb7 => ?_) (fun hb7 => ?_)
  ·
   try simp only [bsimp] at hb7
   have hjl : j < b.mails[i].flags.length := by omega
   refine Ok.skip ?_
   refine Ok.seq ?_
   refine Ok.block ?_
   refine OQ ?_
   iterate 3 (refine EV ?_)
   refine OkOps.ev tab_ok rfl (ev_idx_map (by simp only [kE, kT, kL, kC] <;> rfl) (by simp only [kE, kT, kL, kC] <;> rfl) (by omega) (by simp only [kE, kT, kL, kC] <;> rfl)) (by simp only [kP] <;> rfl) ?_
   iterate 3 (refine EV ?_)
   refine OkOps.ev tab_ok rfl (ev_idx_map (by simp only [kE, kT, kL, kC] <;> rfl) (by simp only [kE, kT, kL, kC] <;> rfl) (by omega) (by simp only [kE, kT, kL, kC] <;> rfl)) (by simp only [kP] <;> rfl) ?_
   iterate 5 (refine EV ?_)
   refine ON ?_
   refine OC (fun hb9 => ?_) (fun hb9 => ?_)
   ·
    try simp only [bsimp] at hb9
    have hr : lateR t b.mails[i].flags[j] = true := by simpa [lateR] using hb9
    rw [show lateB b t = true by unfold lateB; rw [any_here hil (show lateM t b.mails[i] = true from any_here hjl hr), Bool.true_or]]
    refine OQ ?_
    refine EV ?_
    refine ON ?_
    refine Ok.ret ?_
    with_reducible repeat (first | refine thenQ_ret ?_ | refine blockQ_ret ?_)
    refine RT ?_
    rfl
   try simp only [bsimp] at hb9
   have hr : lateR t b.mails[i].flags[j] = false := by simpa [lateR] using hb9
   refine Ok.skip ?_
   refine Ok.region ?_
   iterate 3 (refine EV ?_)
   refine ON ?_
   refine ⟨j + 1, ?_, rfl, rfl, ⟨by omega, no_next g2 hjl hr⟩, by omega⟩
   (repeat (first | exact trivial | refine leC ?_ | refine leK ?_ ?_)) <;> first | ((rw [wrap_add_one (by omega)]; exact le_rfl' _)) | exact le_rfl' _
  try simp only [bsimp] at hb7
  have hm : lateM t b.mails[i] = false := any_none (fun k hk => g2 k hk (by omega))
  refine Ok.exit ?_
  refine Ok.region ?_
  iterate 3 (refine EV ?_)
  refine ON ?_
  refine ⟨i + 1, ?_, rfl, rfl, ⟨by omega, no_next h2 hil hm⟩, by omega⟩
  (repeat (first | exact trivial | refine leC ?_ | refine leK ?_ ?_)) <;> first | ((rw [wrap_add_one (by omega)]; exact le_rfl' _)) | exact le_rfl' _
 try simp only [bsimp] at hb4
 rw [show lateB b t = false by unfold lateB; rw [any_none (fun k hk => h2 k hk (by omega)), hn]; rfl]
 refine Ok.exit ?_
 refine OQ ?_
 refine EV ?_
 refine ON ?_
 refine Ok.ret ?_
 with_reducible repeat (first | refine thenQ_ret ?_ | refine blockQ_ret ?_)
 refine RT ?_
 rfl
end Go.Proofs.YtjhfabimacljhaaGreat.K
