/- Walks: what is right of registers, flags, names, mails. Printed by w2.py. -/
import Derived.Test.YtjhfabimacljhaaGreatG4
namespace Go.Proofs.YtjhfabimacljhaaGreat.K
open Go Go.RowKit
set_option linter.unusedVariables false
set_option linter.unusedSimpArgs false
theorem wrap_pred {i : Nat} (h : 0 < i) (h2 : i ≤ 9223372036854775807) : IntKind.i64.wrap ((i : Int) - 1) = ((i - 1 : Nat) : Int) := by rw [IntKind.wrap_i64]; omega
set_option maxHeartbeats 4000000
set_option maxRecDepth 20000
theorem w_impl_isGid (x : Int) : Weak Tryz.prog 214 [.int .i64 x] (.bool (gidOk x)) := by
 refine Weak.enter tab_ok Tryz.func214 rfl (.inr (by simp [V.labelsL, V.labels, zz, zf, zy])) (t := [.int .i64 x, .any, .any, .any, .any]) rfl ?_
 refine OQ ?_
 refine EV ?_
 refine ON ?_
 refine OQ ?_
 refine EV ?_
 refine OkOps.S0 rfl (OpS.weak' rfl (by simp only [kE, kT, kL, kC] <;> rfl) (by simp only [kE, kT, kL, kC] <;> rfl) cl124 (w_impl_within x 1 9999)) (by simp only [kP] <;> rfl) ?_
 refine EV ?_
 refine ON ?_
 refine Ok.ret ?_
 with_reducible repeat (first | refine thenQ_ret ?_ | refine blockQ_ret ?_)
 refine RT ?_
 rfl
theorem w_impl_StampOk (s : Stamp) : Weak Tryz.prog 216 [.agg (cStamp s)] (.bool (stampOk s)) := by
 refine Weak.enter tab_ok Tryz.func216 rfl (.inr (by simp [V.labelsL, V.labels, zz, zf, zy])) (t := [.agg (cStamp s), .any, .any, .any, .any, .any, .any, .any, .any, .any, .any]) rfl ?_
 refine OQ ?_
 iterate 2 (refine EV ?_)
 refine ON ?_
 refine OQ ?_
 iterate 2 (refine EV ?_)
 refine OkOps.S0 rfl (OpS.weak' rfl (by simp only [kE, kT, kL, kC] <;> rfl) (by simp only [kE, kT, kL, kC] <;> rfl) cl124 (w_impl_within _ _ _)) (by simp only [kP] <;> rfl) ?_
 refine EV ?_
 refine OkOps.split (d := 6) (by simp only [kE, kT, kL, kC] <;> rfl) (by simp only [kP] <;> rfl) (by simp only [kP] <;> rfl) (fun hg1_3 => ?_) (fun hg1_3 => ?_)
 ·
  try simp only [bsimp] at hg1_3
  refine OO ?_
  refine EV ?_
  refine OO ?_
  refine EV ?_
  refine OO ?_
  refine OkOps.S0 rfl (OpS.weak' rfl (by simp only [kE, kT, kL, kC] <;> rfl) (by simp only [kE, kT, kL, kC] <;> rfl) cl124 (w_impl_within _ _ _)) (by simp only [kP] <;> rfl) ?_
  iterate 2 (refine EV ?_)
  refine ON ?_
  refine Ok.ret ?_
  with_reducible repeat (first | refine thenQ_ret ?_ | refine blockQ_ret ?_)
  refine RT ?_
  first | (simp_all [stampOk, V.erase, V.trav, packV]; done) | (simp_all [stampOk, V.erase, V.trav, packV] <;> omega)
 ·
  try simp only [bsimp] at hg1_3
  refine OkOps.offU rfl rfl (.inl (by simp only [kE, kT, kL, kC, Bool.not_true, Bool.not_false])) (by simp only [kP] <;> rfl) ?_
  refine OkOps.offU rfl rfl (.inl (by simp only [kE, kT, kL, kC, Bool.not_true, Bool.not_false])) (by simp only [kP] <;> rfl) ?_
  refine OkOps.offU rfl rfl (.inl (by simp only [kE, kT, kL, kC, Bool.not_true, Bool.not_false])) (by simp only [kP] <;> rfl) ?_
  iterate 2 (refine EV ?_)
  refine ON ?_
  refine Ok.ret ?_
  with_reducible repeat (first | refine thenQ_ret ?_ | refine blockQ_ret ?_)
  refine RT ?_
  first | (simp_all [stampOk, V.erase, V.trav, packV]; done) | (simp_all [stampOk, V.erase, V.trav, packV] <;> omega)
theorem w_impl_RegOk (r : Reg) : Weak Tryz.prog 254 [.agg (cReg r)] (.bool (regOk r)) := by
 refine Weak.enter tab_ok Tryz.func254 rfl (.inr (by simp [V.labelsL, V.labels, zz, zf, zy])) (t := [.agg (cReg r), .any, .any, .any, .any, .any, .any, .any, .any, .any, .any]) rfl ?_
 refine OQ ?_
 iterate 2 (refine EV ?_)
 refine ON ?_
 refine OQ ?_
 iterate 2 (refine EV ?_)
 refine OkOps.S0 rfl (OpS.weak' rfl (by simp only [kE, kT, kL, kC] <;> rfl) (by simp only [kE, kT, kL, kC] <;> rfl) cl216 (w_impl_StampOk r.stamp)) (by simp only [kP] <;> rfl) ?_
 refine EV ?_
 refine OkOps.split (d := 6) (by simp only [kE, kT, kL, kC] <;> rfl) (by simp only [kP] <;> rfl) (by simp only [kP] <;> rfl) (fun hg1_3 => ?_) (fun hg1_3 => ?_)
 ·
  try simp only [bsimp] at hg1_3
  refine OO ?_
  refine EV ?_
  refine OO ?_
  refine EV ?_
  refine OO ?_
  refine OkOps.S0 rfl (OpS.weak' rfl (by simp only [kE, kT, kL, kC] <;> rfl) (by simp only [kE, kT, kL, kC] <;> rfl) cl124 (w_impl_within _ _ _)) (by simp only [kP] <;> rfl) ?_
  iterate 2 (refine EV ?_)
  refine ON ?_
  refine Ok.ret ?_
  with_reducible repeat (first | refine thenQ_ret ?_ | refine blockQ_ret ?_)
  refine RT ?_
  first | (simp_all [regOk, V.erase, V.trav, packV]; done) | (simp_all [regOk, V.erase, V.trav, packV] <;> omega)
 ·
  try simp only [bsimp] at hg1_3
  refine OkOps.offU rfl rfl (.inl (by simp only [kE, kT, kL, kC, Bool.not_true, Bool.not_false])) (by simp only [kP] <;> rfl) ?_
  refine OkOps.offU rfl rfl (.inl (by simp only [kE, kT, kL, kC, Bool.not_true, Bool.not_false])) (by simp only [kP] <;> rfl) ?_
  refine OkOps.offU rfl rfl (.inl (by simp only [kE, kT, kL, kC, Bool.not_true, Bool.not_false])) (by simp only [kP] <;> rfl) ?_
  iterate 2 (refine EV ?_)
  refine ON ?_
  refine Ok.ret ?_
  with_reducible repeat (first | refine thenQ_ret ?_ | refine blockQ_ret ?_)
  refine RT ?_
  first | (simp_all [regOk, V.erase, V.trav, packV]; done) | (simp_all [regOk, V.erase, V.trav, packV] <;> omega)
theorem w_impl_FlagsOk (a : List Reg) (ha : a.length ≤ 4611686018427387904) : Weak Tryz.prog 242 [.sl 0 3 0 (a.map cReg)] (.bool (flagsOk a)) := by
 refine Weak.enter tab_ok Tryz.func242 rfl (.inr (by simp [V.labelsL, V.labels, V.labelsLL, zz, zf, zy, or_imp, forall_and])) (t := [.sl 0 3 0 (a.map cReg), .any, .any, .any, .any, .any, .any, .any, .any, .any, .any, .any, .any, .any, .any, .any, .any, .any, .any, .any, .any, .any, .any]) rfl ?_
 refine OQ ?_
 refine EV ?_
 refine ON ?_
 refine Ok.seq ?_
 refine OQ ?_
 iterate 3 (refine EV ?_)
 refine ON ?_
 refine Ok.block ?_
 refine Ok.loopWZ (τ := Nat) (fun x => [(7, .int .i64 (x : Int))]) [2, 4, 8, 9, 10, 11, 12, 13, 14, 15, 16, 17, 18, 19] (fun x => by simp only [kover] <;> rfl) (fun x => x ≤ a.length ∧ ∀ k, k < x → atB a flagOk k = true) (fun x => a.length - x) 0 (by omega) (by refine ⟨?_, ?_, ?_, ?_, ?_, ?_, ?_, ?_, ?_, ?_, ?_, ?_, ?_, ?_, ?_, ?_, ?_, ?_, ?_, ?_, ?_, ?_, ?_, trivial⟩ <;> first | exact le_any _ | with_reducible exact le_rfl' _ | (exact le_rfl' _) | exact le_rfl' _) (⟨Nat.zero_le _, fun k h => by omega⟩) ?_
 rintro i ⟨h1, h2⟩
 refine OQ ?_
 refine EV ?_
 refine ON ?_
 refine Ok.seq ?_
 refine Ok.cond (b := _) (by simp only [kE, kT, kL, kC] <;> rfl) (fun hb2 => ?_) (fun hb2 => ?_)
 ·
  try simp only [bsimp] at hb2
  have hi : i < a.length := by omega
  have hat := atB_get (p := flagOk) hi
  refine Ok.skip ?_
  refine Ok.seq ?_
  refine Ok.block ?_
  refine OQ ?_
  refine OkOps.ev tab_ok rfl (ev_idx_map (by simp only [kE, kT, kL, kC] <;> rfl) (by simp only [kE, kT, kL, kC] <;> rfl) (by omega) (by simp only [kE, kT, kL, kC] <;> rfl)) (by simp only [kP] <;> rfl) ?_
  iterate 2 (refine EV ?_)
  refine OkOps.storeE tab_ok rfl rfl (by simp only [kE, kT, kL, kC] <;> rfl) ⟨_, _, by simp only [kE]; rfl⟩ (by first | (simp [V.labelsL, V.labelsLL, V.labels, zz, zf, zy]; done) | (simp [-List.map_map, -List.map_set, -List.map_drop, -List.map_take, -List.map_tail, -List.drop_one, V.labelsL, V.labelsLL, V.labels, zz, zf, zy]; done)) (by simp only [eq_self, V.updL, V.travL, V.travLL, V.trav, updS, updP, and_self, true_and, and_true, false_and, and_false, Nat.reduceEqDiff, Nat.reduceSub, Nat.le_refl, Nat.zero_le, ↓reduceIte, if_true, if_false, kP, zz, zf, zy] <;> rfl) (rfl) ?_
  refine ON ?_
  refine Ok.seqC [(18, .bool (!atB a flagOk i))] [11, 12, 13, 14, 15, 16, 17] (by simp only [kover] <;> rfl) ?_ ?_
  ·
   refine Ok.region ?_
   refine EV ?_
   refine OkOps.S0 rfl (OpS.weak' rfl (by simp only [kE, kT, kL, kC] <;> rfl) (by simp only [kE, kT, kL, kC] <;> rfl) cl254 (w_impl_RegOk a[i])) (by simp only [kP] <;> rfl) ?_
   iterate 2 (refine EV ?_)
   refine OkOps.split (d := 14) (by simp only [kE, kT, kL, kC] <;> rfl) (by simp only [kP] <;> rfl) (by simp only [kP] <;> rfl) (fun hg4_3 => ?_) (fun hg4_3 => ?_)
   ·
    try simp only [bsimp] at hg4_3
    refine OkOps.offU rfl rfl (.inl (by simp only [kE, kT, kL, kC, Bool.not_true, Bool.not_false])) (by simp only [kP] <;> rfl) ?_
    refine OkOps.offU rfl rfl (.inl (by simp only [kE, kT, kL, kC, Bool.not_true, Bool.not_false])) (by simp only [kP] <;> rfl) ?_
    refine OkOps.offU rfl rfl (.inl (by simp only [kE, kT, kL, kC, Bool.not_true, Bool.not_false])) (by simp only [kP] <;> rfl) ?_
    refine EV ?_
    refine ON ?_
    refine ⟨rfl, ?_, rfl, rfl⟩
    refine ⟨?_, ?_, ?_, ?_, ?_, ?_, ?_, ?_, ?_, ?_, ?_, ?_, ?_, ?_, ?_, ?_, ?_, ?_, ?_, ?_, ?_, ?_, ?_, trivial⟩ <;> first | exact le_any _ | with_reducible exact le_rfl' _ | (refine .inl (congrArg V.bool ?_); (first | (simp [flagOk, *]; done) | (simp [flagOk, *] <;> omega) | (rw [Bool.eq_iff_iff]; simp [flagOk, *] <;> omega) | (simp_all [flagOk]; done) | (simp_all [flagOk]; omega))) | exact le_rfl' _
   ·
    try simp only [bsimp] at hg4_3
    refine OO ?_
    refine EV ?_
    refine OO ?_
    refine EV ?_
    refine OO ?_
    iterate 2 (refine EV ?_)
    refine ON ?_
    refine ⟨rfl, ?_, rfl, rfl⟩
    refine ⟨?_, ?_, ?_, ?_, ?_, ?_, ?_, ?_, ?_, ?_, ?_, ?_, ?_, ?_, ?_, ?_, ?_, ?_, ?_, ?_, ?_, ?_, ?_, trivial⟩ <;> first | exact le_any _ | with_reducible exact le_rfl' _ | (refine .inl (congrArg V.bool ?_); (first | (simp [flagOk, *]; done) | (simp [flagOk, *] <;> omega) | (rw [Bool.eq_iff_iff]; simp [flagOk, *] <;> omega) | (simp_all [flagOk]; done) | (simp_all [flagOk]; omega))) | exact le_rfl' _
  ·
   refine Ok.cond (b := _) (by simp only [kE, kT, kL, kC] <;> rfl) (fun hb4 => ?_) (fun hb4 => ?_)
   ·
    try simp only [bsimp] at hb4
    have e : flagsOk a = false := by unfold flagsOk; rw [allUp_no hi hb4, Bool.false_and]
    rw [e]
    refine OQ ?_
    refine EV ?_
    refine ON ?_
    refine Ok.ret ?_
    with_reducible repeat (first | refine thenQ_ret ?_ | refine blockQ_ret ?_)
    refine RT ?_
    rfl
   ·
    try simp only [bsimp] at hb4
    refine Ok.skip ?_
    refine Ok.region ?_
    iterate 2 (refine EV ?_)
    refine ON ?_
    refine ⟨i + 1, ?_, rfl, ⟨by omega, up_next h2 hb4⟩, by omega⟩
    simp only [V.renL, V.travL, V.travLL, V.trav, frz, zz, zf, zy, Nat.reduceLeDiff, ↓reduceIte]
    refine ⟨?_, ?_, ?_, ?_, ?_, ?_, ?_, ?_, ?_, ?_, ?_, ?_, ?_, ?_, ?_, ?_, ?_, ?_, ?_, ?_, ?_, ?_, ?_, trivial⟩ <;> first | exact le_any _ | with_reducible exact le_rfl' _ | ((rw [wrap_add_one (by omega)]; exact le_rfl' _)) | exact le_rfl' _
 ·
  try simp only [bsimp] at hb2
  obtain rfl : i = a.length := by omega
  have e : flagsOk a = decide ((a.length : Int) = 3) := by unfold flagsOk; rw [allUp_yes h2, Bool.true_and]
  rw [e]
  refine Ok.exit ?_
  refine OQ ?_
  iterate 4 (refine EV ?_)
  refine ON ?_
  refine Ok.ret ?_
  with_reducible repeat (first | refine thenQ_ret ?_ | refine blockQ_ret ?_)
  refine RT ?_
  rfl
theorem w_impl_NameOk (s : Str) (ha : s.length ≤ 4611686018427387904) : Weak Tryz.prog 215 [.str s] (.bool (nameOk s)) := by
 refine Weak.enter tab_ok Tryz.func215 rfl (.inr (by simp [V.labelsL, V.labels, V.labelsLL, zz, zf, zy, or_imp, forall_and])) (t := [.str s, .any, .any, .any, .any, .any, .any, .any, .any, .any, .any, .any, .any, .any, .any, .any, .any, .any, .any, .any, .any, .any, .any, .any, .any, .any, .any, .any, .any, .any, .any, .any, .any, .any, .any]) rfl ?_
 refine OQ ?_
 refine EV ?_
 refine ON ?_
 refine Ok.seq ?_
 refine OQ ?_
 refine EV ?_
 refine ON ?_
 refine Ok.block ?_
 refine Ok.loopW (τ := Nat) (fun x => [(3, .int .i64 (x : Int))]) [2, 4, 5, 6, 7, 8, 9, 10, 11, 12, 13, 14, 15, 16, 17, 18, 19, 20, 21, 22, 23, 24, 25, 26, 27, 28, 29, 30, 31] (fun x => by simp only [kover] <;> rfl) (fun x => x ≤ s.length ∧ ∀ k, k < x → atB s nameB k = true) (fun x => s.length - x) 0 (by refine ⟨?_, ?_, ?_, ?_, ?_, ?_, ?_, ?_, ?_, ?_, ?_, ?_, ?_, ?_, ?_, ?_, ?_, ?_, ?_, ?_, ?_, ?_, ?_, ?_, ?_, ?_, ?_, ?_, ?_, ?_, ?_, ?_, ?_, ?_, ?_, trivial⟩ <;> first | exact le_any _ | with_reducible exact le_rfl' _ | (exact le_rfl' _) | exact le_rfl' _) (⟨Nat.zero_le _, fun k h => by omega⟩) ?_
 rintro i ⟨h1, h2⟩
 refine Ok.seq ?_
 refine OQ ?_
 iterate 4 (refine EV ?_)
 refine ON ?_
 refine Ok.cond (b := _) (by simp only [kE, kT, kL, kC] <;> rfl) (fun hb2 => ?_) (fun hb2 => ?_)
 ·
  try simp only [bsimp] at hb2
  have hi : i < s.length := by omega
  have hat := atB_get (p := nameB) hi
  refine Ok.skip ?_
  refine Ok.seq ?_
  refine Ok.block ?_
  refine Ok.seqC [(31, .bool (!atB s nameB i))] [10, 11, 12, 13, 14, 15, 16, 17, 18, 19, 20, 21, 22, 23, 24, 25, 26, 27, 28, 29, 30] (by simp only [kover] <;> rfl) ?_ ?_
  ·
   refine Ok.region ?_
   iterate 2 (refine EV ?_)
   refine OkOps.ev tab_ok rfl (ev_byte_lt (by simp only [kE, kT, kL, kC] <;> rfl) (by simp only [kE, kT, kL, kC] <;> rfl) (by omega) rfl) (by simp only [kP] <;> rfl) ?_
   iterate 2 (refine EV ?_)
   refine OkOps.split (d := 14) (by simp only [kE, kT, kL, kC] <;> rfl) (by simp only [kP] <;> rfl) (by simp only [kP] <;> rfl) (fun hg4_4 => ?_) (fun hg4_4 => ?_)
   ·
    try simp only [bsimp] at hg4_4
    refine OkOps.offU rfl rfl (.inl (by simp only [kE, kT, kL, kC, Bool.not_true, Bool.not_false])) (by simp only [kP] <;> rfl) ?_
    refine OkOps.offU rfl rfl (.inl (by simp only [kE, kT, kL, kC, Bool.not_true, Bool.not_false])) (by simp only [kP] <;> rfl) ?_
    refine OkOps.offU rfl rfl (.inl (by simp only [kE, kT, kL, kC, Bool.not_true, Bool.not_false])) (by simp only [kP] <;> rfl) ?_
    refine OkOps.offU rfl rfl (.inl (by simp only [kE, kT, kL, kC, Bool.not_true, Bool.not_false])) (by simp only [kP] <;> rfl) ?_
    iterate 2 (refine EV ?_)
    refine OO ?_
    refine EV ?_
    refine OO ?_
    refine EV ?_
    refine OO ?_
    refine OkOps.ev tab_ok rfl (ev_byte_lt (by simp only [kE, kT, kL, kC] <;> rfl) (by simp only [kE, kT, kL, kC] <;> rfl) (by omega) rfl) (by simp only [kP] <;> rfl) ?_
    refine OO ?_
    refine EV ?_
    refine OO ?_
    refine EV ?_
    refine OkOps.split (d := 25) (by simp only [kE, kT, kL, kC] <;> rfl) (by simp only [kP] <;> rfl) (by simp only [kP] <;> rfl) (fun hg4_15 => ?_) (fun hg4_15 => ?_)
    ·
     try simp only [bsimp] at hg4_15
     refine OkOps.offU rfl rfl (.inl (by simp only [kE, kT, kL, kC, Bool.not_true, Bool.not_false])) (by simp only [kP] <;> rfl) ?_
     refine OkOps.offU rfl rfl (.inl (by simp only [kE, kT, kL, kC, Bool.not_true, Bool.not_false])) (by simp only [kP] <;> rfl) ?_
     refine OkOps.offU rfl rfl (.inl (by simp only [kE, kT, kL, kC, Bool.not_true, Bool.not_false])) (by simp only [kP] <;> rfl) ?_
     refine OkOps.offU rfl rfl (.inl (by simp only [kE, kT, kL, kC, Bool.not_true, Bool.not_false])) (by simp only [kP] <;> rfl) ?_
     refine OO ?_
     iterate 2 (refine EV ?_)
     refine ON ?_
     refine ⟨rfl, ?_, rfl, rfl⟩
     refine ⟨?_, ?_, ?_, ?_, ?_, ?_, ?_, ?_, ?_, ?_, ?_, ?_, ?_, ?_, ?_, ?_, ?_, ?_, ?_, ?_, ?_, ?_, ?_, ?_, ?_, ?_, ?_, ?_, ?_, ?_, ?_, ?_, ?_, ?_, ?_, trivial⟩ <;> first | exact le_any _ | with_reducible exact le_rfl' _ | (refine .inl (congrArg V.bool ?_); (first | (simp [nameB, *]; done) | (simp [nameB, *] <;> omega) | (rw [Bool.eq_iff_iff]; simp [nameB, *] <;> omega) | (simp_all [nameB]; done) | (simp_all [nameB]; omega))) | exact le_rfl' _
    ·
     try simp only [bsimp] at hg4_15
     refine OO ?_
     refine EV ?_
     refine OO ?_
     refine EV ?_
     refine OO ?_
     refine OkOps.ev tab_ok rfl (ev_byte_lt (by simp only [kE, kT, kL, kC] <;> rfl) (by simp only [kE, kT, kL, kC] <;> rfl) (by omega) rfl) (by simp only [kP] <;> rfl) ?_
     refine OO ?_
     refine EV ?_
     refine OO ?_
     iterate 2 (refine EV ?_)
     refine ON ?_
     refine ⟨rfl, ?_, rfl, rfl⟩
     refine ⟨?_, ?_, ?_, ?_, ?_, ?_, ?_, ?_, ?_, ?_, ?_, ?_, ?_, ?_, ?_, ?_, ?_, ?_, ?_, ?_, ?_, ?_, ?_, ?_, ?_, ?_, ?_, ?_, ?_, ?_, ?_, ?_, ?_, ?_, ?_, trivial⟩ <;> first | exact le_any _ | with_reducible exact le_rfl' _ | (refine .inl (congrArg V.bool ?_); (first | (simp [nameB, *]; done) | (simp [nameB, *] <;> omega) | (rw [Bool.eq_iff_iff]; simp [nameB, *] <;> omega) | (simp_all [nameB]; done) | (simp_all [nameB]; omega))) | exact le_rfl' _
   ·
    try simp only [bsimp] at hg4_4
    refine OO ?_
    refine EV ?_
    refine OO ?_
    refine EV ?_
    refine OO ?_
    refine OkOps.ev tab_ok rfl (ev_byte_lt (by simp only [kE, kT, kL, kC] <;> rfl) (by simp only [kE, kT, kL, kC] <;> rfl) (by omega) rfl) (by simp only [kP] <;> rfl) ?_
    refine OO ?_
    iterate 3 (refine EV ?_)
    refine OkOps.split (d := 20) (by simp only [kE, kT, kL, kC] <;> rfl) (by simp only [kP] <;> rfl) (by simp only [kP] <;> rfl) (fun hg4_10 => ?_) (fun hg4_10 => ?_)
    ·
     try simp only [bsimp] at hg4_10
     refine OO ?_
     refine EV ?_
     refine OO ?_
     refine EV ?_
     refine OO ?_
     refine OkOps.ev tab_ok rfl (ev_byte_lt (by simp only [kE, kT, kL, kC] <;> rfl) (by simp only [kE, kT, kL, kC] <;> rfl) (by omega) rfl) (by simp only [kP] <;> rfl) ?_
     refine OO ?_
     refine EV ?_
     refine OO ?_
     refine EV ?_
     refine OkOps.split (d := 25) (by simp only [kE, kT, kL, kC] <;> rfl) (by simp only [kP] <;> rfl) (by simp only [kP] <;> rfl) (fun hg4_15 => ?_) (fun hg4_15 => ?_)
     ·
      try simp only [bsimp] at hg4_15
      refine OkOps.offU rfl rfl (.inl (by simp only [kE, kT, kL, kC, Bool.not_true, Bool.not_false])) (by simp only [kP] <;> rfl) ?_
      refine OkOps.offU rfl rfl (.inl (by simp only [kE, kT, kL, kC, Bool.not_true, Bool.not_false])) (by simp only [kP] <;> rfl) ?_
      refine OkOps.offU rfl rfl (.inl (by simp only [kE, kT, kL, kC, Bool.not_true, Bool.not_false])) (by simp only [kP] <;> rfl) ?_
      refine OkOps.offU rfl rfl (.inl (by simp only [kE, kT, kL, kC, Bool.not_true, Bool.not_false])) (by simp only [kP] <;> rfl) ?_
      refine OO ?_
      iterate 2 (refine EV ?_)
      refine ON ?_
      refine ⟨rfl, ?_, rfl, rfl⟩
      refine ⟨?_, ?_, ?_, ?_, ?_, ?_, ?_, ?_, ?_, ?_, ?_, ?_, ?_, ?_, ?_, ?_, ?_, ?_, ?_, ?_, ?_, ?_, ?_, ?_, ?_, ?_, ?_, ?_, ?_, ?_, ?_, ?_, ?_, ?_, ?_, trivial⟩ <;> first | exact le_any _ | with_reducible exact le_rfl' _ | (refine .inl (congrArg V.bool ?_); (first | (simp [nameB, *]; done) | (simp [nameB, *] <;> omega) | (rw [Bool.eq_iff_iff]; simp [nameB, *] <;> omega) | (simp_all [nameB]; done) | (simp_all [nameB]; omega))) | exact le_rfl' _
     ·
      try simp only [bsimp] at hg4_15
      refine OO ?_
      refine EV ?_
      refine OO ?_
      refine EV ?_
      refine OO ?_
      refine OkOps.ev tab_ok rfl (ev_byte_lt (by simp only [kE, kT, kL, kC] <;> rfl) (by simp only [kE, kT, kL, kC] <;> rfl) (by omega) rfl) (by simp only [kP] <;> rfl) ?_
      refine OO ?_
      refine EV ?_
      refine OO ?_
      iterate 2 (refine EV ?_)
      refine ON ?_
      refine ⟨rfl, ?_, rfl, rfl⟩
      refine ⟨?_, ?_, ?_, ?_, ?_, ?_, ?_, ?_, ?_, ?_, ?_, ?_, ?_, ?_, ?_, ?_, ?_, ?_, ?_, ?_, ?_, ?_, ?_, ?_, ?_, ?_, ?_, ?_, ?_, ?_, ?_, ?_, ?_, ?_, ?_, trivial⟩ <;> first | exact le_any _ | with_reducible exact le_rfl' _ | (refine .inl (congrArg V.bool ?_); (first | (simp [nameB, *]; done) | (simp [nameB, *] <;> omega) | (rw [Bool.eq_iff_iff]; simp [nameB, *] <;> omega) | (simp_all [nameB]; done) | (simp_all [nameB]; omega))) | exact le_rfl' _
    ·
     try simp only [bsimp] at hg4_10
     refine OkOps.offU rfl rfl (.inl (by simp only [kE, kT, kL, kC, Bool.not_true, Bool.not_false])) (by simp only [kP] <;> rfl) ?_
     refine OkOps.offU rfl rfl (.inl (by simp only [kE, kT, kL, kC, Bool.not_true, Bool.not_false])) (by simp only [kP] <;> rfl) ?_
     refine OkOps.offU rfl rfl (.inl (by simp only [kE, kT, kL, kC, Bool.not_true, Bool.not_false])) (by simp only [kP] <;> rfl) ?_
     refine OkOps.offU rfl rfl (.inl (by simp only [kE, kT, kL, kC, Bool.not_true, Bool.not_false])) (by simp only [kP] <;> rfl) ?_
     refine OkOps.offU rfl rfl (.inl (by simp only [kE, kT, kL, kC, Bool.not_true, Bool.not_false])) (by simp only [kP] <;> rfl) ?_
     refine OkOps.offU rfl rfl (.inr (by simp only [kE, kT, kL, kC])) (by simp only [kP] <;> rfl) ?_
     refine OkOps.offU rfl rfl (.inr (by simp only [kE, kT, kL, kC])) (by simp only [kP] <;> rfl) ?_
     refine OkOps.offU rfl rfl (.inr (by simp only [kE, kT, kL, kC])) (by simp only [kP] <;> rfl) ?_
     refine OkOps.offU rfl rfl (.inr (by simp only [kE, kT, kL, kC])) (by simp only [kP] <;> rfl) ?_
     refine OkOps.offU rfl rfl (.inl (by simp only [kE, kT, kL, kC, Bool.not_true, Bool.not_false])) (by simp only [kP] <;> rfl) ?_
     refine EV ?_
     refine ON ?_
     refine ⟨rfl, ?_, rfl, rfl⟩
     refine ⟨?_, ?_, ?_, ?_, ?_, ?_, ?_, ?_, ?_, ?_, ?_, ?_, ?_, ?_, ?_, ?_, ?_, ?_, ?_, ?_, ?_, ?_, ?_, ?_, ?_, ?_, ?_, ?_, ?_, ?_, ?_, ?_, ?_, ?_, ?_, trivial⟩ <;> first | exact le_any _ | with_reducible exact le_rfl' _ | (refine .inl (congrArg V.bool ?_); (first | (simp [nameB, *]; done) | (simp [nameB, *] <;> omega) | (rw [Bool.eq_iff_iff]; simp [nameB, *] <;> omega) | (simp_all [nameB]; done) | (simp_all [nameB]; omega))) | exact le_rfl' _
  ·
   refine Ok.cond (b := _) (by simp only [kE, kT, kL, kC] <;> rfl) (fun hb4 => ?_) (fun hb4 => ?_)
   ·
    try simp only [bsimp] at hb4
    have e : nameOk s = false := by unfold nameOk; rw [allUp_no hi hb4, Bool.false_and]
    rw [e]
    refine OQ ?_
    refine EV ?_
    refine ON ?_
    refine Ok.ret ?_
    with_reducible repeat (first | refine thenQ_ret ?_ | refine blockQ_ret ?_)
    refine RT ?_
    rfl
   ·
    try simp only [bsimp] at hb4
    refine Ok.skip ?_
    refine Ok.region ?_
    iterate 3 (refine EV ?_)
    refine ON ?_
    refine ⟨i + 1, ?_, rfl, rfl, ⟨by omega, up_next h2 hb4⟩, by omega⟩
    refine ⟨?_, ?_, ?_, ?_, ?_, ?_, ?_, ?_, ?_, ?_, ?_, ?_, ?_, ?_, ?_, ?_, ?_, ?_, ?_, ?_, ?_, ?_, ?_, ?_, ?_, ?_, ?_, ?_, ?_, ?_, ?_, ?_, ?_, ?_, ?_, trivial⟩ <;> first | exact le_any _ | with_reducible exact le_rfl' _ | ((rw [wrap_add_one (by omega)]; exact le_rfl' _)) | exact le_rfl' _
 ·
  try simp only [bsimp] at hb2
  obtain rfl : i = s.length := by omega
  have e : nameOk s = inR (s.length : Int) 1 12 := by unfold nameOk; rw [allUp_yes h2, Bool.true_and]
  rw [e]
  refine Ok.exit ?_
  refine OQ ?_
  iterate 2 (refine EV ?_)
  refine OkOps.S0 rfl (OpS.weak' rfl (by simp only [kE, kT, kL, kC] <;> rfl) (by simp only [kE, kT, kL, kC] <;> rfl) cl124 (w_impl_within (s.length : Int) 1 12)) (by simp only [kP] <;> rfl) ?_
  refine EV ?_
  refine ON ?_
  refine Ok.ret ?_
  with_reducible repeat (first | refine thenQ_ret ?_ | refine blockQ_ret ?_)
  refine RT ?_
  rfl
theorem w_impl_areGids (a : List Int) (most : Int) (ha : a.length ≤ 4611686018427387904) : Weak Tryz.prog 167 [.sl 0 1 0 (a.map cZ), .int .i64 most] (.bool (gidsOk a most)) := by
 refine Weak.enter tab_ok Tryz.func167 rfl (.inr (by simp [V.labelsL, V.labels, V.labelsLL, zz, zf, zy, or_imp, forall_and])) (t := [.sl 0 1 0 (a.map cZ), .int .i64 most, .any, .any, .any, .any, .any, .any, .any, .any, .any, .any, .any, .any, .any, .any, .any, .any, .any, .any, .any, .any, .any, .any, .any, .any, .any, .any, .any, .any, .any, .any, .any, .any, .any]) rfl ?_
 refine OQ ?_
 refine EV ?_
 refine ON ?_
 refine Ok.seq ?_
 refine OQ ?_
 iterate 3 (refine EV ?_)
 refine ON ?_
 refine Ok.block ?_
 refine Ok.loopWZ (τ := Nat) (fun x => [(9, .int .i64 (x : Int))]) [4, 5, 6, 10, 11, 12, 13, 14, 15, 16, 17, 18, 19, 20, 21, 22, 23, 24, 25, 26, 27, 28, 29, 30] (fun x => by simp only [kover] <;> rfl) (fun x => x ≤ a.length ∧ ∀ k, k < x → gidAt a k = true) (fun x => a.length - x) 0 (by omega) (by refine ⟨?_, ?_, ?_, ?_, ?_, ?_, ?_, ?_, ?_, ?_, ?_, ?_, ?_, ?_, ?_, ?_, ?_, ?_, ?_, ?_, ?_, ?_, ?_, ?_, ?_, ?_, ?_, ?_, ?_, ?_, ?_, ?_, ?_, ?_, ?_, trivial⟩ <;> first | exact le_any _ | with_reducible exact le_rfl' _ | (exact le_rfl' _) | exact le_rfl' _) (⟨Nat.zero_le _, fun k h => by omega⟩) ?_
 rintro i ⟨h1, h2⟩
 refine OQ ?_
 refine EV ?_
 refine ON ?_
 refine Ok.seq ?_
 refine Ok.cond (b := _) (by simp only [kE, kT, kL, kC] <;> rfl) (fun hb2 => ?_) (fun hb2 => ?_)
 ·
  try simp only [bsimp] at hb2
  have hi : i < a.length := by omega
  have hat := atB_get (p := gidOk) hi
  refine Ok.skip ?_
  refine Ok.seq ?_
  refine Ok.block ?_
  refine OQ ?_
  refine EV ?_
  refine OkOps.ev tab_ok rfl (ev_idx_map (by simp only [kE, kT, kL, kC] <;> rfl) (by simp only [kE, kT, kL, kC] <;> rfl) (by omega) (by simp only [kE, kT, kL, kC] <;> rfl)) (by simp only [kP] <;> rfl) ?_
  iterate 3 (refine EV ?_)
  refine ON ?_
  refine Ok.seqC [(29, .bool (!gidAt a i))] [14, 15, 16, 17, 18, 19, 20, 21, 22, 23, 24, 25, 26, 27, 28] (by simp only [kover] <;> rfl) ?_ ?_
  ·
   refine Ok.region ?_
   refine EV ?_
   refine OkOps.S0 rfl (OpS.weak' rfl (by simp only [kE, kT, kL, kC] <;> rfl) (by simp only [kE, kT, kL, kC] <;> rfl) cl214 (w_impl_isGid a[i])) (by simp only [kP] <;> rfl) ?_
   iterate 2 (refine EV ?_)
   refine OkOps.split (d := 17) (by simp only [kE, kT, kL, kC] <;> rfl) (by simp only [kP] <;> rfl) (by simp only [kP] <;> rfl) (fun hg4_3 => ?_) (fun hg4_3 => ?_)
   ·
    try simp only [bsimp] at hg4_3
    refine OkOps.offU rfl rfl (.inl (by simp only [kE, kT, kL, kC, Bool.not_true, Bool.not_false])) (by simp only [kP] <;> rfl) ?_
    refine OkOps.offU rfl rfl (.inl (by simp only [kE, kT, kL, kC, Bool.not_true, Bool.not_false])) (by simp only [kP] <;> rfl) ?_
    refine OkOps.offU rfl rfl (.inl (by simp only [kE, kT, kL, kC, Bool.not_true, Bool.not_false])) (by simp only [kP] <;> rfl) ?_
    refine OkOps.offU rfl rfl (.inr (by simp only [kE, kT, kL, kC])) (by simp only [kP] <;> rfl) ?_
    refine OkOps.offU rfl rfl (.inr (by simp only [kE, kT, kL, kC])) (by simp only [kP] <;> rfl) ?_
    refine OkOps.offU rfl rfl (.inr (by simp only [kE, kT, kL, kC])) (by simp only [kP] <;> rfl) ?_
    refine OkOps.offU rfl rfl (.inr (by simp only [kE, kT, kL, kC])) (by simp only [kP] <;> rfl) ?_
    refine OkOps.offU rfl rfl (.inr (by simp only [kE, kT, kL, kC])) (by simp only [kP] <;> rfl) ?_
    refine OkOps.offU rfl rfl (.inr (by simp only [kE, kT, kL, kC])) (by simp only [kP] <;> rfl) ?_
    refine OkOps.offU rfl rfl (.inr (by simp only [kE, kT, kL, kC])) (by simp only [kP] <;> rfl) ?_
    refine OkOps.offU rfl rfl (.inl (by simp only [kE, kT, kL, kC, Bool.not_true, Bool.not_false])) (by simp only [kP] <;> rfl) ?_
    refine EV ?_
    refine ON ?_
    refine ⟨rfl, ?_, rfl, rfl⟩
    refine ⟨?_, ?_, ?_, ?_, ?_, ?_, ?_, ?_, ?_, ?_, ?_, ?_, ?_, ?_, ?_, ?_, ?_, ?_, ?_, ?_, ?_, ?_, ?_, ?_, ?_, ?_, ?_, ?_, ?_, ?_, ?_, ?_, ?_, ?_, ?_, trivial⟩ <;> first | exact le_any _ | with_reducible exact le_rfl' _ | (refine .inl (congrArg V.bool ?_); (first | (simp [gidAt, *]; done) | (simp [gidAt, *] <;> omega) | (rw [Bool.eq_iff_iff]; simp [gidAt, *] <;> omega) | (simp_all [gidAt]; done) | (simp_all [gidAt]; omega))) | exact le_rfl' _
   ·
    try simp only [bsimp] at hg4_3
    refine OO ?_
    refine EV ?_
    refine OO ?_
    refine EV ?_
    refine OO ?_
    refine EV ?_
    refine OkOps.split (d := 20) (by simp only [kE, kT, kL, kC] <;> rfl) (by simp only [kP] <;> rfl) (by simp only [kP] <;> rfl) (fun hg4_6 => ?_) (fun hg4_6 => ?_)
    ·
     try simp only [bsimp] at hg4_6
     have hpos : 0 < i := by omega
     have hbf := beforeB_get (p := fun a b => decide (a < b)) hi hpos
     refine OO ?_
     refine EV ?_
     refine OO ?_
     refine EV ?_
     refine OO ?_
     refine OkOps.ev tab_ok rfl (by simp only [kE, kT, kL, kC, wrap_pred hpos (by omega)] <;> rfl) (by simp only [kP] <;> rfl) ?_
     refine OO ?_
     refine OkOps.ev tab_ok rfl (ev_idx_map (by simp only [kE, kT, kL, kC] <;> rfl) (by simp only [kE, kT, kL, kC] <;> rfl) (by omega) (by simp only [kE, kT, kL, kC] <;> rfl)) (by simp only [kP] <;> rfl) ?_
     refine OO ?_
     refine EV ?_
     refine OO ?_
     refine EV ?_
     refine OO ?_
     refine EV ?_
     refine OO ?_
     iterate 2 (refine EV ?_)
     refine ON ?_
     refine ⟨rfl, ?_, rfl, rfl⟩
     refine ⟨?_, ?_, ?_, ?_, ?_, ?_, ?_, ?_, ?_, ?_, ?_, ?_, ?_, ?_, ?_, ?_, ?_, ?_, ?_, ?_, ?_, ?_, ?_, ?_, ?_, ?_, ?_, ?_, ?_, ?_, ?_, ?_, ?_, ?_, ?_, trivial⟩ <;> first | exact le_any _ | with_reducible exact le_rfl' _ | (refine .inl (congrArg V.bool ?_); (first | (simp [gidAt, *]; done) | (simp [gidAt, *] <;> omega) | (rw [Bool.eq_iff_iff]; simp [gidAt, *] <;> omega) | (simp_all [gidAt]; done) | (simp_all [gidAt]; omega))) | exact le_rfl' _
    ·
     try simp only [bsimp] at hg4_6
     have hbf : beforeB a (fun a b => decide (a < b)) i = true := by rw [show i = 0 by omega]; rfl
     refine OkOps.offU rfl rfl (.inl (by simp only [kE, kT, kL, kC, Bool.not_true, Bool.not_false])) (by simp only [kP] <;> rfl) ?_
     refine OkOps.offU rfl rfl (.inl (by simp only [kE, kT, kL, kC, Bool.not_true, Bool.not_false])) (by simp only [kP] <;> rfl) ?_
     refine OkOps.offU rfl rfl (.inl (by simp only [kE, kT, kL, kC, Bool.not_true, Bool.not_false])) (by simp only [kP] <;> rfl) ?_
     refine OkOps.offU rfl rfl (.inl (by simp only [kE, kT, kL, kC, Bool.not_true, Bool.not_false])) (by simp only [kP] <;> rfl) ?_
     refine OkOps.offU rfl rfl (.inl (by simp only [kE, kT, kL, kC, Bool.not_true, Bool.not_false])) (by simp only [kP] <;> rfl) ?_
     refine OkOps.offU rfl rfl (.inl (by simp only [kE, kT, kL, kC, Bool.not_true, Bool.not_false])) (by simp only [kP] <;> rfl) ?_
     refine OkOps.offU rfl rfl (.inl (by simp only [kE, kT, kL, kC, Bool.not_true, Bool.not_false])) (by simp only [kP] <;> rfl) ?_
     refine OO ?_
     iterate 2 (refine EV ?_)
     refine ON ?_
     refine ⟨rfl, ?_, rfl, rfl⟩
     refine ⟨?_, ?_, ?_, ?_, ?_, ?_, ?_, ?_, ?_, ?_, ?_, ?_, ?_, ?_, ?_, ?_, ?_, ?_, ?_, ?_, ?_, ?_, ?_, ?_, ?_, ?_, ?_, ?_, ?_, ?_, ?_, ?_, ?_, ?_, ?_, trivial⟩ <;> first | exact le_any _ | with_reducible exact le_rfl' _ | (refine .inl (congrArg V.bool ?_); (first | (simp [gidAt, *]; done) | (simp [gidAt, *] <;> omega) | (rw [Bool.eq_iff_iff]; simp [gidAt, *] <;> omega) | (simp_all [gidAt]; done) | (simp_all [gidAt]; omega))) | exact le_rfl' _
  ·
   refine Ok.cond (b := _) (by simp only [kE, kT, kL, kC] <;> rfl) (fun hb4 => ?_) (fun hb4 => ?_)
   ·
    try simp only [bsimp] at hb4
    have e : gidsOk a most = false := by unfold gidsOk; rw [allUp_no hi hb4, Bool.false_and]
    rw [e]
    refine OQ ?_
    refine EV ?_
    refine ON ?_
    refine Ok.ret ?_
    with_reducible repeat (first | refine thenQ_ret ?_ | refine blockQ_ret ?_)
    refine RT ?_
    rfl
   ·
    try simp only [bsimp] at hb4
    refine Ok.skip ?_
    refine Ok.region ?_
    iterate 2 (refine EV ?_)
    refine ON ?_
    refine ⟨i + 1, ?_, rfl, ⟨by omega, up_next h2 hb4⟩, by omega⟩
    simp only [V.renL, V.travL, V.travLL, V.trav, frz, zz, zf, zy, Nat.reduceLeDiff, ↓reduceIte]
    refine ⟨?_, ?_, ?_, ?_, ?_, ?_, ?_, ?_, ?_, ?_, ?_, ?_, ?_, ?_, ?_, ?_, ?_, ?_, ?_, ?_, ?_, ?_, ?_, ?_, ?_, ?_, ?_, ?_, ?_, ?_, ?_, ?_, ?_, ?_, ?_, trivial⟩ <;> first | exact le_any _ | with_reducible exact le_rfl' _ | ((rw [wrap_add_one (by omega)]; exact le_rfl' _)) | exact le_rfl' _
 ·
  try simp only [bsimp] at hb2
  obtain rfl : i = a.length := by omega
  have e : gidsOk a most = decide ((a.length : Int) ≤ most) := by unfold gidsOk; rw [allUp_yes h2, Bool.true_and]
  rw [e]
  refine Ok.exit ?_
  refine OQ ?_
  iterate 5 (refine EV ?_)
  refine ON ?_
  refine Ok.ret ?_
  with_reducible repeat (first | refine thenQ_ret ?_ | refine blockQ_ret ?_)
  refine RT ?_
  rfl
theorem w_impl_MailOk (m : Mail) (ha : m.flags.length ≤ 4611686018427387904) : Weak Tryz.prog 217 [.agg (cMail m)] (.bool (mailOk m)) := by
 refine Weak.enter tab_ok Tryz.func217 rfl (.inr (by simp [V.labelsL, V.labels, V.labelsLL, zz, zf, zy, or_imp, forall_and])) (t := [.agg (cMail m), .any, .any, .any, .any, .any, .any, .any, .any, .any, .any, .any, .any, .any, .any, .any, .any, .any, .any, .any, .any, .any]) rfl ?_
 refine OQ ?_
 iterate 2 (refine EV ?_)
 refine ON ?_
 refine OQ ?_
 iterate 2 (refine EV ?_)
 refine OkOps.S0 rfl (OpS.weak' rfl (by simp only [kE, kT, kL, kC] <;> rfl) (by simp only [kE, kT, kL, kC] <;> rfl) cl214 (w_impl_isGid _)) (by simp only [kP] <;> rfl) ?_
 refine EV ?_
 refine OkOps.split (d := 6) (by simp only [kE, kT, kL, kC] <;> rfl) (by simp only [kP] <;> rfl) (by simp only [kP] <;> rfl) (fun hg1_3 => ?_) (fun hg1_3 => ?_)
 ·
  try simp only [bsimp] at hg1_3
  refine OO ?_
  refine EV ?_
  refine OO ?_
  refine EV ?_
  refine OO ?_
  refine OkOps.S0 rfl (OpS.weak' rfl (by simp only [kE, kT, kL, kC] <;> rfl) (by simp only [kE, kT, kL, kC] <;> rfl) cl214 (w_impl_isGid _)) (by simp only [kP] <;> rfl) ?_
  iterate 2 (refine EV ?_)
  refine OkOps.split (d := 11) (by simp only [kE, kT, kL, kC] <;> rfl) (by simp only [kP] <;> rfl) (by simp only [kP] <;> rfl) (fun hg1_8 => ?_) (fun hg1_8 => ?_)
  ·
   try simp only [bsimp] at hg1_8
   refine OO ?_
   refine EV ?_
   refine OO ?_
   refine EV ?_
   refine OO ?_
   refine OkOps.S0 rfl (OpS.weak' rfl (by simp only [kE, kT, kL, kC] <;> rfl) (by simp only [kE, kT, kL, kC] <;> rfl) cl242 (w_impl_FlagsOk m.flags ha)) (by simp only [kP] <;> rfl) ?_
   iterate 2 (refine EV ?_)
   refine OkOps.split (d := 16) (by simp only [kE, kT, kL, kC] <;> rfl) (by simp only [kP] <;> rfl) (by simp only [kP] <;> rfl) (fun hg1_13 => ?_) (fun hg1_13 => ?_)
   ·
    try simp only [bsimp] at hg1_13
    refine OO ?_
    refine EV ?_
    refine OO ?_
    refine EV ?_
    refine OO ?_
    refine EV ?_
    refine OO ?_
    iterate 3 (refine EV ?_)
    refine ON ?_
    refine Ok.ret ?_
    with_reducible repeat (first | refine thenQ_ret ?_ | refine blockQ_ret ?_)
    refine RT ?_
    first | (simp_all [mailOk, gidOk, V.erase, V.trav, packV]; done) | (simp_all [mailOk, gidOk, V.erase, V.trav, packV] <;> omega)
   ·
    try simp only [bsimp] at hg1_13
    refine OkOps.offU rfl rfl (.inl (by simp only [kE, kT, kL, kC, Bool.not_true, Bool.not_false])) (by simp only [kP] <;> rfl) ?_
    refine OkOps.offU rfl rfl (.inl (by simp only [kE, kT, kL, kC, Bool.not_true, Bool.not_false])) (by simp only [kP] <;> rfl) ?_
    refine OkOps.offU rfl rfl (.inl (by simp only [kE, kT, kL, kC, Bool.not_true, Bool.not_false])) (by simp only [kP] <;> rfl) ?_
    refine OkOps.offU rfl rfl (.inl (by simp only [kE, kT, kL, kC, Bool.not_true, Bool.not_false])) (by simp only [kP] <;> rfl) ?_
    iterate 2 (refine EV ?_)
    refine ON ?_
    refine Ok.ret ?_
    with_reducible repeat (first | refine thenQ_ret ?_ | refine blockQ_ret ?_)
    refine RT ?_
    first | (simp_all [mailOk, gidOk, V.erase, V.trav, packV]; done) | (simp_all [mailOk, gidOk, V.erase, V.trav, packV] <;> omega)
  ·
   try simp only [bsimp] at hg1_8
   refine OkOps.offU rfl rfl (.inl (by simp only [kE, kT, kL, kC, Bool.not_true, Bool.not_false])) (by simp only [kP] <;> rfl) ?_
   refine OkOps.offU rfl rfl (.inl (by simp only [kE, kT, kL, kC, Bool.not_true, Bool.not_false])) (by simp only [kP] <;> rfl) ?_
   refine OkOps.offU rfl rfl (.inl (by simp only [kE, kT, kL, kC, Bool.not_true, Bool.not_false])) (by simp only [kP] <;> rfl) ?_
   iterate 2 (refine EV ?_)
   refine OkOps.offU rfl rfl (.inl (by simp only [kE, kT, kL, kC, Bool.not_true, Bool.not_false])) (by simp only [kP] <;> rfl) ?_
   refine OkOps.offU rfl rfl (.inl (by simp only [kE, kT, kL, kC, Bool.not_true, Bool.not_false])) (by simp only [kP] <;> rfl) ?_
   refine OkOps.offU rfl rfl (.inl (by simp only [kE, kT, kL, kC, Bool.not_true, Bool.not_false])) (by simp only [kP] <;> rfl) ?_
   refine OkOps.offU rfl rfl (.inl (by simp only [kE, kT, kL, kC, Bool.not_true, Bool.not_false])) (by simp only [kP] <;> rfl) ?_
   iterate 2 (refine EV ?_)
   refine ON ?_
   refine Ok.ret ?_
   with_reducible repeat (first | refine thenQ_ret ?_ | refine blockQ_ret ?_)
   refine RT ?_
   first | (simp_all [mailOk, gidOk, V.erase, V.trav, packV]; done) | (simp_all [mailOk, gidOk, V.erase, V.trav, packV] <;> omega)
 ·
  try simp only [bsimp] at hg1_3
  refine OkOps.offU rfl rfl (.inl (by simp only [kE, kT, kL, kC, Bool.not_true, Bool.not_false])) (by simp only [kP] <;> rfl) ?_
  refine OkOps.offU rfl rfl (.inl (by simp only [kE, kT, kL, kC, Bool.not_true, Bool.not_false])) (by simp only [kP] <;> rfl) ?_
  refine OkOps.offU rfl rfl (.inl (by simp only [kE, kT, kL, kC, Bool.not_true, Bool.not_false])) (by simp only [kP] <;> rfl) ?_
  iterate 2 (refine EV ?_)
  refine OkOps.offU rfl rfl (.inl (by simp only [kE, kT, kL, kC, Bool.not_true, Bool.not_false])) (by simp only [kP] <;> rfl) ?_
  refine OkOps.offU rfl rfl (.inl (by simp only [kE, kT, kL, kC, Bool.not_true, Bool.not_false])) (by simp only [kP] <;> rfl) ?_
  refine OkOps.offU rfl rfl (.inl (by simp only [kE, kT, kL, kC, Bool.not_true, Bool.not_false])) (by simp only [kP] <;> rfl) ?_
  iterate 2 (refine EV ?_)
  refine OkOps.offU rfl rfl (.inl (by simp only [kE, kT, kL, kC, Bool.not_true, Bool.not_false])) (by simp only [kP] <;> rfl) ?_
  refine OkOps.offU rfl rfl (.inl (by simp only [kE, kT, kL, kC, Bool.not_true, Bool.not_false])) (by simp only [kP] <;> rfl) ?_
  refine OkOps.offU rfl rfl (.inl (by simp only [kE, kT, kL, kC, Bool.not_true, Bool.not_false])) (by simp only [kP] <;> rfl) ?_
  refine OkOps.offU rfl rfl (.inl (by simp only [kE, kT, kL, kC, Bool.not_true, Bool.not_false])) (by simp only [kP] <;> rfl) ?_
  iterate 2 (refine EV ?_)
  refine ON ?_
  refine Ok.ret ?_
  with_reducible repeat (first | refine thenQ_ret ?_ | refine blockQ_ret ?_)
  refine RT ?_
  first | (simp_all [mailOk, gidOk, V.erase, V.trav, packV]; done) | (simp_all [mailOk, gidOk, V.erase, V.trav, packV] <;> omega)
theorem w_spec_StampOk (s : Stamp) : Weak Tryz.prog 202 [.agg (cStamp s)] (.bool (stampOk s)) := by
 refine Weak.enter tab_ok Tryz.func202 rfl (.inr (by simp [V.labelsL, V.labels, zz, zf, zy])) (t := [.agg (cStamp s), .any, .any, .any, .any, .any, .any, .any, .any, .any, .any]) rfl ?_
 refine OQ ?_
 iterate 2 (refine EV ?_)
 refine ON ?_
 refine OQ ?_
 iterate 2 (refine EV ?_)
 refine OkOps.S0 rfl (OpS.weak' rfl (by simp only [kE, kT, kL, kC] <;> rfl) (by simp only [kE, kT, kL, kC] <;> rfl) cl118 (w_spec_l01In _ _ _)) (by simp only [kP] <;> rfl) ?_
 refine EV ?_
 refine OkOps.split (d := 6) (by simp only [kE, kT, kL, kC] <;> rfl) (by simp only [kP] <;> rfl) (by simp only [kP] <;> rfl) (fun hg1_3 => ?_) (fun hg1_3 => ?_)
 ·
  try simp only [bsimp] at hg1_3
  refine OO ?_
  refine EV ?_
  refine OO ?_
  refine EV ?_
  refine OO ?_
  refine OkOps.S0 rfl (OpS.weak' rfl (by simp only [kE, kT, kL, kC] <;> rfl) (by simp only [kE, kT, kL, kC] <;> rfl) cl118 (w_spec_l01In _ _ _)) (by simp only [kP] <;> rfl) ?_
  iterate 2 (refine EV ?_)
  refine ON ?_
  refine Ok.ret ?_
  with_reducible repeat (first | refine thenQ_ret ?_ | refine blockQ_ret ?_)
  refine RT ?_
  first | (simp_all [stampOk, V.erase, V.trav, packV]; done) | (simp_all [stampOk, V.erase, V.trav, packV] <;> omega)
 ·
  try simp only [bsimp] at hg1_3
  refine OkOps.offU rfl rfl (.inl (by simp only [kE, kT, kL, kC, Bool.not_true, Bool.not_false])) (by simp only [kP] <;> rfl) ?_
  refine OkOps.offU rfl rfl (.inl (by simp only [kE, kT, kL, kC, Bool.not_true, Bool.not_false])) (by simp only [kP] <;> rfl) ?_
  refine OkOps.offU rfl rfl (.inl (by simp only [kE, kT, kL, kC, Bool.not_true, Bool.not_false])) (by simp only [kP] <;> rfl) ?_
  iterate 2 (refine EV ?_)
  refine ON ?_
  refine Ok.ret ?_
  with_reducible repeat (first | refine thenQ_ret ?_ | refine blockQ_ret ?_)
  refine RT ?_
  first | (simp_all [stampOk, V.erase, V.trav, packV]; done) | (simp_all [stampOk, V.erase, V.trav, packV] <;> omega)
theorem w_spec_RegOk (r : Reg) : Weak Tryz.prog 249 [.agg (cReg r)] (.bool (regOk r)) := by
 refine Weak.enter tab_ok Tryz.func249 rfl (.inr (by simp [V.labelsL, V.labels, zz, zf, zy])) (t := [.agg (cReg r), .any, .any, .any, .any, .any, .any, .any, .any, .any, .any]) rfl ?_
 refine OQ ?_
 iterate 2 (refine EV ?_)
 refine ON ?_
 refine OQ ?_
 iterate 2 (refine EV ?_)
 refine OkOps.S0 rfl (OpS.weak' rfl (by simp only [kE, kT, kL, kC] <;> rfl) (by simp only [kE, kT, kL, kC] <;> rfl) cl202 (w_spec_StampOk r.stamp)) (by simp only [kP] <;> rfl) ?_
 refine EV ?_
 refine OkOps.split (d := 6) (by simp only [kE, kT, kL, kC] <;> rfl) (by simp only [kP] <;> rfl) (by simp only [kP] <;> rfl) (fun hg1_3 => ?_) (fun hg1_3 => ?_)
 ·
  try simp only [bsimp] at hg1_3
  refine OO ?_
  refine EV ?_
  refine OO ?_
  refine EV ?_
  refine OO ?_
  refine OkOps.S0 rfl (OpS.weak' rfl (by simp only [kE, kT, kL, kC] <;> rfl) (by simp only [kE, kT, kL, kC] <;> rfl) cl118 (w_spec_l01In _ _ _)) (by simp only [kP] <;> rfl) ?_
  iterate 2 (refine EV ?_)
  refine ON ?_
  refine Ok.ret ?_
  with_reducible repeat (first | refine thenQ_ret ?_ | refine blockQ_ret ?_)
  refine RT ?_
  first | (simp_all [regOk, V.erase, V.trav, packV]; done) | (simp_all [regOk, V.erase, V.trav, packV] <;> omega)
 ·
  try simp only [bsimp] at hg1_3
  refine OkOps.offU rfl rfl (.inl (by simp only [kE, kT, kL, kC, Bool.not_true, Bool.not_false])) (by simp only [kP] <;> rfl) ?_
  refine OkOps.offU rfl rfl (.inl (by simp only [kE, kT, kL, kC, Bool.not_true, Bool.not_false])) (by simp only [kP] <;> rfl) ?_
  refine OkOps.offU rfl rfl (.inl (by simp only [kE, kT, kL, kC, Bool.not_true, Bool.not_false])) (by simp only [kP] <;> rfl) ?_
  iterate 2 (refine EV ?_)
  refine ON ?_
  refine Ok.ret ?_
  with_reducible repeat (first | refine thenQ_ret ?_ | refine blockQ_ret ?_)
  refine RT ?_
  first | (simp_all [regOk, V.erase, V.trav, packV]; done) | (simp_all [regOk, V.erase, V.trav, packV] <;> omega)
theorem w_spec_FlagsOk (a : List Reg) (ha : a.length ≤ 4611686018427387904) : Weak Tryz.prog 235 [.sl 0 3 0 (a.map cReg)] (.bool (flagsOk a)) := by
 refine Weak.enter tab_ok Tryz.func235 rfl (.inr (by simp [V.labelsL, V.labels, V.labelsLL, zz, zf, zy, or_imp, forall_and])) (t := [.sl 0 3 0 (a.map cReg), .any, .any, .any, .any, .any, .any, .any, .any, .any, .any, .any, .any, .any, .any, .any, .any, .any, .any, .any, .any, .any, .any, .any, .any, .any, .any]) rfl ?_
 refine OQ ?_
 refine EV ?_
 refine ON ?_
 refine Ok.seq ?_
 refine OQ ?_
 refine EV ?_
 refine ON ?_
 refine Ok.block ?_
 refine Ok.loopW (τ := Nat) (fun x => [(3, .int .i64 (x : Int))]) [2, 4, 5, 6, 7, 8, 9, 10, 11, 12, 13, 14, 15, 16, 17, 18, 19, 20, 21, 22, 23] (fun x => by simp only [kover] <;> rfl) (fun x => x ≤ a.length ∧ ∀ k, k < x → atB a flagOk k = true) (fun x => a.length - x) 0 (by refine ⟨?_, ?_, ?_, ?_, ?_, ?_, ?_, ?_, ?_, ?_, ?_, ?_, ?_, ?_, ?_, ?_, ?_, ?_, ?_, ?_, ?_, ?_, ?_, ?_, ?_, ?_, ?_, trivial⟩ <;> first | exact le_any _ | with_reducible exact le_rfl' _ | (exact le_rfl' _) | exact le_rfl' _) (⟨Nat.zero_le _, fun k h => by omega⟩) ?_
 rintro i ⟨h1, h2⟩
 refine Ok.seq ?_
 refine OQ ?_
 iterate 4 (refine EV ?_)
 refine ON ?_
 refine Ok.cond (b := _) (by simp only [kE, kT, kL, kC] <;> rfl) (fun hb2 => ?_) (fun hb2 => ?_)
 ·
  try simp only [bsimp] at hb2
  have hi : i < a.length := by omega
  have hat := atB_get (p := flagOk) hi
  refine Ok.skip ?_
  refine Ok.seq ?_
  refine Ok.block ?_
  refine Ok.seqC [(23, .bool (!atB a flagOk i))] [10, 11, 12, 13, 14, 15, 16, 17, 18, 19, 20, 21, 22] (by simp only [kover] <;> rfl) ?_ ?_
  ·
   refine Ok.region ?_
   iterate 2 (refine EV ?_)
   refine OkOps.ev tab_ok rfl (ev_idx_map (by simp only [kE, kT, kL, kC] <;> rfl) (by simp only [kE, kT, kL, kC] <;> rfl) (by omega) (by simp only [kE, kT, kL, kC] <;> rfl)) (by simp only [kP] <;> rfl) ?_
   refine EV ?_
   refine OkOps.S0 rfl (OpS.weak' rfl (by simp only [kE, kT, kL, kC] <;> rfl) (by simp only [kE, kT, kL, kC] <;> rfl) cl249 (w_spec_RegOk a[i])) (by simp only [kP] <;> rfl) ?_
   iterate 2 (refine EV ?_)
   refine OkOps.split (d := 16) (by simp only [kE, kT, kL, kC] <;> rfl) (by simp only [kP] <;> rfl) (by simp only [kP] <;> rfl) (fun hg4_6 => ?_) (fun hg4_6 => ?_)
   ·
    try simp only [bsimp] at hg4_6
    refine OkOps.offU rfl rfl (.inl (by simp only [kE, kT, kL, kC, Bool.not_true, Bool.not_false])) (by simp only [kP] <;> rfl) ?_
    refine OkOps.offU rfl rfl (.inl (by simp only [kE, kT, kL, kC, Bool.not_true, Bool.not_false])) (by simp only [kP] <;> rfl) ?_
    refine OkOps.offU rfl rfl (.inl (by simp only [kE, kT, kL, kC, Bool.not_true, Bool.not_false])) (by simp only [kP] <;> rfl) ?_
    refine OkOps.offU rfl rfl (.inl (by simp only [kE, kT, kL, kC, Bool.not_true, Bool.not_false])) (by simp only [kP] <;> rfl) ?_
    refine OkOps.offU rfl rfl (.inl (by simp only [kE, kT, kL, kC, Bool.not_true, Bool.not_false])) (by simp only [kP] <;> rfl) ?_
    refine OkOps.offU rfl rfl (.inl (by simp only [kE, kT, kL, kC, Bool.not_true, Bool.not_false])) (by simp only [kP] <;> rfl) ?_
    refine EV ?_
    refine ON ?_
    refine ⟨rfl, ?_, rfl, rfl⟩
    refine ⟨?_, ?_, ?_, ?_, ?_, ?_, ?_, ?_, ?_, ?_, ?_, ?_, ?_, ?_, ?_, ?_, ?_, ?_, ?_, ?_, ?_, ?_, ?_, ?_, ?_, ?_, ?_, trivial⟩ <;> first | exact le_any _ | with_reducible exact le_rfl' _ | (refine .inl (congrArg V.bool ?_); (first | (simp [flagOk, *]; done) | (simp [flagOk, *] <;> omega) | (rw [Bool.eq_iff_iff]; simp [flagOk, *] <;> omega) | (simp_all [flagOk]; done) | (simp_all [flagOk]; omega))) | exact le_rfl' _
   ·
    try simp only [bsimp] at hg4_6
    refine OO ?_
    refine EV ?_
    refine OO ?_
    refine EV ?_
    refine OO ?_
    refine OkOps.ev tab_ok rfl (ev_idx_map (by simp only [kE, kT, kL, kC] <;> rfl) (by simp only [kE, kT, kL, kC] <;> rfl) (by omega) (by simp only [kE, kT, kL, kC] <;> rfl)) (by simp only [kP] <;> rfl) ?_
    refine OO ?_
    refine EV ?_
    refine OO ?_
    refine EV ?_
    refine OO ?_
    iterate 2 (refine EV ?_)
    refine ON ?_
    refine ⟨rfl, ?_, rfl, rfl⟩
    refine ⟨?_, ?_, ?_, ?_, ?_, ?_, ?_, ?_, ?_, ?_, ?_, ?_, ?_, ?_, ?_, ?_, ?_, ?_, ?_, ?_, ?_, ?_, ?_, ?_, ?_, ?_, ?_, trivial⟩ <;> first | exact le_any _ | with_reducible exact le_rfl' _ | (refine .inl (congrArg V.bool ?_); (first | (simp [flagOk, *]; done) | (simp [flagOk, *] <;> omega) | (rw [Bool.eq_iff_iff]; simp [flagOk, *] <;> omega) | (simp_all [flagOk]; done) | (simp_all [flagOk]; omega))) | exact le_rfl' _
  ·
   refine Ok.cond (b := _) (by simp only [kE, kT, kL, kC] <;> rfl) (fun hb4 => ?_) (fun hb4 => ?_)
   ·
    try simp only [bsimp] at hb4
    have e : flagsOk a = false := by unfold flagsOk; rw [allUp_no hi hb4, Bool.false_and]
    rw [e]
    refine OQ ?_
    refine EV ?_
    refine ON ?_
    refine Ok.ret ?_
    with_reducible repeat (first | refine thenQ_ret ?_ | refine blockQ_ret ?_)
    refine RT ?_
    rfl
   ·
    try simp only [bsimp] at hb4
    refine Ok.skip ?_
    refine Ok.region ?_
    iterate 3 (refine EV ?_)
    refine ON ?_
    refine ⟨i + 1, ?_, rfl, rfl, ⟨by omega, up_next h2 hb4⟩, by omega⟩
    refine ⟨?_, ?_, ?_, ?_, ?_, ?_, ?_, ?_, ?_, ?_, ?_, ?_, ?_, ?_, ?_, ?_, ?_, ?_, ?_, ?_, ?_, ?_, ?_, ?_, ?_, ?_, ?_, trivial⟩ <;> first | exact le_any _ | with_reducible exact le_rfl' _ | ((rw [wrap_add_one (by omega)]; exact le_rfl' _)) | exact le_rfl' _
 ·
  try simp only [bsimp] at hb2
  obtain rfl : i = a.length := by omega
  have e : flagsOk a = decide ((a.length : Int) = 3) := by unfold flagsOk; rw [allUp_yes h2, Bool.true_and]
  rw [e]
  refine Ok.exit ?_
  refine OQ ?_
  iterate 4 (refine EV ?_)
  refine ON ?_
  refine Ok.ret ?_
  with_reducible repeat (first | refine thenQ_ret ?_ | refine blockQ_ret ?_)
  refine RT ?_
  rfl
theorem w_spec_NameOk (s : Str) (ha : s.length ≤ 4611686018427387904) : Weak Tryz.prog 201 [.str s] (.bool (nameOk s)) := by
 refine Weak.enter tab_ok Tryz.func201 rfl (.inr (by simp [V.labelsL, V.labels, V.labelsLL, zz, zf, zy, or_imp, forall_and])) (t := [.str s, .any, .any, .any, .any, .any, .any, .any, .any, .any, .any, .any, .any, .any, .any, .any, .any, .any, .any, .any, .any, .any, .any, .any, .any, .any, .any, .any, .any, .any, .any, .any, .any, .any, .any]) rfl ?_
 refine OQ ?_
 refine EV ?_
 refine ON ?_
 refine Ok.seq ?_
 refine OQ ?_
 refine EV ?_
 refine ON ?_
 refine Ok.block ?_
 refine Ok.loopW (τ := Nat) (fun x => [(3, .int .i64 (x : Int))]) [2, 4, 5, 6, 7, 8, 9, 10, 11, 12, 13, 14, 15, 16, 17, 18, 19, 20, 21, 22, 23, 24, 25, 26, 27, 28, 29, 30, 31] (fun x => by simp only [kover] <;> rfl) (fun x => x ≤ s.length ∧ ∀ k, k < x → atB s nameB k = true) (fun x => s.length - x) 0 (by refine ⟨?_, ?_, ?_, ?_, ?_, ?_, ?_, ?_, ?_, ?_, ?_, ?_, ?_, ?_, ?_, ?_, ?_, ?_, ?_, ?_, ?_, ?_, ?_, ?_, ?_, ?_, ?_, ?_, ?_, ?_, ?_, ?_, ?_, ?_, ?_, trivial⟩ <;> first | exact le_any _ | with_reducible exact le_rfl' _ | (exact le_rfl' _) | exact le_rfl' _) (⟨Nat.zero_le _, fun k h => by omega⟩) ?_
 rintro i ⟨h1, h2⟩
 refine Ok.seq ?_
 refine OQ ?_
 iterate 4 (refine EV ?_)
 refine ON ?_
 refine Ok.cond (b := _) (by simp only [kE, kT, kL, kC] <;> rfl) (fun hb2 => ?_) (fun hb2 => ?_)
 ·
  try simp only [bsimp] at hb2
  have hi : i < s.length := by omega
  have hat := atB_get (p := nameB) hi
  refine Ok.skip ?_
  refine Ok.seq ?_
  refine Ok.block ?_
  refine Ok.seqC [(31, .bool (!atB s nameB i))] [10, 11, 12, 13, 14, 15, 16, 17, 18, 19, 20, 21, 22, 23, 24, 25, 26, 27, 28, 29, 30] (by simp only [kover] <;> rfl) ?_ ?_
  ·
   refine Ok.region ?_
   iterate 2 (refine EV ?_)
   refine OkOps.ev tab_ok rfl (ev_byte_lt (by simp only [kE, kT, kL, kC] <;> rfl) (by simp only [kE, kT, kL, kC] <;> rfl) (by omega) rfl) (by simp only [kP] <;> rfl) ?_
   iterate 2 (refine EV ?_)
   refine OkOps.split (d := 14) (by simp only [kE, kT, kL, kC] <;> rfl) (by simp only [kP] <;> rfl) (by simp only [kP] <;> rfl) (fun hg4_4 => ?_) (fun hg4_4 => ?_)
   ·
    try simp only [bsimp] at hg4_4
    refine OkOps.offU rfl rfl (.inl (by simp only [kE, kT, kL, kC, Bool.not_true, Bool.not_false])) (by simp only [kP] <;> rfl) ?_
    refine OkOps.offU rfl rfl (.inl (by simp only [kE, kT, kL, kC, Bool.not_true, Bool.not_false])) (by simp only [kP] <;> rfl) ?_
    refine OkOps.offU rfl rfl (.inl (by simp only [kE, kT, kL, kC, Bool.not_true, Bool.not_false])) (by simp only [kP] <;> rfl) ?_
    refine OkOps.offU rfl rfl (.inl (by simp only [kE, kT, kL, kC, Bool.not_true, Bool.not_false])) (by simp only [kP] <;> rfl) ?_
    iterate 2 (refine EV ?_)
    refine OO ?_
    refine EV ?_
    refine OO ?_
    refine EV ?_
    refine OO ?_
    refine OkOps.ev tab_ok rfl (ev_byte_lt (by simp only [kE, kT, kL, kC] <;> rfl) (by simp only [kE, kT, kL, kC] <;> rfl) (by omega) rfl) (by simp only [kP] <;> rfl) ?_
    refine OO ?_
    refine EV ?_
    refine OO ?_
    refine EV ?_
    refine OkOps.split (d := 25) (by simp only [kE, kT, kL, kC] <;> rfl) (by simp only [kP] <;> rfl) (by simp only [kP] <;> rfl) (fun hg4_15 => ?_) (fun hg4_15 => ?_)
    ·
     try simp only [bsimp] at hg4_15
     refine OkOps.offU rfl rfl (.inl (by simp only [kE, kT, kL, kC, Bool.not_true, Bool.not_false])) (by simp only [kP] <;> rfl) ?_
     refine OkOps.offU rfl rfl (.inl (by simp only [kE, kT, kL, kC, Bool.not_true, Bool.not_false])) (by simp only [kP] <;> rfl) ?_
     refine OkOps.offU rfl rfl (.inl (by simp only [kE, kT, kL, kC, Bool.not_true, Bool.not_false])) (by simp only [kP] <;> rfl) ?_
     refine OkOps.offU rfl rfl (.inl (by simp only [kE, kT, kL, kC, Bool.not_true, Bool.not_false])) (by simp only [kP] <;> rfl) ?_
     refine OO ?_
     iterate 2 (refine EV ?_)
     refine ON ?_
     refine ⟨rfl, ?_, rfl, rfl⟩
     refine ⟨?_, ?_, ?_, ?_, ?_, ?_, ?_, ?_, ?_, ?_, ?_, ?_, ?_, ?_, ?_, ?_, ?_, ?_, ?_, ?_, ?_, ?_, ?_, ?_, ?_, ?_, ?_, ?_, ?_, ?_, ?_, ?_, ?_, ?_, ?_, trivial⟩ <;> first | exact le_any _ | with_reducible exact le_rfl' _ | (refine .inl (congrArg V.bool ?_); (first | (simp [nameB, *]; done) | (simp [nameB, *] <;> omega) | (rw [Bool.eq_iff_iff]; simp [nameB, *] <;> omega) | (simp_all [nameB]; done) | (simp_all [nameB]; omega))) | exact le_rfl' _
    ·
     try simp only [bsimp] at hg4_15
     refine OO ?_
     refine EV ?_
     refine OO ?_
     refine EV ?_
     refine OO ?_
     refine OkOps.ev tab_ok rfl (ev_byte_lt (by simp only [kE, kT, kL, kC] <;> rfl) (by simp only [kE, kT, kL, kC] <;> rfl) (by omega) rfl) (by simp only [kP] <;> rfl) ?_
     refine OO ?_
     refine EV ?_
     refine OO ?_
     iterate 2 (refine EV ?_)
     refine ON ?_
     refine ⟨rfl, ?_, rfl, rfl⟩
     refine ⟨?_, ?_, ?_, ?_, ?_, ?_, ?_, ?_, ?_, ?_, ?_, ?_, ?_, ?_, ?_, ?_, ?_, ?_, ?_, ?_, ?_, ?_, ?_, ?_, ?_, ?_, ?_, ?_, ?_, ?_, ?_, ?_, ?_, ?_, ?_, trivial⟩ <;> first | exact le_any _ | with_reducible exact le_rfl' _ | (refine .inl (congrArg V.bool ?_); (first | (simp [nameB, *]; done) | (simp [nameB, *] <;> omega) | (rw [Bool.eq_iff_iff]; simp [nameB, *] <;> omega) | (simp_all [nameB]; done) | (simp_all [nameB]; omega))) | exact le_rfl' _
   ·
    try simp only [bsimp] at hg4_4
    refine OO ?_
    refine EV ?_
    refine OO ?_
    refine EV ?_
    refine OO ?_
    refine OkOps.ev tab_ok rfl (ev_byte_lt (by simp only [kE, kT, kL, kC] <;> rfl) (by simp only [kE, kT, kL, kC] <;> rfl) (by omega) rfl) (by simp only [kP] <;> rfl) ?_
    refine OO ?_
    iterate 3 (refine EV ?_)
    refine OkOps.split (d := 20) (by simp only [kE, kT, kL, kC] <;> rfl) (by simp only [kP] <;> rfl) (by simp only [kP] <;> rfl) (fun hg4_10 => ?_) (fun hg4_10 => ?_)
    ·
     try simp only [bsimp] at hg4_10
     refine OO ?_
     refine EV ?_
     refine OO ?_
     refine EV ?_
     refine OO ?_
     refine OkOps.ev tab_ok rfl (ev_byte_lt (by simp only [kE, kT, kL, kC] <;> rfl) (by simp only [kE, kT, kL, kC] <;> rfl) (by omega) rfl) (by simp only [kP] <;> rfl) ?_
     refine OO ?_
     refine EV ?_
     refine OO ?_
     refine EV ?_
     refine OkOps.split (d := 25) (by simp only [kE, kT, kL, kC] <;> rfl) (by simp only [kP] <;> rfl) (by simp only [kP] <;> rfl) (fun hg4_15 => ?_) (fun hg4_15 => ?_)
     ·
      try simp only [bsimp] at hg4_15
      refine OkOps.offU rfl rfl (.inl (by simp only [kE, kT, kL, kC, Bool.not_true, Bool.not_false])) (by simp only [kP] <;> rfl) ?_
      refine OkOps.offU rfl rfl (.inl (by simp only [kE, kT, kL, kC, Bool.not_true, Bool.not_false])) (by simp only [kP] <;> rfl) ?_
      refine OkOps.offU rfl rfl (.inl (by simp only [kE, kT, kL, kC, Bool.not_true, Bool.not_false])) (by simp only [kP] <;> rfl) ?_
      refine OkOps.offU rfl rfl (.inl (by simp only [kE, kT, kL, kC, Bool.not_true, Bool.not_false])) (by simp only [kP] <;> rfl) ?_
      refine OO ?_
      iterate 2 (refine EV ?_)
      refine ON ?_
      refine ⟨rfl, ?_, rfl, rfl⟩
      refine ⟨?_, ?_, ?_, ?_, ?_, ?_, ?_, ?_, ?_, ?_, ?_, ?_, ?_, ?_, ?_, ?_, ?_, ?_, ?_, ?_, ?_, ?_, ?_, ?_, ?_, ?_, ?_, ?_, ?_, ?_, ?_, ?_, ?_, ?_, ?_, trivial⟩ <;> first | exact le_any _ | with_reducible exact le_rfl' _ | (refine .inl (congrArg V.bool ?_); (first | (simp [nameB, *]; done) | (simp [nameB, *] <;> omega) | (rw [Bool.eq_iff_iff]; simp [nameB, *] <;> omega) | (simp_all [nameB]; done) | (simp_all [nameB]; omega))) | exact le_rfl' _
     ·
      try simp only [bsimp] at hg4_15
      refine OO ?_
      refine EV ?_
      refine OO ?_
      refine EV ?_
      refine OO ?_
      refine OkOps.ev tab_ok rfl (ev_byte_lt (by simp only [kE, kT, kL, kC] <;> rfl) (by simp only [kE, kT, kL, kC] <;> rfl) (by omega) rfl) (by simp only [kP] <;> rfl) ?_
      refine OO ?_
      refine EV ?_
      refine OO ?_
      iterate 2 (refine EV ?_)
      refine ON ?_
      refine ⟨rfl, ?_, rfl, rfl⟩
      refine ⟨?_, ?_, ?_, ?_, ?_, ?_, ?_, ?_, ?_, ?_, ?_, ?_, ?_, ?_, ?_, ?_, ?_, ?_, ?_, ?_, ?_, ?_, ?_, ?_, ?_, ?_, ?_, ?_, ?_, ?_, ?_, ?_, ?_, ?_, ?_, trivial⟩ <;> first | exact le_any _ | with_reducible exact le_rfl' _ | (refine .inl (congrArg V.bool ?_); (first | (simp [nameB, *]; done) | (simp [nameB, *] <;> omega) | (rw [Bool.eq_iff_iff]; simp [nameB, *] <;> omega) | (simp_all [nameB]; done) | (simp_all [nameB]; omega))) | exact le_rfl' _
    ·
     try simp only [bsimp] at hg4_10
     refine OkOps.offU rfl rfl (.inl (by simp only [kE, kT, kL, kC, Bool.not_true, Bool.not_false])) (by simp only [kP] <;> rfl) ?_
     refine OkOps.offU rfl rfl (.inl (by simp only [kE, kT, kL, kC, Bool.not_true, Bool.not_false])) (by simp only [kP] <;> rfl) ?_
     refine OkOps.offU rfl rfl (.inl (by simp only [kE, kT, kL, kC, Bool.not_true, Bool.not_false])) (by simp only [kP] <;> rfl) ?_
     refine OkOps.offU rfl rfl (.inl (by simp only [kE, kT, kL, kC, Bool.not_true, Bool.not_false])) (by simp only [kP] <;> rfl) ?_
     refine OkOps.offU rfl rfl (.inl (by simp only [kE, kT, kL, kC, Bool.not_true, Bool.not_false])) (by simp only [kP] <;> rfl) ?_
     refine OkOps.offU rfl rfl (.inr (by simp only [kE, kT, kL, kC])) (by simp only [kP] <;> rfl) ?_
     refine OkOps.offU rfl rfl (.inr (by simp only [kE, kT, kL, kC])) (by simp only [kP] <;> rfl) ?_
     refine OkOps.offU rfl rfl (.inr (by simp only [kE, kT, kL, kC])) (by simp only [kP] <;> rfl) ?_
     refine OkOps.offU rfl rfl (.inr (by simp only [kE, kT, kL, kC])) (by simp only [kP] <;> rfl) ?_
     refine OkOps.offU rfl rfl (.inl (by simp only [kE, kT, kL, kC, Bool.not_true, Bool.not_false])) (by simp only [kP] <;> rfl) ?_
     refine EV ?_
     refine ON ?_
     refine ⟨rfl, ?_, rfl, rfl⟩
     refine ⟨?_, ?_, ?_, ?_, ?_, ?_, ?_, ?_, ?_, ?_, ?_, ?_, ?_, ?_, ?_, ?_, ?_, ?_, ?_, ?_, ?_, ?_, ?_, ?_, ?_, ?_, ?_, ?_, ?_, ?_, ?_, ?_, ?_, ?_, ?_, trivial⟩ <;> first | exact le_any _ | with_reducible exact le_rfl' _ | (refine .inl (congrArg V.bool ?_); (first | (simp [nameB, *]; done) | (simp [nameB, *] <;> omega) | (rw [Bool.eq_iff_iff]; simp [nameB, *] <;> omega) | (simp_all [nameB]; done) | (simp_all [nameB]; omega))) | exact le_rfl' _
  ·
   refine Ok.cond (b := _) (by simp only [kE, kT, kL, kC] <;> rfl) (fun hb4 => ?_) (fun hb4 => ?_)
   ·
    try simp only [bsimp] at hb4
    have e : nameOk s = false := by unfold nameOk; rw [allUp_no hi hb4, Bool.false_and]
    rw [e]
    refine OQ ?_
    refine EV ?_
    refine ON ?_
    refine Ok.ret ?_
    with_reducible repeat (first | refine thenQ_ret ?_ | refine blockQ_ret ?_)
    refine RT ?_
    rfl
   ·
    try simp only [bsimp] at hb4
    refine Ok.skip ?_
    refine Ok.region ?_
    iterate 3 (refine EV ?_)
    refine ON ?_
    refine ⟨i + 1, ?_, rfl, rfl, ⟨by omega, up_next h2 hb4⟩, by omega⟩
    refine ⟨?_, ?_, ?_, ?_, ?_, ?_, ?_, ?_, ?_, ?_, ?_, ?_, ?_, ?_, ?_, ?_, ?_, ?_, ?_, ?_, ?_, ?_, ?_, ?_, ?_, ?_, ?_, ?_, ?_, ?_, ?_, ?_, ?_, ?_, ?_, trivial⟩ <;> first | exact le_any _ | with_reducible exact le_rfl' _ | ((rw [wrap_add_one (by omega)]; exact le_rfl' _)) | exact le_rfl' _
 ·
  try simp only [bsimp] at hb2
  obtain rfl : i = s.length := by omega
  have e : nameOk s = inR (s.length : Int) 1 12 := by unfold nameOk; rw [allUp_yes h2, Bool.true_and]
  rw [e]
  refine Ok.exit ?_
  refine OQ ?_
  iterate 2 (refine EV ?_)
  refine OkOps.S0 rfl (OpS.weak' rfl (by simp only [kE, kT, kL, kC] <;> rfl) (by simp only [kE, kT, kL, kC] <;> rfl) cl118 (w_spec_l01In (s.length : Int) 1 12)) (by simp only [kP] <;> rfl) ?_
  refine EV ?_
  refine ON ?_
  refine Ok.ret ?_
  with_reducible repeat (first | refine thenQ_ret ?_ | refine blockQ_ret ?_)
  refine RT ?_
  rfl
theorem w_spec_l06Sorted (a : List Int) (most : Int) (ha : a.length ≤ 4611686018427387904) : Weak Tryz.prog 147 [.sl 0 1 0 (a.map cZ), .int .i64 most] (.bool (gidsOk a most)) := by
 refine Weak.enter tab_ok Tryz.func147 rfl (.inr (by simp [V.labelsL, V.labels, V.labelsLL, zz, zf, zy, or_imp, forall_and])) (t := [.sl 0 1 0 (a.map cZ), .int .i64 most, .any, .any, .any, .any, .any, .any, .any, .any, .any, .any, .any, .any, .any, .any, .any, .any, .any, .any, .any, .any, .any, .any, .any, .any, .any, .any, .any, .any, .any, .any, .any, .any, .any, .any, .any, .any]) rfl ?_
 refine OQ ?_
 refine EV ?_
 refine ON ?_
 refine Ok.seq ?_
 refine OQ ?_
 refine EV ?_
 refine ON ?_
 refine Ok.block ?_
 refine Ok.loopW (τ := Nat) (fun x => [(5, .int .i64 (x : Int))]) [4, 6, 7, 8, 9, 10, 11, 12, 13, 14, 15, 16, 17, 18, 19, 20, 21, 22, 23, 24, 25, 26, 27, 28, 29, 30, 31, 32, 33] (fun x => by simp only [kover] <;> rfl) (fun x => x ≤ a.length ∧ ∀ k, k < x → gidAt a k = true) (fun x => a.length - x) 0 (by refine ⟨?_, ?_, ?_, ?_, ?_, ?_, ?_, ?_, ?_, ?_, ?_, ?_, ?_, ?_, ?_, ?_, ?_, ?_, ?_, ?_, ?_, ?_, ?_, ?_, ?_, ?_, ?_, ?_, ?_, ?_, ?_, ?_, ?_, ?_, ?_, ?_, ?_, ?_, trivial⟩ <;> first | exact le_any _ | with_reducible exact le_rfl' _ | (exact le_rfl' _) | exact le_rfl' _) (⟨Nat.zero_le _, fun k h => by omega⟩) ?_
 rintro i ⟨h1, h2⟩
 refine Ok.seq ?_
 refine OQ ?_
 iterate 4 (refine EV ?_)
 refine ON ?_
 refine Ok.cond (b := _) (by simp only [kE, kT, kL, kC] <;> rfl) (fun hb2 => ?_) (fun hb2 => ?_)
 ·
  try simp only [bsimp] at hb2
  have hi : i < a.length := by omega
  have hat : atB a gidOk i = inR a[i] 1 9999 := atB_get hi
  refine Ok.skip ?_
  refine Ok.seq ?_
  refine Ok.block ?_
  refine Ok.seqC [(33, .bool (!gidAt a i))] [12, 13, 14, 15, 16, 17, 18, 19, 20, 21, 22, 23, 24, 25, 26, 27, 28, 29, 30, 31, 32] (by simp only [kover] <;> rfl) ?_ ?_
  ·
   refine Ok.drawn 22 38 [] (by kernel_rfl) (by kernel_rfl) rfl ?_
   iterate 2 (refine SV ?_)
   refine SOps.ev tab_ok rfl (ev_idx_map (by simp only [kE, kT, kL, kC] <;> rfl) (by simp only [kE, kT, kL, kC] <;> rfl) (by omega) (by simp only [kE, kT, kL, kC] <;> rfl)) (by simp only [kP] <;> rfl) ?_
   refine SV ?_
   refine SOps.S0 rfl (OpS.weakM rfl (by simp only [kE, kT, kL, kC] <;> rfl) (by simp only [kE, kT, kL, kC] <;> rfl) cl118 (w_spec_l01In a[i] 1 9999)) (by simp only [kP] <;> rfl) ?_
   iterate 2 (refine SV ?_)
   refine SOps.split (d := 18) (by simp only [kE, kT, kL, kC] <;> rfl) (by simp only [kP] <;> rfl) (by simp only [kP] <;> rfl) (fun hg4_6 => ?_) (fun hg4_6 => ?_)
   ·
    try simp only [bsimp] at hg4_6
    refine SOps.offU rfl rfl (.inl (by simp only [kE, kT, kL, kC, Bool.not_true, Bool.not_false])) (by simp only [kP] <;> rfl) ?_
    refine SOps.offU rfl rfl (.inl (by simp only [kE, kT, kL, kC, Bool.not_true, Bool.not_false])) (by simp only [kP] <;> rfl) ?_
    refine SOps.offU rfl rfl (.inl (by simp only [kE, kT, kL, kC, Bool.not_true, Bool.not_false])) (by simp only [kP] <;> rfl) ?_
    refine SOps.offU rfl rfl (.inr (by simp only [kE, kT, kL, kC])) (by simp only [kP] <;> rfl) ?_
    refine SOps.offU rfl rfl (.inr (by simp only [kE, kT, kL, kC])) (by simp only [kP] <;> rfl) ?_
    refine SOps.offU rfl rfl (.inr (by simp only [kE, kT, kL, kC])) (by simp only [kP] <;> rfl) ?_
    refine SOps.offU rfl rfl (.inr (by simp only [kE, kT, kL, kC])) (by simp only [kP] <;> rfl) ?_
    refine SOps.offU rfl rfl (.inr (by simp only [kE, kT, kL, kC])) (by simp only [kP] <;> rfl) ?_
    refine SOps.offU rfl rfl (.inr (by simp only [kE, kT, kL, kC])) (by simp only [kP] <;> rfl) ?_
    refine SOps.offU rfl rfl (.inr (by simp only [kE, kT, kL, kC])) (by simp only [kP] <;> rfl) ?_
    refine SOps.offU rfl rfl (.inr (by simp only [kE, kT, kL, kC])) (by simp only [kP] <;> rfl) ?_
    refine SOps.offU rfl rfl (.inr (by simp only [kE, kT, kL, kC])) (by simp only [kP] <;> rfl) ?_
    refine SOps.offU rfl rfl (.inr (by simp only [kE, kT, kL, kC])) (by simp only [kP] <;> rfl) ?_
    refine SOps.offU rfl rfl (.inl (by simp only [kE, kT, kL, kC, Bool.not_true, Bool.not_false])) (by simp only [kP] <;> rfl) ?_
    refine SV ?_
    refine SOps.nil ?_
    refine TOps.nil ?_
    refine ⟨rfl, ?_, rfl, rfl⟩
    refine ⟨?_, ?_, ?_, ?_, ?_, ?_, ?_, ?_, ?_, ?_, ?_, ?_, ?_, ?_, ?_, ?_, ?_, ?_, ?_, ?_, ?_, ?_, ?_, ?_, ?_, ?_, ?_, ?_, ?_, ?_, ?_, ?_, ?_, ?_, ?_, ?_, ?_, ?_, trivial⟩ <;> first | exact le_any _ | with_reducible exact le_rfl' _ | (refine .inl (congrArg V.bool ?_); (first | (simp [gidAt, *]; done) | (simp [gidAt, *] <;> omega) | (rw [Bool.eq_iff_iff]; simp [gidAt, *] <;> omega) | (simp_all [gidAt]; done) | (simp_all [gidAt]; omega))) | exact le_rfl' _
   ·
    try simp only [bsimp] at hg4_6
    refine SOps.onEv tab_ok rfl rfl (by simp only [kE, kT, kL, kC]) (by simp only [kE, kT, kL, kC] <;> rfl) (by simp only [kP] <;> rfl) ?_
    refine SOps.onEv tab_ok rfl rfl (by simp only [kE, kT, kL, kC]) (by simp only [kE, kT, kL, kC] <;> rfl) (by simp only [kP] <;> rfl) ?_
    refine SOps.onEv tab_ok rfl rfl (by simp only [kE, kT, kL, kC]) (by simp only [kE, kT, kL, kC] <;> rfl) (by simp only [kP] <;> rfl) ?_
    refine SOps.split (d := 21) (by simp only [kE, kT, kL, kC] <;> rfl) (by simp only [kP] <;> rfl) (by simp only [kP] <;> rfl) (fun hg4_9 => ?_) (fun hg4_9 => ?_)
    ·
     try simp only [bsimp] at hg4_9
     have hpos : 0 < i := by omega
     have hbf := beforeB_get (p := fun a b => decide (a < b)) hi hpos
     refine SOps.onEv tab_ok rfl rfl (by simp only [kE, kT, kL, kC]) (by simp only [kE, kT, kL, kC] <;> rfl) (by simp only [kP] <;> rfl) ?_
     refine SOps.onEv tab_ok rfl rfl (by simp only [kE, kT, kL, kC]) (by simp only [kE, kT, kL, kC] <;> rfl) (by simp only [kP] <;> rfl) ?_
     refine SOps.onEv tab_ok rfl rfl (by simp only [kE, kT, kL, kC]) (by simp only [kE, kT, kL, kC, wrap_pred hpos (by omega)] <;> rfl) (by simp only [kP] <;> rfl) ?_
     refine SOps.onEv tab_ok rfl rfl (by simp only [kE, kT, kL, kC]) (ev_idx_map (by simp only [kE, kT, kL, kC] <;> rfl) (by simp only [kE, kT, kL, kC] <;> rfl) (by omega) (by simp only [kE, kT, kL, kC] <;> rfl)) (by simp only [kP] <;> rfl) ?_
     refine SOps.onEv tab_ok rfl rfl (by simp only [kE, kT, kL, kC]) (by simp only [kE, kT, kL, kC] <;> rfl) (by simp only [kP] <;> rfl) ?_
     refine SOps.onEv tab_ok rfl rfl (by simp only [kE, kT, kL, kC]) (by simp only [kE, kT, kL, kC] <;> rfl) (by simp only [kP] <;> rfl) ?_
     refine SOps.onEv tab_ok rfl rfl (by simp only [kE, kT, kL, kC]) (by simp only [kE, kT, kL, kC] <;> rfl) (by simp only [kP] <;> rfl) ?_
     refine SOps.onEv tab_ok rfl rfl (by simp only [kE, kT, kL, kC]) (ev_idx_map (by simp only [kE, kT, kL, kC] <;> rfl) (by simp only [kE, kT, kL, kC] <;> rfl) (by omega) (by simp only [kE, kT, kL, kC] <;> rfl)) (by simp only [kP] <;> rfl) ?_
     refine SOps.onEv tab_ok rfl rfl (by simp only [kE, kT, kL, kC]) (by simp only [kE, kT, kL, kC] <;> rfl) (by simp only [kP] <;> rfl) ?_
     refine SOps.onEv tab_ok rfl rfl (by simp only [kE, kT, kL, kC]) (by simp only [kE, kT, kL, kC] <;> rfl) (by simp only [kP] <;> rfl) ?_
     refine SOps.onEv tab_ok rfl rfl (by simp only [kE, kT, kL, kC]) (by simp only [kE, kT, kL, kC] <;> rfl) (by simp only [kP] <;> rfl) ?_
     refine SV ?_
     refine SOps.nil ?_
     refine TOps.nil ?_
     refine ⟨rfl, ?_, rfl, rfl⟩
     refine ⟨?_, ?_, ?_, ?_, ?_, ?_, ?_, ?_, ?_, ?_, ?_, ?_, ?_, ?_, ?_, ?_, ?_, ?_, ?_, ?_, ?_, ?_, ?_, ?_, ?_, ?_, ?_, ?_, ?_, ?_, ?_, ?_, ?_, ?_, ?_, ?_, ?_, ?_, trivial⟩ <;> first | exact le_any _ | with_reducible exact le_rfl' _ | (refine .inl (congrArg V.bool ?_); (first | (simp [gidAt, *]; done) | (simp [gidAt, *] <;> omega) | (rw [Bool.eq_iff_iff]; simp [gidAt, *] <;> omega) | (simp_all [gidAt]; done) | (simp_all [gidAt]; omega))) | exact le_rfl' _
    ·
     try simp only [bsimp] at hg4_9
     have hbf : beforeB a (fun a b => decide (a < b)) i = true := by rw [show i = 0 by omega]; rfl
     refine SOps.offU rfl rfl (.inl (by simp only [kE, kT, kL, kC, Bool.not_true, Bool.not_false])) (by simp only [kP] <;> rfl) ?_
     refine SOps.offU rfl rfl (.inl (by simp only [kE, kT, kL, kC, Bool.not_true, Bool.not_false])) (by simp only [kP] <;> rfl) ?_
     refine SOps.offU rfl rfl (.inl (by simp only [kE, kT, kL, kC, Bool.not_true, Bool.not_false])) (by simp only [kP] <;> rfl) ?_
     refine SOps.offU rfl rfl (.inl (by simp only [kE, kT, kL, kC, Bool.not_true, Bool.not_false])) (by simp only [kP] <;> rfl) ?_
     refine SOps.offU rfl rfl (.inl (by simp only [kE, kT, kL, kC, Bool.not_true, Bool.not_false])) (by simp only [kP] <;> rfl) ?_
     refine SOps.offU rfl rfl (.inl (by simp only [kE, kT, kL, kC, Bool.not_true, Bool.not_false])) (by simp only [kP] <;> rfl) ?_
     refine SOps.offU rfl rfl (.inl (by simp only [kE, kT, kL, kC, Bool.not_true, Bool.not_false])) (by simp only [kP] <;> rfl) ?_
     refine SOps.offU rfl rfl (.inl (by simp only [kE, kT, kL, kC, Bool.not_true, Bool.not_false])) (by simp only [kP] <;> rfl) ?_
     refine SOps.offU rfl rfl (.inl (by simp only [kE, kT, kL, kC, Bool.not_true, Bool.not_false])) (by simp only [kP] <;> rfl) ?_
     refine SOps.offU rfl rfl (.inl (by simp only [kE, kT, kL, kC, Bool.not_true, Bool.not_false])) (by simp only [kP] <;> rfl) ?_
     refine SOps.onEv tab_ok rfl rfl (by simp only [kE, kT, kL, kC]) (by simp only [kE, kT, kL, kC] <;> rfl) (by simp only [kP] <;> rfl) ?_
     refine SV ?_
     refine SOps.nil ?_
     refine TOps.nil ?_
     refine ⟨rfl, ?_, rfl, rfl⟩
     refine ⟨?_, ?_, ?_, ?_, ?_, ?_, ?_, ?_, ?_, ?_, ?_, ?_, ?_, ?_, ?_, ?_, ?_, ?_, ?_, ?_, ?_, ?_, ?_, ?_, ?_, ?_, ?_, ?_, ?_, ?_, ?_, ?_, ?_, ?_, ?_, ?_, ?_, ?_, trivial⟩ <;> first | exact le_any _ | with_reducible exact le_rfl' _ | (refine .inl (congrArg V.bool ?_); (first | (simp [gidAt, *]; done) | (simp [gidAt, *] <;> omega) | (rw [Bool.eq_iff_iff]; simp [gidAt, *] <;> omega) | (simp_all [gidAt]; done) | (simp_all [gidAt]; omega))) | exact le_rfl' _
  ·
   refine Ok.cond (b := _) (by simp only [kE, kT, kL, kC] <;> rfl) (fun hb4 => ?_) (fun hb4 => ?_)
   ·
    try simp only [bsimp] at hb4
    have e : gidsOk a most = false := by unfold gidsOk; rw [allUp_no hi hb4, Bool.false_and]
    rw [e]
    refine OQ ?_
    refine EV ?_
    refine ON ?_
    refine Ok.ret ?_
    with_reducible repeat (first | refine thenQ_ret ?_ | refine blockQ_ret ?_)
    refine RT ?_
    rfl
   ·
    try simp only [bsimp] at hb4
    refine Ok.skip ?_
    refine Ok.region ?_
    iterate 3 (refine EV ?_)
    refine ON ?_
    refine ⟨i + 1, ?_, rfl, rfl, ⟨by omega, up_next h2 hb4⟩, by omega⟩
    refine ⟨?_, ?_, ?_, ?_, ?_, ?_, ?_, ?_, ?_, ?_, ?_, ?_, ?_, ?_, ?_, ?_, ?_, ?_, ?_, ?_, ?_, ?_, ?_, ?_, ?_, ?_, ?_, ?_, ?_, ?_, ?_, ?_, ?_, ?_, ?_, ?_, ?_, ?_, trivial⟩ <;> first | exact le_any _ | with_reducible exact le_rfl' _ | ((rw [wrap_add_one (by omega)]; exact le_rfl' _)) | exact le_rfl' _
 ·
  try simp only [bsimp] at hb2
  obtain rfl : i = a.length := by omega
  have e : gidsOk a most = decide ((a.length : Int) ≤ most) := by unfold gidsOk; rw [allUp_yes h2, Bool.true_and]
  rw [e]
  refine Ok.exit ?_
  refine OQ ?_
  iterate 5 (refine EV ?_)
  refine ON ?_
  refine Ok.ret ?_
  with_reducible repeat (first | refine thenQ_ret ?_ | refine blockQ_ret ?_)
  refine RT ?_
  rfl
theorem w_spec_MailOk (m : Mail) (ha : m.flags.length ≤ 4611686018427387904) : Weak Tryz.prog 203 [.agg (cMail m)] (.bool (mailOk m)) := by
 refine Weak.enter tab_ok Tryz.func203 rfl (.inr (by simp [V.labelsL, V.labels, V.labelsLL, zz, zf, zy, or_imp, forall_and])) (t := [.agg (cMail m), .any, .any, .any, .any, .any, .any, .any, .any, .any, .any, .any, .any, .any, .any, .any, .any, .any, .any, .any, .any, .any]) rfl ?_
 refine OQ ?_
 iterate 2 (refine EV ?_)
 refine ON ?_
 refine OQ ?_
 iterate 2 (refine EV ?_)
 refine OkOps.S0 rfl (OpS.weak' rfl (by simp only [kE, kT, kL, kC] <;> rfl) (by simp only [kE, kT, kL, kC] <;> rfl) cl118 (w_spec_l01In _ _ _)) (by simp only [kP] <;> rfl) ?_
 refine EV ?_
 refine OkOps.split (d := 6) (by simp only [kE, kT, kL, kC] <;> rfl) (by simp only [kP] <;> rfl) (by simp only [kP] <;> rfl) (fun hg1_3 => ?_) (fun hg1_3 => ?_)
 ·
  try simp only [bsimp] at hg1_3
  refine OO ?_
  refine EV ?_
  refine OO ?_
  refine EV ?_
  refine OO ?_
  refine OkOps.S0 rfl (OpS.weak' rfl (by simp only [kE, kT, kL, kC] <;> rfl) (by simp only [kE, kT, kL, kC] <;> rfl) cl118 (w_spec_l01In _ _ _)) (by simp only [kP] <;> rfl) ?_
  iterate 2 (refine EV ?_)
  refine OkOps.split (d := 11) (by simp only [kE, kT, kL, kC] <;> rfl) (by simp only [kP] <;> rfl) (by simp only [kP] <;> rfl) (fun hg1_8 => ?_) (fun hg1_8 => ?_)
  ·
   try simp only [bsimp] at hg1_8
   refine OO ?_
   refine EV ?_
   refine OO ?_
   refine EV ?_
   refine OO ?_
   refine OkOps.S0 rfl (OpS.weak' rfl (by simp only [kE, kT, kL, kC] <;> rfl) (by simp only [kE, kT, kL, kC] <;> rfl) cl235 (w_spec_FlagsOk m.flags ha)) (by simp only [kP] <;> rfl) ?_
   iterate 2 (refine EV ?_)
   refine OkOps.split (d := 16) (by simp only [kE, kT, kL, kC] <;> rfl) (by simp only [kP] <;> rfl) (by simp only [kP] <;> rfl) (fun hg1_13 => ?_) (fun hg1_13 => ?_)
   ·
    try simp only [bsimp] at hg1_13
    refine OO ?_
    refine EV ?_
    refine OO ?_
    refine EV ?_
    refine OO ?_
    refine EV ?_
    refine OO ?_
    iterate 3 (refine EV ?_)
    refine ON ?_
    refine Ok.ret ?_
    with_reducible repeat (first | refine thenQ_ret ?_ | refine blockQ_ret ?_)
    refine RT ?_
    first | (simp_all [mailOk, gidOk, V.erase, V.trav, packV]; done) | (simp_all [mailOk, gidOk, V.erase, V.trav, packV] <;> omega)
   ·
    try simp only [bsimp] at hg1_13
    refine OkOps.offU rfl rfl (.inl (by simp only [kE, kT, kL, kC, Bool.not_true, Bool.not_false])) (by simp only [kP] <;> rfl) ?_
    refine OkOps.offU rfl rfl (.inl (by simp only [kE, kT, kL, kC, Bool.not_true, Bool.not_false])) (by simp only [kP] <;> rfl) ?_
    refine OkOps.offU rfl rfl (.inl (by simp only [kE, kT, kL, kC, Bool.not_true, Bool.not_false])) (by simp only [kP] <;> rfl) ?_
    refine OkOps.offU rfl rfl (.inl (by simp only [kE, kT, kL, kC, Bool.not_true, Bool.not_false])) (by simp only [kP] <;> rfl) ?_
    iterate 2 (refine EV ?_)
    refine ON ?_
    refine Ok.ret ?_
    with_reducible repeat (first | refine thenQ_ret ?_ | refine blockQ_ret ?_)
    refine RT ?_
    first | (simp_all [mailOk, gidOk, V.erase, V.trav, packV]; done) | (simp_all [mailOk, gidOk, V.erase, V.trav, packV] <;> omega)
  ·
   try simp only [bsimp] at hg1_8
   refine OkOps.offU rfl rfl (.inl (by simp only [kE, kT, kL, kC, Bool.not_true, Bool.not_false])) (by simp only [kP] <;> rfl) ?_
   refine OkOps.offU rfl rfl (.inl (by simp only [kE, kT, kL, kC, Bool.not_true, Bool.not_false])) (by simp only [kP] <;> rfl) ?_
   refine OkOps.offU rfl rfl (.inl (by simp only [kE, kT, kL, kC, Bool.not_true, Bool.not_false])) (by simp only [kP] <;> rfl) ?_
   iterate 2 (refine EV ?_)
   refine OkOps.offU rfl rfl (.inl (by simp only [kE, kT, kL, kC, Bool.not_true, Bool.not_false])) (by simp only [kP] <;> rfl) ?_
   refine OkOps.offU rfl rfl (.inl (by simp only [kE, kT, kL, kC, Bool.not_true, Bool.not_false])) (by simp only [kP] <;> rfl) ?_
   refine OkOps.offU rfl rfl (.inl (by simp only [kE, kT, kL, kC, Bool.not_true, Bool.not_false])) (by simp only [kP] <;> rfl) ?_
   refine OkOps.offU rfl rfl (.inl (by simp only [kE, kT, kL, kC, Bool.not_true, Bool.not_false])) (by simp only [kP] <;> rfl) ?_
   iterate 2 (refine EV ?_)
   refine ON ?_
   refine Ok.ret ?_
   with_reducible repeat (first | refine thenQ_ret ?_ | refine blockQ_ret ?_)
   refine RT ?_
   first | (simp_all [mailOk, gidOk, V.erase, V.trav, packV]; done) | (simp_all [mailOk, gidOk, V.erase, V.trav, packV] <;> omega)
 ·
  try simp only [bsimp] at hg1_3
  refine OkOps.offU rfl rfl (.inl (by simp only [kE, kT, kL, kC, Bool.not_true, Bool.not_false])) (by simp only [kP] <;> rfl) ?_
  refine OkOps.offU rfl rfl (.inl (by simp only [kE, kT, kL, kC, Bool.not_true, Bool.not_false])) (by simp only [kP] <;> rfl) ?_
  refine OkOps.offU rfl rfl (.inl (by simp only [kE, kT, kL, kC, Bool.not_true, Bool.not_false])) (by simp only [kP] <;> rfl) ?_
  iterate 2 (refine EV ?_)
  refine OkOps.offU rfl rfl (.inl (by simp only [kE, kT, kL, kC, Bool.not_true, Bool.not_false])) (by simp only [kP] <;> rfl) ?_
  refine OkOps.offU rfl rfl (.inl (by simp only [kE, kT, kL, kC, Bool.not_true, Bool.not_false])) (by simp only [kP] <;> rfl) ?_
  refine OkOps.offU rfl rfl (.inl (by simp only [kE, kT, kL, kC, Bool.not_true, Bool.not_false])) (by simp only [kP] <;> rfl) ?_
  iterate 2 (refine EV ?_)
  refine OkOps.offU rfl rfl (.inl (by simp only [kE, kT, kL, kC, Bool.not_true, Bool.not_false])) (by simp only [kP] <;> rfl) ?_
  refine OkOps.offU rfl rfl (.inl (by simp only [kE, kT, kL, kC, Bool.not_true, Bool.not_false])) (by simp only [kP] <;> rfl) ?_
  refine OkOps.offU rfl rfl (.inl (by simp only [kE, kT, kL, kC, Bool.not_true, Bool.not_false])) (by simp only [kP] <;> rfl) ?_
  refine OkOps.offU rfl rfl (.inl (by simp only [kE, kT, kL, kC, Bool.not_true, Bool.not_false])) (by simp only [kP] <;> rfl) ?_
  iterate 2 (refine EV ?_)
  refine ON ?_
  refine Ok.ret ?_
  with_reducible repeat (first | refine thenQ_ret ?_ | refine blockQ_ret ?_)
  refine RT ?_
  first | (simp_all [mailOk, gidOk, V.erase, V.trav, packV]; done) | (simp_all [mailOk, gidOk, V.erase, V.trav, packV] <;> omega)
end Go.Proofs.YtjhfabimacljhaaGreat.K

/- Walks: what is found in lists. Printed by w2.py. -/
namespace Go.Proofs.YtjhfabimacljhaaGreat.K
open Go Go.RowKit
set_option linter.unusedVariables false
set_option linter.unusedSimpArgs false
def eqI (x y : Int) : Bool := decide (x = y)
theorem idx_mem (x : Int) (a : List Int) : decide (idxI (a.findIdx? (eqI x)) ≥ 0) = decide (x ∈ a) := by
  cases h : a.findIdx? (eqI x) with
  | some i =>
    obtain ⟨h1, h2⟩ := find_some h
    have : x = a[i] := by simpa [eqI] using h2
    rw [decide_eq_true (show x ∈ a by rw [this]; exact List.getElem_mem h1)]
    exact decide_eq_true (by show ((i : Nat) : Int) ≥ 0; omega)
  | none =>
    have : ¬ x ∈ a := fun hm => by
      obtain ⟨i, hi, rfl⟩ := List.mem_iff_getElem.1 hm
      have := List.findIdx?_eq_none_iff.1 h _ (List.getElem_mem hi)
      simp [eqI] at this
    rw [decide_eq_false this]
    rfl
theorem any_here {α : Type} {l : List α} {p : α → Bool} {i : Nat} (h : i < l.length) (hp : p l[i] = true) : l.any p = true := List.any_eq_true.2 ⟨_, List.getElem_mem h, hp⟩
theorem any_none {α : Type} {l : List α} {p : α → Bool} (h : ∀ k (hk : k < l.length), p l[k] = false) : l.any p = false := by
  rw [List.any_eq_false]
  intro x hx
  obtain ⟨i, hi, rfl⟩ := List.mem_iff_getElem.1 hx
  rw [h i hi]; simp
set_option maxHeartbeats 4000000
set_option maxRecDepth 20000
theorem w_impl_MailAt_1 (m : Mail) (g : Int) : Weak Tryz.prog 244 [.agg (cMail m), .ptr 0 0 0 [.int .i64 g]] (.bool (hasGid g m)) := by
 refine Weak.enter tab_ok Tryz.func244 rfl (.inr (by simp [V.labelsL, V.labels, V.labelsLL, zz, zf, zy, or_imp, forall_and])) (t := [.agg (cMail m), .ptr 0 0 0 [.int .i64 g], .any, .any, .any, .any, .any, .any]) rfl ?_
 refine OQ ?_
 iterate 2 (refine EV ?_)
 refine ON ?_
 refine OQ ?_
 iterate 5 (refine EV ?_)
 refine ON ?_
 refine Ok.ret ?_
 with_reducible repeat (first | refine thenQ_ret ?_ | refine blockQ_ret ?_)
 refine RT ?_
 rfl
theorem w_impl_BoxNamed_1 (b : Box) (g : Str) : Weak Tryz.prog 220 [.agg (cBox b), .ptr 0 0 0 [.str g]] (.bool (isNamed g b)) := by
 refine Weak.enter tab_ok Tryz.func220 rfl (.inr (by simp [V.labelsL, V.labels, V.labelsLL, zz, zf, zy, or_imp, forall_and])) (t := [.agg (cBox b), .ptr 0 0 0 [.str g], .any, .any, .any, .any, .any, .any]) rfl ?_
 refine OQ ?_
 iterate 2 (refine EV ?_)
 refine ON ?_
 refine OQ ?_
 iterate 5 (refine EV ?_)
 refine ON ?_
 refine Ok.ret ?_
 with_reducible repeat (first | refine thenQ_ret ?_ | refine blockQ_ret ?_)
 refine RT ?_
 rfl
theorem w_idx_impl_MailAt_1 (a : List Mail) (g : Int) (ha : a.length ≤ 4611686018427387904) : Weak Tryz.prog 243 [.sl 0 4 0 (a.map cMail), .fn 244 [.ptr 0 0 0 [.int .i64 g]]] (.int .i64 (idxI (a.findIdx? (hasGid g)))) := by
 refine Weak.enter tab_ok Tryz.func243 rfl (.inr (by simp [V.labelsL, V.labels, V.labelsLL, zz, zf, zy, or_imp, forall_and])) (t := [.sl 0 4 0 (a.map cMail), .fn 244 [.ptr 0 0 0 [.int .i64 g]], .any, .any, .any, .any, .any, .any, .any, .any, .any, .any, .any, .any, .any, .any, .any, .any, .any]) rfl ?_
 refine OQ ?_
 refine EV ?_
 refine ON ?_
 refine Ok.seq ?_
 refine OQ ?_
 iterate 3 (refine EV ?_)
 refine ON ?_
 refine Ok.block ?_
 refine Ok.loopW (τ := Nat) (fun x => [(8, .int .i64 (x : Int))]) [4, 5, 9, 10, 11, 12, 13, 14, 15, 16, 17, 18] (fun x => by simp only [kover] <;> rfl) (fun x => x ≤ a.length ∧ ∀ k (hk : k < a.length), k < x → hasGid g a[k] = false) (fun x => a.length - x) 0 (by refine ⟨?_, ?_, ?_, ?_, ?_, ?_, ?_, ?_, ?_, ?_, ?_, ?_, ?_, ?_, ?_, ?_, ?_, ?_, ?_, trivial⟩ <;> first | exact le_any _ | with_reducible exact le_rfl' _ | (exact le_rfl' _) | exact le_rfl' _) (⟨Nat.zero_le _, fun k hk h => by omega⟩) ?_
 rintro i ⟨h1, h2⟩
 refine OQ ?_
 refine EV ?_
 refine ON ?_
 refine Ok.seq ?_
 refine Ok.cond (b := _) (by simp only [kE, kT, kL, kC] <;> rfl) (fun hb2 => ?_) (fun hb2 => ?_)
 ·
  try simp only [bsimp] at hb2
  have hi : i < a.length := by omega
  refine Ok.skip ?_
  refine Ok.seq ?_
  refine Ok.block ?_
  refine OQ ?_
  iterate 2 (refine EV ?_)
  refine ON ?_
  refine OQ ?_
  iterate 3 (refine EV ?_)
  refine OkOps.ev tab_ok rfl (ev_idx_map (by simp only [kE, kT, kL, kC] <;> rfl) (by simp only [kE, kT, kL, kC] <;> rfl) (by omega) (by simp only [kE, kT, kL, kC] <;> rfl)) (by simp only [kP] <;> rfl) ?_
  refine EV ?_
  refine OkOps.S0 rfl (OpS.weak' rfl (by simp only [kE, kT, kL, kC] <;> rfl) (by simp only [kE, kT, kL, kC] <;> rfl) cl244 (w_impl_MailAt_1 a[i] g)) (by simp only [kP] <;> rfl) ?_
  refine ON ?_
  refine Ok.cond (b := _) (by simp only [kE, kT, kL, kC] <;> rfl) (fun hb4 => ?_) (fun hb4 => ?_)
  ·
   try simp only [bsimp] at hb4
   rw [find_here hi h2 hb4]
   refine OQ ?_
   iterate 2 (refine EV ?_)
   refine ON ?_
   refine Ok.ret ?_
   with_reducible repeat (first | refine thenQ_ret ?_ | refine blockQ_ret ?_)
   refine RT ?_
   rfl
  ·
   try simp only [bsimp] at hb4
   have hf : hasGid g a[i] = false := by first | exact hb4 | (simpa [eqI] using hb4)
   refine Ok.skip ?_
   refine Ok.region ?_
   iterate 2 (refine EV ?_)
   refine ON ?_
   refine ⟨i + 1, ?_, rfl, rfl, ⟨by omega, no_next h2 hi hf⟩, by omega⟩
   refine ⟨?_, ?_, ?_, ?_, ?_, ?_, ?_, ?_, ?_, ?_, ?_, ?_, ?_, ?_, ?_, ?_, ?_, ?_, ?_, trivial⟩ <;> first | exact le_any _ | with_reducible exact le_rfl' _ | ((rw [wrap_add_one (by omega)]; exact le_rfl' _)) | exact le_rfl' _
 ·
  try simp only [bsimp] at hb2
  have hall : ∀ k (hk : k < a.length), hasGid g a[k] = false := fun k hk => h2 k hk (by omega)
  rw [find_none hall]
  refine Ok.exit ?_
  refine OQ ?_
  refine EV ?_
  refine ON ?_
  refine Ok.ret ?_
  with_reducible repeat (first | refine thenQ_ret ?_ | refine blockQ_ret ?_)
  refine RT ?_
  rfl
theorem w_idx_impl_BoxNamed_1 (a : List Box) (g : Str) (ha : a.length ≤ 4611686018427387904) : Weak Tryz.prog 219 [.sl 0 7 0 (a.map cBox), .fn 220 [.ptr 0 0 0 [.str g]]] (.int .i64 (idxI (a.findIdx? (isNamed g)))) := by
 refine Weak.enter tab_ok Tryz.func219 rfl (.inr (by simp [V.labelsL, V.labels, V.labelsLL, zz, zf, zy, or_imp, forall_and])) (t := [.sl 0 7 0 (a.map cBox), .fn 220 [.ptr 0 0 0 [.str g]], .any, .any, .any, .any, .any, .any, .any, .any, .any, .any, .any, .any, .any, .any, .any, .any, .any]) rfl ?_
 refine OQ ?_
 refine EV ?_
 refine ON ?_
 refine Ok.seq ?_
 refine OQ ?_
 iterate 3 (refine EV ?_)
 refine ON ?_
 refine Ok.block ?_
 refine Ok.loopW (τ := Nat) (fun x => [(8, .int .i64 (x : Int))]) [4, 5, 9, 10, 11, 12, 13, 14, 15, 16, 17, 18] (fun x => by simp only [kover] <;> rfl) (fun x => x ≤ a.length ∧ ∀ k (hk : k < a.length), k < x → isNamed g a[k] = false) (fun x => a.length - x) 0 (by refine ⟨?_, ?_, ?_, ?_, ?_, ?_, ?_, ?_, ?_, ?_, ?_, ?_, ?_, ?_, ?_, ?_, ?_, ?_, ?_, trivial⟩ <;> first | exact le_any _ | with_reducible exact le_rfl' _ | (exact le_rfl' _) | exact le_rfl' _) (⟨Nat.zero_le _, fun k hk h => by omega⟩) ?_
 rintro i ⟨h1, h2⟩
 refine OQ ?_
 refine EV ?_
 refine ON ?_
 refine Ok.seq ?_
 refine Ok.cond (b := _) (by simp only [kE, kT, kL, kC] <;> rfl) (fun hb2 => ?_) (fun hb2 => ?_)
 ·
  try simp only [bsimp] at hb2
  have hi : i < a.length := by omega
  refine Ok.skip ?_
  refine Ok.seq ?_
  refine Ok.block ?_
  refine OQ ?_
  iterate 2 (refine EV ?_)
  refine ON ?_
  refine OQ ?_
  iterate 3 (refine EV ?_)
  refine OkOps.ev tab_ok rfl (ev_idx_map (by simp only [kE, kT, kL, kC] <;> rfl) (by simp only [kE, kT, kL, kC] <;> rfl) (by omega) (by simp only [kE, kT, kL, kC] <;> rfl)) (by simp only [kP] <;> rfl) ?_
  refine EV ?_
  refine OkOps.S0 rfl (OpS.weak' rfl (by simp only [kE, kT, kL, kC] <;> rfl) (by simp only [kE, kT, kL, kC] <;> rfl) cl220 (w_impl_BoxNamed_1 a[i] g)) (by simp only [kP] <;> rfl) ?_
  refine ON ?_
  refine Ok.cond (b := _) (by simp only [kE, kT, kL, kC] <;> rfl) (fun hb4 => ?_) (fun hb4 => ?_)
  ·
   try simp only [bsimp] at hb4
   rw [find_here hi h2 hb4]
   refine OQ ?_
   iterate 2 (refine EV ?_)
   refine ON ?_
   refine Ok.ret ?_
   with_reducible repeat (first | refine thenQ_ret ?_ | refine blockQ_ret ?_)
   refine RT ?_
   rfl
  ·
   try simp only [bsimp] at hb4
   have hf : isNamed g a[i] = false := by first | exact hb4 | (simpa [eqI] using hb4)
   refine Ok.skip ?_
   refine Ok.region ?_
   iterate 2 (refine EV ?_)
   refine ON ?_
   refine ⟨i + 1, ?_, rfl, rfl, ⟨by omega, no_next h2 hi hf⟩, by omega⟩
   refine ⟨?_, ?_, ?_, ?_, ?_, ?_, ?_, ?_, ?_, ?_, ?_, ?_, ?_, ?_, ?_, ?_, ?_, ?_, ?_, trivial⟩ <;> first | exact le_any _ | with_reducible exact le_rfl' _ | ((rw [wrap_add_one (by omega)]; exact le_rfl' _)) | exact le_rfl' _
 ·
  try simp only [bsimp] at hb2
  have hall : ∀ k (hk : k < a.length), isNamed g a[k] = false := fun k hk => h2 k hk (by omega)
  rw [find_none hall]
  refine Ok.exit ?_
  refine OQ ?_
  refine EV ?_
  refine ON ?_
  refine Ok.ret ?_
  with_reducible repeat (first | refine thenQ_ret ?_ | refine blockQ_ret ?_)
  refine RT ?_
  rfl
theorem w_impl_MailAt (b : Box) (g : Int) (ha : b.mails.length ≤ 4611686018427387904) : Weak Tryz.prog 218 [.agg (cBox b), .int .i64 g] (.int .i64 (idxI (mailAt b g))) := by
 refine Weak.enter tab_ok Tryz.func218 rfl (.inr (by simp [V.labelsL, V.labels, V.labelsLL, zz, zf, zy, or_imp, forall_and])) (t := [.agg (cBox b), .int .i64 g, .any, .any, .any, .any, .any, .any, .any]) rfl ?_
 refine OQ ?_
 iterate 3 (refine EV ?_)
 refine ON ?_
 refine OQ ?_
 iterate 3 (refine EV ?_)
 refine OkOps.S0 rfl (OpS.weakE rfl (by simp only [kE, kT, kL, kC] <;> rfl) (by simp only [kE, kT, kL, kC, V.eraseL, V.erase, V.travL, V.trav, zz, zf, zy] <;> rfl) cl243 (by simp [V.labels, V.labelsL, V.labelsLL, zz, zf, zy]) (w_idx_impl_MailAt_1 b.mails g ha)) (by simp only [kP] <;> rfl) ?_
 refine EV ?_
 refine ON ?_
 refine Ok.ret ?_
 with_reducible repeat (first | refine thenQ_ret ?_ | refine blockQ_ret ?_)
 refine RT ?_
 rfl
theorem w_impl_BoxNamed (s : Store) (g : Str) (ha : s.boxes.length ≤ 4611686018427387904) : Weak Tryz.prog 169 [.agg (cStore s), .str g] (.int .i64 (idxI (boxNamed s g))) := by
 refine Weak.enter tab_ok Tryz.func169 rfl (.inr (by simp [V.labelsL, V.labels, V.labelsLL, zz, zf, zy, or_imp, forall_and])) (t := [.agg (cStore s), .str g, .any, .any, .any, .any, .any, .any, .any]) rfl ?_
 refine OQ ?_
 iterate 3 (refine EV ?_)
 refine ON ?_
 refine OQ ?_
 iterate 3 (refine EV ?_)
 refine OkOps.S0 rfl (OpS.weakE rfl (by simp only [kE, kT, kL, kC] <;> rfl) (by simp only [kE, kT, kL, kC, V.eraseL, V.erase, V.travL, V.trav, zz, zf, zy] <;> rfl) cl219 (by simp [V.labels, V.labelsL, V.labelsLL, zz, zf, zy]) (w_idx_impl_BoxNamed_1 s.boxes g ha)) (by simp only [kP] <;> rfl) ?_
 refine EV ?_
 refine ON ?_
 refine Ok.ret ?_
 with_reducible repeat (first | refine thenQ_ret ?_ | refine blockQ_ret ?_)
 refine RT ?_
 rfl
theorem w_spec_MailAt (x0 : Box) (g : Int) (ha : x0.mails.length ≤ 4611686018427387904) : Weak Tryz.prog 204 [.agg (cBox x0), .int .i64 g] (.int .i64 (idxI (mailAt x0 g))) := by
 refine Weak.enter tab_ok Tryz.func204 rfl (.inr (by simp [V.labelsL, V.labels, V.labelsLL, zz, zf, zy, or_imp, forall_and])) (t := [.agg (cBox x0), .int .i64 g, .any, .any, .any, .any, .any, .any, .any, .any, .any, .any, .any, .any, .any, .any, .any, .any, .any, .any, .any, .any]) rfl ?_
 refine OQ ?_
 iterate 2 (refine EV ?_)
 refine ON ?_
 refine Ok.seq ?_
 refine OQ ?_
 refine EV ?_
 refine ON ?_
 refine Ok.block ?_
 refine Ok.loopW (τ := Nat) (fun x => [(5, .int .i64 (x : Int))]) [4, 6, 7, 8, 9, 10, 11, 12, 13, 14, 15, 16, 17, 18, 19, 20, 21] (fun x => by simp only [kover] <;> rfl) (fun x => x ≤ x0.mails.length ∧ ∀ k (hk : k < x0.mails.length), k < x → hasGid g x0.mails[k] = false) (fun x => x0.mails.length - x) 0 (by refine ⟨?_, ?_, ?_, ?_, ?_, ?_, ?_, ?_, ?_, ?_, ?_, ?_, ?_, ?_, ?_, ?_, ?_, ?_, ?_, ?_, ?_, ?_, trivial⟩ <;> first | exact le_any _ | with_reducible exact le_rfl' _ | (exact le_rfl' _) | exact le_rfl' _) (⟨Nat.zero_le _, fun k hk h => by omega⟩) ?_
 rintro i ⟨h1, h2⟩
 refine Ok.seq ?_
 refine OQ ?_
 iterate 5 (refine EV ?_)
 refine ON ?_
 refine Ok.cond (b := _) (by simp only [kE, kT, kL, kC] <;> rfl) (fun hb2 => ?_) (fun hb2 => ?_)
 ·
  try simp only [bsimp] at hb2
  have hi : i < x0.mails.length := by omega
  refine Ok.skip ?_
  refine Ok.seq ?_
  refine Ok.block ?_
  refine OQ ?_
  iterate 3 (refine EV ?_)
  refine OkOps.ev tab_ok rfl (ev_idx_map (by simp only [kE, kT, kL, kC] <;> rfl) (by simp only [kE, kT, kL, kC] <;> rfl) (by omega) (by simp only [kE, kT, kL, kC] <;> rfl)) (by simp only [kP] <;> rfl) ?_
  iterate 4 (refine EV ?_)
  refine ON ?_
  refine Ok.cond (b := _) (by simp only [kE, kT, kL, kC] <;> rfl) (fun hb4 => ?_) (fun hb4 => ?_)
  ·
   try simp only [bsimp] at hb4
   have hh : hasGid g x0.mails[i] = true := by simpa [hasGid] using hb4
   rw [show mailAt x0 g = some i from find_here hi h2 hh]
   refine OQ ?_
   iterate 2 (refine EV ?_)
   refine ON ?_
   refine Ok.ret ?_
   with_reducible repeat (first | refine thenQ_ret ?_ | refine blockQ_ret ?_)
   refine RT ?_
   rfl
  ·
   try simp only [bsimp] at hb4
   have hf : hasGid g x0.mails[i] = false := by first | exact hb4 | (simpa [hasGid] using hb4)
   refine Ok.skip ?_
   refine Ok.region ?_
   iterate 3 (refine EV ?_)
   refine ON ?_
   refine ⟨i + 1, ?_, rfl, rfl, ⟨by omega, no_next h2 hi hf⟩, by omega⟩
   refine ⟨?_, ?_, ?_, ?_, ?_, ?_, ?_, ?_, ?_, ?_, ?_, ?_, ?_, ?_, ?_, ?_, ?_, ?_, ?_, ?_, ?_, ?_, trivial⟩ <;> first | exact le_any _ | with_reducible exact le_rfl' _ | ((rw [wrap_add_one (by omega)]; exact le_rfl' _)) | exact le_rfl' _
 ·
  try simp only [bsimp] at hb2
  have hall : ∀ k (hk : k < x0.mails.length), hasGid g x0.mails[k] = false := fun k hk => h2 k hk (by omega)
  rw [show mailAt x0 g = none from find_none hall]
  refine Ok.exit ?_
  refine OQ ?_
  refine EV ?_
  refine ON ?_
  refine Ok.ret ?_
  with_reducible repeat (first | refine thenQ_ret ?_ | refine blockQ_ret ?_)
  refine RT ?_
  rfl
theorem w_spec_BoxNamed (x0 : Store) (g : Str) (ha : x0.boxes.length ≤ 4611686018427387904) : Weak Tryz.prog 149 [.agg (cStore x0), .str g] (.int .i64 (idxI (boxNamed x0 g))) := by
 refine Weak.enter tab_ok Tryz.func149 rfl (.inr (by simp [V.labelsL, V.labels, V.labelsLL, zz, zf, zy, or_imp, forall_and])) (t := [.agg (cStore x0), .str g, .any, .any, .any, .any, .any, .any, .any, .any, .any, .any, .any, .any, .any, .any, .any, .any, .any, .any, .any, .any]) rfl ?_
 refine OQ ?_
 iterate 2 (refine EV ?_)
 refine ON ?_
 refine Ok.seq ?_
 refine OQ ?_
 refine EV ?_
 refine ON ?_
 refine Ok.block ?_
 refine Ok.loopW (τ := Nat) (fun x => [(5, .int .i64 (x : Int))]) [4, 6, 7, 8, 9, 10, 11, 12, 13, 14, 15, 16, 17, 18, 19, 20, 21] (fun x => by simp only [kover] <;> rfl) (fun x => x ≤ x0.boxes.length ∧ ∀ k (hk : k < x0.boxes.length), k < x → isNamed g x0.boxes[k] = false) (fun x => x0.boxes.length - x) 0 (by refine ⟨?_, ?_, ?_, ?_, ?_, ?_, ?_, ?_, ?_, ?_, ?_, ?_, ?_, ?_, ?_, ?_, ?_, ?_, ?_, ?_, ?_, ?_, trivial⟩ <;> first | exact le_any _ | with_reducible exact le_rfl' _ | (exact le_rfl' _) | exact le_rfl' _) (⟨Nat.zero_le _, fun k hk h => by omega⟩) ?_
 rintro i ⟨h1, h2⟩
 refine Ok.seq ?_
 refine OQ ?_
 iterate 5 (refine EV ?_)
 refine ON ?_
 refine Ok.cond (b := _) (by simp only [kE, kT, kL, kC] <;> rfl) (fun hb2 => ?_) (fun hb2 => ?_)
 ·
  try simp only [bsimp] at hb2
  have hi : i < x0.boxes.length := by omega
  refine Ok.skip ?_
  refine Ok.seq ?_
  refine Ok.block ?_
  refine OQ ?_
  iterate 3 (refine EV ?_)
  refine OkOps.ev tab_ok rfl (ev_idx_map (by simp only [kE, kT, kL, kC] <;> rfl) (by simp only [kE, kT, kL, kC] <;> rfl) (by omega) (by simp only [kE, kT, kL, kC] <;> rfl)) (by simp only [kP] <;> rfl) ?_
  iterate 4 (refine EV ?_)
  refine ON ?_
  refine Ok.cond (b := _) (by simp only [kE, kT, kL, kC] <;> rfl) (fun hb4 => ?_) (fun hb4 => ?_)
  ·
   try simp only [bsimp] at hb4
   have hh : isNamed g x0.boxes[i] = true := by simpa [isNamed] using hb4
   rw [show boxNamed x0 g = some i from find_here hi h2 hh]
   refine OQ ?_
   iterate 2 (refine EV ?_)
   refine ON ?_
   refine Ok.ret ?_
   with_reducible repeat (first | refine thenQ_ret ?_ | refine blockQ_ret ?_)
   refine RT ?_
   rfl
  ·
   try simp only [bsimp] at hb4
   have hf : isNamed g x0.boxes[i] = false := by first | exact hb4 | (simpa [isNamed] using hb4)
   refine Ok.skip ?_
   refine Ok.region ?_
   iterate 3 (refine EV ?_)
   refine ON ?_
   refine ⟨i + 1, ?_, rfl, rfl, ⟨by omega, no_next h2 hi hf⟩, by omega⟩
   refine ⟨?_, ?_, ?_, ?_, ?_, ?_, ?_, ?_, ?_, ?_, ?_, ?_, ?_, ?_, ?_, ?_, ?_, ?_, ?_, ?_, ?_, ?_, trivial⟩ <;> first | exact le_any _ | with_reducible exact le_rfl' _ | ((rw [wrap_add_one (by omega)]; exact le_rfl' _)) | exact le_rfl' _
 ·
  try simp only [bsimp] at hb2
  have hall : ∀ k (hk : k < x0.boxes.length), isNamed g x0.boxes[k] = false := fun k hk => h2 k hk (by omega)
  rw [show boxNamed x0 g = none from find_none hall]
  refine Ok.exit ?_
  refine OQ ?_
  refine EV ?_
  refine ON ?_
  refine Ok.ret ?_
  with_reducible repeat (first | refine thenQ_ret ?_ | refine blockQ_ret ?_)
  refine RT ?_
  rfl
theorem w_slices_Index___int_int_ (a : List Int) (g : Int) (ha : a.length ≤ 4611686018427387904) : Weak Tryz.prog 221 [.sl 0 1 0 (a.map cZ), .int .i64 g] (.int .i64 (idxI (a.findIdx? (eqI g)))) := by
 refine Weak.enter tab_ok Tryz.func221 rfl (.inr (by simp [V.labelsL, V.labels, V.labelsLL, zz, zf, zy, or_imp, forall_and])) (t := [.sl 0 1 0 (a.map cZ), .int .i64 g, .any, .any, .any, .any, .any, .any, .any, .any, .any, .any, .any, .any, .any, .any, .any, .any, .any]) rfl ?_
 refine OQ ?_
 refine EV ?_
 refine ON ?_
 refine Ok.seq ?_
 refine OQ ?_
 iterate 3 (refine EV ?_)
 refine ON ?_
 refine Ok.block ?_
 refine Ok.loopW (τ := Nat) (fun x => [(8, .int .i64 (x : Int))]) [4, 5, 9, 10, 11, 12, 13, 14, 15, 16, 17, 18] (fun x => by simp only [kover] <;> rfl) (fun x => x ≤ a.length ∧ ∀ k (hk : k < a.length), k < x → eqI g a[k] = false) (fun x => a.length - x) 0 (by refine ⟨?_, ?_, ?_, ?_, ?_, ?_, ?_, ?_, ?_, ?_, ?_, ?_, ?_, ?_, ?_, ?_, ?_, ?_, ?_, trivial⟩ <;> first | exact le_any _ | with_reducible exact le_rfl' _ | (exact le_rfl' _) | exact le_rfl' _) (⟨Nat.zero_le _, fun k hk h => by omega⟩) ?_
 rintro i ⟨h1, h2⟩
 refine OQ ?_
 refine EV ?_
 refine ON ?_
 refine Ok.seq ?_
 refine Ok.cond (b := _) (by simp only [kE, kT, kL, kC] <;> rfl) (fun hb2 => ?_) (fun hb2 => ?_)
 ·
  try simp only [bsimp] at hb2
  have hi : i < a.length := by omega
  refine Ok.skip ?_
  refine Ok.seq ?_
  refine Ok.block ?_
  refine OQ ?_
  iterate 2 (refine EV ?_)
  refine ON ?_
  refine OQ ?_
  iterate 3 (refine EV ?_)
  refine OkOps.ev tab_ok rfl (ev_idx_map (by simp only [kE, kT, kL, kC] <;> rfl) (by simp only [kE, kT, kL, kC] <;> rfl) (by omega) (by simp only [kE, kT, kL, kC] <;> rfl)) (by simp only [kP] <;> rfl) ?_
  iterate 2 (refine EV ?_)
  refine ON ?_
  refine Ok.cond (b := _) (by simp only [kE, kT, kL, kC] <;> rfl) (fun hb4 => ?_) (fun hb4 => ?_)
  ·
   try simp only [bsimp] at hb4
   have hh : eqI g a[i] = true := by simpa [eqI] using hb4
   rw [find_here hi h2 hh]
   refine OQ ?_
   iterate 2 (refine EV ?_)
   refine ON ?_
   refine Ok.ret ?_
   with_reducible repeat (first | refine thenQ_ret ?_ | refine blockQ_ret ?_)
   refine RT ?_
   rfl
  ·
   try simp only [bsimp] at hb4
   have hf : eqI g a[i] = false := by first | exact hb4 | (simpa [eqI] using hb4)
   refine Ok.skip ?_
   refine Ok.region ?_
   iterate 2 (refine EV ?_)
   refine ON ?_
   refine ⟨i + 1, ?_, rfl, rfl, ⟨by omega, no_next h2 hi hf⟩, by omega⟩
   refine ⟨?_, ?_, ?_, ?_, ?_, ?_, ?_, ?_, ?_, ?_, ?_, ?_, ?_, ?_, ?_, ?_, ?_, ?_, ?_, trivial⟩ <;> first | exact le_any _ | with_reducible exact le_rfl' _ | ((rw [wrap_add_one (by omega)]; exact le_rfl' _)) | exact le_rfl' _
 ·
  try simp only [bsimp] at hb2
  have hall : ∀ k (hk : k < a.length), eqI g a[k] = false := fun k hk => h2 k hk (by omega)
  rw [find_none hall]
  refine Ok.exit ?_
  refine OQ ?_
  refine EV ?_
  refine ON ?_
  refine Ok.ret ?_
  with_reducible repeat (first | refine thenQ_ret ?_ | refine blockQ_ret ?_)
  refine RT ?_
  rfl
theorem w_slices_Contains___int_int_ (a : List Int) (g : Int) (ha : a.length ≤ 4611686018427387904) : Weak Tryz.prog 170 [.sl 0 1 0 (a.map cZ), .int .i64 g] (.bool (decide (g ∈ a))) := by
 rw [← idx_mem]
 refine Weak.enter tab_ok Tryz.func170 rfl (.inr (by simp [V.labelsL, V.labels, V.labelsLL, zz, zf, zy, or_imp, forall_and])) (t := [.sl 0 1 0 (a.map cZ), .int .i64 g, .any, .any, .any, .any, .any, .any, .any]) rfl ?_
 refine OQ ?_
 refine EV ?_
 refine ON ?_
 refine OQ ?_
 iterate 2 (refine EV ?_)
 refine OkOps.S0 rfl (OpS.weak' rfl (by simp only [kE, kT, kL, kC] <;> rfl) (by simp only [kE, kT, kL, kC] <;> rfl) cl221 (w_slices_Index___int_int_ a g ha)) (by simp only [kP] <;> rfl) ?_
 iterate 2 (refine EV ?_)
 refine ON ?_
 refine Ok.ret ?_
 with_reducible repeat (first | refine thenQ_ret ?_ | refine blockQ_ret ?_)
 refine RT ?_
 rfl
theorem w_spec_l06In (a : List Int) (g : Int) (ha : a.length ≤ 4611686018427387904) : Weak Tryz.prog 150 [.sl 0 1 0 (a.map cZ), .int .i64 g] (.bool (decide (g ∈ a))) := by
 refine Weak.enter tab_ok Tryz.func150 rfl (.inr (by simp [V.labelsL, V.labels, V.labelsLL, zz, zf, zy, or_imp, forall_and])) (t := [.sl 0 1 0 (a.map cZ), .int .i64 g, .any, .any, .any, .any, .any, .any, .any, .any, .any, .any, .any, .any, .any, .any, .any, .any]) rfl ?_
 refine OQ ?_
 refine EV ?_
 refine ON ?_
 refine Ok.seq ?_
 refine OQ ?_
 refine EV ?_
 refine ON ?_
 refine Ok.block ?_
 refine Ok.loopW (τ := Nat) (fun x => [(5, .int .i64 (x : Int))]) [4, 6, 7, 8, 9, 10, 11, 12, 13, 14, 15, 16, 17] (fun x => by simp only [kover] <;> rfl) (fun x => x ≤ a.length ∧ ∀ k (hk : k < a.length), k < x → eqI g a[k] = false) (fun x => a.length - x) 0 (by refine ⟨?_, ?_, ?_, ?_, ?_, ?_, ?_, ?_, ?_, ?_, ?_, ?_, ?_, ?_, ?_, ?_, ?_, ?_, trivial⟩ <;> first | exact le_any _ | with_reducible exact le_rfl' _ | (exact le_rfl' _) | exact le_rfl' _) (⟨Nat.zero_le _, fun k hk h => by omega⟩) ?_
 rintro i ⟨h1, h2⟩
 refine Ok.seq ?_
 refine OQ ?_
 iterate 4 (refine EV ?_)
 refine ON ?_
 refine Ok.cond (b := _) (by simp only [kE, kT, kL, kC] <;> rfl) (fun hb2 => ?_) (fun hb2 => ?_)
 ·
  try simp only [bsimp] at hb2
  have hi : i < a.length := by omega
  refine Ok.skip ?_
  refine Ok.seq ?_
  refine Ok.block ?_
  refine OQ ?_
  iterate 2 (refine EV ?_)
  refine OkOps.ev tab_ok rfl (ev_idx_map (by simp only [kE, kT, kL, kC] <;> rfl) (by simp only [kE, kT, kL, kC] <;> rfl) (by omega) (by simp only [kE, kT, kL, kC] <;> rfl)) (by simp only [kP] <;> rfl) ?_
  iterate 3 (refine EV ?_)
  refine ON ?_
  refine Ok.cond (b := _) (by simp only [kE, kT, kL, kC] <;> rfl) (fun hb4 => ?_) (fun hb4 => ?_)
  ·
   try simp only [bsimp] at hb4
   have hh : a[i] = g := by simpa using hb4
   rw [decide_eq_true (show g ∈ a by rw [← hh]; exact List.getElem_mem hi)]
   refine OQ ?_
   refine EV ?_
   refine ON ?_
   refine Ok.ret ?_
   with_reducible repeat (first | refine thenQ_ret ?_ | refine blockQ_ret ?_)
   refine RT ?_
   rfl
  ·
   try simp only [bsimp] at hb4
   have hf : eqI g a[i] = false := by (have hq : ¬ a[i] = g := by simpa using hb4); simp only [eqI, decide_eq_false_iff_not]; exact fun h => hq h.symm
   refine Ok.skip ?_
   refine Ok.region ?_
   iterate 3 (refine EV ?_)
   refine ON ?_
   refine ⟨i + 1, ?_, rfl, rfl, ⟨by omega, no_next h2 hi hf⟩, by omega⟩
   refine ⟨?_, ?_, ?_, ?_, ?_, ?_, ?_, ?_, ?_, ?_, ?_, ?_, ?_, ?_, ?_, ?_, ?_, ?_, trivial⟩ <;> first | exact le_any _ | with_reducible exact le_rfl' _ | ((rw [wrap_add_one (by omega)]; exact le_rfl' _)) | exact le_rfl' _
 ·
  try simp only [bsimp] at hb2
  have hall : ∀ k (hk : k < a.length), eqI g a[k] = false := fun k hk => h2 k hk (by omega)
  rw [decide_eq_false (show ¬ g ∈ a from fun hm => by obtain ⟨k, hk, rfl⟩ := List.mem_iff_getElem.1 hm; have := hall k hk; simp [eqI] at this)]
  refine Ok.exit ?_
  refine OQ ?_
  refine EV ?_
  refine ON ?_
  refine Ok.ret ?_
  with_reducible repeat (first | refine thenQ_ret ?_ | refine blockQ_ret ?_)
  refine RT ?_
  rfl
theorem w_impl_isLate (b : Box) (t : Int) (ha : b.mails.length ≤ 4611686018427387904) (hb : ∀ m ∈ b.mails, m.flags.length ≤ 4611686018427387904) : Weak Tryz.prog 171 [.agg (cBox b), .int .i64 t] (.bool (lateB b t)) := by
 refine Weak.enter tab_ok Tryz.func171 rfl (.inr (by simp [V.labelsL, V.labels, V.labelsLL, zz, zf, zy, or_imp, forall_and])) (t := [.agg (cBox b), .int .i64 t, .any, .any, .any, .any, .any, .any, .any, .any, .any, .any, .any, .any, .any, .any, .any, .any, .any, .any, .any, .any, .any, .any, .any, .any, .any, .any, .any, .any, .any, .any, .any, .any, .any]) rfl ?_
 refine OQ ?_
 iterate 2 (refine EV ?_)
 refine ON ?_
 refine Ok.seq ?_
 refine OQ ?_
 iterate 4 (refine EV ?_)
 refine ON ?_
 refine Ok.block ?_
 refine Ok.loopWZ (τ := Nat) (fun x => [(12, .int .i64 (x : Int))]) [4, 6, 8, 13, 14, 15, 16, 17, 18, 19, 20, 21, 22, 23, 24, 25, 26, 27, 28, 29] (fun x => by simp only [kover] <;> rfl) (fun x => x ≤ b.mails.length ∧ ∀ k (hk : k < b.mails.length), k < x → lateM t b.mails[k] = false) (fun x => b.mails.length - x) 0 (by omega) (by refine ⟨?_, ?_, ?_, ?_, ?_, ?_, ?_, ?_, ?_, ?_, ?_, ?_, ?_, ?_, ?_, ?_, ?_, ?_, ?_, ?_, ?_, ?_, ?_, ?_, ?_, ?_, ?_, ?_, ?_, ?_, ?_, ?_, ?_, ?_, ?_, trivial⟩ <;> first | exact le_any _ | with_reducible exact le_rfl' _ | (exact le_rfl' _) | exact le_rfl' _) (⟨Nat.zero_le _, fun k hk h => by omega⟩) ?_
 rintro i ⟨h1, h2⟩
 refine OQ ?_
 refine EV ?_
 refine ON ?_
 refine Ok.seq ?_
 refine Ok.cond (b := _) (by simp only [kE, kT, kL, kC] <;> rfl) (fun hb2 => ?_) (fun hb2 => ?_)
 ·
  try simp only [bsimp] at hb2
  have hil : i < b.mails.length := by omega
  have hfl := hb _ (List.getElem_mem hil)
  refine Ok.skip ?_
  refine Ok.seq ?_
  refine Ok.block ?_
  refine OQ ?_
  refine OkOps.ev tab_ok rfl (ev_idx_map (by simp only [kE, kT, kL, kC] <;> rfl) (by simp only [kE, kT, kL, kC] <;> rfl) (by omega) (by simp only [kE, kT, kL, kC] <;> rfl)) (by simp only [kP] <;> rfl) ?_
  iterate 2 (refine EV ?_)
  refine OkOps.storeE tab_ok rfl rfl (by simp only [kE, kT, kL, kC] <;> rfl) ⟨_, _, by simp only [kE]; rfl⟩ (by first | (simp [V.labelsL, V.labelsLL, V.labels, zz, zf, zy]; done) | (simp [-List.map_map, -List.map_set, -List.map_drop, -List.map_take, -List.map_tail, -List.drop_one, V.labelsL, V.labelsLL, V.labels, zz, zf, zy]; done)) (by simp only [eq_self, V.updL, V.travL, V.travLL, V.trav, updS, updP, and_self, true_and, and_true, false_and, and_false, Nat.reduceEqDiff, Nat.reduceSub, Nat.le_refl, Nat.zero_le, ↓reduceIte, if_true, if_false, kP, zz, zf, zy] <;> rfl) (rfl) ?_
  refine ON ?_
  refine OQ ?_
  iterate 4 (refine EV ?_)
  refine ON ?_
  refine Ok.block ?_
  refine Ok.loopWZ (τ := Nat) (fun x => [(19, .int .i64 (x : Int))]) [4, 8, 20, 21, 22, 23, 24, 25, 26, 27, 28] (fun x => by simp only [kover] <;> rfl) (fun x => x ≤ b.mails[i].flags.length ∧ ∀ k (hk : k < b.mails[i].flags.length), k < x → lateR t b.mails[i].flags[k] = false) (fun x => b.mails[i].flags.length - x) 0 (by omega) (by refine ⟨?_, ?_, ?_, ?_, ?_, ?_, ?_, ?_, ?_, ?_, ?_, ?_, ?_, ?_, ?_, ?_, ?_, ?_, ?_, ?_, ?_, ?_, ?_, ?_, ?_, ?_, ?_, ?_, ?_, ?_, ?_, ?_, ?_, ?_, ?_, trivial⟩ <;> first | exact le_any _ | with_reducible exact le_rfl' _ | (exact le_rfl' _) | exact le_rfl' _) (⟨Nat.zero_le _, fun k hk h => by omega⟩) ?_
  rintro j ⟨g1, g2⟩
  refine OQ ?_
  refine EV ?_
  refine ON ?_
  refine Ok.seq ?_
  refine Ok.cond (b := _) (by simp only [kE, kT, kL, kC] <;> rfl) (fun hb5 => ?_) (fun hb5 => ?_)
  ·
   try simp only [bsimp] at hb5
   have hjl : j < b.mails[i].flags.length := by omega
   refine Ok.skip ?_
   refine Ok.seq ?_
   refine Ok.block ?_
   refine OQ ?_
   refine OkOps.ev tab_ok rfl (ev_idx_map (by simp only [kE, kT, kL, kC] <;> rfl) (by simp only [kE, kT, kL, kC] <;> rfl) (by omega) (by simp only [kE, kT, kL, kC] <;> rfl)) (by simp only [kP] <;> rfl) ?_
   iterate 2 (refine EV ?_)
   refine OkOps.storeE tab_ok rfl rfl (by simp only [kE, kT, kL, kC] <;> rfl) ⟨_, _, by simp only [kE]; rfl⟩ (by first | (simp [V.labelsL, V.labelsLL, V.labels, zz, zf, zy]; done) | (simp [-List.map_map, -List.map_set, -List.map_drop, -List.map_take, -List.map_tail, -List.drop_one, V.labelsL, V.labelsLL, V.labels, zz, zf, zy]; done)) (by simp only [eq_self, V.updL, V.travL, V.travLL, V.trav, updS, updP, and_self, true_and, and_true, false_and, and_false, Nat.reduceEqDiff, Nat.reduceSub, Nat.le_refl, Nat.zero_le, ↓reduceIte, if_true, if_false, kP, zz, zf, zy] <;> rfl) (rfl) ?_
   refine ON ?_
   refine OQ ?_
   iterate 5 (refine EV ?_)
   refine ON ?_
   refine Ok.cond (b := _) (by simp only [kE, kT, kL, kC] <;> rfl) (fun hb7 => ?_) (fun hb7 => ?_)
   ·
    try simp only [bsimp] at hb7
    have hr : lateR t b.mails[i].flags[j] = true := by simpa [lateR] using hb7
    rw [show lateB b t = true by unfold lateB; rw [any_here hil (show lateM t b.mails[i] = true from any_here hjl hr), Bool.true_or]]
    refine OQ ?_
    refine EV ?_
    refine ON ?_
    refine Ok.ret ?_
    with_reducible repeat (first | refine thenQ_ret ?_ | refine blockQ_ret ?_)
    refine RT ?_
    rfl
   ·
    try simp only [bsimp] at hb7
    have hr : lateR t b.mails[i].flags[j] = false := by simpa [lateR] using hb7
    refine Ok.skip ?_
    refine Ok.region ?_
    iterate 2 (refine EV ?_)
    refine ON ?_
    refine ⟨j + 1, ?_, rfl, ⟨by omega, no_next g2 hjl hr⟩, by omega⟩
    simp only [V.renL, V.travL, V.travLL, V.trav, frz, zz, zf, zy, Nat.reduceLeDiff, ↓reduceIte]
    refine ⟨?_, ?_, ?_, ?_, ?_, ?_, ?_, ?_, ?_, ?_, ?_, ?_, ?_, ?_, ?_, ?_, ?_, ?_, ?_, ?_, ?_, ?_, ?_, ?_, ?_, ?_, ?_, ?_, ?_, ?_, ?_, ?_, ?_, ?_, ?_, trivial⟩ <;> first | exact le_any _ | with_reducible exact le_rfl' _ | ((rw [wrap_add_one (by omega)]; exact le_rfl' _)) | exact le_rfl' _
  ·
   try simp only [bsimp] at hb5
   have hm : lateM t b.mails[i] = false := any_none (fun k hk => g2 k hk (by omega))
   refine Ok.exit ?_
   refine Ok.region ?_
   iterate 2 (refine EV ?_)
   refine ON ?_
   refine ⟨i + 1, ?_, rfl, ⟨by omega, no_next h2 hil hm⟩, by omega⟩
   simp only [V.renL, V.travL, V.travLL, V.trav, frz, zz, zf, zy, Nat.reduceLeDiff, ↓reduceIte]
   refine ⟨?_, ?_, ?_, ?_, ?_, ?_, ?_, ?_, ?_, ?_, ?_, ?_, ?_, ?_, ?_, ?_, ?_, ?_, ?_, ?_, ?_, ?_, ?_, ?_, ?_, ?_, ?_, ?_, ?_, ?_, ?_, ?_, ?_, ?_, ?_, trivial⟩ <;> first | exact le_any _ | with_reducible exact le_rfl' _ | ((rw [wrap_add_one (by omega)]; exact le_rfl' _)) | exact le_rfl' _
 ·
  try simp only [bsimp] at hb2
  rw [show lateB b t = decide (b.named.time > t) by unfold lateB; rw [any_none (fun k hk => h2 k hk (by omega)), Bool.false_or]]
  refine Ok.exit ?_
  refine OQ ?_
  iterate 6 (refine EV ?_)
  refine ON ?_
  refine Ok.ret ?_
  with_reducible repeat (first | refine thenQ_ret ?_ | refine blockQ_ret ?_)
  refine RT ?_
  rfl
theorem w_spec_l07Times (b : Box) (t : Int) (ha : b.mails.length ≤ 4611686018427387904) (hb : ∀ m ∈ b.mails, m.flags.length ≤ 4611686018427387904) : Weak Tryz.prog 151 [.agg (cBox b), .int .i64 t] (.bool (!lateB b t)) := by
 refine Weak.enter tab_ok Tryz.func151 rfl (.inr (by simp [V.labelsL, V.labels, V.labelsLL, zz, zf, zy, or_imp, forall_and])) (t := [.agg (cBox b), .int .i64 t, .any, .any, .any, .any, .any, .any, .any, .any, .any, .any, .any, .any, .any, .any, .any, .any, .any, .any, .any, .any, .any, .any, .any, .any, .any, .any, .any, .any, .any, .any, .any, .any, .any, .any, .any, .any, .any, .any, .any, .any, .any]) rfl ?_
 refine OQ ?_
 iterate 2 (refine EV ?_)
 refine ON ?_
 refine Ok.seq ?_
 refine OQ ?_
 iterate 5 (refine EV ?_)
 refine ON ?_
 refine Ok.cond (b := _) (by simp only [kE, kT, kL, kC] <;> rfl) (fun hb1 => ?_) (fun hb1 => ?_)
 ·
  try simp only [bsimp] at hb1
  rw [show lateB b t = true by unfold lateB; rw [decide_eq_true (show b.named.time > t by omega), Bool.or_true]]
  refine OQ ?_
  refine EV ?_
  refine ON ?_
  refine Ok.ret ?_
  with_reducible repeat (first | refine thenQ_ret ?_ | refine blockQ_ret ?_)
  refine RT ?_
  rfl
 ·
  try simp only [bsimp] at hb1
  have hn : decide (b.named.time > t) = false := decide_eq_false (by omega)
  refine Ok.skip ?_
  refine Ok.seq ?_
  refine OQ ?_
  refine EV ?_
  refine ON ?_
  refine Ok.block ?_
  refine Ok.loopW (τ := Nat) (fun x => [(5, .int .i64 (x : Int))]) [4, 6, 12, 13, 14, 15, 16, 17, 18, 19, 20, 21, 22, 23, 24, 25, 26, 27, 28, 29, 30, 31, 32, 33, 34, 35, 36, 37, 38, 39, 40, 41, 42] (fun x => by simp only [kover] <;> rfl) (fun x => x ≤ b.mails.length ∧ ∀ k (hk : k < b.mails.length), k < x → lateM t b.mails[k] = false) (fun x => b.mails.length - x) 0 (by refine ⟨?_, ?_, ?_, ?_, ?_, ?_, ?_, ?_, ?_, ?_, ?_, ?_, ?_, ?_, ?_, ?_, ?_, ?_, ?_, ?_, ?_, ?_, ?_, ?_, ?_, ?_, ?_, ?_, ?_, ?_, ?_, ?_, ?_, ?_, ?_, ?_, ?_, ?_, ?_, ?_, ?_, ?_, ?_, trivial⟩ <;> first | exact le_any _ | with_reducible exact le_rfl' _ | (exact le_rfl' _) | exact le_rfl' _) (⟨Nat.zero_le _, fun k hk h => by omega⟩) ?_
  rintro i ⟨h1, h2⟩
  refine Ok.seq ?_
  refine OQ ?_
  iterate 5 (refine EV ?_)
  refine ON ?_
  refine Ok.cond (b := _) (by simp only [kE, kT, kL, kC] <;> rfl) (fun hb4 => ?_) (fun hb4 => ?_)
  ·
   try simp only [bsimp] at hb4
   have hil : i < b.mails.length := by omega
   have hfl := hb _ (List.getElem_mem hil)
   refine Ok.skip ?_
   refine Ok.seq ?_
   refine Ok.block ?_
   refine OQ ?_
   refine EV ?_
   refine ON ?_
   refine Ok.block ?_
   refine Ok.loopW (τ := Nat) (fun x => [(6, .int .i64 (x : Int))]) [4, 19, 20, 21, 22, 23, 24, 25, 26, 27, 28, 29, 30, 31, 32, 33, 34, 35, 36, 37, 38, 39, 40, 41, 42] (fun x => by simp only [kover] <;> rfl) (fun x => x ≤ b.mails[i].flags.length ∧ ∀ k (hk : k < b.mails[i].flags.length), k < x → lateR t b.mails[i].flags[k] = false) (fun x => b.mails[i].flags.length - x) 0 (by refine ⟨?_, ?_, ?_, ?_, ?_, ?_, ?_, ?_, ?_, ?_, ?_, ?_, ?_, ?_, ?_, ?_, ?_, ?_, ?_, ?_, ?_, ?_, ?_, ?_, ?_, ?_, ?_, ?_, ?_, ?_, ?_, ?_, ?_, ?_, ?_, ?_, ?_, ?_, ?_, ?_, ?_, ?_, ?_, trivial⟩ <;> first | exact le_any _ | with_reducible exact le_rfl' _ | (exact le_rfl' _) | exact le_rfl' _) (⟨Nat.zero_le _, fun k hk h => by omega⟩) ?_
   rintro j ⟨g1, g2⟩
   refine Ok.seq ?_
   refine OQ ?_
   iterate 4 (refine EV ?_)
   refine OkOps.ev tab_ok rfl (ev_idx_map (by simp only [kE, kT, kL, kC] <;> rfl) (by simp only [kE, kT, kL, kC] <;> rfl) (by omega) (by simp only [kE, kT, kL, kC] <;> rfl)) (by simp only [kP] <;> rfl) ?_
   iterate 4 (refine EV ?_)
   refine ON ?_
   refine Ok.cond (b := _) (by simp only [kE, kT, kL, kC] <;> rfl) (fun hb7 => ?_) (fun hb7 => ?_)
   ·
    try simp only [bsimp] at hb7
    have hjl : j < b.mails[i].flags.length := by omega
    refine Ok.skip ?_
    refine Ok.seq ?_
    refine Ok.block ?_
    refine OQ ?_
    iterate 3 (refine EV ?_)
    refine OkOps.ev tab_ok rfl (ev_idx_map (by simp only [kE, kT, kL, kC] <;> rfl) (by simp only [kE, kT, kL, kC] <;> rfl) (by omega) (by simp only [kE, kT, kL, kC] <;> rfl)) (by simp only [kP] <;> rfl) ?_
    iterate 3 (refine EV ?_)
    refine OkOps.ev tab_ok rfl (ev_idx_map (by simp only [kE, kT, kL, kC] <;> rfl) (by simp only [kE, kT, kL, kC] <;> rfl) (by omega) (by simp only [kE, kT, kL, kC] <;> rfl)) (by simp only [kP] <;> rfl) ?_
    iterate 5 (refine EV ?_)
    refine ON ?_
    refine Ok.cond (b := _) (by simp only [kE, kT, kL, kC] <;> rfl) (fun hb9 => ?_) (fun hb9 => ?_)
    ·
     try simp only [bsimp] at hb9
     have hr : lateR t b.mails[i].flags[j] = true := by simpa [lateR] using hb9
     rw [show lateB b t = true by unfold lateB; rw [any_here hil (show lateM t b.mails[i] = true from any_here hjl hr), Bool.true_or]]
     refine OQ ?_
     refine EV ?_
     refine ON ?_
     refine Ok.ret ?_
     with_reducible repeat (first | refine thenQ_ret ?_ | refine blockQ_ret ?_)
     refine RT ?_
     rfl
    ·
     try simp only [bsimp] at hb9
     have hr : lateR t b.mails[i].flags[j] = false := by simpa [lateR] using hb9
     refine Ok.skip ?_
     refine Ok.region ?_
     iterate 3 (refine EV ?_)
     refine ON ?_
     refine ⟨j + 1, ?_, rfl, rfl, ⟨by omega, no_next g2 hjl hr⟩, by omega⟩
     refine ⟨?_, ?_, ?_, ?_, ?_, ?_, ?_, ?_, ?_, ?_, ?_, ?_, ?_, ?_, ?_, ?_, ?_, ?_, ?_, ?_, ?_, ?_, ?_, ?_, ?_, ?_, ?_, ?_, ?_, ?_, ?_, ?_, ?_, ?_, ?_, ?_, ?_, ?_, ?_, ?_, ?_, ?_, ?_, trivial⟩ <;> first | exact le_any _ | with_reducible exact le_rfl' _ | ((rw [wrap_add_one (by omega)]; exact le_rfl' _)) | exact le_rfl' _
   ·
    try simp only [bsimp] at hb7
    have hm : lateM t b.mails[i] = false := any_none (fun k hk => g2 k hk (by omega))
    refine Ok.exit ?_
    refine Ok.region ?_
    iterate 3 (refine EV ?_)
    refine ON ?_
    refine ⟨i + 1, ?_, rfl, rfl, ⟨by omega, no_next h2 hil hm⟩, by omega⟩
    refine ⟨?_, ?_, ?_, ?_, ?_, ?_, ?_, ?_, ?_, ?_, ?_, ?_, ?_, ?_, ?_, ?_, ?_, ?_, ?_, ?_, ?_, ?_, ?_, ?_, ?_, ?_, ?_, ?_, ?_, ?_, ?_, ?_, ?_, ?_, ?_, ?_, ?_, ?_, ?_, ?_, ?_, ?_, ?_, trivial⟩ <;> first | exact le_any _ | with_reducible exact le_rfl' _ | ((rw [wrap_add_one (by omega)]; exact le_rfl' _)) | exact le_rfl' _
  ·
   try simp only [bsimp] at hb4
   rw [show lateB b t = false by unfold lateB; rw [any_none (fun k hk => h2 k hk (by omega)), hn]; rfl]
   refine Ok.exit ?_
   refine OQ ?_
   refine EV ?_
   refine ON ?_
   refine Ok.ret ?_
   with_reducible repeat (first | refine thenQ_ret ?_ | refine blockQ_ret ?_)
   refine RT ?_
   rfl
end Go.Proofs.YtjhfabimacljhaaGreat.K
