/- Walks: lines of scripts read, the other side. Printed by w2.py. -/
import Derived.Test.YtliiphpbfambcaaGreatDoorG7
namespace Go.Proofs.YtliiphpbfambcaaGreatDoor.K
open Go Go.RowKit
set_option linter.unusedVariables false
set_option linter.unusedSimpArgs false
set_option maxHeartbeats 4000000
set_option maxRecDepth 20000
theorem w_impl_eventOf (v : List Str) (hne : 0 < v.length) (hp : v.length ≤ 1000) (hl : ∀ x ∈ v, x.length ≤ 1000000) : Weak Tryz.prog 12 [.sl 0 1 0 (v.map cS)] (.tup [.agg (cEvent (evImp v).1), .bool (evImp v).2]) := by
 refine Weak.enter tab_ok Tryz.func12 rfl (.inr (by simp [V.labelsL, V.labels, zz, zf, zy, zev])) (t := [.sl 0 1 0 (v.map cS), .any, .any, .any, .any, .any, .any, .any, .any, .any, .any, .any, .any, .any, .any, .any, .any, .any, .any, .any, .any, .any, .any, .any, .any, .any, .any, .any, .any, .any, .any, .any, .any, .any, .any, .any, .any, .any, .any, .any, .any, .any, .any, .any, .any, .any, .any, .any, .any, .any, .any, .any, .any, .any, .any, .any, .any, .any, .any, .any, .any, .any, .any, .any, .any, .any, .any, .any, .any, .any, .any, .any, .any, .any, .any, .any, .any, .any, .any, .any, .any, .any, .any, .any, .any, .any, .any, .any]) rfl ?_
 refine OQ ?_
 iterate 2 (refine EV ?_)
 refine ON ?_
 refine Ok.seq ?_
 refine OQ ?_
 refine EV ?_
 refine OkOps.ev tab_ok rfl (ev_idx_map (j := 0) (by simp only [kE, kT, kL, kC] <;> rfl) (by simp only [kE, kT, kL, kC] <;> rfl) (by omega) (by simp only [kE, kT, kL, kC] <;> rfl)) (by simp only [kP] <;> rfl) ?_
 iterate 2 (refine EV ?_)
 refine ON ?_
 refine OC (fun hb1 => ?_) (fun hb1 => ?_)
 ·
  try simp only [bsimp] at hb1
  have hw : v[0] = wSay := hb1
  refine Ok.seq ?_
  refine OQ ?_
  iterate 3 (refine EV ?_)
  refine ON ?_
  refine OC (fun hb2 => ?_) (fun hb2 => ?_)
  ·
   try simp only [bsimp] at hb2
   rw [imp_say1 hne hw (by omega)]
   refine OQ ?_
   refine OkOps.ev tab_ok rfl (by simp [ev1, fillV, kE, kT, kL] <;> first | rfl | exact ⟨rfl, rfl⟩) (by simp only [kP] <;> rfl) ?_
   refine OkOps.storeE tab_ok rfl rfl (by simp only [kE, kT, kL, kC] <;> rfl) ⟨_, _, by simp only [kE]; rfl⟩ (by first | (simp [V.labelsL, V.labelsLL, V.labels, zz, zf, zy, zev]; done) | (simp [-List.map_map, -List.map_set, -List.map_drop, -List.map_take, -List.map_tail, -List.drop_one, V.labelsL, V.labelsLL, V.labels, zz, zf, zy, zev]; done)) (by simp only [eq_self, V.updL, V.travL, V.travLL, V.trav, updS, updP, and_self, true_and, and_true, false_and, and_false, Nat.reduceEqDiff, Nat.reduceSub, Nat.le_refl, Nat.zero_le, ↓reduceIte, if_true, if_false, kP, zz, zf, zy, zev] <;> rfl) (rfl) ?_
   refine EV ?_
   refine ON ?_
   refine Ok.ret ?_
   with_reducible repeat (first | refine thenQ_ret ?_ | refine blockQ_ret ?_)
   refine RT ?_
   first | rfl | (simp [cEvent, zEvent, V.erase, V.trav, V.travL, V.travLL, packV, zz, zf, zy, zev]; done) | (simp_all [cEvent, zEvent, V.erase, V.trav, V.travL, V.travLL, packV, zz, zf, zy, zev]; done)
  try simp only [bsimp] at hb2
  have h1 : 1 < v.length := by omega
  rw [imp_say hne hw h1]
  have hj := joinB_len (l := v.drop 2) (m := 1000000) fun x hx => hl x (List.mem_of_mem_drop hx)
  have hdl : (v.drop 2).length ≤ 1000 := by rw [List.length_drop]; omega
  refine Ok.skip ?_
  refine OQ ?_
  refine EV ?_
  refine OkOps.ev tab_ok rfl (ev_idx_map (j := 1) (by simp only [kE, kT, kL, kC] <;> rfl) (by simp only [kE, kT, kL, kC] <;> rfl) (by omega) (by simp only [kE, kT, kL, kC] <;> rfl)) (by simp only [kP] <;> rfl) ?_
  refine EV ?_
  refine OW cl29 (w_impl_ReadDecimal v[1] (hl _ (List.getElem_mem h1))) ?_
  iterate 5 (refine EV ?_)
  refine ON ?_
  refine OQ ?_
  iterate 2 (refine EV ?_)
  refine OkOps.ev tab_ok rfl (ev_partLo_map (a := 2) (by simp only [kE, kT, kL, kC] <;> rfl) (by simp only [kE, kT, kL, kC] <;> rfl) (by simp only [kT] <;> rfl) (by simp only [kT, Option.map_some] <;> rfl) (by omega)) (by simp only [kP] <;> rfl) ?_
  refine OW cl30 (w_strings_Join (v.drop 2) 2 hdl (fun x hx => hl x (List.mem_of_mem_drop hx))) ?_
  refine OkOps.ev tab_ok rfl (ev_cat (by simp only [kE, kT, kL, kC] <;> rfl) (by simp only [kE, kT, kL, kC] <;> rfl) (by first | omega | (simp only [List.length_append, List.length_cons, List.length_nil] at *; omega))) (by simp only [kP] <;> rfl) ?_
  refine OkOps.ev tab_ok rfl (by simp [ev1, fillV, kE, kT, kL] <;> first | rfl | exact ⟨rfl, rfl⟩) (by simp only [kP] <;> rfl) ?_
  refine EV ?_
  refine OkOps.storeE tab_ok rfl rfl (by simp only [kE, kT, kL, kC] <;> rfl) ⟨_, _, by simp only [kE]; rfl⟩ (by first | (simp [V.labelsL, V.labelsLL, V.labels, zz, zf, zy, zev]; done) | (simp [-List.map_map, -List.map_set, -List.map_drop, -List.map_take, -List.map_tail, -List.drop_one, V.labelsL, V.labelsLL, V.labels, zz, zf, zy, zev]; done)) (by simp only [eq_self, V.updL, V.travL, V.travLL, V.trav, updS, updP, and_self, true_and, and_true, false_and, and_false, Nat.reduceEqDiff, Nat.reduceSub, Nat.le_refl, Nat.zero_le, ↓reduceIte, if_true, if_false, kP, zz, zf, zy, zev] <;> rfl) (rfl) ?_
  refine ON ?_
  refine Ok.seq ?_
  refine Ok.drawn 6 88 [5] (by kernel_rfl) (by kernel_rfl) rfl ?_
  iterate 3 (refine SV ?_)
  refine SOps.split (d := 38) (by simp only [kE, kT, kL, kC] <;> rfl) (by simp only [kP] <;> rfl) (by simp only [kP] <;> rfl) (fun hg6_2 => ?_) (fun hg6_2 => ?_)
  ·
   try simp only [bsimp] at hg6_2
   refine SN ?_
   refine SOps.onS0 rfl rfl (by simp only [kE, kT, kL, kC]) (OpS.weakM rfl (by simp only [kE, kT, kL, kC] <;> rfl) (by simp only [kE, kT, kL, kC] <;> rfl) cl31 (w_impl_EventOk ⟨1, (readDec v[1]).1, 0, joinB (v.drop 2) ++ [13, 10]⟩)) (by simp only [kP] <;> rfl) ?_
   refine SV ?_
   refine SOps.nil ?_
   refine TOps.storeL tab_ok rfl rfl rfl (by simp only [kE, kT, kL, kC] <;> rfl) ⟨_, _, by simp only [kE]; rfl⟩ (by first | (simp [V.labelsL, V.labelsLL, V.labels, zz, zf, zy, zev]; done) | (simp [-List.map_map, -List.map_set, -List.map_drop, -List.map_take, -List.map_tail, -List.drop_one, V.labelsL, V.labelsLL, V.labels, zz, zf, zy, zev]; done)) (by simp only [eq_self, V.updL, V.travL, V.travLL, V.trav, updS, updP, and_self, true_and, and_true, false_and, and_false, Nat.reduceEqDiff, Nat.reduceSub, Nat.le_refl, Nat.zero_le, ↓reduceIte, if_true, if_false, kP, zz, zf, zy, zev] <;> rfl) (rfl) (LateOk.cons (i := 5) tab_ok (by rfl) (by rfl) (by (try simp only [List.getElem_toArray, List.getElem_cons_succ, List.getElem_cons_zero]); exact (by simp only [kE, kT, kL, kC] <;> rfl)) (by show nth _ 41 = _; simp only [kE, kT, kL, kC] <;> rfl) LateOk.nil) ?_
   refine TOps.evL tab_ok rfl (by simp only [kE, kT, kL, kC] <;> rfl) (by simp only [kP] <;> rfl) (LateOk.cons (i := 5) tab_ok (by rfl) (by rfl) (by (try simp only [List.getElem_toArray, List.getElem_cons_succ, List.getElem_cons_zero]); exact (by simp only [kE, kT, kL, kC] <;> rfl)) (by show nth _ 41 = _; simp only [kE, kT, kL, kC] <;> rfl) LateOk.nil) ?_
   refine TOps.nil ?_
   refine Ok.ret ?_
   with_reducible repeat (first | refine thenQ_ret ?_ | refine blockQ_ret ?_)
   refine RT ?_
   first | rfl | (simp [cEvent, zEvent, V.erase, V.trav, V.travL, V.travLL, packV, zz, zf, zy, zev]; done) | (simp_all [cEvent, zEvent, V.erase, V.trav, V.travL, V.travLL, packV, zz, zf, zy, zev]; done)
  try simp only [bsimp] at hg6_2
  refine SU ?_
  refine SU ?_
  refine SV ?_
  refine SOps.nil ?_
  refine TOps.storeL tab_ok rfl rfl rfl (by simp only [kE, kT, kL, kC] <;> rfl) ⟨_, _, by simp only [kE]; rfl⟩ (by first | (simp [V.labelsL, V.labelsLL, V.labels, zz, zf, zy, zev]; done) | (simp [-List.map_map, -List.map_set, -List.map_drop, -List.map_take, -List.map_tail, -List.drop_one, V.labelsL, V.labelsLL, V.labels, zz, zf, zy, zev]; done)) (by simp only [eq_self, V.updL, V.travL, V.travLL, V.trav, updS, updP, and_self, true_and, and_true, false_and, and_false, Nat.reduceEqDiff, Nat.reduceSub, Nat.le_refl, Nat.zero_le, ↓reduceIte, if_true, if_false, kP, zz, zf, zy, zev] <;> rfl) (rfl) (LateOk.cons (i := 5) tab_ok (by rfl) (by rfl) (by (try simp only [List.getElem_toArray, List.getElem_cons_succ, List.getElem_cons_zero]); exact (by simp only [kE, kT, kL, kC] <;> rfl)) (by show nth _ 41 = _; simp only [kE, kT, kL, kC] <;> rfl) LateOk.nil) ?_
  refine TOps.evL tab_ok rfl (by simp only [kE, kT, kL, kC] <;> rfl) (by simp only [kP] <;> rfl) (LateOk.cons (i := 5) tab_ok (by rfl) (by rfl) (by (try simp only [List.getElem_toArray, List.getElem_cons_succ, List.getElem_cons_zero]); exact (by simp only [kE, kT, kL, kC] <;> rfl)) (by show nth _ 41 = _; simp only [kE, kT, kL, kC] <;> rfl) LateOk.nil) ?_
  refine TOps.nil ?_
  refine Ok.ret ?_
  with_reducible repeat (first | refine thenQ_ret ?_ | refine blockQ_ret ?_)
  refine RT ?_
  first | rfl | (simp [cEvent, zEvent, V.erase, V.trav, V.travL, V.travLL, packV, zz, zf, zy, zev]; done) | (simp_all [cEvent, zEvent, V.erase, V.trav, V.travL, V.travLL, packV, zz, zf, zy, zev]; done)
 try simp only [bsimp] at hb1
 have hw : ¬ v[0] = wSay := hb1
 refine Ok.skip ?_
 refine OQ ?_
 refine EV ?_
 refine OkOps.ev tab_ok rfl (ev_idx_map (j := 0) (by simp only [kE, kT, kL, kC] <;> rfl) (by simp only [kE, kT, kL, kC] <;> rfl) (by omega) (by simp only [kE, kT, kL, kC] <;> rfl)) (by simp only [kP] <;> rfl) ?_
 refine EV ?_
 refine OW cl32 (w_impl_kindOf v[0]) ?_
 iterate 5 (refine EV ?_)
 refine ON ?_
 refine Ok.seq ?_
 refine OQ ?_
 iterate 2 (refine EV ?_)
 refine OkOps.ev tab_ok rfl (by simp only [kE, kT, kL, kC, wrap_less hne (by omega)] <;> rfl) (by simp only [kP] <;> rfl) ?_
 iterate 2 (refine EV ?_)
 refine ON ?_
 refine OC (fun hb8 => ?_) (fun hb8 => ?_)
 ·
  try simp only [bsimp] at hb8
  rw [imp_no hne hw hb8]
  refine OQ ?_
  refine OkOps.ev tab_ok rfl (by simp [ev1, fillV, kE, kT, kL] <;> first | rfl | exact ⟨rfl, rfl⟩) (by simp only [kP] <;> rfl) ?_
  refine OkOps.storeE tab_ok rfl rfl (by simp only [kE, kT, kL, kC] <;> rfl) ⟨_, _, by simp only [kE]; rfl⟩ (by first | (simp [V.labelsL, V.labelsLL, V.labels, zz, zf, zy, zev]; done) | (simp [-List.map_map, -List.map_set, -List.map_drop, -List.map_take, -List.map_tail, -List.drop_one, V.labelsL, V.labelsLL, V.labels, zz, zf, zy, zev]; done)) (by simp only [eq_self, V.updL, V.travL, V.travLL, V.trav, updS, updP, and_self, true_and, and_true, false_and, and_false, Nat.reduceEqDiff, Nat.reduceSub, Nat.le_refl, Nat.zero_le, ↓reduceIte, if_true, if_false, kP, zz, zf, zy, zev] <;> rfl) (rfl) ?_
  refine EV ?_
  refine ON ?_
  refine Ok.ret ?_
  with_reducible repeat (first | refine thenQ_ret ?_ | refine blockQ_ret ?_)
  refine RT ?_
  first | rfl | (simp [cEvent, zEvent, V.erase, V.trav, V.travL, V.travLL, packV, zz, zf, zy, zev]; done) | (simp_all [cEvent, zEvent, V.erase, V.trav, V.travL, V.travLL, packV, zz, zf, zy, zev]; done)
 try simp only [bsimp] at hb8
 have hk : ((v.length - 1 : Nat) : Int) = (kI v[0]).2 := by simpa using hb8
 refine Ok.skip ?_
 refine OQ ?_
 refine OkOps.ev tab_ok rfl (ev_bs (by simp only [kT] <;> rfl) (by simp only [kT] <;> rfl) (by decide) (by decide) (by simp only [kE, kT, kL, kC, List.map_cons, List.map_nil] <;> rfl) (by simp only [kfe, beq_self_eq_true, Bool.and_true, Bool.true_and, decide_true, Nat.zero_add, Nat.lt_add_one, Nat.reduceLT, Nat.reduceAdd, Nat.zero_lt_succ, if_true, ↓reduceIte] <;> rfl)) (by simp only [kP] <;> rfl) ?_
 refine EV ?_
 refine ON ?_
 refine Ok.seq ?_
 refine OQ ?_
 refine EV ?_
 refine OkOps.ev tab_ok rfl (ev_partLo_map (a := 1) (by simp only [kE, kT, kL, kC] <;> rfl) (by simp only [kE, kT, kL, kC] <;> rfl) (by simp only [kT] <;> rfl) (by simp only [kT, Option.map_some] <;> rfl) (by omega)) (by simp only [kP] <;> rfl) ?_
 iterate 2 (refine EV ?_)
 refine ON ?_
 refine Ok.block ?_
 refine Ok.loopW (τ := Nat) (fun x => [(9, .sl 2 1 0 ((evN v x).map cZ)), (59, .int .i64 (x : Int))]) [3, 10, 11, 12, 13, 55, 60, 61, 62, 63, 64, 65, 66, 67, 68, 69, 70, 71, 72, 73, 74, 75, 76] (fun x => by simp only [kover] <;> rfl) (fun x => x ≤ v.length - 1 ∧ okAll v x) (fun x => v.length - 1 - x) 0 (by (repeat (first | exact trivial | refine leC ?_ | refine leK ?_ ?_)) <;> first | (first | exact le_rfl' _ | exact .inl rfl) | exact le_rfl' _) (⟨Nat.zero_le _, okAll_z v⟩) ?_
 rintro i h1
 refine OQ ?_
 refine EV ?_
 refine ON ?_
 refine Ok.seq ?_
 refine OC (fun hb12 => ?_) (fun hb12 => ?_)
 ·
  try simp only [bsimp] at hb12
  have hi : i < (v.drop 1).length := by omega
  have hi3 : i < 2 := by have h8 := kI_le v[0]; have h9 := hi; rw [List.length_drop] at h9; omega
  have hi2 : i < (evN v i).length := hi3
  have hi4 : i < v.length - 1 := by have h9 := hi; rw [List.length_drop] at h9; exact h9
  refine Ok.skip ?_
  refine Ok.seq ?_
  refine Ok.block ?_
  refine OQ ?_
  refine EV ?_
  refine OkOps.ev tab_ok rfl (ev_idx_map (by simp only [kE, kT, kL, kC] <;> rfl) (by simp only [kE, kT, kL, kC] <;> rfl) (by omega) (by simp only [kE, kT, kL, kC] <;> rfl)) (by simp only [kP] <;> rfl) ?_
  iterate 3 (refine EV ?_)
  refine ON ?_
  refine OQ ?_
  refine EV ?_
  refine OW cl29 (w_impl_ReadDecimal (v.drop 1)[i] (hl _ (List.mem_of_mem_drop (List.getElem_mem hi)))) ?_
  iterate 5 (refine EV ?_)
  refine ON ?_
  refine Ok.seq ?_
  refine OQ ?_
  iterate 2 (refine EV ?_)
  refine ON ?_
  refine OC (fun hb15 => ?_) (fun hb15 => ?_)
  ·
   try simp only [bsimp] at hb15
   rw [imp_bad hne hw hk hi hb15]
   refine OQ ?_
   refine OkOps.ev tab_ok rfl (by simp [ev1, fillV, kE, kT, kL] <;> first | rfl | exact ⟨rfl, rfl⟩) (by simp only [kP] <;> rfl) ?_
   refine OkOps.storeE tab_ok rfl rfl (by simp only [kE, kT, kL, kC] <;> rfl) ⟨_, _, by simp only [kE]; rfl⟩ (by first | (simp [V.labelsL, V.labelsLL, V.labels, zz, zf, zy, zev]; done) | (simp [-List.map_map, -List.map_set, -List.map_drop, -List.map_take, -List.map_tail, -List.drop_one, V.labelsL, V.labelsLL, V.labels, zz, zf, zy, zev]; done)) (by simp only [eq_self, V.updL, V.travL, V.travLL, V.trav, updS, updP, and_self, true_and, and_true, false_and, and_false, Nat.reduceEqDiff, Nat.reduceSub, Nat.le_refl, Nat.zero_le, ↓reduceIte, if_true, if_false, kP, zz, zf, zy, zev] <;> rfl) (rfl) ?_
   refine EV ?_
   refine ON ?_
   refine Ok.ret ?_
   with_reducible repeat (first | refine thenQ_ret ?_ | refine blockQ_ret ?_)
   refine RT ?_
   first | rfl | (simp [cEvent, zEvent, V.erase, V.trav, V.travL, V.travLL, packV, zz, zf, zy, zev]; done) | (simp_all [cEvent, zEvent, V.erase, V.trav, V.travL, V.travLL, packV, zz, zf, zy, zev]; done)
  try simp only [bsimp] at hb15
  refine Ok.skip ?_
  refine Ok.region ?_
  iterate 3 (refine EV ?_)
  refine OkOps.ev tab_ok rfl (ev_idx_map (by simp only [kE, kT, kL, kC] <;> rfl) (by simp only [kE, kT, kL, kC] <;> rfl) (hi2) (by simp only [kE, kT, kL, kC] <;> rfl)) (by simp only [kP] <;> rfl) ?_
  refine OkOps.storeE tab_ok rfl rfl (by simp only [kE, kT, kL, kC] <;> rfl) ⟨_, _, by simp only [kE]; rfl⟩ (by first | (simp [V.labelsL, V.labelsLL, V.labels, zz, zf, zy, zev]; done) | (simp [-List.map_map, -List.map_set, -List.map_drop, -List.map_take, -List.map_tail, -List.drop_one, V.labelsL, V.labelsLL, V.labels, zz, zf, zy, zev]; done)) (by simp only [eq_self, V.updL, V.travL, V.travLL, V.trav, updS, updP, and_self, true_and, and_true, false_and, and_false, Nat.reduceEqDiff, Nat.reduceSub, Nat.le_refl, Nat.zero_le, ↓reduceIte, if_true, if_false, kP, zz, zf, zy, zev] <;> rfl) (rfl) ?_
  refine ON ?_
  refine Ok.region ?_
  iterate 2 (refine EV ?_)
  refine ON ?_
  refine ⟨i + 1, ?_, rfl, rfl, ⟨hi4, okAll_s h1.2 hi hb15⟩, by omega⟩
  (repeat (first | exact trivial | refine leC ?_ | refine leK ?_ ?_)) <;> first | (first | exact le_rfl' _ | (rw [wrap_succ (by omega)]; exact le_rfl' _) | exact .inl (congrArg (V.sl 2 1 0) (evN_set hi3 hi))) | exact le_rfl' _
 try simp only [bsimp] at hb12
 have h8 : (v.drop 1).length = v.length - 1 := List.length_drop ..
 obtain rfl : i = v.length - 1 := by omega
 have q0 : 0 < (evN v (v.length - 1)).length := by show 0 < 2; decide
 have q1 : 1 < (evN v (v.length - 1)).length := by show 1 < 2; decide
 rw [imp_fin hne hw hk h1.2]
 refine Ok.exit ?_
 refine Ok.seq ?_
 refine Ok.drawn 9 88 [] (by kernel_rfl) (by kernel_rfl) rfl ?_
 iterate 2 (refine SV ?_)
 refine SOps.ev tab_ok rfl (ev_idx_map (j := 0) (by simp only [kE, kT, kL, kC] <;> rfl) (by simp only [kE, kT, kL, kC] <;> rfl) (by omega) (by simp only [kE, kT, kL, kC] <;> rfl)) (by simp only [kP] <;> rfl) ?_
 iterate 2 (refine SV ?_)
 refine SOps.ev tab_ok rfl (ev_idx_map (j := 1) (by simp only [kE, kT, kL, kC] <;> rfl) (by simp only [kE, kT, kL, kC] <;> rfl) (by omega) (by simp only [kE, kT, kL, kC] <;> rfl)) (by simp only [kP] <;> rfl) ?_
 refine SV ?_
 refine SOps.ev tab_ok rfl (by simp [ev1, fillV, kE, kT, kL] <;> first | rfl | exact ⟨rfl, rfl⟩) (by simp only [kP] <;> rfl) ?_
 refine SV ?_
 refine SOps.nil ?_
 refine TOps.storeE tab_ok rfl rfl (by simp only [kE, kT, kL, kC] <;> rfl) ⟨_, _, by simp only [kE]; rfl⟩ (by first | (simp [V.labelsL, V.labelsLL, V.labels, zz, zf, zy, zev]; done) | (simp [-List.map_map, -List.map_set, -List.map_drop, -List.map_take, -List.map_tail, -List.drop_one, V.labelsL, V.labelsLL, V.labels, zz, zf, zy, zev]; done)) (by simp only [eq_self, V.updL, V.travL, V.travLL, V.trav, updS, updP, and_self, true_and, and_true, false_and, and_false, Nat.reduceEqDiff, Nat.reduceSub, Nat.le_refl, Nat.zero_le, ↓reduceIte, if_true, if_false, kP, zz, zf, zy, zev] <;> rfl) (rfl) ?_
 refine TOps.nil ?_
 refine Ok.seq ?_
 refine Ok.drawn 3 88 [] (by kernel_rfl) (by kernel_rfl) rfl ?_
 iterate 2 (refine SV ?_)
 refine SOps.S0 rfl (OpS.weakM rfl (by simp only [kE, kT, kL, kC] <;> rfl) (by simp only [kE, kT, kL, kC] <;> rfl) cl31 (w_impl_EventOk ⟨(kI v[0]).1, evA v (v.length - 1), evB v (v.length - 1), []⟩)) (by simp only [kP] <;> rfl) ?_
 refine SOps.nil ?_
 refine TOps.storeE tab_ok rfl rfl (by simp only [kE, kT, kL, kC] <;> rfl) ⟨_, _, by simp only [kE]; rfl⟩ (by first | (simp [V.labelsL, V.labelsLL, V.labels, zz, zf, zy, zev]; done) | (simp [-List.map_map, -List.map_set, -List.map_drop, -List.map_take, -List.map_tail, -List.drop_one, V.labelsL, V.labelsLL, V.labels, zz, zf, zy, zev]; done)) (by simp only [eq_self, V.updL, V.travL, V.travLL, V.trav, updS, updP, and_self, true_and, and_true, false_and, and_false, Nat.reduceEqDiff, Nat.reduceSub, Nat.le_refl, Nat.zero_le, ↓reduceIte, if_true, if_false, kP, zz, zf, zy, zev] <;> rfl) (rfl) ?_
 refine TV ?_
 refine TOps.nil ?_
 refine Ok.ret ?_
 with_reducible repeat (first | refine thenQ_ret ?_ | refine blockQ_ret ?_)
 refine RT ?_
 first | rfl | (simp [cEvent, zEvent, V.erase, V.trav, V.travL, V.travLL, packV, zz, zf, zy, zev]; done) | (simp_all [cEvent, zEvent, V.erase, V.trav, V.travL, V.travLL, packV, zz, zf, zy, zev]; done)
end Go.Proofs.YtliiphpbfambcaaGreatDoor.K

/- Plain: the other side's reading of a script. -/
namespace Go.Proofs.YtliiphpbfambcaaGreatDoor.K
open Go Go.RowKit
set_option linter.unusedVariables false
set_option linter.unusedSimpArgs false
theorem calm_len {p : List Str} (h0 : 0 < p.length) (h : p[0] = wCalm) : decide ((p.length : Int) = 1) = decide (p = [wCalm]) := by
  rw [decide_eq_decide]
  match p, h0 with
  | [a], _ => obtain rfl : a = wCalm := h; simp
  | a :: b :: q, _ => constructor
                      · intro e; simp at e; omega
                      · intro e; cases e
theorem calm_no0 {p : List Str} (h0 : 0 < p.length) (h : ¬ p[0] = wCalm) : decide (p = [wCalm]) = false := decide_eq_false fun e => h (by subst e; rfl)
section
variable {s : Str} {i : Nat} {out : List Event} {calm : Bool} (h : RG s i out calm)
include h
theorem RG.impBad (hi : i < (linesOf s).length) (hm : K.mute (linesOf s)[i] = false) (hb : (!(partsOf (linesOf s)[i]).2 || calm) = false) (hc : ¬ (partsOf (linesOf s)[i]).1 = [wCalm]) (hp : 0 < (partsOf (linesOf s)[i]).1.length)
    (he : (!(evImp (partsOf (linesOf s)[i]).1).2 || decide (out.length = 100)) = true) : readScript s = ([], false, (i : Int) + 1) := by
  rw [← h.go, List.drop_eq_getElem_cons hi, readGo, if_neg (by rw [hm]; decide), if_neg (by rw [hb]; decide), if_neg hc, evOf_imp hp]
  by_cases hk : (evImp (partsOf (linesOf s)[i]).1).2 = true
  · rw [if_pos hk]
    rw [hk] at he
    have : out.length = 100 := by simpa using he
    dsimp only
    rw [if_pos this]
  · rw [if_neg hk]
theorem RG.imp (hi : i < (linesOf s).length) (hm : K.mute (linesOf s)[i] = false) (hb : (!(partsOf (linesOf s)[i]).2 || calm) = false) (hc : ¬ (partsOf (linesOf s)[i]).1 = [wCalm]) (hp : 0 < (partsOf (linesOf s)[i]).1.length)
    (he : (!(evImp (partsOf (linesOf s)[i]).1).2 || decide (out.length = 100)) = false) : RG s (i + 1) (out ++ [(evImp (partsOf (linesOf s)[i]).1).1]) calm := by
  simp only [Bool.or_eq_false_iff, Bool.not_eq_false', decide_eq_false_iff_not] at he
  refine ⟨hi, ?_, by have := h.len; rw [List.length_append, List.length_singleton]; have := he.2; omega⟩
  rw [← h.go, List.drop_eq_getElem_cons hi, readGo, if_neg (by rw [hm]; decide), if_neg (by rw [hb]; decide), if_neg hc, evOf_imp hp, if_pos he.1]
  dsimp only
  rw [if_neg he.2]
end
end Go.Proofs.YtliiphpbfambcaaGreatDoor.K

/- Walks: scripts read, the other side. Printed by w2.py. -/
namespace Go.Proofs.YtliiphpbfambcaaGreatDoor.K
open Go Go.RowKit
set_option linter.unusedVariables false
set_option linter.unusedSimpArgs false
set_option maxHeartbeats 4000000
set_option maxRecDepth 20000
theorem w_impl_ReadScript (s : Str) (hs : s.length ≤ 1000000) : Weak Tryz.prog 6 [.str s] (vRS (readScript s)) := by
 refine Weak.enter tab_ok Tryz.func6 rfl (.inr (by simp [V.labelsL, V.labels, zz, zf, zy, zev])) (t := [.str s, .any, .any, .any, .any, .any, .any, .any, .any, .any, .any, .any, .any, .any, .any, .any, .any, .any, .any, .any, .any, .any, .any, .any, .any, .any, .any, .any, .any, .any, .any, .any, .any, .any, .any, .any, .any, .any, .any, .any, .any, .any, .any, .any, .any, .any, .any, .any, .any, .any, .any, .any, .any, .any, .any, .any, .any, .any, .any, .any, .any, .any, .any, .any, .any, .any, .any, .any, .any, .any, .any, .any, .any, .any, .any, .any, .any, .any, .any, .any, .any, .any, .any, .any, .any, .any, .any, .any]) rfl ?_
 refine OQ ?_
 iterate 3 (refine EV ?_)
 refine ON ?_
 refine Ok.seq ?_
 refine OQ ?_
 iterate 3 (refine EV ?_)
 refine ON ?_
 refine OC (fun hb1 => ?_) (fun hb1 => ?_)
 ·
  try simp only [bsimp] at hb1
  rw [show readScript s = ([], false, -1) from if_pos (by omega)]
  refine OQ ?_
  iterate 4 (refine EV ?_)
  refine ON ?_
  refine Ok.ret ?_
  with_reducible repeat (first | refine thenQ_ret ?_ | refine blockQ_ret ?_)
  refine retQ.end (by show resVs tab _ [.tmp 2, .tmp 3, .tmp 4] = _; simp only [kE, kT, kL, kC] <;> rfl) rfl ?_
  first | rfl | (simp [V.erase, V.trav, V.travL, packV, zz, zf, zy, zev]; done) | (simp [V.erase, V.trav, V.travL, packV, zz, zf, zy, zev]; rfl)
 try simp only [bsimp] at hb1
 have hl3 : ¬ s.length > 3000 := by omega
 have hmany := lines_many s
 refine Ok.skip ?_
 refine OQ ?_
 iterate 2 (refine EV ?_)
 refine ON ?_
 refine OQ ?_
 refine EV ?_
 refine ON ?_
 refine Ok.seq ?_
 refine OQ ?_
 refine EV ?_
 refine OW cl10 (w_impl_linesOf s (by omega)) ?_
 iterate 2 (refine EV ?_)
 refine ON ?_
 refine Ok.block ?_
 refine Ok.bump (n' := 2) (by omega) ?_
 refine Ok.loopWZ (τ := Nat × List Event × Bool) (fun x => [(5, .sl 1 4 0 (x.2.1.map cEvent)), (6, .bool x.2.2), (21, .int .i64 (x.1 : Int))]) [2, 3, 4, 7, 8, 9, 10, 11, 12, 22, 23, 24, 25, 26, 27, 28, 29, 30, 31, 32, 33, 34, 35, 36, 37, 38, 39, 40, 41, 42, 43, 44, 45, 46, 47, 48, 49, 50, 51, 52, 53, 54, 55, 56, 57, 58, 59, 60, 61, 62, 63, 64, 65, 66, 67, 68, 69, 70, 71, 72, 73, 74, 75, 76, 77, 78, 79, 80, 81, 82, 83, 84, 85] (fun x => by simp only [kover] <;> rfl) (fun x => RG s x.1 x.2.1 x.2.2) (fun x => (linesOf s).length - x.1) (0, [], false) (by omega) (by (repeat (first | exact trivial | refine leC ?_ | refine leK ?_ ?_)) <;> first | (first | exact le_rfl' _ | exact le_nil 1 4) | exact le_rfl' _) (RG.beg hl3) ?_
 rintro ⟨i, out, calm⟩ h1
 dsimp only at h1 ⊢
 have hln0 := h1.len
 have hi0 := h1.i1
 refine OQ ?_
 refine EV ?_
 refine ON ?_
 refine Ok.seq ?_
 refine OC (fun hb6 => ?_) (fun hb6 => ?_)
 ·
  try simp only [bsimp] at hb6
  have hi : i < (linesOf s).length := by omega
  have hll : (linesOf s)[i].length ≤ 1000000 := by have := lines_len (List.getElem_mem hi); omega
  have hpf := parts_few (linesOf s)[i]
  have hwl : ∀ x ∈ (partsOf (linesOf s)[i]).1, x.length ≤ 1000000 := fun x hx => by have := (parts_mem hx).2; omega
  refine Ok.skip ?_
  refine Ok.seq ?_
  refine Ok.block ?_
  refine OQ ?_
  refine EV ?_
  refine OkOps.ev tab_ok rfl (ev_idx_map (by simp only [kE, kT, kL, kC] <;> rfl) (by simp only [kE, kT, kL, kC] <;> rfl) (by omega) (by simp only [kE, kT, kL, kC] <;> rfl)) (by simp only [kP] <;> rfl) ?_
  iterate 3 (refine EV ?_)
  refine ON ?_
  refine OQ ?_
  refine EV ?_
  refine OW cl11 (w_impl_PartsOf (linesOf s)[i] hll) ?_
  iterate 5 (refine EV ?_)
  refine ON ?_
  refine Ok.seq ?_
  refine Ok.seqC [(43, .bool (mute (linesOf s)[i]))] [31, 32, 33, 34, 35, 36, 37, 38, 39, 40, 41, 42] (by simp only [kover] <;> rfl) ?_ ?_
  ·
   refine Ok.region ?_
   iterate 2 (refine EV ?_)
   refine OP (d := 32) (fun hg9_1 => ?_) (fun hg9_1 => ?_)
   ·
    try simp only [bsimp] at hg9_1
    iterate 4 (refine OX ?_)
    refine OP (d := 36) (fun hg9_5 => ?_) (fun hg9_5 => ?_)
    ·
     try simp only [bsimp] at hg9_5
     have hm := mute_none hg9_1 (by omega)
     iterate 5 (refine OU ?_)
     refine OO ?_
     iterate 2 (refine EV ?_)
     refine ON ?_
     refine ⟨rfl, ?_, rfl, rfl⟩
     (repeat (first | exact trivial | refine leC ?_ | refine leK ?_ ?_)) <;> first | (refine .inl (congrArg V.bool ?_); first | exact hm.symm | rw [hm]; first | rfl | (simp_all; done) | (rw [Bool.eq_iff_iff]; simp_all <;> omega)) | exact le_rfl' _
    try simp only [bsimp] at hg9_5
    have hq0 : 0 < (partsOf (linesOf s)[i]).1.length := by omega
    have hq1 := (parts_mem (List.getElem_mem hq0)).1
    have hm := mute_word hg9_1 hq0 hq1
    refine OX ?_
    refine OO ?_
    refine OkOps.ev tab_ok rfl (ev_idx_map (j := 0) (by simp only [kE, kT, kL, kC] <;> rfl) (by simp only [kE, kT, kL, kC] <;> rfl) (hq0) (by simp only [kE, kT, kL, kC] <;> rfl)) (by simp only [kP] <;> rfl) ?_
    refine OX ?_
    refine OO ?_
    refine OkOps.ev tab_ok rfl (ev_byte_lt (j := 0) (by simp only [kE, kT, kL, kC] <;> rfl) (by simp only [kE, kT, kL, kC] <;> rfl) (hq1) rfl) (by simp only [kP] <;> rfl) ?_
    refine OX ?_
    refine OO ?_
    iterate 2 (refine EV ?_)
    refine ON ?_
    refine ⟨rfl, ?_, rfl, rfl⟩
    (repeat (first | exact trivial | refine leC ?_ | refine leK ?_ ?_)) <;> first | (refine .inl (congrArg V.bool ?_); first | exact hm.symm | rw [hm]; first | rfl | (simp_all; done) | (rw [Bool.eq_iff_iff]; simp_all <;> omega)) | exact le_rfl' _
   try simp only [bsimp] at hg9_1
   have hm := mute_no hg9_1
   iterate 10 (refine OU ?_)
   refine EV ?_
   refine ON ?_
   refine ⟨rfl, ?_, rfl, rfl⟩
   (repeat (first | exact trivial | refine leC ?_ | refine leK ?_ ?_)) <;> first | (refine .inl (congrArg V.bool ?_); first | exact hm.symm | rw [hm]; first | rfl | (simp_all; done) | (rw [Bool.eq_iff_iff]; simp_all <;> omega)) | exact le_rfl' _
  refine OC (fun hb9 => ?_) (fun hb9 => ?_)
  ·
   try simp only [bsimp] at hb9
   refine Ok.exit ?_
   refine Ok.region ?_
   iterate 2 (refine EV ?_)
   refine ON ?_
   refine ⟨(i + 1, out, calm), ?_, rfl, (h1.mute hi hb9), (by dsimp only; omega)⟩
   simp only [V.renL, V.travL, V.travLL, V.trav, frz, zz, zf, zy, zev, Nat.reduceLeDiff, ↓reduceIte]
   (repeat (first | exact trivial | refine leC ?_ | refine leK ?_ ?_)) <;> first | (first | exact le_rfl' _ | (rw [wrap_succ (by omega)]; exact le_rfl' _) | (simp only [List.map_append, List.map_cons, List.map_nil]; exact le_rfl' _)) | exact le_rfl' _
  try simp only [bsimp] at hb9
  have hpq : (partsOf (linesOf s)[i]).2 = true → 0 < (partsOf (linesOf s)[i]).1.length := fun e => Nat.pos_of_ne_zero fun e2 => by rw [mute_none e e2] at hb9; cases hb9
  refine Ok.skip ?_
  refine Ok.seq ?_
  refine Ok.seqC [(53, .bool (!(partsOf (linesOf s)[i]).2 || calm))] [44, 45, 46, 47, 48, 49, 50, 51, 52] (by simp only [kover] <;> rfl) ?_ ?_
  ·
   refine Ok.region ?_
   iterate 3 (refine EV ?_)
   refine OP (d := 46) (fun hg10_2 => ?_) (fun hg10_2 => ?_)
   ·
    try simp only [bsimp] at hg10_2
    refine OU ?_
    iterate 2 (refine EV ?_)
    iterate 3 (refine OU ?_)
    refine EV ?_
    refine ON ?_
    refine ⟨rfl, ?_, rfl, rfl⟩
    (repeat (first | exact trivial | refine leC ?_ | refine leK ?_ ?_)) <;> first | (first | (rw [decide_eq_false (show ¬ (((partsOf (linesOf s)[i]).1.length : Nat) : Int) = 0 by omega)]; refine .inl (congrArg V.bool ?_); first | rfl | (rw [hok9]; simp_all; done) | (simp_all; done)) | (refine .inl (congrArg V.bool ?_); first | rfl | (simp_all; done) | (rw [Bool.eq_iff_iff]; simp_all; done) | (rw [Bool.eq_iff_iff]; simp_all; omega) | (rw [Bool.eq_iff_iff]; simp_all <;> omega))) | exact le_rfl' _
   try simp only [bsimp] at hg10_2
   refine OO ?_
   iterate 3 (refine EV ?_)
   refine OP (d := 49) (fun hg10_5 => ?_) (fun hg10_5 => ?_)
   ·
    try simp only [bsimp] at hg10_5
    iterate 3 (refine OU ?_)
    refine EV ?_
    refine ON ?_
    refine ⟨rfl, ?_, rfl, rfl⟩
    (repeat (first | exact trivial | refine leC ?_ | refine leK ?_ ?_)) <;> first | (first | (rw [decide_eq_false (show ¬ (((partsOf (linesOf s)[i]).1.length : Nat) : Int) = 0 by omega)]; refine .inl (congrArg V.bool ?_); first | rfl | (rw [hok9]; simp_all; done) | (simp_all; done)) | (refine .inl (congrArg V.bool ?_); first | rfl | (simp_all; done) | (rw [Bool.eq_iff_iff]; simp_all; done) | (rw [Bool.eq_iff_iff]; simp_all; omega) | (rw [Bool.eq_iff_iff]; simp_all <;> omega))) | exact le_rfl' _
   try simp only [bsimp] at hg10_5
   have hok9 : (partsOf (linesOf s)[i]).2 = true := by simp_all
   have hl9 := hpq hok9
   refine OX ?_
   refine OX ?_
   refine OO ?_
   iterate 2 (refine EV ?_)
   refine ON ?_
   refine ⟨rfl, ?_, rfl, rfl⟩
   (repeat (first | exact trivial | refine leC ?_ | refine leK ?_ ?_)) <;> first | (first | (rw [decide_eq_false (show ¬ (((partsOf (linesOf s)[i]).1.length : Nat) : Int) = 0 by omega)]; refine .inl (congrArg V.bool ?_); first | rfl | (rw [hok9]; simp_all; done) | (simp_all; done)) | (refine .inl (congrArg V.bool ?_); first | rfl | (simp_all; done) | (rw [Bool.eq_iff_iff]; simp_all; done) | (rw [Bool.eq_iff_iff]; simp_all; omega) | (rw [Bool.eq_iff_iff]; simp_all <;> omega))) | exact le_rfl' _
  refine OC (fun hb10 => ?_) (fun hb10 => ?_)
  ·
   try simp only [bsimp] at hb10
   rw [h1.bad hi hb9 hb10]
   refine OQ ?_
   iterate 2 (refine EV ?_)
   refine OkOps.ev tab_ok rfl (by simp only [kE, kT, kL, kC, wrap_succ (show i < 9223372036854775807 by omega)] <;> rfl) (by simp only [kP] <;> rfl) ?_
   iterate 3 (refine EV ?_)
   refine ON ?_
   refine Ok.ret ?_
   with_reducible repeat (first | refine thenQ_ret ?_ | refine blockQ_ret ?_)
   refine retQ.end (by show resVs tab _ [.tmp 2, .tmp 3, .tmp 4] = _; simp only [kE, kT, kL, kC] <;> rfl) rfl ?_
   first | rfl | (simp [V.erase, V.trav, V.travL, packV, zz, zf, zy, zev]; done) | (simp [V.erase, V.trav, V.travL, packV, zz, zf, zy, zev]; rfl)
  try simp only [bsimp] at hb10
  have hpok : (partsOf (linesOf s)[i]).2 = true := by simp_all
  have hpne := hpq hpok
  refine Ok.skip ?_
  refine Ok.seq ?_
  refine Ok.seqC [(65, .bool (decide ((partsOf (linesOf s)[i]).1 = [wCalm])))] [57, 58, 59, 60, 61, 62, 63, 64] (by simp only [kover] <;> rfl) ?_ ?_
  ·
   refine Ok.region ?_
   refine EV ?_
   refine OkOps.ev tab_ok rfl (ev_idx_map (j := 0) (by simp only [kE, kT, kL, kC] <;> rfl) (by simp only [kE, kT, kL, kC] <;> rfl) (by omega) (by simp only [kE, kT, kL, kC] <;> rfl)) (by simp only [kP] <;> rfl) ?_
   iterate 3 (refine EV ?_)
   refine OP (d := 61) (fun hg12_4 => ?_) (fun hg12_4 => ?_)
   ·
    try simp only [bsimp] at hg12_4
    have hc1 := calm_len hpne hg12_4
    refine OX ?_
    refine OX ?_
    refine OO ?_
    iterate 2 (refine EV ?_)
    refine ON ?_
    refine ⟨rfl, ?_, rfl, rfl⟩
    (repeat (first | exact trivial | refine leC ?_ | refine leK ?_ ?_)) <;> first | (refine .inl (congrArg V.bool ?_); first | exact hc1 | exact hc1.symm) | exact le_rfl' _
   try simp only [bsimp] at hg12_4
   have hc1 := calm_no0 hpne hg12_4
   iterate 3 (refine OU ?_)
   refine EV ?_
   refine ON ?_
   refine ⟨rfl, ?_, rfl, rfl⟩
   (repeat (first | exact trivial | refine leC ?_ | refine leK ?_ ?_)) <;> first | (refine .inl (congrArg V.bool ?_); first | exact hc1 | exact hc1.symm) | exact le_rfl' _
  refine OC (fun hb12 => ?_) (fun hb12 => ?_)
  ·
   try simp only [bsimp] at hb12
   refine OQ ?_
   refine EV ?_
   refine ON ?_
   refine Ok.exit ?_
   refine Ok.region ?_
   iterate 2 (refine EV ?_)
   refine ON ?_
   refine ⟨(i + 1, out, true), ?_, rfl, (h1.calmS hi hb9 hb10 hb12), (by dsimp only; omega)⟩
   simp only [V.renL, V.travL, V.travLL, V.trav, frz, zz, zf, zy, zev, Nat.reduceLeDiff, ↓reduceIte]
   (repeat (first | exact trivial | refine leC ?_ | refine leK ?_ ?_)) <;> first | (first | exact le_rfl' _ | (rw [wrap_succ (by omega)]; exact le_rfl' _) | (simp only [List.map_append, List.map_cons, List.map_nil]; exact le_rfl' _)) | exact le_rfl' _
  try simp only [bsimp] at hb12
  refine Ok.skip ?_
  refine OQ ?_
  refine EV ?_
  refine OW cl12 (w_impl_eventOf (partsOf (linesOf s)[i]).1 hpne (by omega) hwl) ?_
  iterate 4 (refine EV ?_)
  refine OkOps.storeE tab_ok rfl rfl (by simp only [kE, kT, kL, kC] <;> rfl) ⟨_, _, by simp only [kE]; rfl⟩ (by first | (simp [V.labelsL, V.labelsLL, V.labels, zz, zf, zy, zev]; done) | (simp [-List.map_map, -List.map_set, -List.map_drop, -List.map_take, -List.map_tail, -List.drop_one, V.labelsL, V.labelsLL, V.labels, zz, zf, zy, zev]; done)) (by simp only [eq_self, V.updL, V.travL, V.travLL, V.trav, updS, updP, and_self, true_and, and_true, false_and, and_false, Nat.reduceEqDiff, Nat.reduceSub, Nat.le_refl, Nat.zero_le, ↓reduceIte, if_true, if_false, kP, zz, zf, zy, zev] <;> rfl) (rfl) ?_
  refine EV ?_
  refine ON ?_
  refine Ok.seq ?_
  refine Ok.seqC [(77, .bool (!(evImp (partsOf (linesOf s)[i]).1).2 || decide (out.length = 100)))] [71, 72, 73, 74, 75, 76] (by simp only [kover] <;> rfl) ?_ ?_
  ·
   refine Ok.region ?_
   iterate 3 (refine EV ?_)
   refine OP (d := 73) (fun hg15_2 => ?_) (fun hg15_2 => ?_)
   ·
    try simp only [bsimp] at hg15_2
    iterate 3 (refine OU ?_)
    refine EV ?_
    refine ON ?_
    refine ⟨rfl, ?_, rfl, rfl⟩
    (repeat (first | exact trivial | refine leC ?_ | refine leK ?_ ?_)) <;> first | (refine .inl (congrArg V.bool ?_); first | rfl | (simp_all; done) | (rw [Bool.eq_iff_iff]; simp_all; done) | (rw [Bool.eq_iff_iff]; simp_all; omega) | (rw [Bool.eq_iff_iff]; simp_all <;> omega)) | exact le_rfl' _
   try simp only [bsimp] at hg15_2
   refine OX ?_
   refine OX ?_
   refine OO ?_
   iterate 2 (refine EV ?_)
   refine ON ?_
   refine ⟨rfl, ?_, rfl, rfl⟩
   (repeat (first | exact trivial | refine leC ?_ | refine leK ?_ ?_)) <;> first | (refine .inl (congrArg V.bool ?_); first | rfl | (simp_all; done) | (rw [Bool.eq_iff_iff]; simp_all; done) | (rw [Bool.eq_iff_iff]; simp_all; omega) | (rw [Bool.eq_iff_iff]; simp_all <;> omega)) | exact le_rfl' _
  refine OC (fun hb15 => ?_) (fun hb15 => ?_)
  ·
   try simp only [bsimp] at hb15
   rw [h1.impBad hi hb9 hb10 hb12 hpne hb15]
   refine OQ ?_
   iterate 2 (refine EV ?_)
   refine OkOps.ev tab_ok rfl (by simp only [kE, kT, kL, kC, wrap_succ (show i < 9223372036854775807 by omega)] <;> rfl) (by simp only [kP] <;> rfl) ?_
   iterate 3 (refine EV ?_)
   refine ON ?_
   refine Ok.ret ?_
   with_reducible repeat (first | refine thenQ_ret ?_ | refine blockQ_ret ?_)
   refine retQ.end (by show resVs tab _ [.tmp 2, .tmp 3, .tmp 4] = _; simp only [kE, kT, kL, kC] <;> rfl) rfl ?_
   first | rfl | (simp [V.erase, V.trav, V.travL, packV, zz, zf, zy, zev]; done) | (simp [V.erase, V.trav, V.travL, packV, zz, zf, zy, zev]; rfl)
  try simp only [bsimp] at hb15
  refine Ok.skip ?_
  refine Ok.region ?_
  iterate 2 (refine EV ?_)
  refine OkOps.ev tab_ok rfl (ev_bs (by simp only [kT] <;> rfl) (by simp only [kT] <;> rfl) (by decide) (by decide) (by simp only [kE, kT, kL, kC, List.map_cons, List.map_nil] <;> rfl) (by simp only [kfe, beq_self_eq_true, Bool.and_true, Bool.true_and, decide_true, Nat.zero_add, Nat.lt_add_one, Nat.reduceLT, Nat.reduceAdd, Nat.zero_lt_succ, if_true, ↓reduceIte] <;> rfl)) (by simp only [kP] <;> rfl) ?_
  refine OkOps.append tab_ok rfl rfl (by simp only [kT] <;> rfl) (by simp only [kT] <;> rfl) (by decide) rfl (by simp only [kE, kT, kL, kC] <;> rfl) (.inl ⟨_, _, by simp only [kE, kT, kL, kC] <;> rfl⟩) (by omega) (by omega) (by simp only [List.length_map, List.length_cons, List.length_nil]; omega) (by simp only [List.length_map, List.length_cons, List.length_nil]; omega) (by simp [V.one]) (by simp only [V.killL, V.killLL, V.travL, V.travLL, V.trav, killS, killP, Nat.reduceEqDiff, ↓reduceIte, reduceCtorEq, if_true, if_false, List.append_nil, List.nil_append, List.cons_append, zz, zf, zy, zev] <;> rfl) (by simp only [V.killL, V.killLL, V.travL, V.travLL, V.trav, killS, killP, Nat.reduceEqDiff, ↓reduceIte, reduceCtorEq, if_true, if_false, List.append_nil, List.nil_append, List.cons_append, zz, zf, zy, zev, kP] <;> rfl) (rfl) ?_
  refine EV ?_
  refine ON ?_
  refine Ok.region ?_
  iterate 2 (refine EV ?_)
  refine ON ?_
  refine ⟨(i + 1, out ++ [(evImp (partsOf (linesOf s)[i]).1).1], calm), ?_, rfl, (h1.imp hi hb9 hb10 hb12 hpne hb15), (by dsimp only; omega)⟩
  simp only [V.renL, V.travL, V.travLL, V.trav, frz, zz, zf, zy, zev, Nat.reduceLeDiff, ↓reduceIte]
  (repeat (first | exact trivial | refine leC ?_ | refine leK ?_ ?_)) <;> first | (first | exact le_rfl' _ | (rw [wrap_succ (by omega)]; exact le_rfl' _) | (simp only [List.map_append, List.map_cons, List.map_nil]; exact le_rfl' _)) | exact le_rfl' _
 try simp only [bsimp] at hb6
 rw [h1.fin (by omega)]
 refine Ok.exit ?_
 refine OQ ?_
 iterate 5 (refine EV ?_)
 refine ON ?_
 refine Ok.ret ?_
 with_reducible repeat (first | refine thenQ_ret ?_ | refine blockQ_ret ?_)
 refine retQ.end (by show resVs tab _ [.tmp 2, .tmp 3, .tmp 4] = _; simp only [kE, kT, kL, kC] <;> rfl) rfl ?_
 first | rfl | (simp [V.erase, V.trav, V.travL, packV, zz, zf, zy, zev]; done) | (simp [V.erase, V.trav, V.travL, packV, zz, zf, zy, zev]; rfl)
end Go.Proofs.YtliiphpbfambcaaGreatDoor.K

/- Walks: the console on a line that says nothing known. Printed by w2.py. -/
namespace Go.Proofs.YtliiphpbfambcaaGreatDoor.K
open Go Go.RowKit
set_option linter.unusedVariables false
set_option linter.unusedSimpArgs false
set_option maxHeartbeats 4000000
set_option maxRecDepth 20000
theorem w_impl_Console  : Weak Tryz.prog 8 [.str [119, 104, 97, 116, 10]] (.str [102, 97, 117, 108, 116, 32, 49, 10]) := by
 refine Weak.enter tab_ok Tryz.func8 rfl (.inr (by simp [V.labelsL, V.labels, zz, zf, zy, zev])) (t := [.str [119, 104, 97, 116, 10], .any, .any, .any, .any, .any, .any, .any, .any, .any, .any, .any, .any, .any, .any, .any, .any, .any, .any, .any, .any, .any, .any, .any, .any, .any, .any, .any, .any, .any, .any, .any, .any, .any, .any, .any, .any, .any, .any, .any, .any, .any, .any, .any, .any, .any, .any, .any, .any, .any, .any, .any, .any, .any, .any, .any, .any, .any, .any, .any, .any, .any, .any, .any, .any, .any, .any, .any, .any, .any, .any, .any, .any]) rfl ?_
 refine OQ ?_
 refine EV ?_
 refine ON ?_
 refine Ok.seq ?_
 have hrs : readScript [119, 104, 97, 116, 10] = ([], false, 1) := by rfl
 have hd1 : decimal 1 = [49] := by rw [decimal_pos (by decide) (by decide), decV_pos (by decide), decV_zero (by decide)]; decide
 refine Ok.region ?_
 refine EV ?_
 refine OW cl6 (w_impl_ReadScript [119, 104, 97, 116, 10] (by decide)) ?_
 iterate 7 (refine EV ?_)
 refine ON ?_
 refine Ok.seq ?_
 refine OQ ?_
 iterate 2 (refine EV ?_)
 refine ON ?_
 refine OC (fun hb2 => ?_) (fun hb2 => ?_)
 ·
  try simp only [bsimp] at hb2
  have hdl : (decimal (readScript [119, 104, 97, 116, 10]).2.2).length = 1 := by rw [hrs]; show (decimal 1).length = 1; rw [hd1]; rfl
  refine OQ ?_
  refine EV ?_
  refine OW cl17 (w_impl_Decimal (readScript [119, 104, 97, 116, 10]).2.2) ?_
  iterate 2 (refine OkOps.ev tab_ok rfl (ev_cat (by simp only [kE, kT, kL, kC] <;> rfl) (by simp only [kE, kT, kL, kC] <;> rfl) (by first | omega | (simp only [List.length_append, List.length_cons, List.length_nil] at *; omega))) (by simp only [kP] <;> rfl) ?_)
  refine EV ?_
  refine ON ?_
  refine Ok.ret ?_
  with_reducible repeat (first | refine thenQ_ret ?_ | refine blockQ_ret ?_)
  refine RT ?_
  first | rfl | (rw [hrs]; show V.str ([102,97,117,108,116,32] ++ decimal 1 ++ [10]) = _; rw [hd1]; rfl) | (simp [hrs, V.erase, V.trav, V.travL, packV, zz, zf, zy, zev]; done) | (simp [hrs, V.erase, V.trav, V.travL, packV, zz, zf, zy, zev]; rfl)
 try simp only [bsimp] at hb2
 exact absurd hb2 (by rw [hrs]; decide)
end Go.Proofs.YtliiphpbfambcaaGreatDoor.K
