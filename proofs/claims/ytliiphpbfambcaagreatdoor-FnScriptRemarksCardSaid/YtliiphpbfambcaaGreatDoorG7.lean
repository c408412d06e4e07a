/- Walks: events drawn, all of them. Printed by w2.py. -/
import Derived.Test.YtliiphpbfambcaaGreatDoorG6
import Derived.Test.YtliiphpbfambcaaGreatDoorG1
import Derived.Test.YtliiphpbfambcaaGreatDoorG4
import Derived.Shelf.Strings.Split
import Derived.Shelf.Strings.OnBuilder
namespace Go.Proofs.YtliiphpbfambcaaGreatDoor.K
open Go Go.RowKit
set_option linter.unusedVariables false
set_option linter.unusedSimpArgs false
set_option maxHeartbeats 4000000
set_option maxRecDepth 20000
theorem x_spec_l20Events (code : Str) (hc : code.length ≤ 4611686018427387904) : WeakX Tryz.prog 24 [.sl 0 1 0 (code.map cB)] (List Event) (fun y => .sl 0 4 0 (y.map cEvent)) (fun y => 16 ≤ y.length ∧ y.length ≤ 62 ∧ EvS y) := by
 refine WeakX.enter tab_ok Tryz.func24 rfl (.inr (by simp [V.labelsL, V.labels, V.labelsLL, zz, zf, zy, or_imp, forall_and])) (t := [.sl 0 1 0 (code.map cB), .any, .any, .any, .any, .any, .any, .any, .any, .any, .any, .any, .any, .any, .any, .any, .any, .any, .any, .any, .any, .any, .any, .any, .any, .any, .any, .any, .any, .any, .any, .any, .any, .any, .any, .any, .any, .any, .any, .any, .any, .any, .any, .any, .any, .any, .any, .any, .any, .any, .any, .any, .any, .any, .any, .any, .any, .any, .any, .any, .any, .any, .any, .any, .any, .any, .any, .any, .any, .any, .any, .any, .any, .any, .any, .any, .any, .any, .any, .any, .any, .any, .any, .any, .any, .any, .any, .any, .any, .any, .any, .any, .any, .any, .any, .any, .any, .any, .any, .any, .any, .any, .any, .any, .any, .any, .any, .any, .any, .any, .any, .any, .any, .any, .any, .any, .any, .any, .any, .any, .any, .any, .any, .any, .any, .any, .any, .any, .any, .any, .any, .any]) rfl ?_
 refine OQ ?_
 refine EV ?_
 refine ON ?_
 refine OQ ?_
 refine EV ?_
 refine OkOps.turn _ rfl rfl (by simp only [kE, kT, kL, kC] <;> rfl) (by simp only [kE, kT, kL, kC] <;> rfl) cl22 (fun h => c_spec_l01New code hc) (by first | rfl | (simp only [Nat.add_zero, Nat.reduceAdd] <;> rfl)) (by simp only [List.map_cons, List.map_nil, kturn, fillA_ptr, fillA_far, fillA_self, zz, zf, zy, zev, ne_eq, Nat.reduceEqDiff, not_false_eq_true, List.length_map, id_eq, kP] <;> rfl) (rfl) ?_
 refine EV ?_
 refine ON ?_
 refine OQ ?_
 iterate 2 (refine EV ?_)
 refine OkOps.ev tab_ok rfl (by simp only [kE, kT, kL, kC, quo4 hc] <;> rfl) (by simp only [kP] <;> rfl) ?_
 refine OkOps.ev tab_ok rfl (by simp only [kE, kT, kL, kC, most16 hc] <;> rfl) (by simp only [kP] <;> rfl) ?_
 refine EV ?_
 refine ON ?_
 refine Ok.join (τ := Nat) (fun x => [(4, .int .i64 (x : Int))]) [16, 17] (fun x => by simp only [kover] <;> rfl) (fun x => []) (fun x => 2) (fun x => 16 ≤ x ∧ x ≤ 60) ?_ ?_
 ·
  refine OQ ?_
  iterate 2 (refine EV ?_)
  refine ON ?_
  refine OC (fun hb3 => ?_) (fun hb3 => ?_)
  ·
   try simp only [bsimp] at hb3
   refine Ok.region ?_
   refine EV ?_
   refine ON ?_
   refine ⟨60, ?_, rfl, (by omega), ⟨by decide, by decide⟩⟩
   (repeat (first | exact trivial | refine leC ?_ | refine leK ?_ ?_)) <;> first | (exact le_rfl' _) | exact le_rfl' _
  try simp only [bsimp] at hb3
  refine Ok.skip ?_
  refine ⟨(16 + code.length / 4), ?_, rfl, (by omega), ⟨by omega, by omega⟩⟩
  (repeat (first | exact trivial | refine leC ?_ | refine leK ?_ ?_)) <;> first | (exact le_rfl' _) | exact le_rfl' _
 rintro most ⟨hm1, hm2⟩
 refine OQ ?_
 iterate 2 (refine EV ?_)
 refine ON ?_
 refine OQ ?_
 refine EV ?_
 refine ON ?_
 refine Ok.seq ?_
 refine OQ ?_
 refine EV ?_
 refine ON ?_
 refine Ok.block ?_
 refine Ok.loopHN (τ := Nat × List Event × Int × Cur × Nat) (fun x => [(3, .ptr 1 0 0 (cCur x.2.2.2.1)), (5, .sl 2 4 0 (x.2.1.map cEvent)), (6, .int .i64 x.2.2.1), (7, .int .i64 (x.1 : Int))]) [8, 9, 10, 11, 12, 13, 14, 15, 16, 17, 18, 19, 20, 21, 22, 23, 24, 25, 26, 27, 28, 29, 30, 31, 32, 33, 34, 35, 36, 37, 38, 39, 40, 41, 42, 43, 44, 45, 46, 47, 48, 49, 50, 51, 52, 53, 54, 55, 56, 57, 58, 59, 60, 61, 62, 63, 64, 65, 66, 67, 68, 69, 70, 71, 72, 73, 74, 75, 76, 77, 78, 79, 80, 81, 82, 83, 84, 85, 86, 87, 88, 89, 90, 91, 92, 93, 94, 95, 96, 97, 98, 99, 100, 101, 102, 103, 104, 105, 106, 107, 108, 109, 110, 111, 112, 113, 114, 115, 116, 117, 118, 119, 120, 121, 122, 123, 124, 125, 126, 127, 128, 129, 130, 131] (fun x => by simp only [kover] <;> rfl) (fun x => []) (fun x => x.2.2.2.2 + 3) (fun x => x.1 ≤ 2 ∧ x.2.1.length ≤ 4 * x.1 ∧ EvS x.2.1 ∧ x.2.2.2.1.b = code) (fun x => 2 - x.1) (0, [], 100, curNew code, 0) (by (repeat (first | exact trivial | refine leC ?_ | refine leK ?_ ?_)) <;> first | (first | exact le_rfl' _ | exact le_nil 2 4) | exact le_rfl' _) (rfl) ((by dsimp only; omega)) (⟨Nat.zero_le _, Nat.le_refl _, EvS.nil, rfl⟩) ?_
 rintro ⟨i, out, gid, cc, k⟩ ⟨h1, h2, hev, hcb⟩
 dsimp only at h1 h2 hev hcb ⊢
 refine Ok.seq ?_
 refine OQ ?_
 iterate 2 (refine EV ?_)
 refine ON ?_
 refine OC (fun hb8 => ?_) (fun hb8 => ?_)
 ·
  try simp only [bsimp] at hb8
  refine Ok.skip ?_
  refine Ok.seq ?_
  refine Ok.block ?_
  refine OQ ?_
  refine EV ?_
  refine OkOps.upd rfl rfl (by simp only [kE, kT, kL, kC] <;> rfl) (by simp only [kE, kT, kL, kC] <;> rfl) cl45 (fun h => c_spec_l01Once cc 8 0 (by rw [hcb]; exact hc) (by decide)) (by simp only [eq_self, V.updL, V.travL, V.travLL, V.trav, updS, updP, and_self, true_and, and_true, false_and, and_false, Nat.reduceEqDiff, Nat.reduceSub, Nat.le_refl, Nat.zero_le, ↓reduceIte, if_true, if_false, kP, zz, zf, zy, zev] <;> rfl) (rfl) ?_
  refine EV ?_
  refine ON ?_
  refine OC (fun hb10 => ?_) (fun hb10 => ?_)
  ·
   try simp only [bsimp] at hb10
   refine OQ ?_
   iterate 2 (refine EV ?_)
   refine OkOps.ev tab_ok rfl (by simp [ev1, fillV, kE, kT, kL] <;> first | rfl | exact ⟨rfl, rfl⟩) (by simp only [kP] <;> rfl) ?_
   refine EV ?_
   refine OkOps.ev tab_ok rfl (by simp [ev1, fillV, kE, kT, kL] <;> first | rfl | exact ⟨rfl, rfl⟩) (by simp only [kP] <;> rfl) ?_
   iterate 2 (refine EV ?_)
   refine OkOps.ev tab_ok rfl (by simp [ev1, fillV, kE, kT, kL] <;> first | rfl | exact ⟨rfl, rfl⟩) (by simp only [kP] <;> rfl) ?_
   refine EV ?_
   refine OkOps.ev tab_ok rfl (by simp [ev1, fillV, kE, kT, kL] <;> first | rfl | exact ⟨rfl, rfl⟩) (by simp only [kP] <;> rfl) ?_
   refine OkOps.ev tab_ok rfl (ev_bs (by simp only [kT] <;> rfl) (by simp only [kT] <;> rfl) (by decide) (by decide) (by simp only [kE, kT, kL, kC, List.map_cons, List.map_nil] <;> rfl) (by simp only [kfe, beq_self_eq_true, Bool.and_true, Bool.true_and, decide_true, Nat.zero_add, Nat.lt_add_one, Nat.reduceLT, Nat.reduceAdd, Nat.zero_lt_succ, if_true, ↓reduceIte] <;> rfl)) (by simp only [kP] <;> rfl) ?_
   refine OkOps.append tab_ok rfl rfl (by simp only [kT] <;> rfl) (by simp only [kT] <;> rfl) (by decide) rfl (by simp only [kE, kT, kL, kC] <;> rfl) (.inl ⟨_, _, by simp only [kE, kT, kL, kC] <;> rfl⟩) (by omega) (by omega) (by simp only [List.length_map, List.length_cons, List.length_nil]; omega) (by simp only [List.length_map, List.length_cons, List.length_nil]; omega) (by simp [V.one]) (by simp only [V.killL, V.killLL, V.travL, V.travLL, V.trav, killS, killP, Nat.reduceEqDiff, ↓reduceIte, reduceCtorEq, if_true, if_false, List.append_nil, List.nil_append, List.cons_append, zz, zf, zy, zev] <;> rfl) (by simp only [V.killL, V.killLL, V.travL, V.travLL, V.trav, killS, killP, Nat.reduceEqDiff, ↓reduceIte, reduceCtorEq, if_true, if_false, List.append_nil, List.nil_append, List.cons_append, zz, zf, zy, zev, kP] <;> rfl) (rfl) ?_
   refine EV ?_
   refine ON ?_
   refine Ok.region ?_
   iterate 3 (refine EV ?_)
   refine ON ?_
   refine Ok.region ?_
   iterate 3 (refine EV ?_)
   refine ON ?_
   refine ⟨(i + 1, out ++ [(⟨1, (i : Int), 0, loginT⟩ : Event), (⟨2, (i : Int), 1, []⟩ : Event), (⟨2, (i : Int), gid, []⟩ : Event), (⟨2, (i : Int), 2, []⟩ : Event)], IntKind.i64.wrap (gid + 1), (curBelow cc 8).2, k + 1), ?_, rfl, (by dsimp only; omega), ⟨by dsimp only; omega, by simp only [List.length_append, List.length_cons, List.length_nil]; omega, hev.app ((EvS.two (by show loginT.length ≤ 100; decide) (Nat.zero_le _)).app (EvS.two (Nat.zero_le _) (Nat.zero_le _))), by dsimp only; rw [curBelow_b]; exact hcb⟩, (by dsimp only; omega)⟩
   (repeat (first | exact trivial | refine leC ?_ | refine leK ?_ ?_)) <;> first | (first | exact le_rfl' _ | (rw [wrap_succ (by omega)]; exact le_rfl' _) | (simp only [List.map_append, List.map_cons, List.map_nil]; exact le_rfl' _)) | exact le_rfl' _
  try simp only [bsimp] at hb10
  refine Ok.skip ?_
  refine Ok.region ?_
  iterate 3 (refine EV ?_)
  refine ON ?_
  refine ⟨(i + 1, out, gid, (curBelow cc 8).2, k), ?_, rfl, (by dsimp only; omega), ⟨by dsimp only; omega, by dsimp only; omega, hev, by dsimp only; rw [curBelow_b]; exact hcb⟩, (by dsimp only; omega)⟩
  (repeat (first | exact trivial | refine leC ?_ | refine leK ?_ ?_)) <;> first | (first | exact le_rfl' _ | (rw [wrap_succ (by omega)]; exact le_rfl' _) | (simp only [List.map_append, List.map_cons, List.map_nil]; exact le_rfl' _)) | exact le_rfl' _
 try simp only [bsimp] at hb8
 refine Ok.exit ?_
 refine Ok.seq ?_
 refine Ok.block ?_
 refine Ok.loopHN (τ := List Event × Int × Cur × Nat) (fun x => [(3, .ptr 1 0 0 (cCur x.2.2.1)), (5, .sl 2 4 0 (x.1.map cEvent)), (6, .int .i64 x.2.1)]) [7, 8, 9, 10, 11, 12, 13, 14, 15, 16, 17, 18, 19, 20, 21, 22, 23, 24, 25, 26, 27, 28, 29, 30, 31, 32, 33, 34, 35, 36, 37, 38, 39, 40, 41, 42, 43, 44, 45, 46, 47, 48, 49, 50, 51, 52, 53, 54, 55, 56, 57, 58, 59, 60, 61, 62, 63, 64, 65, 66, 67, 68, 69, 70, 71, 72, 73, 74, 75, 76, 77, 78, 79, 80, 81, 82, 83, 84, 85, 86, 87, 88, 89, 90, 91, 92, 93, 94, 95, 96, 97, 98, 99, 100, 101, 102, 103, 104, 105, 106, 107, 108, 109, 110, 111, 112, 113, 114, 115, 116, 117, 118, 119, 120, 121, 122, 123, 124, 125, 126, 127, 128, 129, 130, 131] (fun x => by simp only [kover] <;> rfl) (fun x => []) (fun x => x.2.2.2 + 3) (fun x => x.1.length ≤ 62 ∧ EvS x.1 ∧ x.2.2.1.b = code) (fun x => 62 - x.1.length) (out, gid, cc, k) (by (repeat (first | exact trivial | refine leC ?_ | refine leK ?_ ?_)) <;> first | (first | exact le_rfl' _) | exact le_rfl' _) (rfl) ((by dsimp only; omega)) (⟨by dsimp only; omega, hev, hcb⟩) ?_
 rintro ⟨out, gid, cc, k⟩ ⟨h2, hev, hcb⟩
 dsimp only at h2 hev hcb ⊢
 refine Ok.seq ?_
 refine OQ ?_
 iterate 4 (refine EV ?_)
 refine ON ?_
 refine OC (fun hb13 => ?_) (fun hb13 => ?_)
 ·
  try simp only [bsimp] at hb13
  refine Ok.skip ?_
  refine Ok.block ?_
  refine OQ ?_
  refine EV ?_
  refine OkOps.upd rfl rfl (by simp only [kE, kT, kL, kC] <;> rfl) (by simp only [kE, kT, kL, kC] <;> rfl) cl23 (fun h => c_spec_l01Below cc 2 0 (by rw [hcb]; exact hc) (by decide)) (by simp only [eq_self, V.updL, V.travL, V.travLL, V.trav, updS, updP, and_self, true_and, and_true, false_and, and_false, Nat.reduceEqDiff, Nat.reduceSub, Nat.le_refl, Nat.zero_le, ↓reduceIte, if_true, if_false, kP, zz, zf, zy, zev] <;> rfl) (rfl) ?_
  obtain ⟨⟨v1, c1⟩, z1⟩ : ∃ z, curBelow cc 2 = z := ⟨_, rfl⟩
  have b1 : c1.b = code := by have h9 := curBelow_b cc 2; rw [z1] at h9; exact h9.trans hcb
  simp only [z1]
  refine EV ?_
  refine ON ?_
  refine OQ ?_
  refine EV ?_
  refine OkOps.upd rfl rfl (by simp only [kE, kT, kL, kC] <;> rfl) (by simp only [kE, kT, kL, kC] <;> rfl) cl23 (fun h => c_spec_l01Below c1 16 0 (by rw [b1]; exact hc) (by decide)) (by simp only [eq_self, V.updL, V.travL, V.travLL, V.trav, updS, updP, and_self, true_and, and_true, false_and, and_false, Nat.reduceEqDiff, Nat.reduceSub, Nat.le_refl, Nat.zero_le, ↓reduceIte, if_true, if_false, kP, zz, zf, zy, zev] <;> rfl) (rfl) ?_
  obtain ⟨⟨v2, c2⟩, z2⟩ : ∃ z, curBelow c1 16 = z := ⟨_, rfl⟩
  have b2 : c2.b = code := by have h9 := curBelow_b c1 16; rw [z2] at h9; exact h9.trans b1
  simp only [z2]
  refine EV ?_
  refine ON ?_
  refine Ok.block ?_
  refine OQ ?_
  iterate 3 (refine EV ?_)
  refine ON ?_
  refine OC (fun hb18 => ?_) (fun hb18 => ?_)
  ·
   try simp only [bsimp] at hb18
   refine Ok.seq ?_
   have hp := line15_len c2
   refine Ok.region ?_
   iterate 3 (refine EV ?_)
   refine OkOps.updF (k := 1) rfl rfl (by simp only [kE, kT, kL, kC] <;> rfl) (by simp only [kE, kT, kL, kC] <;> rfl) cl46 (by intro y hy; simp [V.labelsL, V.labels, V.labelsLL, zz, zf, zy, zev] at hy; omega) (Ahd.nil _) (fun h hlt => c_spec_l15Line c2 0 (by rw [b2]; exact hc) hlt (by omega)) (by first | rfl | (simp only [Nat.add_zero, Nat.reduceAdd] <;> rfl)) (by simp only [eq_self, V.updL, V.travL, V.travLL, V.trav, updS, updP, and_self, true_and, and_true, false_and, and_false, Nat.reduceEqDiff, Nat.reduceSub, Nat.le_refl, Nat.zero_le, ↓reduceIte, if_true, if_false, kP, zz, zf, zy, zev] <;> rfl) (rfl) ?_
   refine OkOps.ev tab_ok rfl (ev_cat (by simp only [kE, kT, kL, kC] <;> rfl) (by simp only [kE, kT, kL, kC] <;> rfl) (by first | omega | (simp only [List.length_append, List.length_cons, List.length_nil] at *; omega))) (by simp only [kP] <;> rfl) ?_
   refine OkOps.ev tab_ok rfl (by simp [ev1, fillV, kE, kT, kL] <;> first | rfl | exact ⟨rfl, rfl⟩) (by simp only [kP] <;> rfl) ?_
   iterate 2 (refine EV ?_)
   refine OkOps.ev tab_ok rfl (by simp [ev1, fillV, kE, kT, kL] <;> first | rfl | exact ⟨rfl, rfl⟩) (by simp only [kP] <;> rfl) ?_
   refine OkOps.ev tab_ok rfl (ev_bs (by simp only [kT] <;> rfl) (by simp only [kT] <;> rfl) (by decide) (by decide) (by simp only [kE, kT, kL, kC, List.map_cons, List.map_nil] <;> rfl) (by simp only [kfe, beq_self_eq_true, Bool.and_true, Bool.true_and, decide_true, Nat.zero_add, Nat.lt_add_one, Nat.reduceLT, Nat.reduceAdd, Nat.zero_lt_succ, if_true, ↓reduceIte] <;> rfl)) (by simp only [kP] <;> rfl) ?_
   refine OkOps.append tab_ok rfl rfl (by simp only [kT] <;> rfl) (by simp only [kT] <;> rfl) (by decide) rfl (by simp only [kE, kT, kL, kC] <;> rfl) (.inl ⟨_, _, by simp only [kE, kT, kL, kC] <;> rfl⟩) (by omega) (by omega) (by simp only [List.length_map, List.length_cons, List.length_nil]; omega) (by simp only [List.length_map, List.length_cons, List.length_nil]; omega) (by simp [V.one]) (by simp only [V.killL, V.killLL, V.travL, V.travLL, V.trav, killS, killP, Nat.reduceEqDiff, ↓reduceIte, reduceCtorEq, if_true, if_false, List.append_nil, List.nil_append, List.cons_append, zz, zf, zy, zev] <;> rfl) (by simp only [V.killL, V.killLL, V.travL, V.travLL, V.trav, killS, killP, Nat.reduceEqDiff, ↓reduceIte, reduceCtorEq, if_true, if_false, List.append_nil, List.nil_append, List.cons_append, zz, zf, zy, zev, kP] <;> rfl) (rfl) ?_
   refine EV ?_
   refine ON ?_
   refine Ok.region ?_
   iterate 3 (refine EV ?_)
   refine ON ?_
   refine ⟨(out ++ [(⟨1, (v1 : Int), 0, (pickS c2 lines15).1 ++ [13, 10]⟩ : Event), (⟨2, (v1 : Int), gid, []⟩ : Event)], IntKind.i64.wrap (gid + 1), (pickS c2 lines15).2, k + 4), ?_, rfl, (by dsimp only; omega), ⟨by simp only [List.length_append, List.length_cons, List.length_nil]; omega, hev.app (EvS.two (by show ((pickS c2 lines15).1 ++ [13, 10]).length ≤ 100; rw [List.length_append]; show _ + 2 ≤ 100; omega) (Nat.zero_le _)), by rw [pickS_b, b2]⟩, (by simp only [List.length_append, List.length_cons, List.length_nil]; omega)⟩
   (repeat (first | exact trivial | refine leC ?_ | refine leK ?_ ?_)) <;> first | (first | exact le_rfl' _ | (simp only [List.map_append, List.map_cons, List.map_nil]; exact le_rfl' _)) | exact le_rfl' _
  try simp only [bsimp] at hb18
  refine OQ ?_
  iterate 3 (refine EV ?_)
  refine ON ?_
  refine OC (fun hb21 => ?_) (fun hb21 => ?_)
  ·
   try simp only [bsimp] at hb21
   refine Ok.region ?_
   refine EV ?_
   refine OkOps.ev tab_ok rfl (by simp [ev1, fillV, kE, kT, kL] <;> first | rfl | exact ⟨rfl, rfl⟩) (by simp only [kP] <;> rfl) ?_
   refine OkOps.ev tab_ok rfl (ev_bs (by simp only [kT] <;> rfl) (by simp only [kT] <;> rfl) (by decide) (by decide) (by simp only [kE, kT, kL, kC, List.map_cons, List.map_nil] <;> rfl) (by simp only [kfe, beq_self_eq_true, Bool.and_true, Bool.true_and, decide_true, Nat.zero_add, Nat.lt_add_one, Nat.reduceLT, Nat.reduceAdd, Nat.zero_lt_succ, if_true, ↓reduceIte] <;> rfl)) (by simp only [kP] <;> rfl) ?_
   refine OkOps.append tab_ok rfl rfl (by simp only [kT] <;> rfl) (by simp only [kT] <;> rfl) (by decide) rfl (by simp only [kE, kT, kL, kC] <;> rfl) (.inl ⟨_, _, by simp only [kE, kT, kL, kC] <;> rfl⟩) (by omega) (by omega) (by simp only [List.length_map, List.length_cons, List.length_nil]; omega) (by simp only [List.length_map, List.length_cons, List.length_nil]; omega) (by simp [V.one]) (by simp only [V.killL, V.killLL, V.travL, V.travLL, V.trav, killS, killP, Nat.reduceEqDiff, ↓reduceIte, reduceCtorEq, if_true, if_false, List.append_nil, List.nil_append, List.cons_append, zz, zf, zy, zev] <;> rfl) (by simp only [V.killL, V.killLL, V.travL, V.travLL, V.trav, killS, killP, Nat.reduceEqDiff, ↓reduceIte, reduceCtorEq, if_true, if_false, List.append_nil, List.nil_append, List.cons_append, zz, zf, zy, zev, kP] <;> rfl) (rfl) ?_
   refine EV ?_
   refine ON ?_
   refine ⟨(out ++ [(⟨3, 0, 0, []⟩ : Event)], gid, c2, k + 4), ?_, rfl, (by dsimp only; omega), ⟨by simp only [List.length_append, List.length_cons, List.length_nil]; omega, hev.app (EvS.one (Nat.zero_le _)), b2⟩, (by simp only [List.length_append, List.length_cons, List.length_nil]; omega)⟩
   (repeat (first | exact trivial | refine leC ?_ | refine leK ?_ ?_)) <;> first | (first | exact le_rfl' _ | (simp only [List.map_append, List.map_cons, List.map_nil]; exact le_rfl' _)) | exact le_rfl' _
  try simp only [bsimp] at hb21
  refine OQ ?_
  iterate 3 (refine EV ?_)
  refine ON ?_
  refine OC (fun hb23 => ?_) (fun hb23 => ?_)
  ·
   try simp only [bsimp] at hb23
   refine Ok.region ?_
   iterate 2 (refine EV ?_)
   refine OkOps.ev tab_ok rfl (by simp [ev1, fillV, kE, kT, kL] <;> first | rfl | exact ⟨rfl, rfl⟩) (by simp only [kP] <;> rfl) ?_
   refine OkOps.ev tab_ok rfl (ev_bs (by simp only [kT] <;> rfl) (by simp only [kT] <;> rfl) (by decide) (by decide) (by simp only [kE, kT, kL, kC, List.map_cons, List.map_nil] <;> rfl) (by simp only [kfe, beq_self_eq_true, Bool.and_true, Bool.true_and, decide_true, Nat.zero_add, Nat.lt_add_one, Nat.reduceLT, Nat.reduceAdd, Nat.zero_lt_succ, if_true, ↓reduceIte] <;> rfl)) (by simp only [kP] <;> rfl) ?_
   refine OkOps.append tab_ok rfl rfl (by simp only [kT] <;> rfl) (by simp only [kT] <;> rfl) (by decide) rfl (by simp only [kE, kT, kL, kC] <;> rfl) (.inl ⟨_, _, by simp only [kE, kT, kL, kC] <;> rfl⟩) (by omega) (by omega) (by simp only [List.length_map, List.length_cons, List.length_nil]; omega) (by simp only [List.length_map, List.length_cons, List.length_nil]; omega) (by simp [V.one]) (by simp only [V.killL, V.killLL, V.travL, V.travLL, V.trav, killS, killP, Nat.reduceEqDiff, ↓reduceIte, reduceCtorEq, if_true, if_false, List.append_nil, List.nil_append, List.cons_append, zz, zf, zy, zev] <;> rfl) (by simp only [V.killL, V.killLL, V.travL, V.travLL, V.trav, killS, killP, Nat.reduceEqDiff, ↓reduceIte, reduceCtorEq, if_true, if_false, List.append_nil, List.nil_append, List.cons_append, zz, zf, zy, zev, kP] <;> rfl) (rfl) ?_
   refine EV ?_
   refine ON ?_
   refine ⟨(out ++ [(⟨4, (v1 : Int), 0, []⟩ : Event)], gid, c2, k + 4), ?_, rfl, (by dsimp only; omega), ⟨by simp only [List.length_append, List.length_cons, List.length_nil]; omega, hev.app (EvS.one (Nat.zero_le _)), b2⟩, (by simp only [List.length_append, List.length_cons, List.length_nil]; omega)⟩
   (repeat (first | exact trivial | refine leC ?_ | refine leK ?_ ?_)) <;> first | (first | exact le_rfl' _ | (simp only [List.map_append, List.map_cons, List.map_nil]; exact le_rfl' _)) | exact le_rfl' _
  try simp only [bsimp] at hb23
  refine OQ ?_
  iterate 3 (refine EV ?_)
  refine ON ?_
  refine OC (fun hb25 => ?_) (fun hb25 => ?_)
  ·
   try simp only [bsimp] at hb25
   refine Ok.region ?_
   iterate 2 (refine EV ?_)
   refine OkOps.updF (k := 0) rfl rfl (by simp only [kE, kT, kL, kC] <;> rfl) (by simp only [kE, kT, kL, kC] <;> rfl) cl23 (by intro y hy; simp [V.labelsL, V.labels, V.labelsLL, zz, zf, zy, zev] at hy; omega) (Ahd.nil _) (fun h hlt => c_spec_l01Below c2 2 0 (by rw [b2]; exact hc) (by decide)) (by first | rfl | (simp only [Nat.add_zero, Nat.reduceAdd] <;> rfl)) (by simp only [eq_self, V.updL, V.travL, V.travLL, V.trav, updS, updP, and_self, true_and, and_true, false_and, and_false, Nat.reduceEqDiff, Nat.reduceSub, Nat.le_refl, Nat.zero_le, ↓reduceIte, if_true, if_false, kP, zz, zf, zy, zev] <;> rfl) (rfl) ?_
   refine OkOps.ev tab_ok rfl (by simp [ev1, fillV, kE, kT, kL] <;> first | rfl | exact ⟨rfl, rfl⟩) (by simp only [kP] <;> rfl) ?_
   refine OkOps.ev tab_ok rfl (ev_bs (by simp only [kT] <;> rfl) (by simp only [kT] <;> rfl) (by decide) (by decide) (by simp only [kE, kT, kL, kC, List.map_cons, List.map_nil] <;> rfl) (by simp only [kfe, beq_self_eq_true, Bool.and_true, Bool.true_and, decide_true, Nat.zero_add, Nat.lt_add_one, Nat.reduceLT, Nat.reduceAdd, Nat.zero_lt_succ, if_true, ↓reduceIte] <;> rfl)) (by simp only [kP] <;> rfl) ?_
   refine OkOps.append tab_ok rfl rfl (by simp only [kT] <;> rfl) (by simp only [kT] <;> rfl) (by decide) rfl (by simp only [kE, kT, kL, kC] <;> rfl) (.inl ⟨_, _, by simp only [kE, kT, kL, kC] <;> rfl⟩) (by omega) (by omega) (by simp only [List.length_map, List.length_cons, List.length_nil]; omega) (by simp only [List.length_map, List.length_cons, List.length_nil]; omega) (by simp [V.one]) (by simp only [V.killL, V.killLL, V.travL, V.travLL, V.trav, killS, killP, Nat.reduceEqDiff, ↓reduceIte, reduceCtorEq, if_true, if_false, List.append_nil, List.nil_append, List.cons_append, zz, zf, zy, zev] <;> rfl) (by simp only [V.killL, V.killLL, V.travL, V.travLL, V.trav, killS, killP, Nat.reduceEqDiff, ↓reduceIte, reduceCtorEq, if_true, if_false, List.append_nil, List.nil_append, List.cons_append, zz, zf, zy, zev, kP] <;> rfl) (rfl) ?_
   refine EV ?_
   refine ON ?_
   refine ⟨(out ++ [(⟨5, ((curBelow c2 2).1 : Int), 0, []⟩ : Event)], gid, (curBelow c2 2).2, k + 4), ?_, rfl, (by dsimp only; omega), ⟨by simp only [List.length_append, List.length_cons, List.length_nil]; omega, hev.app (EvS.one (Nat.zero_le _)), by rw [curBelow_b, b2]⟩, (by simp only [List.length_append, List.length_cons, List.length_nil]; omega)⟩
   (repeat (first | exact trivial | refine leC ?_ | refine leK ?_ ?_)) <;> first | (first | exact le_rfl' _ | (simp only [List.map_append, List.map_cons, List.map_nil]; exact le_rfl' _)) | exact le_rfl' _
  try simp only [bsimp] at hb25
  refine OQ ?_
  iterate 3 (refine EV ?_)
  refine ON ?_
  refine OC (fun hb27 => ?_) (fun hb27 => ?_)
  ·
   try simp only [bsimp] at hb27
   refine Ok.region ?_
   iterate 2 (refine EV ?_)
   refine OkOps.ev tab_ok rfl (ev_bs (by simp only [kT] <;> rfl) (by simp only [kT] <;> rfl) (by decide) (by decide) (by simp only [kE, kT, kL, kC, List.map_cons, List.map_nil] <;> rfl) (by simp only [kfe, beq_self_eq_true, Bool.and_true, Bool.true_and, decide_true, Nat.zero_add, Nat.lt_add_one, Nat.reduceLT, Nat.reduceAdd, Nat.zero_lt_succ, if_true, ↓reduceIte] <;> rfl)) (by simp only [kP] <;> rfl) ?_
   refine OkOps.upd rfl rfl (by simp only [kE, kT, kL, kC] <;> rfl) (by simp only [kE, kT, kL, kC] <;> rfl) cl47 (fun h => c_spec_l01PickInt c2 [6, 7] 0 (k + 3) (by rw [b2]; exact hc) (by decide) (by omega)) (by simp only [eq_self, V.updL, V.travL, V.travLL, V.trav, updS, updP, and_self, true_and, and_true, false_and, and_false, Nat.reduceEqDiff, Nat.reduceSub, Nat.le_refl, Nat.zero_le, ↓reduceIte, if_true, if_false, kP, zz, zf, zy, zev] <;> rfl) (rfl) ?_
   refine EV ?_
   refine OkOps.updF (k := 0) rfl rfl (by simp only [kE, kT, kL, kC] <;> rfl) (by simp only [kE, kT, kL, kC] <;> rfl) cl23 (by intro y hy; simp [V.labelsL, V.labels, V.labelsLL, zz, zf, zy, zev] at hy; omega) (Ahd.nil _) (fun h hlt => c_spec_l01Below (pickI c2 [6, 7]).2 2 0 (by rw [pickI_b, b2]; exact hc) (by decide)) (by first | rfl | (simp only [Nat.add_zero, Nat.reduceAdd] <;> rfl)) (by simp only [eq_self, V.updL, V.travL, V.travLL, V.trav, updS, updP, and_self, true_and, and_true, false_and, and_false, Nat.reduceEqDiff, Nat.reduceSub, Nat.le_refl, Nat.zero_le, ↓reduceIte, if_true, if_false, kP, zz, zf, zy, zev] <;> rfl) (rfl) ?_
   refine OkOps.ev tab_ok rfl (by simp [ev1, fillV, kE, kT, kL] <;> first | rfl | exact ⟨rfl, rfl⟩) (by simp only [kP] <;> rfl) ?_
   refine OkOps.ev tab_ok rfl (ev_bs (by simp only [kT] <;> rfl) (by simp only [kT] <;> rfl) (by decide) (by decide) (by simp only [kE, kT, kL, kC, List.map_cons, List.map_nil] <;> rfl) (by simp only [kfe, beq_self_eq_true, Bool.and_true, Bool.true_and, decide_true, Nat.zero_add, Nat.lt_add_one, Nat.reduceLT, Nat.reduceAdd, Nat.zero_lt_succ, if_true, ↓reduceIte] <;> rfl)) (by simp only [kP] <;> rfl) ?_
   refine OkOps.append tab_ok rfl rfl (by simp only [kT] <;> rfl) (by simp only [kT] <;> rfl) (by decide) rfl (by simp only [kE, kT, kL, kC] <;> rfl) (.inl ⟨_, _, by simp only [kE, kT, kL, kC] <;> rfl⟩) (by omega) (by omega) (by simp only [List.length_map, List.length_cons, List.length_nil]; omega) (by simp only [List.length_map, List.length_cons, List.length_nil]; omega) (by simp [V.one]) (by simp only [V.killL, V.killLL, V.travL, V.travLL, V.trav, killS, killP, Nat.reduceEqDiff, ↓reduceIte, reduceCtorEq, if_true, if_false, List.append_nil, List.nil_append, List.cons_append, zz, zf, zy, zev] <;> rfl) (by simp only [V.killL, V.killLL, V.travL, V.travLL, V.trav, killS, killP, Nat.reduceEqDiff, ↓reduceIte, reduceCtorEq, if_true, if_false, List.append_nil, List.nil_append, List.cons_append, zz, zf, zy, zev, kP] <;> rfl) (rfl) ?_
   refine EV ?_
   refine ON ?_
   refine ⟨(out ++ [(⟨(pickI c2 [6, 7]).1, ((curBelow (pickI c2 [6, 7]).2 2).1 : Int), 0, []⟩ : Event)], gid, (curBelow (pickI c2 [6, 7]).2 2).2, k + 4), ?_, rfl, (by dsimp only; omega), ⟨by simp only [List.length_append, List.length_cons, List.length_nil]; omega, hev.app (EvS.one (Nat.zero_le _)), by rw [curBelow_b, pickI_b, b2]⟩, (by simp only [List.length_append, List.length_cons, List.length_nil]; omega)⟩
   (repeat (first | exact trivial | refine leC ?_ | refine leK ?_ ?_)) <;> first | (first | exact le_rfl' _ | (simp only [List.map_append, List.map_cons, List.map_nil]; exact le_rfl' _)) | exact le_rfl' _
  try simp only [bsimp] at hb27
  refine OQ ?_
  iterate 3 (refine EV ?_)
  refine ON ?_
  refine OC (fun hb29 => ?_) (fun hb29 => ?_)
  ·
   try simp only [bsimp] at hb29
   refine Ok.region ?_
   iterate 2 (refine EV ?_)
   refine OkOps.updF (k := 0) rfl rfl (by simp only [kE, kT, kL, kC] <;> rfl) (by simp only [kE, kT, kL, kC] <;> rfl) cl23 (by intro y hy; simp [V.labelsL, V.labels, V.labelsLL, zz, zf, zy, zev] at hy; omega) (Ahd.nil _) (fun h hlt => c_spec_l01Below c2 2 0 (by rw [b2]; exact hc) (by decide)) (by first | rfl | (simp only [Nat.add_zero, Nat.reduceAdd] <;> rfl)) (by simp only [eq_self, V.updL, V.travL, V.travLL, V.trav, updS, updP, and_self, true_and, and_true, false_and, and_false, Nat.reduceEqDiff, Nat.reduceSub, Nat.le_refl, Nat.zero_le, ↓reduceIte, if_true, if_false, kP, zz, zf, zy, zev] <;> rfl) (rfl) ?_
   refine EV ?_
   refine OkOps.updF (k := 0) rfl rfl (by simp only [kE, kT, kL, kC] <;> rfl) (by simp only [kE, kT, kL, kC] <;> rfl) cl23 (by intro y hy; simp [V.labelsL, V.labels, V.labelsLL, zz, zf, zy, zev] at hy; omega) (Ahd.nil _) (fun h hlt => c_spec_l01Below (curBelow c2 2).2 90 0 (by rw [curBelow_b, b2]; exact hc) (by decide)) (by first | rfl | (simp only [Nat.add_zero, Nat.reduceAdd] <;> rfl)) (by simp only [eq_self, V.updL, V.travL, V.travLL, V.trav, updS, updP, and_self, true_and, and_true, false_and, and_false, Nat.reduceEqDiff, Nat.reduceSub, Nat.le_refl, Nat.zero_le, ↓reduceIte, if_true, if_false, kP, zz, zf, zy, zev] <;> rfl) (rfl) ?_
   refine OkOps.ev tab_ok rfl (by simp [ev1, fillV, kE, kT, kL] <;> first | rfl | exact ⟨rfl, rfl⟩) (by simp only [kP] <;> rfl) ?_
   refine OkOps.ev tab_ok rfl (ev_bs (by simp only [kT] <;> rfl) (by simp only [kT] <;> rfl) (by decide) (by decide) (by simp only [kE, kT, kL, kC, List.map_cons, List.map_nil] <;> rfl) (by simp only [kfe, beq_self_eq_true, Bool.and_true, Bool.true_and, decide_true, Nat.zero_add, Nat.lt_add_one, Nat.reduceLT, Nat.reduceAdd, Nat.zero_lt_succ, if_true, ↓reduceIte] <;> rfl)) (by simp only [kP] <;> rfl) ?_
   refine OkOps.append tab_ok rfl rfl (by simp only [kT] <;> rfl) (by simp only [kT] <;> rfl) (by decide) rfl (by simp only [kE, kT, kL, kC] <;> rfl) (.inl ⟨_, _, by simp only [kE, kT, kL, kC] <;> rfl⟩) (by omega) (by omega) (by simp only [List.length_map, List.length_cons, List.length_nil]; omega) (by simp only [List.length_map, List.length_cons, List.length_nil]; omega) (by simp [V.one]) (by simp only [V.killL, V.killLL, V.travL, V.travLL, V.trav, killS, killP, Nat.reduceEqDiff, ↓reduceIte, reduceCtorEq, if_true, if_false, List.append_nil, List.nil_append, List.cons_append, zz, zf, zy, zev] <;> rfl) (by simp only [V.killL, V.killLL, V.travL, V.travLL, V.trav, killS, killP, Nat.reduceEqDiff, ↓reduceIte, reduceCtorEq, if_true, if_false, List.append_nil, List.nil_append, List.cons_append, zz, zf, zy, zev, kP] <;> rfl) (rfl) ?_
   refine EV ?_
   refine ON ?_
   refine ⟨(out ++ [(⟨10, ((curBelow c2 2).1 : Int), ((curBelow (curBelow c2 2).2 90).1 : Int), []⟩ : Event)], gid, (curBelow (curBelow c2 2).2 90).2, k + 4), ?_, rfl, (by dsimp only; omega), ⟨by simp only [List.length_append, List.length_cons, List.length_nil]; omega, hev.app (EvS.one (Nat.zero_le _)), by rw [curBelow_b, curBelow_b, b2]⟩, (by simp only [List.length_append, List.length_cons, List.length_nil]; omega)⟩
   (repeat (first | exact trivial | refine leC ?_ | refine leK ?_ ?_)) <;> first | (first | exact le_rfl' _ | (simp only [List.map_append, List.map_cons, List.map_nil]; exact le_rfl' _)) | exact le_rfl' _
  try simp only [bsimp] at hb29
  refine OQ ?_
  iterate 3 (refine EV ?_)
  refine ON ?_
  refine OC (fun hb31 => ?_) (fun hb31 => ?_)
  ·
   try simp only [bsimp] at hb31
   refine Ok.region ?_
   iterate 3 (refine EV ?_)
   refine OkOps.updF (k := 0) rfl rfl (by simp only [kE, kT, kL, kC] <;> rfl) (by simp only [kE, kT, kL, kC] <;> rfl) cl23 (by intro y hy; simp [V.labelsL, V.labels, V.labelsLL, zz, zf, zy, zev] at hy; omega) (Ahd.nil _) (fun h hlt => c_spec_l01Below c2 90 0 (by rw [b2]; exact hc) (by decide)) (by first | rfl | (simp only [Nat.add_zero, Nat.reduceAdd] <;> rfl)) (by simp only [eq_self, V.updL, V.travL, V.travLL, V.trav, updS, updP, and_self, true_and, and_true, false_and, and_false, Nat.reduceEqDiff, Nat.reduceSub, Nat.le_refl, Nat.zero_le, ↓reduceIte, if_true, if_false, kP, zz, zf, zy, zev] <;> rfl) (rfl) ?_
   refine OkOps.ev tab_ok rfl (by simp [ev1, fillV, kE, kT, kL] <;> first | rfl | exact ⟨rfl, rfl⟩) (by simp only [kP] <;> rfl) ?_
   refine EV ?_
   refine OkOps.ev tab_ok rfl (by simp [ev1, fillV, kE, kT, kL] <;> first | rfl | exact ⟨rfl, rfl⟩) (by simp only [kP] <;> rfl) ?_
   refine OkOps.ev tab_ok rfl (ev_bs (by simp only [kT] <;> rfl) (by simp only [kT] <;> rfl) (by decide) (by decide) (by simp only [kE, kT, kL, kC, List.map_cons, List.map_nil] <;> rfl) (by simp only [kfe, beq_self_eq_true, Bool.and_true, Bool.true_and, decide_true, Nat.zero_add, Nat.lt_add_one, Nat.reduceLT, Nat.reduceAdd, Nat.zero_lt_succ, if_true, ↓reduceIte] <;> rfl)) (by simp only [kP] <;> rfl) ?_
   refine OkOps.append tab_ok rfl rfl (by simp only [kT] <;> rfl) (by simp only [kT] <;> rfl) (by decide) rfl (by simp only [kE, kT, kL, kC] <;> rfl) (.inl ⟨_, _, by simp only [kE, kT, kL, kC] <;> rfl⟩) (by omega) (by omega) (by simp only [List.length_map, List.length_cons, List.length_nil]; omega) (by simp only [List.length_map, List.length_cons, List.length_nil]; omega) (by simp [V.one]) (by simp only [V.killL, V.killLL, V.travL, V.travLL, V.trav, killS, killP, Nat.reduceEqDiff, ↓reduceIte, reduceCtorEq, if_true, if_false, List.append_nil, List.nil_append, List.cons_append, zz, zf, zy, zev] <;> rfl) (by simp only [V.killL, V.killLL, V.travL, V.travLL, V.trav, killS, killP, Nat.reduceEqDiff, ↓reduceIte, reduceCtorEq, if_true, if_false, List.append_nil, List.nil_append, List.cons_append, zz, zf, zy, zev, kP] <;> rfl) (rfl) ?_
   refine EV ?_
   refine ON ?_
   refine ⟨(out ++ [(⟨8, (v1 : Int), ((curBelow c2 90).1 : Int), []⟩ : Event), (⟨9, (v1 : Int), 0, []⟩ : Event)], gid, (curBelow c2 90).2, k + 4), ?_, rfl, (by dsimp only; omega), ⟨by simp only [List.length_append, List.length_cons, List.length_nil]; omega, hev.app (EvS.two (Nat.zero_le _) (Nat.zero_le _)), by rw [curBelow_b, b2]⟩, (by simp only [List.length_append, List.length_cons, List.length_nil]; omega)⟩
   (repeat (first | exact trivial | refine leC ?_ | refine leK ?_ ?_)) <;> first | (first | exact le_rfl' _ | (simp only [List.map_append, List.map_cons, List.map_nil]; exact le_rfl' _)) | exact le_rfl' _
  try simp only [bsimp] at hb31
  refine OQ ?_
  iterate 3 (refine EV ?_)
  refine OkOps.ev tab_ok rfl (by simp [ev1, fillV, kE, kT, kL] <;> first | rfl | exact ⟨rfl, rfl⟩) (by simp only [kP] <;> rfl) ?_
  refine OkOps.ev tab_ok rfl (ev_bs (by simp only [kT] <;> rfl) (by simp only [kT] <;> rfl) (by decide) (by decide) (by simp only [kE, kT, kL, kC, List.map_cons, List.map_nil] <;> rfl) (by simp only [kfe, beq_self_eq_true, Bool.and_true, Bool.true_and, decide_true, Nat.zero_add, Nat.lt_add_one, Nat.reduceLT, Nat.reduceAdd, Nat.zero_lt_succ, if_true, ↓reduceIte] <;> rfl)) (by simp only [kP] <;> rfl) ?_
  refine OkOps.append tab_ok rfl rfl (by simp only [kT] <;> rfl) (by simp only [kT] <;> rfl) (by decide) rfl (by simp only [kE, kT, kL, kC] <;> rfl) (.inl ⟨_, _, by simp only [kE, kT, kL, kC] <;> rfl⟩) (by omega) (by omega) (by simp only [List.length_map, List.length_cons, List.length_nil]; omega) (by simp only [List.length_map, List.length_cons, List.length_nil]; omega) (by simp [V.one]) (by simp only [V.killL, V.killLL, V.travL, V.travLL, V.trav, killS, killP, Nat.reduceEqDiff, ↓reduceIte, reduceCtorEq, if_true, if_false, List.append_nil, List.nil_append, List.cons_append, zz, zf, zy, zev] <;> rfl) (by simp only [V.killL, V.killLL, V.travL, V.travLL, V.trav, killS, killP, Nat.reduceEqDiff, ↓reduceIte, reduceCtorEq, if_true, if_false, List.append_nil, List.nil_append, List.cons_append, zz, zf, zy, zev, kP] <;> rfl) (rfl) ?_
  refine EV ?_
  refine ON ?_
  refine Ok.region ?_
  iterate 3 (refine EV ?_)
  refine ON ?_
  refine ⟨(out ++ [(⟨2, (v1 : Int), gid, []⟩ : Event)], IntKind.i64.wrap (gid + 1), c2, k + 4), ?_, rfl, (by dsimp only; omega), ⟨by simp only [List.length_append, List.length_cons, List.length_nil]; omega, hev.app (EvS.one (Nat.zero_le _)), b2⟩, (by simp only [List.length_append, List.length_cons, List.length_nil]; omega)⟩
  (repeat (first | exact trivial | refine leC ?_ | refine leK ?_ ?_)) <;> first | (first | exact le_rfl' _ | (simp only [List.map_append, List.map_cons, List.map_nil]; exact le_rfl' _)) | exact le_rfl' _
 try simp only [bsimp] at hb13
 refine Ok.exit ?_
 refine OQ ?_
 iterate 2 (refine EV ?_)
 refine ON ?_
 refine Ok.ret ?_
 with_reducible repeat (first | refine thenQ_ret ?_ | refine blockQ_ret ?_)
 refine RT ?_
 exact ⟨out, ⟨by omega, by omega, hev⟩, by first | rfl | (simp [V.erase, V.trav, V.travL, V.travLL, packV, zz, zf, zy, zev]; done)⟩
end Go.Proofs.YtliiphpbfambcaaGreatDoor.K

/- Walks: scripts drawn. Printed by w2.py. -/
namespace Go.Proofs.YtliiphpbfambcaaGreatDoor.K
open Go Go.RowKit
set_option linter.unusedVariables false
set_option linter.unusedSimpArgs false
set_option maxHeartbeats 4000000
set_option maxRecDepth 20000
theorem x_spec_l23Script (code : Str) (hc : code.length ≤ 4611686018427387904) : WeakX Tryz.prog 9 [.sl 0 1 0 (code.map cB)] (Str) (fun y => .str y) (fun y => y.length ≤ 100000) := by
 refine WeakX.enter tab_ok Tryz.func9 rfl (.inr (by simp [V.labelsL, V.labels, V.labelsLL, zz, zf, zy, or_imp, forall_and])) (t := [.sl 0 1 0 (code.map cB), .any, .any, .any, .any, .any, .any, .any, .any, .any, .any, .any, .any, .any, .any, .any, .any, .any, .any, .any, .any, .any, .any, .any, .any, .any, .any, .any, .any, .any, .any, .any, .any, .any, .any, .any, .any, .any, .any, .any, .any, .any, .any, .any, .any, .any, .any, .any, .any, .any, .any, .any, .any, .any, .any, .any, .any, .any, .any, .any, .any, .any, .any, .any, .any, .any, .any, .any, .any, .any, .any, .any, .any, .any, .any, .any, .any, .any, .any, .any, .any, .any, .any, .any, .any, .any, .any, .any, .any, .any, .any, .any, .any, .any, .any, .any, .any, .any, .any, .any, .any, .any, .any, .any, .any, .any, .any, .any, .any, .any, .any]) rfl ?_
 refine OQ ?_
 refine EV ?_
 refine ON ?_
 refine OQ ?_
 refine EV ?_
 refine OkOps.turn _ rfl rfl (by simp only [kE, kT, kL, kC] <;> rfl) (by simp only [kE, kT, kL, kC] <;> rfl) cl22 (fun h => c_spec_l01New code hc) (by first | rfl | (simp only [Nat.add_zero, Nat.reduceAdd] <;> rfl)) (by simp only [List.map_cons, List.map_nil, kturn, fillA_ptr, fillA_far, fillA_self, zz, zf, zy, zev, ne_eq, Nat.reduceEqDiff, not_false_eq_true, List.length_map, id_eq, kP] <;> rfl) (rfl) ?_
 refine EV ?_
 refine ON ?_
 refine OQ ?_
 refine EV ?_
 refine OkOps.upd rfl rfl (by simp only [kE, kT, kL, kC] <;> rfl) (by simp only [kE, kT, kL, kC] <;> rfl) cl23 (fun h => c_spec_l01Below (curNew code) 30 0 hc (by decide)) (by simp only [eq_self, V.updL, V.travL, V.travLL, V.trav, updS, updP, and_self, true_and, and_true, false_and, and_false, Nat.reduceEqDiff, Nat.reduceSub, Nat.le_refl, Nat.zero_le, ↓reduceIte, if_true, if_false, kP, zz, zf, zy, zev] <;> rfl) (rfl) ?_
 obtain ⟨⟨v1, c1⟩, z1⟩ : ∃ z, curBelow (curNew code) 30 = z := ⟨_, rfl⟩
 have b1 : c1.b = code := by have h9 := curBelow_b (curNew code) 30; rw [z1] at h9; exact h9
 simp only [z1]
 refine EV ?_
 refine ON ?_
 refine OQ ?_
 refine EV ?_
 refine OkOps.upd rfl rfl (by simp only [kE, kT, kL, kC] <;> rfl) (by simp only [kE, kT, kL, kC] <;> rfl) cl23 (fun h => c_spec_l01Below c1 60 0 (by rw [b1]; exact hc) (by decide)) (by simp only [eq_self, V.updL, V.travL, V.travLL, V.trav, updS, updP, and_self, true_and, and_true, false_and, and_false, Nat.reduceEqDiff, Nat.reduceSub, Nat.le_refl, Nat.zero_le, ↓reduceIte, if_true, if_false, kP, zz, zf, zy, zev] <;> rfl) (rfl) ?_
 obtain ⟨⟨v2, c2⟩, z2⟩ : ∃ z, curBelow c1 60 = z := ⟨_, rfl⟩
 have b2 : c2.b = code := by have h9 := curBelow_b c1 60; rw [z2] at h9; exact h9.trans b1
 simp only [z2]
 refine EV ?_
 refine ON ?_
 refine OQ ?_
 refine EV ?_
 refine OkOps.weakX rfl rfl (by simp only [kE, kT, kL, kC] <;> rfl) (by simp only [kE, kT, kL, kC] <;> rfl) cl24 (x_spec_l20Events code hc) (fun y => by simp only [kP] <;> rfl) ?_
 rintro list ⟨hl16, hl62, hev⟩
 try dsimp only
 refine EV ?_
 refine ON ?_
 refine OQ ?_
 refine EV ?_
 refine ON ?_
 refine Ok.seq ?_
 refine OQ ?_
 refine EV ?_
 refine ON ?_
 refine Ok.block ?_
 refine Ok.bump (n' := 2) (by omega) ?_
 refine Ok.loopWZ (τ := Nat × Str) (fun x => [(7, .str x.2), (8, .int .i64 (x.1 : Int))]) [3, 9, 10, 11, 12, 13, 14, 15, 16, 17, 18, 19, 20, 21, 22, 23, 24, 25, 26, 27, 28, 29, 30, 31, 32, 33, 34, 35, 36, 37, 38, 39, 40, 41, 42, 43, 44, 45, 46, 47, 48, 49, 50, 51, 52, 53, 54, 55, 56, 57, 58, 59, 60, 61, 62, 63, 64, 65, 66, 67, 68, 69, 70, 71, 72, 73, 74, 75, 76, 77, 78, 79, 80, 81, 82, 83, 84, 85, 86, 87, 88, 89, 90, 91, 92, 93, 94, 95, 96, 97, 98, 99, 100, 101, 102, 103, 104, 105, 106, 107, 108, 109, 110] (fun x => by simp only [kover] <;> rfl) (fun x => x.1 ≤ list.length ∧ x.2.length ≤ 300 * x.1 ∧ x.1 ≤ x.2.length) (fun x => list.length - x.1) (0, []) (by omega) (by (repeat (first | exact trivial | refine leC ?_ | refine leK ?_ ?_)) <;> first | (first | exact le_rfl' _) | exact le_rfl' _) (⟨Nat.zero_le _, Nat.le_refl _, Nat.le_refl _⟩) ?_
 rintro ⟨i, s⟩ ⟨h1, h2, h3⟩
 dsimp only at h1 h2 h3 ⊢
 refine Ok.seq ?_
 refine OQ ?_
 iterate 4 (refine EV ?_)
 refine ON ?_
 refine OC (fun hb7 => ?_) (fun hb7 => ?_)
 ·
  try simp only [bsimp] at hb7
  have hi : i < list.length := by omega
  refine Ok.skip ?_
  refine Ok.seq ?_
  refine Ok.block ?_
  refine Ok.join (τ := Str) (fun x => [(7, .str x)]) [25, 26, 27, 28, 29, 30, 31, 32, 33, 34, 35, 36, 37] (fun x => by simp only [kover] <;> rfl) (fun x => []) (fun x => 3) (fun x => x.length ≤ s.length + 10 ∧ s.length ≤ x.length) ?_ ?_
  ·
   refine OQ ?_
   iterate 6 (refine EV ?_)
   refine ON ?_
   refine OC (fun hb9 => ?_) (fun hb9 => ?_)
   ·
    try simp only [bsimp] at hb9
    obtain ⟨w4, hw4, w4l⟩ : ∃ q : Nat, v2 % 4 = q ∧ q < 4 := ⟨_, rfl, Nat.mod_lt _ (by decide)⟩
    have mw4 : Int.tmod (v2 : Int) 4 = (w4 : Int) := by rw [Int.tmod_eq_emod_of_nonneg (by omega)]; omega
    have hg4 := getD_len (l := blanksL) (m := 10) (by decide) w4
    refine Ok.region ?_
    refine EV ?_
    refine OkOps.ev tab_ok rfl (ev_bs (by simp only [kT] <;> rfl) (by simp only [kT] <;> rfl) (by decide) (by decide) (by simp only [kE, kT, kL, kC, List.map_cons, List.map_nil] <;> rfl) (by simp only [kfe, beq_self_eq_true, Bool.and_true, Bool.true_and, decide_true, Nat.zero_add, Nat.lt_add_one, Nat.reduceLT, Nat.reduceAdd, Nat.zero_lt_succ, if_true, ↓reduceIte] <;> rfl)) (by simp only [kP] <;> rfl) ?_
    refine EV ?_
    refine OkOps.ev tab_ok rfl (by simp only [kE, kT, kL, kC, mw4] <;> rfl) (by simp only [kP] <;> rfl) ?_
    refine OkOps.ev tab_ok rfl (ev_idx (by simp only [kE, kT, kL, kC] <;> rfl) (by simp only [kE, kT, kL, kC] <;> rfl) (getS9 (l := blanksL) w4l) (by simp only [kE, kT, kL, kC] <;> rfl)) (by simp only [kP] <;> rfl) ?_
    refine EV ?_
    refine OkOps.ev tab_ok rfl (ev_cat (by simp only [kE, kT, kL, kC] <;> rfl) (by simp only [kE, kT, kL, kC] <;> rfl) (by first | omega | (simp only [List.length_append, List.length_cons, List.length_nil] at *; omega))) (by simp only [kP] <;> rfl) ?_
    refine EV ?_
    refine ON ?_
    refine ⟨s ++ blanksL.getD w4 [], ?_, rfl, (by omega), ⟨by rw [List.length_append]; omega, by rw [List.length_append]; omega⟩⟩
    (repeat (first | exact trivial | refine leC ?_ | refine leK ?_ ?_)) <;> first | (exact le_rfl' _) | exact le_rfl' _
   try simp only [bsimp] at hb9
   refine Ok.skip ?_
   refine ⟨s, ?_, rfl, (by omega), ⟨by omega, by omega⟩⟩
   (repeat (first | exact trivial | refine leC ?_ | refine leK ?_ ?_)) <;> first | (exact le_rfl' _) | exact le_rfl' _
  rintro s1 ⟨hs1, hs2⟩
  refine OQ ?_
  iterate 2 (refine EV ?_)
  refine OkOps.ev tab_ok rfl (ev_idx_map (by simp only [kE, kT, kL, kC] <;> rfl) (by simp only [kE, kT, kL, kC] <;> rfl) (hi) (by simp only [kE, kT, kL, kC] <;> rfl)) (by simp only [kP] <;> rfl) ?_
  refine EV ?_
  refine OkOps.weakX rfl rfl (by simp only [kE, kT, kL, kC] <;> rfl) (by simp only [kE, kT, kL, kC] <;> rfl) cl25 (x_spec_l23Show list[i] (hev.get hi)) (fun y => by simp only [kP] <;> rfl) ?_
  rintro line hline
  try dsimp only
  refine EV ?_
  refine ON ?_
  refine Ok.join (τ := Str) (fun x => [(9, .str x)]) [43, 44, 45, 46, 47, 48, 49, 50] (fun x => by simp only [kover] <;> rfl) (fun x => []) (fun x => 4) (fun x => x.length ≤ 200) ?_ ?_
  ·
   refine OQ ?_
   iterate 3 (refine EV ?_)
   refine ON ?_
   refine OC (fun hb12 => ?_) (fun hb12 => ?_)
   ·
    try simp only [bsimp] at hb12
    obtain ⟨w9, hw9, w9l⟩ : ∃ q : Nat, v2 % 9 = q ∧ q < 9 := ⟨_, rfl, Nat.mod_lt _ (by decide)⟩
    have mw9 : Int.tmod (v2 : Int) 9 = (w9 : Int) := by rw [Int.tmod_eq_emod_of_nonneg (by omega)]; omega
    have hg9 := getD_len (l := wrongL) (m := 10) (by decide) w9
    refine Ok.region ?_
    refine OkOps.ev tab_ok rfl (ev_bs (by simp only [kT] <;> rfl) (by simp only [kT] <;> rfl) (by decide) (by decide) (by simp only [kE, kT, kL, kC, List.map_cons, List.map_nil] <;> rfl) (by simp only [kfe, beq_self_eq_true, Bool.and_true, Bool.true_and, decide_true, Nat.zero_add, Nat.lt_add_one, Nat.reduceLT, Nat.reduceAdd, Nat.zero_lt_succ, if_true, ↓reduceIte] <;> rfl)) (by simp only [kP] <;> rfl) ?_
    refine EV ?_
    refine OkOps.ev tab_ok rfl (by simp only [kE, kT, kL, kC, mw9] <;> rfl) (by simp only [kP] <;> rfl) ?_
    refine OkOps.ev tab_ok rfl (ev_idx (by simp only [kE, kT, kL, kC] <;> rfl) (by simp only [kE, kT, kL, kC] <;> rfl) (getS9 (l := wrongL) w9l) (by simp only [kE, kT, kL, kC] <;> rfl)) (by simp only [kP] <;> rfl) ?_
    iterate 2 (refine EV ?_)
    refine ON ?_
    refine ⟨wrongL.getD w9 [], ?_, rfl, (by omega), (by omega)⟩
    (repeat (first | exact trivial | refine leC ?_ | refine leK ?_ ?_)) <;> first | (exact le_rfl' _) | exact le_rfl' _
   try simp only [bsimp] at hb12
   refine Ok.skip ?_
   refine ⟨line, ?_, rfl, (by omega), hline⟩
   (repeat (first | exact trivial | refine leC ?_ | refine leK ?_ ?_)) <;> first | (exact le_rfl' _) | exact le_rfl' _
  rintro l1 hl1
  refine Ok.region ?_
  iterate 2 (refine EV ?_)
  iterate 2 (refine OkOps.ev tab_ok rfl (ev_cat (by simp only [kE, kT, kL, kC] <;> rfl) (by simp only [kE, kT, kL, kC] <;> rfl) (by first | omega | (simp only [List.length_append, List.length_cons, List.length_nil] at *; omega))) (by simp only [kP] <;> rfl) ?_)
  refine EV ?_
  refine ON ?_
  refine Ok.region ?_
  iterate 3 (refine EV ?_)
  refine ON ?_
  refine ⟨(i + 1, s1 ++ l1 ++ [10]), ?_, rfl, ⟨by dsimp only; omega, by simp only [List.length_append, List.length_cons, List.length_nil]; omega, by simp only [List.length_append, List.length_cons, List.length_nil]; omega⟩, (by dsimp only; omega)⟩
  simp only [V.renL, V.travL, V.travLL, V.trav, frz, zz, zf, zy, zev, Nat.reduceLeDiff, ↓reduceIte]
  (repeat (first | exact trivial | refine leC ?_ | refine leK ?_ ?_)) <;> first | (first | exact le_rfl' _ | (rw [wrap_succ (by omega)]; exact le_rfl' _)) | exact le_rfl' _
 try simp only [bsimp] at hb7
 refine Ok.exit ?_
 refine Ok.join (τ := Str) (fun x => [(7, .str x)]) [2, 10, 55, 56, 57, 58, 59, 60, 61, 62, 63, 64, 65, 66, 67, 68, 69, 70, 71, 72, 73, 74, 75, 76, 77, 78, 79, 80, 81, 82, 83, 84, 85, 86, 87, 88, 89, 90, 91, 92, 93] (fun x => by simp only [kover] <;> rfl) (fun x => []) (fun x => 10) (fun x => x.length ≤ 90000) ?_ ?_
 ·
  refine OQ ?_
  refine EV ?_
  refine ON ?_
  refine Ok.block ?_
  refine OQ ?_
  iterate 2 (refine EV ?_)
  refine ON ?_
  refine OC (fun hb16 => ?_) (fun hb16 => ?_)
  ·
   try simp only [bsimp] at hb16
   refine Ok.seq ?_
   obtain ⟨w8, hw8, w8l⟩ : ∃ q : Nat, v2 % 8 = q ∧ q < 8 := ⟨_, rfl, Nat.mod_lt _ (by decide)⟩
   have mw8 : Int.tmod (v2 : Int) 8 = (w8 : Int) := by rw [Int.tmod_eq_emod_of_nonneg (by omega)]; omega
   have hg8 := getD_len (l := oddL) (m := 10) (by decide) w8
   refine Ok.region ?_
   refine OkOps.ev tab_ok rfl (ev_bs (by simp only [kT] <;> rfl) (by simp only [kT] <;> rfl) (by decide) (by decide) (by simp only [kE, kT, kL, kC, List.map_cons, List.map_nil] <;> rfl) (by simp only [kfe, beq_self_eq_true, Bool.and_true, Bool.true_and, decide_true, Nat.zero_add, Nat.lt_add_one, Nat.reduceLT, Nat.reduceAdd, Nat.zero_lt_succ, if_true, ↓reduceIte] <;> rfl)) (by simp only [kP] <;> rfl) ?_
   refine EV ?_
   refine OkOps.ev tab_ok rfl (by simp only [kE, kT, kL, kC, mw8] <;> rfl) (by simp only [kP] <;> rfl) ?_
   refine OkOps.ev tab_ok rfl (ev_idx (by simp only [kE, kT, kL, kC] <;> rfl) (by simp only [kE, kT, kL, kC] <;> rfl) (getS9 (l := oddL) w8l) (by simp only [kE, kT, kL, kC] <;> rfl)) (by simp only [kP] <;> rfl) ?_
   iterate 2 (refine EV ?_)
   refine ON ?_
   refine Ok.ret ?_
   with_reducible repeat (first | refine thenQ_ret ?_ | refine blockQ_ret ?_)
   refine RT ?_
   exact ⟨_, by first | omega | (simp only [List.length_append, List.length_cons, List.length_nil]; omega), rfl⟩
  try simp only [bsimp] at hb16
  refine OQ ?_
  iterate 2 (refine EV ?_)
  refine ON ?_
  refine OC (fun hb18 => ?_) (fun hb18 => ?_)
  ·
   try simp only [bsimp] at hb18
   refine OQ ?_
   iterate 3 (refine EV ?_)
   refine ON ?_
   refine OC (fun hb19 => ?_) (fun hb19 => ?_)
   ·
    try simp only [bsimp] at hb19
    have hs1 : s.length < 3000 := by omega
    obtain ⟨w2, hw2, w2l⟩ : ∃ q : Nat, v2 % 2 = q ∧ q < 2 := ⟨_, rfl, Nat.mod_lt _ (by decide)⟩
    have mw2 : Int.tmod (v2 : Int) 2 = (w2 : Int) := by rw [Int.tmod_eq_emod_of_nonneg (by omega)]; omega
    have hs2 : IntKind.i64.wrap (3000 - (s.length : Int)) = 3000 - (s.length : Int) := by rw [IntKind.wrap_i64]; omega
    have hs3 : IntKind.i64.wrap (3000 - (s.length : Int) - 1) = 3000 - (s.length : Int) - 1 := by rw [IntKind.wrap_i64]; omega
    have hs4 : IntKind.i64.wrap (3000 - (s.length : Int) - 1 + (w2 : Int)) = ((2999 - s.length + w2 : Nat) : Int) := by rw [IntKind.wrap_i64]; omega
    have hs5 := longT_len (2999 - s.length + w2) 32
    refine Ok.region ?_
    refine EV ?_
    refine OkOps.ev tab_ok rfl (ev_cat (by simp only [kE, kT, kL, kC] <;> rfl) (by simp only [kE, kT, kL, kC] <;> rfl) (by first | omega | (simp only [List.length_append, List.length_cons, List.length_nil] at *; omega))) (by simp only [kP] <;> rfl) ?_
    iterate 2 (refine EV ?_)
    refine OkOps.ev tab_ok rfl (by simp only [kE, kT, kL, kC, hs2] <;> rfl) (by simp only [kP] <;> rfl) ?_
    refine OkOps.ev tab_ok rfl (by simp only [kE, kT, kL, kC, hs3] <;> rfl) (by simp only [kP] <;> rfl) ?_
    refine EV ?_
    refine OkOps.ev tab_ok rfl (by simp only [kE, kT, kL, kC, mw2] <;> rfl) (by simp only [kP] <;> rfl) ?_
    refine OkOps.ev tab_ok rfl (by simp only [kE, kT, kL, kC, hs4] <;> rfl) (by simp only [kP] <;> rfl) ?_
    refine OW cl26 (w_spec_l01Long (2999 - s.length + w2) 32 (by omega)) ?_
    refine OkOps.ev tab_ok rfl (ev_cat (by simp only [kE, kT, kL, kC] <;> rfl) (by simp only [kE, kT, kL, kC] <;> rfl) (by first | omega | (simp only [List.length_append, List.length_cons, List.length_nil] at *; omega))) (by simp only [kP] <;> rfl) ?_
    refine EV ?_
    refine ON ?_
    refine ⟨s ++ [35] ++ longT (2999 - s.length + w2) 32, ?_, rfl, (by omega), (by simp only [List.length_append, List.length_cons, List.length_nil]; omega)⟩
    (repeat (first | exact trivial | refine leC ?_ | refine leK ?_ ?_)) <;> first | (exact le_rfl' _) | exact le_rfl' _
   try simp only [bsimp] at hb19
   refine Ok.skip ?_
   refine ⟨s, ?_, rfl, (by omega), (by omega)⟩
   (repeat (first | exact trivial | refine leC ?_ | refine leK ?_ ?_)) <;> first | (exact le_rfl' _) | exact le_rfl' _
  try simp only [bsimp] at hb18
  refine OQ ?_
  iterate 2 (refine EV ?_)
  refine ON ?_
  refine OC (fun hb21 => ?_) (fun hb21 => ?_)
  ·
   try simp only [bsimp] at hb21
   have hs6 : IntKind.i64.wrap ((s.length : Int) - 1) = ((s.length - 1 : Nat) : Int) := by rw [IntKind.wrap_i64]; omega
   refine Ok.region ?_
   iterate 3 (refine EV ?_)
   refine OkOps.ev tab_ok rfl (by simp only [kE, kT, kL, kC, hs6] <;> rfl) (by simp only [kP] <;> rfl) ?_
   refine OkOps.ev tab_ok rfl (ev_cutHi (by simp only [kE, kT, kL, kC] <;> rfl) (by simp only [kE, kT, kL, kC] <;> rfl) rfl (by omega)) (by simp only [kP] <;> rfl) ?_
   refine EV ?_
   refine ON ?_
   refine ⟨s.take (s.length - 1), ?_, rfl, (by omega), (by rw [List.length_take]; omega)⟩
   (repeat (first | exact trivial | refine leC ?_ | refine leK ?_ ?_)) <;> first | (exact le_rfl' _) | exact le_rfl' _
  try simp only [bsimp] at hb21
  refine OQ ?_
  iterate 2 (refine EV ?_)
  refine ON ?_
  refine OC (fun hb23 => ?_) (fun hb23 => ?_)
  ·
   try simp only [bsimp] at hb23
   refine OQ ?_
   refine EV ?_
   refine ON ?_
   refine Ok.block ?_
   refine Ok.bump (n' := 2) (by omega) ?_
   refine Ok.loopWZ (τ := Nat × Str) (fun x => [(7, .str x.2), (10, .int .i64 (x.1 : Int))]) [88, 89, 90, 91, 92, 93] (fun x => by simp only [kover] <;> rfl) (fun x => x.1 ≤ 101 ∧ x.2.length ≤ s.length + 5 * x.1 ∧ s.length ≤ x.2.length) (fun x => 101 - x.1) (0, s) (by omega) (by (repeat (first | exact trivial | refine leC ?_ | refine leK ?_ ?_)) <;> first | (first | exact le_rfl' _) | exact le_rfl' _) (⟨Nat.zero_le _, Nat.le_refl _, Nat.le_refl _⟩) ?_
   rintro ⟨i, s5⟩ ⟨h1, h2, h3⟩
   dsimp only at h1 h2 h3 ⊢
   refine Ok.seq ?_
   refine OQ ?_
   iterate 2 (refine EV ?_)
   refine ON ?_
   refine OC (fun hb25 => ?_) (fun hb25 => ?_)
   ·
    try simp only [bsimp] at hb25
    refine Ok.skip ?_
    refine Ok.seq ?_
    refine Ok.block ?_
    refine Ok.region ?_
    refine EV ?_
    refine OkOps.ev tab_ok rfl (ev_cat (by simp only [kE, kT, kL, kC] <;> rfl) (by simp only [kE, kT, kL, kC] <;> rfl) (by first | omega | (simp only [List.length_append, List.length_cons, List.length_nil] at *; omega))) (by simp only [kP] <;> rfl) ?_
    refine EV ?_
    refine ON ?_
    refine Ok.region ?_
    iterate 3 (refine EV ?_)
    refine ON ?_
    refine ⟨(i + 1, s5 ++ [109, 101, 101, 116, 10]), ?_, rfl, ⟨by dsimp only; omega, by simp only [List.length_append, List.length_cons, List.length_nil]; omega, by simp only [List.length_append, List.length_cons, List.length_nil]; omega⟩, (by dsimp only; omega)⟩
    simp only [V.renL, V.travL, V.travLL, V.trav, frz, zz, zf, zy, zev, Nat.reduceLeDiff, ↓reduceIte]
    (repeat (first | exact trivial | refine leC ?_ | refine leK ?_ ?_)) <;> first | (first | exact le_rfl' _ | (rw [wrap_succ (by omega)]; exact le_rfl' _)) | exact le_rfl' _
   try simp only [bsimp] at hb25
   refine Ok.exit ?_
   refine ⟨s5, ?_, rfl, (by omega), (by omega)⟩
   (repeat (first | exact trivial | refine leC ?_ | refine leK ?_ ?_)) <;> first | (exact le_rfl' _) | exact le_rfl' _
  try simp only [bsimp] at hb23
  refine Ok.skip ?_
  refine ⟨s, ?_, rfl, (by omega), (by omega)⟩
  (repeat (first | exact trivial | refine leC ?_ | refine leK ?_ ?_)) <;> first | (exact le_rfl' _) | exact le_rfl' _
 rintro s hs
 refine Ok.seq ?_
 refine OQ ?_
 iterate 3 (refine EV ?_)
 refine OP (d := 96) (fun hg28_2 => ?_) (fun hg28_2 => ?_)
 ·
  try simp only [bsimp] at hg28_2
  refine OX ?_
  refine OO ?_
  iterate 3 (refine EV ?_)
  refine OP (d := 100) (fun hg28_6 => ?_) (fun hg28_6 => ?_)
  ·
   try simp only [bsimp] at hg28_6
   have hs0 : 0 < s.length := by first | omega | (rcases s with _ | ⟨x, s⟩ <;> first | exact Nat.succ_pos _ | (exfalso; simp_all; done))
   have hs7 : IntKind.i64.wrap ((s.length : Int) - 1) = ((s.length - 1 : Nat) : Int) := by rw [IntKind.wrap_i64]; omega
   iterate 3 (refine OX ?_)
   refine OO ?_
   refine OkOps.ev tab_ok rfl (by simp only [kE, kT, kL, kC, hs7] <;> rfl) (by simp only [kP] <;> rfl) ?_
   refine OO ?_
   refine OkOps.ev tab_ok rfl (ev_byte_lt (by simp only [kE, kT, kL, kC] <;> rfl) (by simp only [kE, kT, kL, kC] <;> rfl) ((by omega)) rfl) (by simp only [kP] <;> rfl) ?_
   refine OO ?_
   iterate 2 (refine EV ?_)
   refine ON ?_
   refine OC (fun hb28 => ?_) (fun hb28 => ?_)
   ·
    try simp only [bsimp] at hb28
    refine Ok.region ?_
    refine EV ?_
    refine OkOps.ev tab_ok rfl (ev_cat (by simp only [kE, kT, kL, kC] <;> rfl) (by simp only [kE, kT, kL, kC] <;> rfl) (by first | omega | (simp only [List.length_append, List.length_cons, List.length_nil] at *; omega))) (by simp only [kP] <;> rfl) ?_
    refine EV ?_
    refine ON ?_
    refine OQ ?_
    iterate 2 (refine EV ?_)
    refine ON ?_
    refine Ok.ret ?_
    with_reducible repeat (first | refine thenQ_ret ?_ | refine blockQ_ret ?_)
    refine RT ?_
    exact ⟨_, by first | omega | (simp only [List.length_append, List.length_cons, List.length_nil]; omega), rfl⟩
   try simp only [bsimp] at hb28
   refine Ok.skip ?_
   refine OQ ?_
   iterate 2 (refine EV ?_)
   refine ON ?_
   refine Ok.ret ?_
   with_reducible repeat (first | refine thenQ_ret ?_ | refine blockQ_ret ?_)
   refine RT ?_
   exact ⟨_, by first | omega | (simp only [List.length_append, List.length_cons, List.length_nil]; omega), rfl⟩
  try simp only [bsimp] at hg28_6
  iterate 6 (refine OU ?_)
  refine EV ?_
  refine ON ?_
  refine Ok.cond_false (by simp only [kE, kT, kL, kC] <;> rfl) ?_
  refine Ok.skip ?_
  refine OQ ?_
  iterate 2 (refine EV ?_)
  refine ON ?_
  refine Ok.ret ?_
  with_reducible repeat (first | refine thenQ_ret ?_ | refine blockQ_ret ?_)
  refine RT ?_
  exact ⟨_, by first | omega | (simp only [List.length_append, List.length_cons, List.length_nil]; omega), rfl⟩
 try simp only [bsimp] at hg28_2
 refine OU ?_
 refine OU ?_
 iterate 2 (refine EV ?_)
 iterate 6 (refine OU ?_)
 refine EV ?_
 refine ON ?_
 refine Ok.cond_false (by simp only [kE, kT, kL, kC] <;> rfl) ?_
 refine Ok.skip ?_
 refine OQ ?_
 iterate 2 (refine EV ?_)
 refine ON ?_
 refine Ok.ret ?_
 with_reducible repeat (first | refine thenQ_ret ?_ | refine blockQ_ret ?_)
 refine RT ?_
 exact ⟨_, by first | omega | (simp only [List.length_append, List.length_cons, List.length_nil]; omega), rfl⟩
theorem x_spec_DrawReadScript (code : Str) (hc : code.length ≤ 4611686018427387904) : WeakX Tryz.prog 5 [.sl 0 1 0 (code.map cB)] (Str) (fun y => .str y) (fun y => y.length ≤ 100000) := by
 refine WeakX.enter tab_ok Tryz.func5 rfl (.inr (by simp [V.labelsL, V.labels, V.labelsLL, zz, zf, zy, or_imp, forall_and])) (t := [.sl 0 1 0 (code.map cB), .any, .any, .any, .any]) rfl ?_
 refine OQ ?_
 refine EV ?_
 refine ON ?_
 refine OQ ?_
 refine EV ?_
 refine OkOps.weakX rfl rfl (by simp only [kE, kT, kL, kC] <;> rfl) (by simp only [kE, kT, kL, kC] <;> rfl) cl9 (x_spec_l23Script code hc) (fun y => by simp only [kP] <;> rfl) ?_
 rintro s hs
 try dsimp only
 refine EV ?_
 refine ON ?_
 refine Ok.ret ?_
 with_reducible repeat (first | refine thenQ_ret ?_ | refine blockQ_ret ?_)
 refine RT ?_
 exact ⟨s, hs, rfl⟩
end Go.Proofs.YtliiphpbfambcaaGreatDoor.K

/- Walks: words of scripts. Printed by w2.py. -/
namespace Go.Proofs.YtliiphpbfambcaaGreatDoor.K
open Go Go.RowKit
set_option linter.unusedVariables false
set_option linter.unusedSimpArgs false
set_option maxHeartbeats 4000000
set_option maxRecDepth 20000
theorem w_spec_l23Join (p : List Str) (o : Nat) (hp : p.length ≤ 1000) (hl : ∀ x ∈ p, x.length ≤ 1000000) : Weak Tryz.prog 34 [.sl 0 1 o (p.map cS)] (.str (joinB p)) := by
 refine Weak.enter tab_ok Tryz.func34 rfl (.inr (by simp [V.labelsL, V.labels, zz, zf, zy])) (t := [.sl 0 1 o (p.map cS), .any, .any, .any, .any, .any, .any, .any, .any, .any, .any, .any, .any, .any, .any, .any, .any, .any, .any, .any, .any, .any]) rfl ?_
 refine OQ ?_
 refine EV ?_
 refine ON ?_
 refine OQ ?_
 refine EV ?_
 refine ON ?_
 refine Ok.seq ?_
 refine OQ ?_
 refine EV ?_
 refine ON ?_
 refine Ok.block ?_
 refine Ok.loopW (τ := Nat) (fun x => [(3, .str (joinB (p.take x))), (4, .int .i64 (x : Int))]) [5, 6, 7, 8, 9, 10, 11, 12, 13, 14, 15, 16, 17, 18, 19, 20] (fun x => by simp only [kover] <;> rfl) (fun x => x ≤ p.length) (fun x => p.length - x) 0 (by (repeat (first | exact trivial | refine leC ?_ | refine leK ?_ ?_)) <;> first | (first | exact le_rfl' _ | exact le_eqm rfl) | exact le_rfl' _) (Nat.zero_le _) ?_
 rintro i h1
 have hj : (joinB (p.take i)).length ≤ 1000001000 := by
   have h9 := joinB_len (l := p.take i) (m := 1000000) fun x hx => hl x (List.mem_of_mem_take hx)
   have h8 : (p.take i).length ≤ 1000 := by rw [List.length_take]; omega
   omega
 refine Ok.seq ?_
 refine OQ ?_
 iterate 4 (refine EV ?_)
 refine ON ?_
 refine OC (fun hb3 => ?_) (fun hb3 => ?_)
 ·
  try simp only [bsimp] at hb3
  have hi : i < p.length := by omega
  have hxl := hl _ (List.getElem_mem hi)
  refine Ok.skip ?_
  refine Ok.seq ?_
  refine Ok.block ?_
  refine Ok.seq ?_
  refine OQ ?_
  iterate 2 (refine EV ?_)
  refine ON ?_
  refine OC (fun hb5 => ?_) (fun hb5 => ?_)
  ·
   try simp only [bsimp] at hb5
   have hn := joinB_next hi (by omega)
   refine Ok.region ?_
   refine EV ?_
   refine OkOps.ev tab_ok rfl (ev_cat (by simp only [kE, kT, kL, kC] <;> rfl) (by simp only [kE, kT, kL, kC] <;> rfl) (by first | omega | (simp only [List.length_append, List.length_cons, List.length_nil, List.take_zero, joinB] at *; omega))) (by simp only [kP] <;> rfl) ?_
   refine EV ?_
   refine ON ?_
   refine Ok.region ?_
   iterate 3 (refine EV ?_)
   refine OkOps.ev tab_ok rfl (ev_idx_map (by simp only [kE, kT, kL, kC] <;> rfl) (by simp only [kE, kT, kL, kC] <;> rfl) (by omega) (by simp only [kE, kT, kL, kC] <;> rfl)) (by simp only [kP] <;> rfl) ?_
   refine EV ?_
   refine OkOps.ev tab_ok rfl (ev_cat (by simp only [kE, kT, kL, kC] <;> rfl) (by simp only [kE, kT, kL, kC] <;> rfl) (by first | omega | (simp only [List.length_append, List.length_cons, List.length_nil, List.take_zero, joinB] at *; omega))) (by simp only [kP] <;> rfl) ?_
   refine EV ?_
   refine ON ?_
   refine Ok.region ?_
   iterate 3 (refine EV ?_)
   refine ON ?_
   refine ⟨i + 1, ?_, rfl, rfl, by omega, by omega⟩
   (repeat (first | exact trivial | refine leC ?_ | refine leK ?_ ?_)) <;> first | (first | exact le_rfl' _ | (rw [wrap_succ (by omega)]; exact le_rfl' _) | exact .inl (congrArg V.str hn.symm)) | exact le_rfl' _
  try simp only [bsimp] at hb5
  have hn := joinB_one' hi (by omega)
  refine Ok.skip ?_
  refine Ok.region ?_
  iterate 3 (refine EV ?_)
  refine OkOps.ev tab_ok rfl (ev_idx_map (by simp only [kE, kT, kL, kC] <;> rfl) (by simp only [kE, kT, kL, kC] <;> rfl) (by omega) (by simp only [kE, kT, kL, kC] <;> rfl)) (by simp only [kP] <;> rfl) ?_
  refine EV ?_
  refine OkOps.ev tab_ok rfl (ev_cat (by simp only [kE, kT, kL, kC] <;> rfl) (by simp only [kE, kT, kL, kC] <;> rfl) (by first | omega | (simp only [List.length_append, List.length_cons, List.length_nil, List.take_zero, joinB] at *; omega))) (by simp only [kP] <;> rfl) ?_
  refine EV ?_
  refine ON ?_
  refine Ok.region ?_
  iterate 3 (refine EV ?_)
  refine ON ?_
  refine ⟨i + 1, ?_, rfl, rfl, by omega, by omega⟩
  (repeat (first | exact trivial | refine leC ?_ | refine leK ?_ ?_)) <;> first | (first | exact le_rfl' _ | (rw [wrap_succ (by omega)]; exact le_rfl' _) | exact .inl (congrArg V.str hn.symm)) | exact le_rfl' _
 try simp only [bsimp] at hb3
 obtain rfl : i = p.length := by omega
 rw [List.take_length]
 refine Ok.exit ?_
 refine OQ ?_
 iterate 2 (refine EV ?_)
 refine ON ?_
 refine Ok.ret ?_
 with_reducible repeat (first | refine thenQ_ret ?_ | refine blockQ_ret ?_)
 refine RT ?_
 rfl
theorem w_spec_l23Kind (w : Str) : Weak Tryz.prog 35 [.str w] (vKS w) := by
 refine Weak.enter tab_ok Tryz.func35 rfl (.inr (by simp [V.labelsL, V.labels, zz, zf, zy])) (t := [.str w, .any, .any, .any, .any, .any, .any, .any, .any, .any, .any, .any, .any, .any, .any, .any, .any, .any, .any, .any, .any, .any, .any]) rfl ?_
 refine OQ ?_
 iterate 2 (refine EV ?_)
 refine ON ?_
 refine Ok.seq ?_
 refine OQ ?_
 refine EV ?_
 refine ON ?_
 refine Ok.block ?_
 refine OQ ?_
 iterate 2 (refine EV ?_)
 refine ON ?_
 refine OC (fun hb2 => ?_) (fun hb2 => ?_)
 ·
  try simp only [bsimp] at hb2
  subst hb2
  refine OQ ?_
  iterate 2 (refine EV ?_)
  refine ON ?_
  refine Ok.ret ?_
  with_reducible repeat (first | refine thenQ_ret ?_ | refine blockQ_ret ?_)
  refine RT ?_
  first | rfl | (simp [vKS, kS, kI, kindOf, kinds, V.erase, V.trav, V.travL, packV, zz, zf, zy, (show ∀ a : Str, (a = w) = (w = a) from fun a => propext eq_comm), *]; done)
 try simp only [bsimp] at hb2
 refine OQ ?_
 iterate 2 (refine EV ?_)
 refine ON ?_
 refine OC (fun hb4 => ?_) (fun hb4 => ?_)
 ·
  try simp only [bsimp] at hb4
  subst hb4
  refine OQ ?_
  iterate 2 (refine EV ?_)
  refine ON ?_
  refine Ok.ret ?_
  with_reducible repeat (first | refine thenQ_ret ?_ | refine blockQ_ret ?_)
  refine RT ?_
  first | rfl | (simp [vKS, kS, kI, kindOf, kinds, V.erase, V.trav, V.travL, packV, zz, zf, zy, (show ∀ a : Str, (a = w) = (w = a) from fun a => propext eq_comm), *]; done)
 try simp only [bsimp] at hb4
 refine OQ ?_
 iterate 2 (refine EV ?_)
 refine ON ?_
 refine OC (fun hb6 => ?_) (fun hb6 => ?_)
 ·
  try simp only [bsimp] at hb6
  subst hb6
  refine OQ ?_
  iterate 2 (refine EV ?_)
  refine ON ?_
  refine Ok.ret ?_
  with_reducible repeat (first | refine thenQ_ret ?_ | refine blockQ_ret ?_)
  refine RT ?_
  first | rfl | (simp [vKS, kS, kI, kindOf, kinds, V.erase, V.trav, V.travL, packV, zz, zf, zy, (show ∀ a : Str, (a = w) = (w = a) from fun a => propext eq_comm), *]; done)
 try simp only [bsimp] at hb6
 refine OQ ?_
 iterate 2 (refine EV ?_)
 refine ON ?_
 refine OC (fun hb8 => ?_) (fun hb8 => ?_)
 ·
  try simp only [bsimp] at hb8
  subst hb8
  refine OQ ?_
  iterate 2 (refine EV ?_)
  refine ON ?_
  refine Ok.ret ?_
  with_reducible repeat (first | refine thenQ_ret ?_ | refine blockQ_ret ?_)
  refine RT ?_
  first | rfl | (simp [vKS, kS, kI, kindOf, kinds, V.erase, V.trav, V.travL, packV, zz, zf, zy, (show ∀ a : Str, (a = w) = (w = a) from fun a => propext eq_comm), *]; done)
 try simp only [bsimp] at hb8
 refine OQ ?_
 iterate 2 (refine EV ?_)
 refine ON ?_
 refine OC (fun hb10 => ?_) (fun hb10 => ?_)
 ·
  try simp only [bsimp] at hb10
  subst hb10
  refine OQ ?_
  iterate 2 (refine EV ?_)
  refine ON ?_
  refine Ok.ret ?_
  with_reducible repeat (first | refine thenQ_ret ?_ | refine blockQ_ret ?_)
  refine RT ?_
  first | rfl | (simp [vKS, kS, kI, kindOf, kinds, V.erase, V.trav, V.travL, packV, zz, zf, zy, (show ∀ a : Str, (a = w) = (w = a) from fun a => propext eq_comm), *]; done)
 try simp only [bsimp] at hb10
 refine OQ ?_
 iterate 2 (refine EV ?_)
 refine ON ?_
 refine OC (fun hb12 => ?_) (fun hb12 => ?_)
 ·
  try simp only [bsimp] at hb12
  subst hb12
  refine OQ ?_
  iterate 2 (refine EV ?_)
  refine ON ?_
  refine Ok.ret ?_
  with_reducible repeat (first | refine thenQ_ret ?_ | refine blockQ_ret ?_)
  refine RT ?_
  first | rfl | (simp [vKS, kS, kI, kindOf, kinds, V.erase, V.trav, V.travL, packV, zz, zf, zy, (show ∀ a : Str, (a = w) = (w = a) from fun a => propext eq_comm), *]; done)
 try simp only [bsimp] at hb12
 refine OQ ?_
 iterate 2 (refine EV ?_)
 refine ON ?_
 refine OC (fun hb14 => ?_) (fun hb14 => ?_)
 ·
  try simp only [bsimp] at hb14
  subst hb14
  refine OQ ?_
  iterate 2 (refine EV ?_)
  refine ON ?_
  refine Ok.ret ?_
  with_reducible repeat (first | refine thenQ_ret ?_ | refine blockQ_ret ?_)
  refine RT ?_
  first | rfl | (simp [vKS, kS, kI, kindOf, kinds, V.erase, V.trav, V.travL, packV, zz, zf, zy, (show ∀ a : Str, (a = w) = (w = a) from fun a => propext eq_comm), *]; done)
 try simp only [bsimp] at hb14
 refine OQ ?_
 iterate 2 (refine EV ?_)
 refine ON ?_
 refine OC (fun hb16 => ?_) (fun hb16 => ?_)
 ·
  try simp only [bsimp] at hb16
  subst hb16
  refine OQ ?_
  iterate 2 (refine EV ?_)
  refine ON ?_
  refine Ok.ret ?_
  with_reducible repeat (first | refine thenQ_ret ?_ | refine blockQ_ret ?_)
  refine RT ?_
  first | rfl | (simp [vKS, kS, kI, kindOf, kinds, V.erase, V.trav, V.travL, packV, zz, zf, zy, (show ∀ a : Str, (a = w) = (w = a) from fun a => propext eq_comm), *]; done)
 try simp only [bsimp] at hb16
 refine OQ ?_
 iterate 2 (refine EV ?_)
 refine ON ?_
 refine OC (fun hb18 => ?_) (fun hb18 => ?_)
 ·
  try simp only [bsimp] at hb18
  subst hb18
  refine OQ ?_
  iterate 2 (refine EV ?_)
  refine ON ?_
  refine Ok.ret ?_
  with_reducible repeat (first | refine thenQ_ret ?_ | refine blockQ_ret ?_)
  refine RT ?_
  first | rfl | (simp [vKS, kS, kI, kindOf, kinds, V.erase, V.trav, V.travL, packV, zz, zf, zy, (show ∀ a : Str, (a = w) = (w = a) from fun a => propext eq_comm), *]; done)
 try simp only [bsimp] at hb18
 refine Ok.skip ?_
 refine OQ ?_
 iterate 2 (refine EV ?_)
 refine ON ?_
 refine Ok.ret ?_
 with_reducible repeat (first | refine thenQ_ret ?_ | refine blockQ_ret ?_)
 refine RT ?_
 first | rfl | (simp [vKS, kS, kI, kindOf, kinds, V.erase, V.trav, V.travL, packV, zz, zf, zy, (show ∀ a : Str, (a = w) = (w = a) from fun a => propext eq_comm), *]; done)
theorem w_impl_kindOf (w : Str) : Weak Tryz.prog 32 [.str w] (vKI w) := by
 refine Weak.enter tab_ok Tryz.func32 rfl (.inr (by simp [V.labelsL, V.labels, zz, zf, zy])) (t := [.str w, .any, .any, .any, .any, .any, .any, .any, .any, .any, .any, .any, .any, .any, .any, .any, .any, .any, .any, .any, .any, .any, .any]) rfl ?_
 refine OQ ?_
 iterate 2 (refine EV ?_)
 refine ON ?_
 refine Ok.seq ?_
 refine OQ ?_
 refine EV ?_
 refine ON ?_
 refine Ok.block ?_
 refine OQ ?_
 iterate 2 (refine EV ?_)
 refine ON ?_
 refine OC (fun hb2 => ?_) (fun hb2 => ?_)
 ·
  try simp only [bsimp] at hb2
  subst hb2
  refine OQ ?_
  iterate 2 (refine EV ?_)
  refine ON ?_
  refine Ok.ret ?_
  with_reducible repeat (first | refine thenQ_ret ?_ | refine blockQ_ret ?_)
  refine RT ?_
  first | rfl | (simp [vKI, kS, kI, kindOf, kinds, V.erase, V.trav, V.travL, packV, zz, zf, zy, (show ∀ a : Str, (a = w) = (w = a) from fun a => propext eq_comm), *]; done)
 try simp only [bsimp] at hb2
 refine OQ ?_
 iterate 2 (refine EV ?_)
 refine ON ?_
 refine OC (fun hb4 => ?_) (fun hb4 => ?_)
 ·
  try simp only [bsimp] at hb4
  subst hb4
  refine OQ ?_
  iterate 2 (refine EV ?_)
  refine ON ?_
  refine Ok.ret ?_
  with_reducible repeat (first | refine thenQ_ret ?_ | refine blockQ_ret ?_)
  refine RT ?_
  first | rfl | (simp [vKI, kS, kI, kindOf, kinds, V.erase, V.trav, V.travL, packV, zz, zf, zy, (show ∀ a : Str, (a = w) = (w = a) from fun a => propext eq_comm), *]; done)
 try simp only [bsimp] at hb4
 refine OQ ?_
 iterate 2 (refine EV ?_)
 refine ON ?_
 refine OC (fun hb6 => ?_) (fun hb6 => ?_)
 ·
  try simp only [bsimp] at hb6
  subst hb6
  refine OQ ?_
  iterate 2 (refine EV ?_)
  refine ON ?_
  refine Ok.ret ?_
  with_reducible repeat (first | refine thenQ_ret ?_ | refine blockQ_ret ?_)
  refine RT ?_
  first | rfl | (simp [vKI, kS, kI, kindOf, kinds, V.erase, V.trav, V.travL, packV, zz, zf, zy, (show ∀ a : Str, (a = w) = (w = a) from fun a => propext eq_comm), *]; done)
 try simp only [bsimp] at hb6
 refine OQ ?_
 iterate 2 (refine EV ?_)
 refine ON ?_
 refine OC (fun hb8 => ?_) (fun hb8 => ?_)
 ·
  try simp only [bsimp] at hb8
  subst hb8
  refine OQ ?_
  iterate 2 (refine EV ?_)
  refine ON ?_
  refine Ok.ret ?_
  with_reducible repeat (first | refine thenQ_ret ?_ | refine blockQ_ret ?_)
  refine RT ?_
  first | rfl | (simp [vKI, kS, kI, kindOf, kinds, V.erase, V.trav, V.travL, packV, zz, zf, zy, (show ∀ a : Str, (a = w) = (w = a) from fun a => propext eq_comm), *]; done)
 try simp only [bsimp] at hb8
 refine OQ ?_
 iterate 2 (refine EV ?_)
 refine ON ?_
 refine OC (fun hb10 => ?_) (fun hb10 => ?_)
 ·
  try simp only [bsimp] at hb10
  subst hb10
  refine OQ ?_
  iterate 2 (refine EV ?_)
  refine ON ?_
  refine Ok.ret ?_
  with_reducible repeat (first | refine thenQ_ret ?_ | refine blockQ_ret ?_)
  refine RT ?_
  first | rfl | (simp [vKI, kS, kI, kindOf, kinds, V.erase, V.trav, V.travL, packV, zz, zf, zy, (show ∀ a : Str, (a = w) = (w = a) from fun a => propext eq_comm), *]; done)
 try simp only [bsimp] at hb10
 refine OQ ?_
 iterate 2 (refine EV ?_)
 refine ON ?_
 refine OC (fun hb12 => ?_) (fun hb12 => ?_)
 ·
  try simp only [bsimp] at hb12
  subst hb12
  refine OQ ?_
  iterate 2 (refine EV ?_)
  refine ON ?_
  refine Ok.ret ?_
  with_reducible repeat (first | refine thenQ_ret ?_ | refine blockQ_ret ?_)
  refine RT ?_
  first | rfl | (simp [vKI, kS, kI, kindOf, kinds, V.erase, V.trav, V.travL, packV, zz, zf, zy, (show ∀ a : Str, (a = w) = (w = a) from fun a => propext eq_comm), *]; done)
 try simp only [bsimp] at hb12
 refine OQ ?_
 iterate 2 (refine EV ?_)
 refine ON ?_
 refine OC (fun hb14 => ?_) (fun hb14 => ?_)
 ·
  try simp only [bsimp] at hb14
  subst hb14
  refine OQ ?_
  iterate 2 (refine EV ?_)
  refine ON ?_
  refine Ok.ret ?_
  with_reducible repeat (first | refine thenQ_ret ?_ | refine blockQ_ret ?_)
  refine RT ?_
  first | rfl | (simp [vKI, kS, kI, kindOf, kinds, V.erase, V.trav, V.travL, packV, zz, zf, zy, (show ∀ a : Str, (a = w) = (w = a) from fun a => propext eq_comm), *]; done)
 try simp only [bsimp] at hb14
 refine OQ ?_
 iterate 2 (refine EV ?_)
 refine ON ?_
 refine OC (fun hb16 => ?_) (fun hb16 => ?_)
 ·
  try simp only [bsimp] at hb16
  subst hb16
  refine OQ ?_
  iterate 2 (refine EV ?_)
  refine ON ?_
  refine Ok.ret ?_
  with_reducible repeat (first | refine thenQ_ret ?_ | refine blockQ_ret ?_)
  refine RT ?_
  first | rfl | (simp [vKI, kS, kI, kindOf, kinds, V.erase, V.trav, V.travL, packV, zz, zf, zy, (show ∀ a : Str, (a = w) = (w = a) from fun a => propext eq_comm), *]; done)
 try simp only [bsimp] at hb16
 refine OQ ?_
 iterate 2 (refine EV ?_)
 refine ON ?_
 refine OC (fun hb18 => ?_) (fun hb18 => ?_)
 ·
  try simp only [bsimp] at hb18
  subst hb18
  refine OQ ?_
  iterate 2 (refine EV ?_)
  refine ON ?_
  refine Ok.ret ?_
  with_reducible repeat (first | refine thenQ_ret ?_ | refine blockQ_ret ?_)
  refine RT ?_
  first | rfl | (simp [vKI, kS, kI, kindOf, kinds, V.erase, V.trav, V.travL, packV, zz, zf, zy, (show ∀ a : Str, (a = w) = (w = a) from fun a => propext eq_comm), *]; done)
 try simp only [bsimp] at hb18
 refine Ok.skip ?_
 refine OQ ?_
 iterate 2 (refine EV ?_)
 refine ON ?_
 refine Ok.ret ?_
 with_reducible repeat (first | refine thenQ_ret ?_ | refine blockQ_ret ?_)
 refine RT ?_
 first | rfl | (simp [vKI, kS, kI, kindOf, kinds, V.erase, V.trav, V.travL, packV, zz, zf, zy, (show ∀ a : Str, (a = w) = (w = a) from fun a => propext eq_comm), *]; done)
theorem w_spec_PartsOf (s : Str) (hs : s.length ≤ 1000000) : Weak Tryz.prog 14 [.str s] (vPO (partsOf s)) := by
 refine Weak.enter tab_ok Tryz.func14 rfl (.inr (by simp [V.labelsL, V.labels, zz, zf, zy])) (t := [.str s, .any, .any, .any, .any, .any, .any, .any, .any, .any, .any, .any, .any, .any, .any, .any, .any, .any, .any, .any, .any, .any, .any, .any, .any, .any, .any, .any, .any, .any, .any, .any, .any, .any, .any, .any, .any, .any, .any, .any, .any, .any, .any, .any, .any, .any, .any, .any, .any, .any, .any, .any, .any, .any, .any, .any, .any, .any, .any, .any, .any, .any]) rfl ?_
 refine OQ ?_
 iterate 2 (refine EV ?_)
 refine ON ?_
 refine OQ ?_
 iterate 2 (refine EV ?_)
 refine ON ?_
 refine Ok.seq ?_
 refine OQ ?_
 iterate 3 (refine EV ?_)
 refine ON ?_
 refine OC (fun hb2 => ?_) (fun hb2 => ?_)
 ·
  try simp only [bsimp] at hb2
  rw [parts_long (by omega)]
  refine OQ ?_
  iterate 3 (refine EV ?_)
  refine ON ?_
  refine Ok.ret ?_
  with_reducible repeat (first | refine thenQ_ret ?_ | refine blockQ_ret ?_)
  refine RT ?_
  first | rfl | (simp [V.erase, V.trav, V.travL, packV, zz, zf, zy]; done)
 try simp only [bsimp] at hb2
 have hl : s.length ≤ 600 := by omega
 refine Ok.skip ?_
 refine OQ ?_
 refine EV ?_
 refine ON ?_
 refine Ok.seq ?_
 refine OQ ?_
 refine EV ?_
 refine ON ?_
 refine Ok.block ?_
 refine Ok.bump (n' := 2) (by omega) ?_
 refine Ok.loopWZ (τ := Nat × Nat × List Str) (fun x => [(4, .sl 1 1 0 (x.2.2.map cS)), (5, .int .i64 (x.2.1 : Int)), (6, .int .i64 (x.1 : Int))]) [2, 3, 12, 13, 14, 15, 16, 17, 18, 19, 20, 21, 22, 23, 24, 25, 26, 27, 28, 29, 30, 31, 32, 33, 34, 35, 36, 37, 38, 39, 40, 41, 42, 43, 44, 45, 46, 47, 48, 49, 50, 51, 52, 53, 54, 55, 56] (fun x => by simp only [kover] <;> rfl) (fun x => PWE s x.1 x.2.1 x.2.2) (fun x => s.length + 1 - x.1) (0, 0, []) (by omega) (by (repeat (first | exact trivial | refine leC ?_ | refine leK ?_ ?_)) <;> first | (first | exact le_rfl' _ | exact le_nil 1 1) | exact le_rfl' _) (.inl ⟨Nat.zero_le _, Nat.le_refl _, rfl, rfl, Nat.le_refl _⟩) ?_
 rintro ⟨i, b, out⟩ h1
 dsimp only at h1 ⊢
 refine Ok.seq ?_
 refine OQ ?_
 iterate 4 (refine EV ?_)
 refine ON ?_
 refine OC (fun hb6 => ?_) (fun hb6 => ?_)
 ·
  try simp only [bsimp] at hb6
  have h1 : PW s i b out := by rcases h1 with h | ⟨h, -⟩; exact h; omega
  have hb1 := h1.b1
  have hi1 := h1.i1
  have hln := h1.len
  refine Ok.skip ?_
  refine Ok.seq ?_
  refine Ok.block ?_
  refine Ok.seq ?_
  refine Ok.seqC [(33, .bool (badAt s i))] [18, 19, 20, 21, 22, 23, 24, 25, 26, 27, 28, 29, 30, 31, 32] (by simp only [kover] <;> rfl) ?_ ?_
  ·
   refine Ok.region ?_
   iterate 5 (refine EV ?_)
   refine OP (d := 22) (fun hg8_4 => ?_) (fun hg8_4 => ?_)
   ·
    try simp only [bsimp] at hg8_4
    have hi : i < s.length := by omega
    have hbd := badAt_lt hi
    refine OX ?_
    refine OX ?_
    refine OO ?_
    refine OkOps.ev tab_ok rfl (ev_byte_lt (by simp only [kE, kT, kL, kC] <;> rfl) (by simp only [kE, kT, kL, kC] <;> rfl) (hi) rfl) (by simp only [kP] <;> rfl) ?_
    refine OX ?_
    refine OX ?_
    refine OP (d := 27) (fun hg8_9 => ?_) (fun hg8_9 => ?_)
    ·
     try simp only [bsimp] at hg8_9
     iterate 4 (refine OU ?_)
     refine OO ?_
     iterate 2 (refine EV ?_)
     refine ON ?_
     refine ⟨rfl, ?_, rfl, rfl⟩
     (repeat (first | exact trivial | refine leC ?_ | refine leK ?_ ?_)) <;> first | (refine .inl (congrArg V.bool ?_); first | exact hbd.symm | rw [hbd]; first | (simp [okByte, *]; done) | (simp [okByte, *] <;> omega) | (rw [Bool.eq_iff_iff]; simp [okByte, *] <;> omega) | (simp_all [okByte]; done) | (simp_all [okByte]; omega)) | exact le_rfl' _
    try simp only [bsimp] at hg8_9
    refine OX ?_
    refine OX ?_
    refine OO ?_
    refine OkOps.ev tab_ok rfl (ev_byte_lt (by simp only [kE, kT, kL, kC] <;> rfl) (by simp only [kE, kT, kL, kC] <;> rfl) (hi) rfl) (by simp only [kP] <;> rfl) ?_
    refine OX ?_
    refine OO ?_
    iterate 2 (refine EV ?_)
    refine ON ?_
    refine ⟨rfl, ?_, rfl, rfl⟩
    (repeat (first | exact trivial | refine leC ?_ | refine leK ?_ ?_)) <;> first | (refine .inl (congrArg V.bool ?_); first | exact hbd.symm | rw [hbd]; first | (simp [okByte, *]; done) | (simp [okByte, *] <;> omega) | (rw [Bool.eq_iff_iff]; simp [okByte, *] <;> omega) | (simp_all [okByte]; done) | (simp_all [okByte]; omega)) | exact le_rfl' _
   try simp only [bsimp] at hg8_4
   have hbd := badAt_ge (show s.length ≤ i by omega)
   iterate 10 (refine OU ?_)
   refine EV ?_
   refine ON ?_
   refine ⟨rfl, ?_, rfl, rfl⟩
   (repeat (first | exact trivial | refine leC ?_ | refine leK ?_ ?_)) <;> first | (refine .inl (congrArg V.bool ?_); first | exact hbd.symm | rw [hbd]; first | (simp [okByte, *]; done) | (simp [okByte, *] <;> omega) | (rw [Bool.eq_iff_iff]; simp [okByte, *] <;> omega) | (simp_all [okByte]; done) | (simp_all [okByte]; omega)) | exact le_rfl' _
  refine OC (fun hb8 => ?_) (fun hb8 => ?_)
  ·
   try simp only [bsimp] at hb8
   rw [parts_bad hb8]
   refine OQ ?_
   iterate 3 (refine EV ?_)
   refine ON ?_
   refine Ok.ret ?_
   with_reducible repeat (first | refine thenQ_ret ?_ | refine blockQ_ret ?_)
   refine RT ?_
   first | rfl | (simp [V.erase, V.trav, V.travL, packV, zz, zf, zy]; done)
  try simp only [bsimp] at hb8
  refine Ok.skip ?_
  refine Ok.seq ?_
  refine Ok.seqC [(44, .bool (midAt s i))] [35, 36, 37, 38, 39, 40, 41, 42, 43] (by simp only [kover] <;> rfl) ?_ ?_
  ·
   refine Ok.region ?_
   iterate 5 (refine EV ?_)
   refine OP (d := 39) (fun hg10_4 => ?_) (fun hg10_4 => ?_)
   ·
    try simp only [bsimp] at hg10_4
    have hi : i < s.length := by omega
    have hmd := midAt_lt hi
    refine OX ?_
    refine OX ?_
    refine OO ?_
    refine OkOps.ev tab_ok rfl (ev_byte_lt (by simp only [kE, kT, kL, kC] <;> rfl) (by simp only [kE, kT, kL, kC] <;> rfl) (hi) rfl) (by simp only [kP] <;> rfl) ?_
    refine OO ?_
    iterate 2 (refine EV ?_)
    refine ON ?_
    refine ⟨rfl, ?_, rfl, rfl⟩
    (repeat (first | exact trivial | refine leC ?_ | refine leK ?_ ?_)) <;> first | (refine .inl (congrArg V.bool ?_); first | exact hmd.symm | rw [hmd]; first | (simp [*]; done) | (simp [*] <;> omega) | (rw [Bool.eq_iff_iff]; simp [*] <;> omega) | (simp_all; done) | (simp_all; omega)) | exact le_rfl' _
   try simp only [bsimp] at hg10_4
   have hmd := midAt_ge (show s.length ≤ i by omega)
   iterate 4 (refine OU ?_)
   refine EV ?_
   refine ON ?_
   refine ⟨rfl, ?_, rfl, rfl⟩
   (repeat (first | exact trivial | refine leC ?_ | refine leK ?_ ?_)) <;> first | (refine .inl (congrArg V.bool ?_); first | exact hmd.symm | rw [hmd]; first | (simp [*]; done) | (simp [*] <;> omega) | (rw [Bool.eq_iff_iff]; simp [*] <;> omega) | (simp_all; done) | (simp_all; omega)) | exact le_rfl' _
  refine OC (fun hb10 => ?_) (fun hb10 => ?_)
  ·
   try simp only [bsimp] at hb10
   refine Ok.exit ?_
   refine Ok.region ?_
   iterate 3 (refine EV ?_)
   refine ON ?_
   refine ⟨(i + 1, b, out), ?_, rfl, (.inl (h1.mid hb8 hb10)), (by dsimp only; omega)⟩
   simp only [V.renL, V.travL, V.travLL, V.trav, frz, zz, zf, zy, Nat.reduceLeDiff, ↓reduceIte]
   (repeat (first | exact trivial | refine leC ?_ | refine leK ?_ ?_)) <;> first | (first | exact le_rfl' _ | (rw [wrap_succ (by omega)]; exact le_rfl' _) | ((try dsimp only); rw [if_pos hlt]; simp only [List.map_append, List.map_cons, List.map_nil]; exact le_rfl' _) | ((try dsimp only); rw [if_neg hlt]; exact le_rfl' _)) | exact le_rfl' _
  try simp only [bsimp] at hb10
  refine Ok.skip ?_
  refine Ok.seq ?_
  refine OQ ?_
  iterate 3 (refine EV ?_)
  refine ON ?_
  refine OC (fun hb11 => ?_) (fun hb11 => ?_)
  ·
   try simp only [bsimp] at hb11
   have hlt : b < i := by omega
   refine Ok.region ?_
   iterate 4 (refine EV ?_)
   refine OkOps.ev tab_ok rfl (ev_cut (by simp only [kE, kT, kL, kC] <;> rfl) (by simp only [kE, kT, kL, kC] <;> rfl) (by simp only [kE, kT, kL, kC] <;> rfl) rfl (by omega) (by omega)) (by simp only [kP] <;> rfl) ?_
   refine OkOps.ev tab_ok rfl (ev_bs (by simp only [kT] <;> rfl) (by simp only [kT] <;> rfl) (by decide) (by decide) (by simp only [kE, kT, kL, kC, List.map_cons, List.map_nil] <;> rfl) (by simp only [kfe, beq_self_eq_true, Bool.and_true, Bool.true_and, decide_true, Nat.zero_add, Nat.lt_add_one, Nat.reduceLT, Nat.reduceAdd, Nat.zero_lt_succ, if_true, ↓reduceIte] <;> rfl)) (by simp only [kP] <;> rfl) ?_
   refine OkOps.append tab_ok rfl rfl (by simp only [kT] <;> rfl) (by simp only [kT] <;> rfl) (by decide) rfl (by simp only [kE, kT, kL, kC] <;> rfl) (.inl ⟨_, _, by simp only [kE, kT, kL, kC] <;> rfl⟩) (by omega) (by omega) (by simp only [List.length_map, List.length_cons, List.length_nil]; omega) (by simp only [List.length_map, List.length_cons, List.length_nil]; omega) (by simp [V.one]) (by simp only [V.killL, V.killLL, V.travL, V.travLL, V.trav, killS, killP, Nat.reduceEqDiff, ↓reduceIte, reduceCtorEq, if_true, if_false, List.append_nil, List.nil_append, List.cons_append, zz, zf, zy] <;> rfl) (by simp only [V.killL, V.killLL, V.travL, V.travLL, V.trav, killS, killP, Nat.reduceEqDiff, ↓reduceIte, reduceCtorEq, if_true, if_false, List.append_nil, List.nil_append, List.cons_append, zz, zf, zy, kP] <;> rfl) (rfl) ?_
   refine EV ?_
   refine ON ?_
   refine Ok.region ?_
   refine EV ?_
   refine OkOps.ev tab_ok rfl (by simp only [kE, kT, kL, kC, wrap_succ (show i < 9223372036854775807 by omega)] <;> rfl) (by simp only [kP] <;> rfl) ?_
   refine EV ?_
   refine ON ?_
   refine Ok.region ?_
   iterate 3 (refine EV ?_)
   refine ON ?_
   refine ⟨(i + 1, i + 1, if b < i then out ++ [curW s i b] else out), ?_, rfl, (h1.blank hb8 hb10), (by dsimp only; omega)⟩
   simp only [V.renL, V.travL, V.travLL, V.trav, frz, zz, zf, zy, Nat.reduceLeDiff, ↓reduceIte]
   (repeat (first | exact trivial | refine leC ?_ | refine leK ?_ ?_)) <;> first | (first | exact le_rfl' _ | (rw [wrap_succ (by omega)]; exact le_rfl' _) | ((try dsimp only); rw [if_pos hlt]; simp only [List.map_append, List.map_cons, List.map_nil]; exact le_rfl' _) | ((try dsimp only); rw [if_neg hlt]; exact le_rfl' _)) | exact le_rfl' _
  try simp only [bsimp] at hb11
  have hlt : ¬ b < i := by omega
  refine Ok.skip ?_
  refine Ok.region ?_
  refine EV ?_
  refine OkOps.ev tab_ok rfl (by simp only [kE, kT, kL, kC, wrap_succ (show i < 9223372036854775807 by omega)] <;> rfl) (by simp only [kP] <;> rfl) ?_
  refine EV ?_
  refine ON ?_
  refine Ok.region ?_
  iterate 3 (refine EV ?_)
  refine ON ?_
  refine ⟨(i + 1, i + 1, if b < i then out ++ [curW s i b] else out), ?_, rfl, (h1.blank hb8 hb10), (by dsimp only; omega)⟩
  simp only [V.renL, V.travL, V.travLL, V.trav, frz, zz, zf, zy, Nat.reduceLeDiff, ↓reduceIte]
  (repeat (first | exact trivial | refine leC ?_ | refine leK ?_ ?_)) <;> first | (first | exact le_rfl' _ | (rw [wrap_succ (by omega)]; exact le_rfl' _) | ((try dsimp only); rw [if_pos hlt]; simp only [List.map_append, List.map_cons, List.map_nil]; exact le_rfl' _) | ((try dsimp only); rw [if_neg hlt]; exact le_rfl' _)) | exact le_rfl' _
 try simp only [bsimp] at hb6
 have h1 : PE s out := by rcases h1 with h | ⟨-, h⟩; (have := h.i1; omega); exact h
 rw [parts_end hl h1]
 refine Ok.exit ?_
 refine Ok.seq ?_
 refine OQ ?_
 iterate 3 (refine EV ?_)
 refine ON ?_
 refine OC (fun hb14 => ?_) (fun hb14 => ?_)
 ·
  try simp only [bsimp] at hb14
  rw [if_neg (show ¬ out.length ≤ 10 by omega)]
  refine OQ ?_
  iterate 3 (refine EV ?_)
  refine ON ?_
  refine Ok.ret ?_
  with_reducible repeat (first | refine thenQ_ret ?_ | refine blockQ_ret ?_)
  refine RT ?_
  first | rfl | (simp [V.erase, V.trav, V.travL, packV, zz, zf, zy]; done)
 try simp only [bsimp] at hb14
 rw [if_pos (show out.length ≤ 10 by omega)]
 refine Ok.skip ?_
 refine OQ ?_
 iterate 3 (refine EV ?_)
 refine ON ?_
 refine Ok.ret ?_
 with_reducible repeat (first | refine thenQ_ret ?_ | refine blockQ_ret ?_)
 refine RT ?_
 first | rfl | (simp [V.erase, V.trav, V.travL, packV, zz, zf, zy]; done)
end Go.Proofs.YtliiphpbfambcaaGreatDoor.K

/- Walks: words of scripts, the other side. Printed by w2.py. -/
namespace Go.Proofs.YtliiphpbfambcaaGreatDoor.K
open Go Go.RowKit
set_option linter.unusedVariables false
set_option linter.unusedSimpArgs false
set_option maxHeartbeats 4000000
set_option maxRecDepth 20000
theorem w_impl_PartsOf (s : Str) (hs : s.length ≤ 1000000) : Weak Tryz.prog 11 [.str s] (vPO (partsOf s)) := by
 refine Weak.enter tab_ok Tryz.func11 rfl (.inr (by simp [V.labelsL, V.labels, zz, zf, zy])) (t := [.str s, .any, .any, .any, .any, .any, .any, .any, .any, .any, .any, .any, .any, .any, .any, .any, .any, .any, .any, .any, .any, .any, .any, .any, .any, .any, .any, .any, .any, .any, .any, .any, .any, .any, .any, .any, .any, .any, .any, .any, .any, .any, .any, .any, .any, .any, .any, .any, .any, .any, .any, .any, .any, .any, .any, .any, .any, .any, .any, .any, .any, .any, .any, .any, .any, .any]) rfl ?_
 refine OQ ?_
 iterate 2 (refine EV ?_)
 refine ON ?_
 refine Ok.seq ?_
 refine OQ ?_
 iterate 3 (refine EV ?_)
 refine ON ?_
 refine OC (fun hb1 => ?_) (fun hb1 => ?_)
 ·
  try simp only [bsimp] at hb1
  rw [parts_long (by omega)]
  refine OQ ?_
  iterate 3 (refine EV ?_)
  refine ON ?_
  refine Ok.ret ?_
  with_reducible repeat (first | refine thenQ_ret ?_ | refine blockQ_ret ?_)
  refine RT ?_
  first | rfl | (simp [V.erase, V.trav, V.travL, packV, zz, zf, zy]; done)
 try simp only [bsimp] at hb1
 have hl : s.length ≤ 600 := by omega
 refine Ok.skip ?_
 refine OQ ?_
 iterate 2 (refine EV ?_)
 refine ON ?_
 refine OQ ?_
 refine EV ?_
 refine ON ?_
 refine Ok.seq ?_
 refine OQ ?_
 refine EV ?_
 refine ON ?_
 refine Ok.block ?_
 refine Ok.bump (n' := 2) (by omega) ?_
 refine Ok.loopWZ (τ := Nat × Nat × List Str) (fun x => [(4, .sl 1 1 0 (x.2.2.map cS)), (5, .int .i64 (fromV x.2.1 x.1)), (6, .int .i64 (x.1 : Int))]) [2, 3, 7, 13, 14, 15, 16, 17, 18, 19, 20, 21, 22, 23, 24, 25, 26, 27, 28, 29, 30, 31, 32, 33, 34, 35, 36, 37, 38, 39, 40, 41, 42, 43, 44, 45, 46, 47, 48, 49, 50, 51, 52, 53, 54, 55, 56, 57, 58, 59, 60] (fun x => by simp only [kover] <;> rfl) (fun x => PWE s x.1 x.2.1 x.2.2) (fun x => s.length + 1 - x.1) (0, 0, []) (by omega) (by (repeat (first | exact trivial | refine leC ?_ | refine leK ?_ ?_)) <;> first | (first | exact le_rfl' _ | exact le_nil 1 1) | exact le_rfl' _) (.inl ⟨Nat.zero_le _, Nat.le_refl _, rfl, rfl, Nat.le_refl _⟩) ?_
 rintro ⟨i, b, out⟩ h1
 dsimp only at h1 ⊢
 refine Ok.seq ?_
 refine OQ ?_
 iterate 4 (refine EV ?_)
 refine ON ?_
 refine OC (fun hb6 => ?_) (fun hb6 => ?_)
 ·
  try simp only [bsimp] at hb6
  have h1 : PW s i b out := by rcases h1 with h | ⟨h, -⟩; exact h; omega
  have hb1 := h1.b1
  have hi1 := h1.i1
  have hln := h1.len
  refine Ok.skip ?_
  refine Ok.seq ?_
  refine Ok.block ?_
  refine Ok.seq ?_
  refine Ok.seqC [(30, .bool (badAt s i))] [19, 20, 21, 22, 23, 24, 25, 26, 27, 28, 29] (by simp only [kover] <;> rfl) ?_ ?_
  ·
   refine Ok.region ?_
   iterate 5 (refine EV ?_)
   refine OP (d := 23) (fun hg8_4 => ?_) (fun hg8_4 => ?_)
   ·
    try simp only [bsimp] at hg8_4
    have hi : i < s.length := by omega
    have hbd := badAt_lt hi
    refine OX ?_
    refine OX ?_
    refine OO ?_
    refine OkOps.ev tab_ok rfl (ev_byte_lt (by simp only [kE, kT, kL, kC] <;> rfl) (by simp only [kE, kT, kL, kC] <;> rfl) (hi) rfl) (by simp only [kP] <;> rfl) ?_
    refine OX ?_
    refine OO ?_
    refine OW cl28 (w_impl_within _ _ _) ?_
    refine OO ?_
    iterate 2 (refine EV ?_)
    refine ON ?_
    refine ⟨rfl, ?_, rfl, rfl⟩
    (repeat (first | exact trivial | refine leC ?_ | refine leK ?_ ?_)) <;> first | (refine .inl (congrArg V.bool ?_); first | exact hbd.symm | (rw [hbd, okIn]; done) | (rw [hbd, okIn]; rfl)) | exact le_rfl' _
   try simp only [bsimp] at hg8_4
   have hbd := badAt_ge (show s.length ≤ i by omega)
   iterate 6 (refine OU ?_)
   refine EV ?_
   refine ON ?_
   refine ⟨rfl, ?_, rfl, rfl⟩
   (repeat (first | exact trivial | refine leC ?_ | refine leK ?_ ?_)) <;> first | (refine .inl (congrArg V.bool ?_); first | exact hbd.symm | (rw [hbd, okIn]; done) | (rw [hbd, okIn]; rfl)) | exact le_rfl' _
  refine OC (fun hb8 => ?_) (fun hb8 => ?_)
  ·
   try simp only [bsimp] at hb8
   rw [parts_bad hb8]
   refine OQ ?_
   iterate 3 (refine EV ?_)
   refine ON ?_
   refine Ok.ret ?_
   with_reducible repeat (first | refine thenQ_ret ?_ | refine blockQ_ret ?_)
   refine RT ?_
   first | rfl | (simp [V.erase, V.trav, V.travL, packV, zz, zf, zy]; done)
  try simp only [bsimp] at hb8
  refine Ok.skip ?_
  refine Ok.seqC [(7, .bool (!midAt s i))] [32, 33, 34, 35, 36, 37, 38, 39, 40, 41] (by simp only [kover] <;> rfl) ?_ ?_
  ·
   refine Ok.region ?_
   iterate 5 (refine EV ?_)
   refine OP (d := 36) (fun hg10_4 => ?_) (fun hg10_4 => ?_)
   ·
    try simp only [bsimp] at hg10_4
    have hmd := midAt_ge (show s.length ≤ i by omega)
    iterate 4 (refine OU ?_)
    iterate 2 (refine EV ?_)
    refine ON ?_
    refine ⟨rfl, ?_, rfl, rfl⟩
    (repeat (first | exact trivial | refine leC ?_ | refine leK ?_ ?_)) <;> first | (refine .inl (congrArg V.bool ?_); first | (rw [hmd]; rfl) | (rw [hmd]; first | (simp [*]; done) | (simp [*] <;> omega) | (rw [Bool.eq_iff_iff]; simp [*] <;> omega) | (simp_all; done) | (simp_all; omega))) | exact le_rfl' _
   try simp only [bsimp] at hg10_4
   have hi : i < s.length := by omega
   have hmd := midAt_lt hi
   refine OX ?_
   refine OX ?_
   refine OO ?_
   refine OkOps.ev tab_ok rfl (ev_byte_lt (by simp only [kE, kT, kL, kC] <;> rfl) (by simp only [kE, kT, kL, kC] <;> rfl) (hi) rfl) (by simp only [kP] <;> rfl) ?_
   refine OO ?_
   iterate 3 (refine EV ?_)
   refine ON ?_
   refine ⟨rfl, ?_, rfl, rfl⟩
   (repeat (first | exact trivial | refine leC ?_ | refine leK ?_ ?_)) <;> first | (refine .inl (congrArg V.bool ?_); first | (rw [hmd]; rfl) | (rw [hmd]; first | (simp [*]; done) | (simp [*] <;> omega) | (rw [Bool.eq_iff_iff]; simp [*] <;> omega) | (simp_all; done) | (simp_all; omega))) | exact le_rfl' _
  refine Ok.seq ?_
  refine Ok.seqC [(47, .bool (startAt s i b))] [42, 43, 44, 45, 46] (by simp only [kover] <;> rfl) ?_ ?_
  ·
   refine Ok.region ?_
   iterate 3 (refine EV ?_)
   refine OP (d := 44) (fun hg11_2 => ?_) (fun hg11_2 => ?_)
   ·
    try simp only [bsimp] at hg11_2
    have hm : midAt s i = true := by simpa using hg11_2
    refine OX ?_
    refine OO ?_
    iterate 2 (refine EV ?_)
    refine ON ?_
    refine ⟨rfl, ?_, rfl, rfl⟩
    (repeat (first | exact trivial | refine leC ?_ | refine leK ?_ ?_)) <;> first | (refine .inl (congrArg V.bool ?_); first | exact startV s i b hm | exact (startF hm).symm | exact startF hm | (rw [hm]; rfl)) | exact le_rfl' _
   try simp only [bsimp] at hg11_2
   have hm : midAt s i = false := by simpa using hg11_2
   refine OU ?_
   refine OU ?_
   refine EV ?_
   refine ON ?_
   refine ⟨rfl, ?_, rfl, rfl⟩
   (repeat (first | exact trivial | refine leC ?_ | refine leK ?_ ?_)) <;> first | (refine .inl (congrArg V.bool ?_); first | exact startV s i b hm | exact (startF hm).symm | exact startF hm | (rw [hm]; rfl)) | exact le_rfl' _
  refine OC (fun hb11 => ?_) (fun hb11 => ?_)
  ·
   try simp only [bsimp] at hb11
   have h11 := startAt_t hb11
   have hm := h11.1
   refine Ok.region ?_
   iterate 2 (refine EV ?_)
   refine ON ?_
   refine Ok.seqC [(53, .bool (endAt s i b))] [49, 50, 51, 52] (by simp only [kover] <;> rfl) ?_ ?_
   ·
    refine Ok.region ?_
    iterate 2 (refine EV ?_)
    refine OP (d := 50) (fun hg13_1 => ?_) (fun hg13_1 => ?_)
    ·
     try simp only [bsimp] at hg13_1
     have hm : midAt s i = false := by simpa using hg13_1
     refine OX ?_
     refine OO ?_
     iterate 2 (refine EV ?_)
     refine ON ?_
     refine ⟨rfl, ?_, rfl, rfl⟩
     (repeat (first | exact trivial | refine leC ?_ | refine leK ?_ ?_)) <;> first | (refine .inl (congrArg V.bool ?_); first | exact endV s i b hb1 hm | exact (endF hm).symm | exact endF hm | (rw [hm]; rfl) | (exfalso; rw [h11.1] at hm; cases hm)) | exact le_rfl' _
    try simp only [bsimp] at hg13_1
    have hm : midAt s i = true := by simpa using hg13_1
    refine OU ?_
    refine OU ?_
    refine EV ?_
    refine ON ?_
    refine ⟨rfl, ?_, rfl, rfl⟩
    (repeat (first | exact trivial | refine leC ?_ | refine leK ?_ ?_)) <;> first | (refine .inl (congrArg V.bool ?_); first | exact endV s i b hb1 hm | exact (endF hm).symm | exact endF hm | (rw [hm]; rfl) | (exfalso; rw [h11.1] at hm; cases hm)) | exact le_rfl' _
   refine OC (fun hb13 => ?_) (fun hb13 => ?_)
   ·
    try simp only [bsimp] at hb13
    have h13 := endAt_t hb13
    try rw [fromV_ne (show ¬ b = i by omega)]
    refine OQ ?_
    iterate 4 (refine EV ?_)
    refine OkOps.ev tab_ok rfl (ev_cut (by simp only [kE, kT, kL, kC] <;> rfl) (by simp only [kE, kT, kL, kC] <;> rfl) (by simp only [kE, kT, kL, kC] <;> rfl) rfl (by omega) (by omega)) (by simp only [kP] <;> rfl) ?_
    refine OkOps.ev tab_ok rfl (ev_bs (by simp only [kT] <;> rfl) (by simp only [kT] <;> rfl) (by decide) (by decide) (by simp only [kE, kT, kL, kC, List.map_cons, List.map_nil] <;> rfl) (by simp only [kfe, beq_self_eq_true, Bool.and_true, Bool.true_and, decide_true, Nat.zero_add, Nat.lt_add_one, Nat.reduceLT, Nat.reduceAdd, Nat.zero_lt_succ, if_true, ↓reduceIte] <;> rfl)) (by simp only [kP] <;> rfl) ?_
    refine OkOps.append tab_ok rfl rfl (by simp only [kT] <;> rfl) (by simp only [kT] <;> rfl) (by decide) rfl (by simp only [kE, kT, kL, kC] <;> rfl) (.inl ⟨_, _, by simp only [kE, kT, kL, kC] <;> rfl⟩) (by omega) (by omega) (by simp only [List.length_map, List.length_cons, List.length_nil]; omega) (by simp only [List.length_map, List.length_cons, List.length_nil]; omega) (by simp [V.one]) (by simp only [V.killL, V.killLL, V.travL, V.travLL, V.trav, killS, killP, Nat.reduceEqDiff, ↓reduceIte, reduceCtorEq, if_true, if_false, List.append_nil, List.nil_append, List.cons_append, zz, zf, zy] <;> rfl) (by simp only [V.killL, V.killLL, V.travL, V.travLL, V.trav, killS, killP, Nat.reduceEqDiff, ↓reduceIte, reduceCtorEq, if_true, if_false, List.append_nil, List.nil_append, List.cons_append, zz, zf, zy, kP] <;> rfl) (rfl) ?_
    refine EV ?_
    refine ON ?_
    refine Ok.region ?_
    refine EV ?_
    refine ON ?_
    refine Ok.region ?_
    iterate 3 (refine EV ?_)
    refine ON ?_
    refine ⟨(i + 1, i + 1, out ++ [curW s i b]), ?_, rfl, (by have h9 := h1.blank hb8 h13.1; rwa [if_pos h13.2] at h9), (by dsimp only; omega)⟩
    simp only [V.renL, V.travL, V.travLL, V.trav, frz, zz, zf, zy, Nat.reduceLeDiff, ↓reduceIte]
    (repeat (first | exact trivial | refine leC ?_ | refine leK ?_ ?_)) <;> first | (first | exact le_rfl' _ | (rw [wrap_succ (by omega)]; exact le_rfl' _) | (simp only [List.map_append, List.map_cons, List.map_nil]; exact le_rfl' _) | (exfalso; omega) | exact .inl (congrArg (V.int .i64) (h1.keep hb8 hb11 hb13).2) | exact .inl (congrArg (V.int .i64) (fromV_eq rfl).symm) | (refine .inl (congrArg (V.int .i64) ?_); (try dsimp only); rw [fromV_ne (show ¬ b = i + 1 by omega)]; omega)) | exact le_rfl' _
   try simp only [bsimp] at hb13
   refine Ok.skip ?_
   refine Ok.region ?_
   iterate 3 (refine EV ?_)
   refine ON ?_
   refine ⟨(i + 1, b, out), ?_, rfl, (.inl (h1.mid hb8 h11.1)), (by dsimp only; omega)⟩
   simp only [V.renL, V.travL, V.travLL, V.trav, frz, zz, zf, zy, Nat.reduceLeDiff, ↓reduceIte]
   (repeat (first | exact trivial | refine leC ?_ | refine leK ?_ ?_)) <;> first | (first | exact le_rfl' _ | (rw [wrap_succ (by omega)]; exact le_rfl' _) | (simp only [List.map_append, List.map_cons, List.map_nil]; exact le_rfl' _) | (exfalso; omega) | exact .inl (congrArg (V.int .i64) (h1.keep hb8 hb11 hb13).2) | exact .inl (congrArg (V.int .i64) (fromV_eq rfl).symm) | (refine .inl (congrArg (V.int .i64) ?_); (try dsimp only); rw [fromV_ne (show ¬ b = i + 1 by omega)]; omega)) | exact le_rfl' _
  try simp only [bsimp] at hb11
  refine Ok.skip ?_
  refine Ok.seqC [(53, .bool (endAt s i b))] [49, 50, 51, 52] (by simp only [kover] <;> rfl) ?_ ?_
  ·
   refine Ok.region ?_
   iterate 2 (refine EV ?_)
   refine OP (d := 50) (fun hg13_1 => ?_) (fun hg13_1 => ?_)
   ·
    try simp only [bsimp] at hg13_1
    have hm : midAt s i = false := by simpa using hg13_1
    refine OX ?_
    refine OO ?_
    iterate 2 (refine EV ?_)
    refine ON ?_
    refine ⟨rfl, ?_, rfl, rfl⟩
    (repeat (first | exact trivial | refine leC ?_ | refine leK ?_ ?_)) <;> first | (refine .inl (congrArg V.bool ?_); first | exact endV s i b hb1 hm | exact (endF hm).symm | exact endF hm | (rw [hm]; rfl) | (exfalso; rw [h11.1] at hm; cases hm)) | exact le_rfl' _
   try simp only [bsimp] at hg13_1
   have hm : midAt s i = true := by simpa using hg13_1
   refine OU ?_
   refine OU ?_
   refine EV ?_
   refine ON ?_
   refine ⟨rfl, ?_, rfl, rfl⟩
   (repeat (first | exact trivial | refine leC ?_ | refine leK ?_ ?_)) <;> first | (refine .inl (congrArg V.bool ?_); first | exact endV s i b hb1 hm | exact (endF hm).symm | exact endF hm | (rw [hm]; rfl) | (exfalso; rw [h11.1] at hm; cases hm)) | exact le_rfl' _
  refine OC (fun hb13 => ?_) (fun hb13 => ?_)
  ·
   try simp only [bsimp] at hb13
   have h13 := endAt_t hb13
   try rw [fromV_ne (show ¬ b = i by omega)]
   refine OQ ?_
   iterate 4 (refine EV ?_)
   refine OkOps.ev tab_ok rfl (ev_cut (by simp only [kE, kT, kL, kC] <;> rfl) (by simp only [kE, kT, kL, kC] <;> rfl) (by simp only [kE, kT, kL, kC] <;> rfl) rfl (by omega) (by omega)) (by simp only [kP] <;> rfl) ?_
   refine OkOps.ev tab_ok rfl (ev_bs (by simp only [kT] <;> rfl) (by simp only [kT] <;> rfl) (by decide) (by decide) (by simp only [kE, kT, kL, kC, List.map_cons, List.map_nil] <;> rfl) (by simp only [kfe, beq_self_eq_true, Bool.and_true, Bool.true_and, decide_true, Nat.zero_add, Nat.lt_add_one, Nat.reduceLT, Nat.reduceAdd, Nat.zero_lt_succ, if_true, ↓reduceIte] <;> rfl)) (by simp only [kP] <;> rfl) ?_
   refine OkOps.append tab_ok rfl rfl (by simp only [kT] <;> rfl) (by simp only [kT] <;> rfl) (by decide) rfl (by simp only [kE, kT, kL, kC] <;> rfl) (.inl ⟨_, _, by simp only [kE, kT, kL, kC] <;> rfl⟩) (by omega) (by omega) (by simp only [List.length_map, List.length_cons, List.length_nil]; omega) (by simp only [List.length_map, List.length_cons, List.length_nil]; omega) (by simp [V.one]) (by simp only [V.killL, V.killLL, V.travL, V.travLL, V.trav, killS, killP, Nat.reduceEqDiff, ↓reduceIte, reduceCtorEq, if_true, if_false, List.append_nil, List.nil_append, List.cons_append, zz, zf, zy] <;> rfl) (by simp only [V.killL, V.killLL, V.travL, V.travLL, V.trav, killS, killP, Nat.reduceEqDiff, ↓reduceIte, reduceCtorEq, if_true, if_false, List.append_nil, List.nil_append, List.cons_append, zz, zf, zy, kP] <;> rfl) (rfl) ?_
   refine EV ?_
   refine ON ?_
   refine Ok.region ?_
   refine EV ?_
   refine ON ?_
   refine Ok.region ?_
   iterate 3 (refine EV ?_)
   refine ON ?_
   refine ⟨(i + 1, i + 1, out ++ [curW s i b]), ?_, rfl, (by have h9 := h1.blank hb8 h13.1; rwa [if_pos h13.2] at h9), (by dsimp only; omega)⟩
   simp only [V.renL, V.travL, V.travLL, V.trav, frz, zz, zf, zy, Nat.reduceLeDiff, ↓reduceIte]
   (repeat (first | exact trivial | refine leC ?_ | refine leK ?_ ?_)) <;> first | (first | exact le_rfl' _ | (rw [wrap_succ (by omega)]; exact le_rfl' _) | (simp only [List.map_append, List.map_cons, List.map_nil]; exact le_rfl' _) | (exfalso; omega) | exact .inl (congrArg (V.int .i64) (h1.keep hb8 hb11 hb13).2) | exact .inl (congrArg (V.int .i64) (fromV_eq rfl).symm) | (refine .inl (congrArg (V.int .i64) ?_); (try dsimp only); rw [fromV_ne (show ¬ b = i + 1 by omega)]; omega)) | exact le_rfl' _
  try simp only [bsimp] at hb13
  refine Ok.skip ?_
  refine Ok.region ?_
  iterate 3 (refine EV ?_)
  refine ON ?_
  refine ⟨(i + 1, keepB s i b, out), ?_, rfl, (h1.keep hb8 hb11 hb13).1, (by dsimp only; omega)⟩
  simp only [V.renL, V.travL, V.travLL, V.trav, frz, zz, zf, zy, Nat.reduceLeDiff, ↓reduceIte]
  (repeat (first | exact trivial | refine leC ?_ | refine leK ?_ ?_)) <;> first | (first | exact le_rfl' _ | (rw [wrap_succ (by omega)]; exact le_rfl' _) | (simp only [List.map_append, List.map_cons, List.map_nil]; exact le_rfl' _) | (exfalso; omega) | exact .inl (congrArg (V.int .i64) (h1.keep hb8 hb11 hb13).2) | exact .inl (congrArg (V.int .i64) (fromV_eq rfl).symm) | (refine .inl (congrArg (V.int .i64) ?_); (try dsimp only); rw [fromV_ne (show ¬ b = i + 1 by omega)]; omega)) | exact le_rfl' _
 try simp only [bsimp] at hb6
 have h1 : PE s out := by rcases h1 with h | ⟨-, h⟩; (have := h.i1; omega); exact h
 rw [parts_end hl h1]
 refine Ok.exit ?_
 refine Ok.seq ?_
 refine OQ ?_
 iterate 3 (refine EV ?_)
 refine ON ?_
 refine OC (fun hb16 => ?_) (fun hb16 => ?_)
 ·
  try simp only [bsimp] at hb16
  rw [if_neg (show ¬ out.length ≤ 10 by omega)]
  refine OQ ?_
  iterate 3 (refine EV ?_)
  refine ON ?_
  refine Ok.ret ?_
  with_reducible repeat (first | refine thenQ_ret ?_ | refine blockQ_ret ?_)
  refine RT ?_
  first | rfl | (simp [V.erase, V.trav, V.travL, packV, zz, zf, zy]; done)
 try simp only [bsimp] at hb16
 rw [if_pos (show out.length ≤ 10 by omega)]
 refine Ok.skip ?_
 refine OQ ?_
 iterate 3 (refine EV ?_)
 refine ON ?_
 refine Ok.ret ?_
 with_reducible repeat (first | refine thenQ_ret ?_ | refine blockQ_ret ?_)
 refine RT ?_
 first | rfl | (simp [V.erase, V.trav, V.travL, packV, zz, zf, zy]; done)
end Go.Proofs.YtliiphpbfambcaaGreatDoor.K

/- Walks: lines of scripts. Printed by w2.py. -/
namespace Go.Proofs.YtliiphpbfambcaaGreatDoor.K
open Go Go.RowKit
set_option linter.unusedVariables false
set_option linter.unusedSimpArgs false
set_option maxHeartbeats 4000000
set_option maxRecDepth 20000
theorem w_spec_l23Lines (s : Str) (hs : s.length ≤ 1000000) : Weak Tryz.prog 13 [.str s] (.sl 0 1 0 ((linesOf s).map cS)) := by
 refine Weak.enter tab_ok Tryz.func13 rfl (.inr (by simp [V.labelsL, V.labels, zz, zf, zy])) (t := [.str s, .any, .any, .any, .any, .any, .any, .any, .any, .any, .any, .any, .any, .any, .any, .any, .any, .any, .any, .any, .any, .any, .any, .any, .any, .any, .any, .any, .any, .any, .any, .any, .any, .any, .any, .any, .any]) rfl ?_
 refine OQ ?_
 refine EV ?_
 refine ON ?_
 refine OQ ?_
 iterate 2 (refine EV ?_)
 refine ON ?_
 refine OQ ?_
 refine EV ?_
 refine ON ?_
 refine Ok.seq ?_
 refine OQ ?_
 refine EV ?_
 refine ON ?_
 refine Ok.block ?_
 refine Ok.bump (n' := 2) (by omega) ?_
 refine Ok.loopWZ (τ := Nat × Nat × List Str) (fun x => [(3, .sl 1 1 0 (x.2.2.map cS)), (4, .int .i64 (x.2.1 : Int)), (5, .int .i64 (x.1 : Int))]) [7, 8, 9, 10, 11, 12, 13, 14, 15, 16, 17, 18, 19, 20, 21, 22, 23, 24, 25] (fun x => by simp only [kover] <;> rfl) (fun x => LI s x.1 x.2.1 x.2.2) (fun x => s.length - x.1) (0, 0, []) (by omega) (by (repeat (first | exact trivial | refine leC ?_ | refine leK ?_ ?_)) <;> first | (first | exact le_rfl' _ | exact le_nil 1 1) | exact le_rfl' _) (LI.beg s) ?_
 rintro ⟨i, b, out⟩ h1
 dsimp only at h1 ⊢
 have hln0 := h1.len
 have hi0 := h1.i1
 refine Ok.seq ?_
 refine OQ ?_
 iterate 4 (refine EV ?_)
 refine ON ?_
 refine OC (fun hb4 => ?_) (fun hb4 => ?_)
 ·
  try simp only [bsimp] at hb4
  have hi : i < s.length := by omega
  have hb1 := h1.b1
  refine Ok.skip ?_
  refine Ok.seq ?_
  refine Ok.block ?_
  refine OQ ?_
  iterate 2 (refine EV ?_)
  refine OkOps.ev tab_ok rfl (ev_byte_lt (by simp only [kE, kT, kL, kC] <;> rfl) (by simp only [kE, kT, kL, kC] <;> rfl) (hi) rfl) (by simp only [kP] <;> rfl) ?_
  refine EV ?_
  refine ON ?_
  refine OC (fun hb6 => ?_) (fun hb6 => ?_)
  ·
   try simp only [bsimp] at hb6
   have hnl : s[i].toNat = 10 := by omega
   refine OQ ?_
   iterate 4 (refine EV ?_)
   refine OkOps.ev tab_ok rfl (ev_cut (by simp only [kE, kT, kL, kC] <;> rfl) (by simp only [kE, kT, kL, kC] <;> rfl) (by simp only [kE, kT, kL, kC] <;> rfl) rfl (by omega) (by omega)) (by simp only [kP] <;> rfl) ?_
   refine OkOps.ev tab_ok rfl (ev_bs (by simp only [kT] <;> rfl) (by simp only [kT] <;> rfl) (by decide) (by decide) (by simp only [kE, kT, kL, kC, List.map_cons, List.map_nil] <;> rfl) (by simp only [kfe, beq_self_eq_true, Bool.and_true, Bool.true_and, decide_true, Nat.zero_add, Nat.lt_add_one, Nat.reduceLT, Nat.reduceAdd, Nat.zero_lt_succ, if_true, ↓reduceIte] <;> rfl)) (by simp only [kP] <;> rfl) ?_
   refine OkOps.append tab_ok rfl rfl (by simp only [kT] <;> rfl) (by simp only [kT] <;> rfl) (by decide) rfl (by simp only [kE, kT, kL, kC] <;> rfl) (.inl ⟨_, _, by simp only [kE, kT, kL, kC] <;> rfl⟩) (by omega) (by omega) (by simp only [List.length_map, List.length_cons, List.length_nil]; omega) (by simp only [List.length_map, List.length_cons, List.length_nil]; omega) (by simp [V.one]) (by simp only [V.killL, V.killLL, V.travL, V.travLL, V.trav, killS, killP, Nat.reduceEqDiff, ↓reduceIte, reduceCtorEq, if_true, if_false, List.append_nil, List.nil_append, List.cons_append, zz, zf, zy] <;> rfl) (by simp only [V.killL, V.killLL, V.travL, V.travLL, V.trav, killS, killP, Nat.reduceEqDiff, ↓reduceIte, reduceCtorEq, if_true, if_false, List.append_nil, List.nil_append, List.cons_append, zz, zf, zy, kP] <;> rfl) (rfl) ?_
   refine EV ?_
   refine ON ?_
   refine Ok.region ?_
   refine EV ?_
   refine OkOps.ev tab_ok rfl (by simp only [kE, kT, kL, kC, wrap_succ (show i < 9223372036854775807 by omega)] <;> rfl) (by simp only [kP] <;> rfl) ?_
   refine EV ?_
   refine ON ?_
   refine Ok.region ?_
   iterate 3 (refine EV ?_)
   refine ON ?_
   refine ⟨(i + 1, i + 1, out ++ [curW s i b]), ?_, rfl, (h1.nl hi hnl), (by dsimp only; omega)⟩
   simp only [V.renL, V.travL, V.travLL, V.trav, frz, zz, zf, zy, Nat.reduceLeDiff, ↓reduceIte]
   (repeat (first | exact trivial | refine leC ?_ | refine leK ?_ ?_)) <;> first | (first | exact le_rfl' _ | (rw [wrap_succ (by omega)]; exact le_rfl' _) | (simp only [List.map_append, List.map_cons, List.map_nil]; exact le_rfl' _)) | exact le_rfl' _
  try simp only [bsimp] at hb6
  have hnl : ¬ s[i].toNat = 10 := by omega
  refine Ok.skip ?_
  refine Ok.region ?_
  iterate 3 (refine EV ?_)
  refine ON ?_
  refine ⟨(i + 1, b, out), ?_, rfl, (h1.mid hi hnl), (by dsimp only; omega)⟩
  simp only [V.renL, V.travL, V.travLL, V.trav, frz, zz, zf, zy, Nat.reduceLeDiff, ↓reduceIte]
  (repeat (first | exact trivial | refine leC ?_ | refine leK ?_ ?_)) <;> first | (first | exact le_rfl' _ | (rw [wrap_succ (by omega)]; exact le_rfl' _) | (simp only [List.map_append, List.map_cons, List.map_nil]; exact le_rfl' _)) | exact le_rfl' _
 try simp only [bsimp] at hb4
 obtain rfl : i = s.length := by have := h1.i1; omega
 have hb1 := h1.b1
 have hln := h1.len
 rw [h1.fin]
 refine Ok.exit ?_
 refine Ok.seq ?_
 refine OQ ?_
 iterate 4 (refine EV ?_)
 refine ON ?_
 refine OC (fun hb9 => ?_) (fun hb9 => ?_)
 ·
  try simp only [bsimp] at hb9
  rw [if_pos (by omega)]
  refine Ok.region ?_
  iterate 3 (refine EV ?_)
  refine OkOps.ev tab_ok rfl (ev_cutLo (by simp only [kE, kT, kL, kC] <;> rfl) (by simp only [kE, kT, kL, kC] <;> rfl) rfl (by omega)) (by simp only [kP] <;> rfl) ?_
  refine OkOps.ev tab_ok rfl (ev_bs (by simp only [kT] <;> rfl) (by simp only [kT] <;> rfl) (by decide) (by decide) (by simp only [kE, kT, kL, kC, List.map_cons, List.map_nil] <;> rfl) (by simp only [kfe, beq_self_eq_true, Bool.and_true, Bool.true_and, decide_true, Nat.zero_add, Nat.lt_add_one, Nat.reduceLT, Nat.reduceAdd, Nat.zero_lt_succ, if_true, ↓reduceIte] <;> rfl)) (by simp only [kP] <;> rfl) ?_
  refine OkOps.append tab_ok rfl rfl (by simp only [kT] <;> rfl) (by simp only [kT] <;> rfl) (by decide) rfl (by simp only [kE, kT, kL, kC] <;> rfl) (.inl ⟨_, _, by simp only [kE, kT, kL, kC] <;> rfl⟩) (by omega) (by omega) (by simp only [List.length_map, List.length_cons, List.length_nil]; omega) (by simp only [List.length_map, List.length_cons, List.length_nil]; omega) (by simp [V.one]) (by simp only [V.killL, V.killLL, V.travL, V.travLL, V.trav, killS, killP, Nat.reduceEqDiff, ↓reduceIte, reduceCtorEq, if_true, if_false, List.append_nil, List.nil_append, List.cons_append, zz, zf, zy] <;> rfl) (by simp only [V.killL, V.killLL, V.travL, V.travLL, V.trav, killS, killP, Nat.reduceEqDiff, ↓reduceIte, reduceCtorEq, if_true, if_false, List.append_nil, List.nil_append, List.cons_append, zz, zf, zy, kP] <;> rfl) (rfl) ?_
  refine EV ?_
  refine ON ?_
  refine OQ ?_
  iterate 2 (refine EV ?_)
  refine ON ?_
  refine Ok.ret ?_
  with_reducible repeat (first | refine thenQ_ret ?_ | refine blockQ_ret ?_)
  refine RT ?_
  first | rfl | (simp [V.erase, V.trav, V.travL, packV, zz, zf, zy]; done) | (simp [V.erase, V.trav, V.travL, packV, zz, zf, zy]; rfl)
 try simp only [bsimp] at hb9
 rw [if_neg (by omega)]
 refine Ok.skip ?_
 refine OQ ?_
 iterate 2 (refine EV ?_)
 refine ON ?_
 refine Ok.ret ?_
 with_reducible repeat (first | refine thenQ_ret ?_ | refine blockQ_ret ?_)
 refine RT ?_
 first | rfl | (simp [V.erase, V.trav, V.travL, packV, zz, zf, zy]; done) | (simp [V.erase, V.trav, V.travL, packV, zz, zf, zy]; rfl)
end Go.Proofs.YtliiphpbfambcaaGreatDoor.K

/- Walks: lines of scripts read. Printed by w2.py. -/
namespace Go.Proofs.YtliiphpbfambcaaGreatDoor.K
open Go Go.RowKit
set_option linter.unusedVariables false
set_option linter.unusedSimpArgs false
set_option maxHeartbeats 4000000
set_option maxRecDepth 20000
theorem w_spec_l23Event (v : List Str) (hne : 0 < v.length) (hp : v.length ≤ 1000) (hl : ∀ x ∈ v, x.length ≤ 1000000) : Weak Tryz.prog 15 [.sl 0 1 0 (v.map cS)] (.tup [.agg (cEvent (evRaw v).1), .bool (evRaw v).2]) := by
 refine Weak.enter tab_ok Tryz.func15 rfl (.inr (by simp [V.labelsL, V.labels, zz, zf, zy])) (t := [.sl 0 1 0 (v.map cS), .any, .any, .any, .any, .any, .any, .any, .any, .any, .any, .any, .any, .any, .any, .any, .any, .any, .any, .any, .any, .any, .any, .any, .any, .any, .any, .any, .any, .any, .any, .any, .any, .any, .any, .any, .any, .any, .any, .any, .any, .any, .any, .any, .any, .any, .any, .any, .any, .any, .any, .any, .any, .any, .any, .any, .any, .any, .any, .any, .any, .any, .any, .any, .any, .any, .any, .any, .any, .any, .any, .any, .any, .any, .any, .any, .any]) rfl ?_
 refine OQ ?_
 iterate 2 (refine EV ?_)
 refine ON ?_
 refine Ok.seq ?_
 refine OQ ?_
 refine EV ?_
 refine OkOps.ev tab_ok rfl (ev_idx_map (j := 0) (by simp only [kE, kT, kL, kC] <;> rfl) (by simp only [kE, kT, kL, kC] <;> rfl) (by omega) (by simp only [kE, kT, kL, kC] <;> rfl)) (by simp only [kP] <;> rfl) ?_
 iterate 2 (refine EV ?_)
 refine ON ?_
 refine OC (fun hb1 => ?_) (fun hb1 => ?_)
 ·
  try simp only [bsimp] at hb1
  have hw : v[0] = wSay := hb1
  refine Ok.seq ?_
  refine OQ ?_
  iterate 3 (refine EV ?_)
  refine ON ?_
  refine OC (fun hb2 => ?_) (fun hb2 => ?_)
  ·
   try simp only [bsimp] at hb2
   rw [ev_say1 hne hw (by omega)]
   refine OQ ?_
   refine OkOps.ev tab_ok rfl (by simp [ev1, fillV, kE, kT, kL] <;> first | rfl | exact ⟨rfl, rfl⟩) (by simp only [kP] <;> rfl) ?_
   refine OE ?_
   refine EV ?_
   refine ON ?_
   refine Ok.ret ?_
   with_reducible repeat (first | refine thenQ_ret ?_ | refine blockQ_ret ?_)
   refine RT ?_
   first | rfl | (simp [cEvent, zEvent, V.erase, V.trav, V.travL, V.travLL, packV, zz, zf, zy]; done) | (simp_all [cEvent, zEvent, V.erase, V.trav, V.travL, V.travLL, packV, zz, zf, zy]; done)
  try simp only [bsimp] at hb2
  have h1 : 1 < v.length := by omega
  rw [ev_say hne hw h1]
  have hj := joinB_len (l := v.drop 2) (m := 1000000) fun x hx => hl x (List.mem_of_mem_drop hx)
  have hdl : (v.drop 2).length ≤ 1000 := by rw [List.length_drop]; omega
  refine Ok.skip ?_
  refine OQ ?_
  refine EV ?_
  refine OkOps.ev tab_ok rfl (ev_idx_map (j := 1) (by simp only [kE, kT, kL, kC] <;> rfl) (by simp only [kE, kT, kL, kC] <;> rfl) (by omega) (by simp only [kE, kT, kL, kC] <;> rfl)) (by simp only [kP] <;> rfl) ?_
  refine EV ?_
  refine OW cl33 (w_spec_ReadDecimal v[1] (hl _ (List.getElem_mem h1))) ?_
  iterate 5 (refine EV ?_)
  refine ON ?_
  refine OQ ?_
  iterate 2 (refine EV ?_)
  refine OkOps.ev tab_ok rfl (ev_partLo_map (a := 2) (by simp only [kE, kT, kL, kC] <;> rfl) (by simp only [kE, kT, kL, kC] <;> rfl) (by simp only [kT] <;> rfl) (by simp only [kT, Option.map_some] <;> rfl) (by omega)) (by simp only [kP] <;> rfl) ?_
  refine OW cl34 (w_spec_l23Join (v.drop 2) 2 hdl (fun x hx => hl x (List.mem_of_mem_drop hx))) ?_
  refine OkOps.ev tab_ok rfl (ev_cat (by simp only [kE, kT, kL, kC] <;> rfl) (by simp only [kE, kT, kL, kC] <;> rfl) (by first | omega | (simp only [List.length_append, List.length_cons, List.length_nil] at *; omega))) (by simp only [kP] <;> rfl) ?_
  refine OkOps.ev tab_ok rfl (by simp [ev1, fillV, kE, kT, kL] <;> first | rfl | exact ⟨rfl, rfl⟩) (by simp only [kP] <;> rfl) ?_
  refine EV ?_
  refine OE ?_
  refine EV ?_
  refine ON ?_
  refine Ok.ret ?_
  with_reducible repeat (first | refine thenQ_ret ?_ | refine blockQ_ret ?_)
  refine RT ?_
  first | rfl | (simp [cEvent, zEvent, V.erase, V.trav, V.travL, V.travLL, packV, zz, zf, zy]; done) | (simp_all [cEvent, zEvent, V.erase, V.trav, V.travL, V.travLL, packV, zz, zf, zy]; done)
 try simp only [bsimp] at hb1
 have hw : ¬ v[0] = wSay := hb1
 refine Ok.skip ?_
 refine OQ ?_
 refine EV ?_
 refine OkOps.ev tab_ok rfl (ev_idx_map (j := 0) (by simp only [kE, kT, kL, kC] <;> rfl) (by simp only [kE, kT, kL, kC] <;> rfl) (by omega) (by simp only [kE, kT, kL, kC] <;> rfl)) (by simp only [kP] <;> rfl) ?_
 refine EV ?_
 refine OW cl35 (w_spec_l23Kind v[0]) ?_
 iterate 5 (refine EV ?_)
 refine ON ?_
 refine Ok.seq ?_
 refine Ok.seqC [(48, .bool (decide ((kS v[0]).1 = 0 ∨ ¬ v.length = (kS v[0]).2 + 1)))] [40, 41, 42, 43, 44, 45, 46, 47] (by simp only [kover] <;> rfl) ?_ ?_
 ·
  refine Ok.region ?_
  iterate 3 (refine EV ?_)
  refine OP (d := 42) (fun hg7_2 => ?_) (fun hg7_2 => ?_)
  ·
   try simp only [bsimp] at hg7_2
   iterate 5 (refine OU ?_)
   refine EV ?_
   refine ON ?_
   refine ⟨rfl, ?_, rfl, rfl⟩
   (repeat (first | exact trivial | refine leC ?_ | refine leK ?_ ?_)) <;> first | (have hk2 := kS_le v[0]; first | (rw [wrap_succ (by omega)]; refine .inl (congrArg V.bool ?_); rw [Bool.eq_iff_iff]; simp_all <;> omega) | (refine .inl (congrArg V.bool ?_); rw [Bool.eq_iff_iff]; simp_all <;> omega)) | exact le_rfl' _
  try simp only [bsimp] at hg7_2
  iterate 4 (refine OX ?_)
  refine OO ?_
  iterate 2 (refine EV ?_)
  refine ON ?_
  refine ⟨rfl, ?_, rfl, rfl⟩
  (repeat (first | exact trivial | refine leC ?_ | refine leK ?_ ?_)) <;> first | (have hk2 := kS_le v[0]; first | (rw [wrap_succ (by omega)]; refine .inl (congrArg V.bool ?_); rw [Bool.eq_iff_iff]; simp_all <;> omega) | (refine .inl (congrArg V.bool ?_); rw [Bool.eq_iff_iff]; simp_all <;> omega)) | exact le_rfl' _
 refine OC (fun hb7 => ?_) (fun hb7 => ?_)
 ·
  try simp only [bsimp] at hb7
  rw [ev_no hne hw hb7]
  refine OQ ?_
  refine OkOps.ev tab_ok rfl (by simp [ev1, fillV, kE, kT, kL] <;> first | rfl | exact ⟨rfl, rfl⟩) (by simp only [kP] <;> rfl) ?_
  refine OE ?_
  refine EV ?_
  refine ON ?_
  refine Ok.ret ?_
  with_reducible repeat (first | refine thenQ_ret ?_ | refine blockQ_ret ?_)
  refine RT ?_
  first | rfl | (simp [cEvent, zEvent, V.erase, V.trav, V.travL, V.travLL, packV, zz, zf, zy]; done) | (simp_all [cEvent, zEvent, V.erase, V.trav, V.travL, V.travLL, packV, zz, zf, zy]; done)
 try simp only [bsimp] at hb7
 have h0 : ¬ (kS v[0]).1 = 0 := fun e => hb7 (.inl e)
 have hpl : v.length = (kS v[0]).2 + 1 := Classical.byContradiction fun e => hb7 (.inr e)
 have hk2 := kS_le v[0]
 refine Ok.skip ?_
 refine OQ ?_
 refine EV ?_
 refine OkOps.ev tab_ok rfl (by simp [ev1, fillV, kE, kT, kL] <;> first | rfl | exact ⟨rfl, rfl⟩) (by simp only [kP] <;> rfl) ?_
 refine EV ?_
 refine OE ?_
 refine ON ?_
 refine OQ ?_
 refine EV ?_
 refine ON ?_
 refine OQ ?_
 refine EV ?_
 refine ON ?_
 refine Ok.seq ?_
 refine OQ ?_
 iterate 2 (refine EV ?_)
 refine ON ?_
 refine OC (fun hb12 => ?_) (fun hb12 => ?_)
 ·
  try simp only [bsimp] at hb12
  have h1 : 1 < v.length := by omega
  refine Ok.region ?_
  refine EV ?_
  refine OkOps.ev tab_ok rfl (ev_idx_map (j := 1) (by simp only [kE, kT, kL, kC] <;> rfl) (by simp only [kE, kT, kL, kC] <;> rfl) (by omega) (by simp only [kE, kT, kL, kC] <;> rfl)) (by simp only [kP] <;> rfl) ?_
  refine EV ?_
  refine OW cl33 (w_spec_ReadDecimal v[1] (hl _ (List.getElem_mem h1))) ?_
  iterate 4 (refine EV ?_)
  refine OE ?_
  refine EV ?_
  refine ON ?_
  refine Ok.seq ?_
  refine OQ ?_
  iterate 2 (refine EV ?_)
  refine ON ?_
  refine OC (fun hb14 => ?_) (fun hb14 => ?_)
  ·
   try simp only [bsimp] at hb14
   have h1 : 1 < v.length := by omega
   have h2 : 2 < v.length := by omega
   rw [ev_2 hne hw h0 hpl (by omega) h1 h2]
   refine Ok.region ?_
   refine EV ?_
   refine OkOps.ev tab_ok rfl (ev_idx_map (j := 2) (by simp only [kE, kT, kL, kC] <;> rfl) (by simp only [kE, kT, kL, kC] <;> rfl) (by omega) (by simp only [kE, kT, kL, kC] <;> rfl)) (by simp only [kP] <;> rfl) ?_
   refine EV ?_
   refine OW cl33 (w_spec_ReadDecimal v[2] (hl _ (List.getElem_mem h2))) ?_
   iterate 4 (refine EV ?_)
   refine OE ?_
   refine EV ?_
   refine ON ?_
   refine OQ ?_
   iterate 3 (refine EV ?_)
   refine OP (d := 74) (fun hg16_2 => ?_) (fun hg16_2 => ?_)
   ·
    try simp only [bsimp] at hg16_2
    refine OO ?_
    iterate 2 (refine EV ?_)
    refine OE ?_
    refine EV ?_
    refine ON ?_
    refine Ok.ret ?_
    with_reducible repeat (first | refine thenQ_ret ?_ | refine blockQ_ret ?_)
    refine RT ?_
    first | rfl | (simp [cEvent, zEvent, V.erase, V.trav, V.travL, V.travLL, packV, zz, zf, zy]; done) | (simp_all [cEvent, zEvent, V.erase, V.trav, V.travL, V.travLL, packV, zz, zf, zy]; done)
   try simp only [bsimp] at hg16_2
   refine OU ?_
   refine EV ?_
   refine OE ?_
   refine EV ?_
   refine ON ?_
   refine Ok.ret ?_
   with_reducible repeat (first | refine thenQ_ret ?_ | refine blockQ_ret ?_)
   refine RT ?_
   first | rfl | (simp [cEvent, zEvent, V.erase, V.trav, V.travL, V.travLL, packV, zz, zf, zy]; done) | (simp_all [cEvent, zEvent, V.erase, V.trav, V.travL, V.travLL, packV, zz, zf, zy]; done)
  try simp only [bsimp] at hb14
  first | rw [ev_1 hne hw h0 hpl (by omega) (by omega)] | rw [ev_0 hne hw h0 hpl (by omega)]
  refine Ok.skip ?_
  refine OQ ?_
  iterate 3 (refine EV ?_)
  refine OP (d := 74) (fun hg16_2 => ?_) (fun hg16_2 => ?_)
  ·
   try simp only [bsimp] at hg16_2
   refine OO ?_
   iterate 2 (refine EV ?_)
   refine OE ?_
   refine EV ?_
   refine ON ?_
   refine Ok.ret ?_
   with_reducible repeat (first | refine thenQ_ret ?_ | refine blockQ_ret ?_)
   refine RT ?_
   first | rfl | (simp [cEvent, zEvent, V.erase, V.trav, V.travL, V.travLL, packV, zz, zf, zy]; done) | (simp_all [cEvent, zEvent, V.erase, V.trav, V.travL, V.travLL, packV, zz, zf, zy]; done)
  try simp only [bsimp] at hg16_2
  refine OU ?_
  refine EV ?_
  refine OE ?_
  refine EV ?_
  refine ON ?_
  refine Ok.ret ?_
  with_reducible repeat (first | refine thenQ_ret ?_ | refine blockQ_ret ?_)
  refine RT ?_
  first | rfl | (simp [cEvent, zEvent, V.erase, V.trav, V.travL, V.travLL, packV, zz, zf, zy]; done) | (simp_all [cEvent, zEvent, V.erase, V.trav, V.travL, V.travLL, packV, zz, zf, zy]; done)
 try simp only [bsimp] at hb12
 refine Ok.skip ?_
 refine Ok.seq ?_
 refine OQ ?_
 iterate 2 (refine EV ?_)
 refine ON ?_
 refine OC (fun hb14 => ?_) (fun hb14 => ?_)
 ·
  try simp only [bsimp] at hb14
  have h1 : 1 < v.length := by omega
  have h2 : 2 < v.length := by omega
  rw [ev_2 hne hw h0 hpl (by omega) h1 h2]
  refine Ok.region ?_
  refine EV ?_
  refine OkOps.ev tab_ok rfl (ev_idx_map (j := 2) (by simp only [kE, kT, kL, kC] <;> rfl) (by simp only [kE, kT, kL, kC] <;> rfl) (by omega) (by simp only [kE, kT, kL, kC] <;> rfl)) (by simp only [kP] <;> rfl) ?_
  refine EV ?_
  refine OW cl33 (w_spec_ReadDecimal v[2] (hl _ (List.getElem_mem h2))) ?_
  iterate 4 (refine EV ?_)
  refine OE ?_
  refine EV ?_
  refine ON ?_
  refine OQ ?_
  iterate 3 (refine EV ?_)
  refine OP (d := 74) (fun hg16_2 => ?_) (fun hg16_2 => ?_)
  ·
   try simp only [bsimp] at hg16_2
   refine OO ?_
   iterate 2 (refine EV ?_)
   refine OE ?_
   refine EV ?_
   refine ON ?_
   refine Ok.ret ?_
   with_reducible repeat (first | refine thenQ_ret ?_ | refine blockQ_ret ?_)
   refine RT ?_
   first | rfl | (simp [cEvent, zEvent, V.erase, V.trav, V.travL, V.travLL, packV, zz, zf, zy]; done) | (simp_all [cEvent, zEvent, V.erase, V.trav, V.travL, V.travLL, packV, zz, zf, zy]; done)
  try simp only [bsimp] at hg16_2
  refine OU ?_
  refine EV ?_
  refine OE ?_
  refine EV ?_
  refine ON ?_
  refine Ok.ret ?_
  with_reducible repeat (first | refine thenQ_ret ?_ | refine blockQ_ret ?_)
  refine RT ?_
  first | rfl | (simp [cEvent, zEvent, V.erase, V.trav, V.travL, V.travLL, packV, zz, zf, zy]; done) | (simp_all [cEvent, zEvent, V.erase, V.trav, V.travL, V.travLL, packV, zz, zf, zy]; done)
 try simp only [bsimp] at hb14
 first | rw [ev_1 hne hw h0 hpl (by omega) (by omega)] | rw [ev_0 hne hw h0 hpl (by omega)]
 refine Ok.skip ?_
 refine OQ ?_
 iterate 3 (refine EV ?_)
 refine OP (d := 74) (fun hg16_2 => ?_) (fun hg16_2 => ?_)
 ·
  try simp only [bsimp] at hg16_2
  refine OO ?_
  iterate 2 (refine EV ?_)
  refine OE ?_
  refine EV ?_
  refine ON ?_
  refine Ok.ret ?_
  with_reducible repeat (first | refine thenQ_ret ?_ | refine blockQ_ret ?_)
  refine RT ?_
  first | rfl | (simp [cEvent, zEvent, V.erase, V.trav, V.travL, V.travLL, packV, zz, zf, zy]; done) | (simp_all [cEvent, zEvent, V.erase, V.trav, V.travL, V.travLL, packV, zz, zf, zy]; done)
 try simp only [bsimp] at hg16_2
 refine OU ?_
 refine EV ?_
 refine OE ?_
 refine EV ?_
 refine ON ?_
 refine Ok.ret ?_
 with_reducible repeat (first | refine thenQ_ret ?_ | refine blockQ_ret ?_)
 refine RT ?_
 first | rfl | (simp [cEvent, zEvent, V.erase, V.trav, V.travL, V.travLL, packV, zz, zf, zy]; done) | (simp_all [cEvent, zEvent, V.erase, V.trav, V.travL, V.travLL, packV, zz, zf, zy]; done)
end Go.Proofs.YtliiphpbfambcaaGreatDoor.K

/- Walks: scripts read. Printed by w2.py. -/
namespace Go.Proofs.YtliiphpbfambcaaGreatDoor.K
open Go Go.RowKit
set_option linter.unusedVariables false
set_option linter.unusedSimpArgs false
set_option maxHeartbeats 4000000
set_option maxRecDepth 20000
theorem w_spec_ReadScript (s : Str) (hs : s.length ≤ 1000000) : Weak Tryz.prog 7 [.str s] (vRS (readScript s)) := by
 refine Weak.enter tab_ok Tryz.func7 rfl (.inr (by simp [V.labelsL, V.labels, zz, zf, zy, zev])) (t := [.str s, .any, .any, .any, .any, .any, .any, .any, .any, .any, .any, .any, .any, .any, .any, .any, .any, .any, .any, .any, .any, .any, .any, .any, .any, .any, .any, .any, .any, .any, .any, .any, .any, .any, .any, .any, .any, .any, .any, .any, .any, .any, .any, .any, .any, .any, .any, .any, .any, .any, .any, .any, .any, .any, .any, .any, .any, .any, .any, .any, .any, .any, .any, .any, .any, .any, .any, .any, .any, .any, .any, .any, .any, .any, .any, .any, .any, .any, .any, .any, .any, .any, .any, .any, .any, .any, .any, .any, .any, .any, .any, .any]) rfl ?_
 refine OQ ?_
 iterate 3 (refine EV ?_)
 refine ON ?_
 refine OQ ?_
 iterate 2 (refine EV ?_)
 refine ON ?_
 refine Ok.seq ?_
 refine OQ ?_
 iterate 3 (refine EV ?_)
 refine ON ?_
 refine OC (fun hb2 => ?_) (fun hb2 => ?_)
 ·
  try simp only [bsimp] at hb2
  rw [show readScript s = ([], false, -1) from if_pos (by omega)]
  refine OQ ?_
  iterate 4 (refine EV ?_)
  refine ON ?_
  refine Ok.ret ?_
  with_reducible repeat (first | refine thenQ_ret ?_ | refine blockQ_ret ?_)
  refine retQ.end (by show resVs tab _ [.tmp 2, .tmp 3, .tmp 4] = _; simp only [kE, kT, kL, kC] <;> rfl) rfl ?_
  first | rfl | (simp [V.erase, V.trav, V.travL, packV, zz, zf, zy, zev]; done) | (simp [V.erase, V.trav, V.travL, packV, zz, zf, zy, zev]; rfl)
 try simp only [bsimp] at hb2
 have hl3 : ¬ s.length > 3000 := by omega
 have hmany := lines_many s
 refine Ok.skip ?_
 refine OQ ?_
 iterate 2 (refine EV ?_)
 refine ON ?_
 refine OQ ?_
 refine EV ?_
 refine ON ?_
 refine OQ ?_
 refine EV ?_
 refine OW cl13 (w_spec_l23Lines s hs) ?_
 refine EV ?_
 refine ON ?_
 refine Ok.seq ?_
 refine OQ ?_
 refine EV ?_
 refine ON ?_
 refine Ok.block ?_
 refine Ok.bump (n' := 2) (by omega) ?_
 refine Ok.loopWZ (τ := Nat × List Event × Bool) (fun x => [(5, .nil 4), (6, .sl 1 4 0 (x.2.1.map cEvent)), (7, .bool x.2.2), (9, .int .i64 (x.1 : Int))]) [2, 3, 4, 10, 11, 12, 13, 22, 23, 24, 25, 26, 27, 28, 29, 30, 31, 32, 33, 34, 35, 36, 37, 38, 39, 40, 41, 42, 43, 44, 45, 46, 47, 48, 49, 50, 51, 52, 53, 54, 55, 56, 57, 58, 59, 60, 61, 62, 63, 64, 65, 66, 67, 68, 69, 70, 71, 72, 73, 74, 75, 76, 77, 78, 79, 80, 81, 82, 83, 84, 85, 86, 87, 88, 89] (fun x => by simp only [kover] <;> rfl) (fun x => RG s x.1 x.2.1 x.2.2) (fun x => (linesOf s).length - x.1) (0, [], false) (by omega) (by (repeat (first | exact trivial | refine leC ?_ | refine leK ?_ ?_)) <;> first | (first | exact le_rfl' _ | exact le_nil 1 4) | exact le_rfl' _) (RG.beg hl3) ?_
 rintro ⟨i, out, calm⟩ h1
 dsimp only at h1 ⊢
 have hln0 := h1.len
 have hi0 := h1.i1
 refine Ok.seq ?_
 refine OQ ?_
 iterate 4 (refine EV ?_)
 refine ON ?_
 refine OC (fun hb8 => ?_) (fun hb8 => ?_)
 ·
  try simp only [bsimp] at hb8
  have hi : i < (linesOf s).length := by omega
  have hll : (linesOf s)[i].length ≤ 1000000 := by have := lines_len (List.getElem_mem hi); omega
  have hpf := parts_few (linesOf s)[i]
  have hwl : ∀ x ∈ (partsOf (linesOf s)[i]).1, x.length ≤ 1000000 := fun x hx => by have := (parts_mem hx).2; omega
  refine Ok.skip ?_
  refine Ok.seq ?_
  refine Ok.block ?_
  refine OQ ?_
  iterate 2 (refine EV ?_)
  refine OkOps.ev tab_ok rfl (ev_idx_map (by simp only [kE, kT, kL, kC] <;> rfl) (by simp only [kE, kT, kL, kC] <;> rfl) (hi) (by simp only [kE, kT, kL, kC] <;> rfl)) (by simp only [kP] <;> rfl) ?_
  refine EV ?_
  refine OW cl14 (w_spec_PartsOf (linesOf s)[i] hll) ?_
  iterate 5 (refine EV ?_)
  refine ON ?_
  refine Ok.seq ?_
  refine Ok.seqC [(48, .bool (mute (linesOf s)[i]))] [36, 37, 38, 39, 40, 41, 42, 43, 44, 45, 46, 47] (by simp only [kover] <;> rfl) ?_ ?_
  ·
   refine Ok.region ?_
   iterate 2 (refine EV ?_)
   refine OP (d := 37) (fun hg11_1 => ?_) (fun hg11_1 => ?_)
   ·
    try simp only [bsimp] at hg11_1
    iterate 4 (refine OX ?_)
    refine OP (d := 41) (fun hg11_5 => ?_) (fun hg11_5 => ?_)
    ·
     try simp only [bsimp] at hg11_5
     have hm := mute_none hg11_1 (by omega)
     iterate 5 (refine OU ?_)
     refine OO ?_
     iterate 2 (refine EV ?_)
     refine ON ?_
     refine ⟨rfl, ?_, rfl, rfl⟩
     (repeat (first | exact trivial | refine leC ?_ | refine leK ?_ ?_)) <;> first | (refine .inl (congrArg V.bool ?_); first | exact hm.symm | rw [hm]; first | rfl | (simp_all; done) | (rw [Bool.eq_iff_iff]; simp_all <;> omega)) | exact le_rfl' _
    try simp only [bsimp] at hg11_5
    have hq0 : 0 < (partsOf (linesOf s)[i]).1.length := by omega
    have hq1 := (parts_mem (List.getElem_mem hq0)).1
    have hm := mute_word hg11_1 hq0 hq1
    refine OX ?_
    refine OO ?_
    refine OkOps.ev tab_ok rfl (ev_idx_map (j := 0) (by simp only [kE, kT, kL, kC] <;> rfl) (by simp only [kE, kT, kL, kC] <;> rfl) (hq0) (by simp only [kE, kT, kL, kC] <;> rfl)) (by simp only [kP] <;> rfl) ?_
    refine OX ?_
    refine OO ?_
    refine OkOps.ev tab_ok rfl (ev_byte_lt (j := 0) (by simp only [kE, kT, kL, kC] <;> rfl) (by simp only [kE, kT, kL, kC] <;> rfl) (hq1) rfl) (by simp only [kP] <;> rfl) ?_
    refine OX ?_
    refine OO ?_
    iterate 2 (refine EV ?_)
    refine ON ?_
    refine ⟨rfl, ?_, rfl, rfl⟩
    (repeat (first | exact trivial | refine leC ?_ | refine leK ?_ ?_)) <;> first | (refine .inl (congrArg V.bool ?_); first | exact hm.symm | rw [hm]; first | rfl | (simp_all; done) | (rw [Bool.eq_iff_iff]; simp_all <;> omega)) | exact le_rfl' _
   try simp only [bsimp] at hg11_1
   have hm := mute_no hg11_1
   iterate 10 (refine OU ?_)
   refine EV ?_
   refine ON ?_
   refine ⟨rfl, ?_, rfl, rfl⟩
   (repeat (first | exact trivial | refine leC ?_ | refine leK ?_ ?_)) <;> first | (refine .inl (congrArg V.bool ?_); first | exact hm.symm | rw [hm]; first | rfl | (simp_all; done) | (rw [Bool.eq_iff_iff]; simp_all <;> omega)) | exact le_rfl' _
  refine OC (fun hb11 => ?_) (fun hb11 => ?_)
  ·
   try simp only [bsimp] at hb11
   refine Ok.exit ?_
   refine Ok.region ?_
   iterate 3 (refine EV ?_)
   refine ON ?_
   refine ⟨(i + 1, out, calm), ?_, rfl, (h1.mute hi hb11), (by dsimp only; omega)⟩
   simp only [V.renL, V.travL, V.travLL, V.trav, frz, zz, zf, zy, zev, Nat.reduceLeDiff, ↓reduceIte]
   (repeat (first | exact trivial | refine leC ?_ | refine leK ?_ ?_)) <;> first | (first | exact le_rfl' _ | (rw [wrap_succ (by omega)]; exact le_rfl' _) | (simp only [List.map_append, List.map_cons, List.map_nil]; exact le_rfl' _)) | exact le_rfl' _
  try simp only [bsimp] at hb11
  refine Ok.skip ?_
  refine Ok.seq ?_
  refine Ok.seqC [(53, .bool (!(partsOf (linesOf s)[i]).2 || calm))] [49, 50, 51, 52] (by simp only [kover] <;> rfl) ?_ ?_
  ·
   refine Ok.region ?_
   iterate 3 (refine EV ?_)
   refine OP (d := 51) (fun hg12_2 => ?_) (fun hg12_2 => ?_)
   ·
    try simp only [bsimp] at hg12_2
    refine OU ?_
    refine EV ?_
    refine ON ?_
    refine ⟨rfl, ?_, rfl, rfl⟩
    (repeat (first | exact trivial | refine leC ?_ | refine leK ?_ ?_)) <;> first | (refine .inl (congrArg V.bool ?_); first | rfl | (simp_all; done) | (rw [Bool.eq_iff_iff]; simp_all; done) | (rw [Bool.eq_iff_iff]; simp_all; omega) | (rw [Bool.eq_iff_iff]; simp_all <;> omega)) | exact le_rfl' _
   try simp only [bsimp] at hg12_2
   refine OO ?_
   iterate 2 (refine EV ?_)
   refine ON ?_
   refine ⟨rfl, ?_, rfl, rfl⟩
   (repeat (first | exact trivial | refine leC ?_ | refine leK ?_ ?_)) <;> first | (refine .inl (congrArg V.bool ?_); first | rfl | (simp_all; done) | (rw [Bool.eq_iff_iff]; simp_all; done) | (rw [Bool.eq_iff_iff]; simp_all; omega) | (rw [Bool.eq_iff_iff]; simp_all <;> omega)) | exact le_rfl' _
  refine OC (fun hb12 => ?_) (fun hb12 => ?_)
  ·
   try simp only [bsimp] at hb12
   rw [h1.bad hi hb11 hb12]
   refine OQ ?_
   iterate 2 (refine EV ?_)
   refine OkOps.ev tab_ok rfl (by simp only [kE, kT, kL, kC, wrap_succ (show i < 9223372036854775807 by omega)] <;> rfl) (by simp only [kP] <;> rfl) ?_
   iterate 3 (refine EV ?_)
   refine ON ?_
   refine Ok.ret ?_
   with_reducible repeat (first | refine thenQ_ret ?_ | refine blockQ_ret ?_)
   refine retQ.end (by show resVs tab _ [.tmp 2, .tmp 3, .tmp 4] = _; simp only [kE, kT, kL, kC] <;> rfl) rfl ?_
   first | rfl | (simp [V.erase, V.trav, V.travL, packV, zz, zf, zy, zev]; done) | (simp [V.erase, V.trav, V.travL, packV, zz, zf, zy, zev]; rfl)
  try simp only [bsimp] at hb12
  have hpok : (partsOf (linesOf s)[i]).2 = true := by simp_all
  have hpne : 0 < (partsOf (linesOf s)[i]).1.length := by rcases Nat.eq_zero_or_pos (partsOf (linesOf s)[i]).1.length with e | e; (rw [mute_none hpok e] at hb11; cases hb11); exact e
  refine Ok.skip ?_
  refine Ok.seq ?_
  refine Ok.seqC [(65, .bool (decide ((partsOf (linesOf s)[i]).1 = [wCalm])))] [57, 58, 59, 60, 61, 62, 63, 64] (by simp only [kover] <;> rfl) ?_ ?_
  ·
   refine Ok.region ?_
   iterate 4 (refine EV ?_)
   refine OP (d := 60) (fun hg14_3 => ?_) (fun hg14_3 => ?_)
   ·
    try simp only [bsimp] at hg14_3
    have hc1 := calm_one (p := (partsOf (linesOf s)[i]).1) (by omega) (by omega)
    refine OX ?_
    refine OO ?_
    refine OkOps.ev tab_ok rfl (ev_idx_map (j := 0) (by simp only [kE, kT, kL, kC] <;> rfl) (by simp only [kE, kT, kL, kC] <;> rfl) ((show 0 < (partsOf (linesOf s)[i]).1.length by omega)) (by simp only [kE, kT, kL, kC] <;> rfl)) (by simp only [kP] <;> rfl) ?_
    refine OX ?_
    refine OO ?_
    iterate 2 (refine EV ?_)
    refine ON ?_
    refine ⟨rfl, ?_, rfl, rfl⟩
    (repeat (first | exact trivial | refine leC ?_ | refine leK ?_ ?_)) <;> first | (refine .inl (congrArg V.bool ?_); first | exact hc1 | exact hc1.symm) | exact le_rfl' _
   try simp only [bsimp] at hg14_3
   have hc1 := calm_not (p := (partsOf (linesOf s)[i]).1) (by omega)
   iterate 4 (refine OU ?_)
   refine EV ?_
   refine ON ?_
   refine ⟨rfl, ?_, rfl, rfl⟩
   (repeat (first | exact trivial | refine leC ?_ | refine leK ?_ ?_)) <;> first | (refine .inl (congrArg V.bool ?_); first | exact hc1 | exact hc1.symm) | exact le_rfl' _
  refine OC (fun hb14 => ?_) (fun hb14 => ?_)
  ·
   try simp only [bsimp] at hb14
   refine OQ ?_
   refine EV ?_
   refine ON ?_
   refine Ok.exit ?_
   refine Ok.region ?_
   iterate 3 (refine EV ?_)
   refine ON ?_
   refine ⟨(i + 1, out, true), ?_, rfl, (h1.calmS hi hb11 hb12 hb14), (by dsimp only; omega)⟩
   simp only [V.renL, V.travL, V.travLL, V.trav, frz, zz, zf, zy, zev, Nat.reduceLeDiff, ↓reduceIte]
   (repeat (first | exact trivial | refine leC ?_ | refine leK ?_ ?_)) <;> first | (first | exact le_rfl' _ | (rw [wrap_succ (by omega)]; exact le_rfl' _) | (simp only [List.map_append, List.map_cons, List.map_nil]; exact le_rfl' _)) | exact le_rfl' _
  try simp only [bsimp] at hb14
  refine Ok.skip ?_
  refine OQ ?_
  refine EV ?_
  refine OW cl15 (w_spec_l23Event (partsOf (linesOf s)[i]).1 hpne (by omega) hwl) ?_
  iterate 4 (refine EV ?_)
  refine OkOps.storeE tab_ok rfl rfl (by simp only [kE, kT, kL, kC] <;> rfl) ⟨_, _, by simp only [kE]; rfl⟩ (by first | (simp [V.labelsL, V.labelsLL, V.labels, zz, zf, zy, zev]; done) | (simp [-List.map_map, -List.map_set, -List.map_drop, -List.map_take, -List.map_tail, -List.drop_one, V.labelsL, V.labelsLL, V.labels, zz, zf, zy, zev]; done)) (by simp only [eq_self, V.updL, V.travL, V.travLL, V.trav, updS, updP, and_self, true_and, and_true, false_and, and_false, Nat.reduceEqDiff, Nat.reduceSub, Nat.le_refl, Nat.zero_le, ↓reduceIte, if_true, if_false, kP, zz, zf, zy, zev] <;> rfl) (rfl) ?_
  refine EV ?_
  refine ON ?_
  refine Ok.seq ?_
  refine Ok.seqC [(82, .bool (!((evRaw (partsOf (linesOf s)[i]).1).2 && eventOk (evRaw (partsOf (linesOf s)[i]).1).1) || decide (out.length = 100)))] [71, 72, 73, 74, 75, 76, 77, 78, 79, 80, 81] (by simp only [kover] <;> rfl) ?_ ?_
  ·
   refine Ok.region ?_
   iterate 3 (refine EV ?_)
   refine OP (d := 73) (fun hg17_2 => ?_) (fun hg17_2 => ?_)
   ·
    try simp only [bsimp] at hg17_2
    iterate 3 (refine OU ?_)
    iterate 2 (refine EV ?_)
    iterate 3 (refine OU ?_)
    refine EV ?_
    refine ON ?_
    refine ⟨rfl, ?_, rfl, rfl⟩
    (repeat (first | exact trivial | refine leC ?_ | refine leK ?_ ?_)) <;> first | (refine .inl (congrArg V.bool ?_); first | rfl | (simp_all; done) | (rw [Bool.eq_iff_iff]; simp_all; done) | (rw [Bool.eq_iff_iff]; simp_all; omega) | (rw [Bool.eq_iff_iff]; simp_all <;> omega)) | exact le_rfl' _
   try simp only [bsimp] at hg17_2
   refine OX ?_
   refine OO ?_
   refine OW cl16 (w_spec_EventOk (evRaw (partsOf (linesOf s)[i]).1).1) ?_
   refine OO ?_
   iterate 3 (refine EV ?_)
   refine OP (d := 78) (fun hg17_7 => ?_) (fun hg17_7 => ?_)
   ·
    try simp only [bsimp] at hg17_7
    iterate 3 (refine OU ?_)
    refine EV ?_
    refine ON ?_
    refine ⟨rfl, ?_, rfl, rfl⟩
    (repeat (first | exact trivial | refine leC ?_ | refine leK ?_ ?_)) <;> first | (refine .inl (congrArg V.bool ?_); first | rfl | (simp_all; done) | (rw [Bool.eq_iff_iff]; simp_all; done) | (rw [Bool.eq_iff_iff]; simp_all; omega) | (rw [Bool.eq_iff_iff]; simp_all <;> omega)) | exact le_rfl' _
   try simp only [bsimp] at hg17_7
   refine OX ?_
   refine OX ?_
   refine OO ?_
   iterate 2 (refine EV ?_)
   refine ON ?_
   refine ⟨rfl, ?_, rfl, rfl⟩
   (repeat (first | exact trivial | refine leC ?_ | refine leK ?_ ?_)) <;> first | (refine .inl (congrArg V.bool ?_); first | rfl | (simp_all; done) | (rw [Bool.eq_iff_iff]; simp_all; done) | (rw [Bool.eq_iff_iff]; simp_all; omega) | (rw [Bool.eq_iff_iff]; simp_all <;> omega)) | exact le_rfl' _
  refine OC (fun hb17 => ?_) (fun hb17 => ?_)
  ·
   try simp only [bsimp] at hb17
   rw [h1.evBad hi hb11 hb12 hb14 hb17]
   refine OQ ?_
   iterate 2 (refine EV ?_)
   refine OkOps.ev tab_ok rfl (by simp only [kE, kT, kL, kC, wrap_succ (show i < 9223372036854775807 by omega)] <;> rfl) (by simp only [kP] <;> rfl) ?_
   iterate 3 (refine EV ?_)
   refine ON ?_
   refine Ok.ret ?_
   with_reducible repeat (first | refine thenQ_ret ?_ | refine blockQ_ret ?_)
   refine retQ.end (by show resVs tab _ [.tmp 2, .tmp 3, .tmp 4] = _; simp only [kE, kT, kL, kC] <;> rfl) rfl ?_
   first | rfl | (simp [V.erase, V.trav, V.travL, packV, zz, zf, zy, zev]; done) | (simp [V.erase, V.trav, V.travL, packV, zz, zf, zy, zev]; rfl)
  try simp only [bsimp] at hb17
  refine Ok.skip ?_
  refine Ok.region ?_
  iterate 2 (refine EV ?_)
  refine OkOps.ev tab_ok rfl (ev_bs (by simp only [kT] <;> rfl) (by simp only [kT] <;> rfl) (by decide) (by decide) (by simp only [kE, kT, kL, kC, List.map_cons, List.map_nil] <;> rfl) (by simp only [kfe, beq_self_eq_true, Bool.and_true, Bool.true_and, decide_true, Nat.zero_add, Nat.lt_add_one, Nat.reduceLT, Nat.reduceAdd, Nat.zero_lt_succ, if_true, ↓reduceIte] <;> rfl)) (by simp only [kP] <;> rfl) ?_
  refine OkOps.append tab_ok rfl rfl (by simp only [kT] <;> rfl) (by simp only [kT] <;> rfl) (by decide) rfl (by simp only [kE, kT, kL, kC] <;> rfl) (.inl ⟨_, _, by simp only [kE, kT, kL, kC] <;> rfl⟩) (by omega) (by omega) (by simp only [List.length_map, List.length_cons, List.length_nil]; omega) (by simp only [List.length_map, List.length_cons, List.length_nil]; omega) (by simp [V.one]) (by simp only [V.killL, V.killLL, V.travL, V.travLL, V.trav, killS, killP, Nat.reduceEqDiff, ↓reduceIte, reduceCtorEq, if_true, if_false, List.append_nil, List.nil_append, List.cons_append, zz, zf, zy, zev] <;> rfl) (by simp only [V.killL, V.killLL, V.travL, V.travLL, V.trav, killS, killP, Nat.reduceEqDiff, ↓reduceIte, reduceCtorEq, if_true, if_false, List.append_nil, List.nil_append, List.cons_append, zz, zf, zy, zev, kP] <;> rfl) (rfl) ?_
  refine EV ?_
  refine ON ?_
  refine Ok.region ?_
  iterate 3 (refine EV ?_)
  refine ON ?_
  refine ⟨(i + 1, out ++ [(evRaw (partsOf (linesOf s)[i]).1).1], calm), ?_, rfl, (h1.ev hi hb11 hb12 hb14 hb17), (by dsimp only; omega)⟩
  simp only [V.renL, V.travL, V.travLL, V.trav, frz, zz, zf, zy, zev, Nat.reduceLeDiff, ↓reduceIte]
  (repeat (first | exact trivial | refine leC ?_ | refine leK ?_ ?_)) <;> first | (first | exact le_rfl' _ | (rw [wrap_succ (by omega)]; exact le_rfl' _) | (simp only [List.map_append, List.map_cons, List.map_nil]; exact le_rfl' _)) | exact le_rfl' _
 try simp only [bsimp] at hb8
 rw [h1.fin (by omega)]
 refine Ok.exit ?_
 refine OQ ?_
 iterate 5 (refine EV ?_)
 refine ON ?_
 refine Ok.ret ?_
 with_reducible repeat (first | refine thenQ_ret ?_ | refine blockQ_ret ?_)
 refine retQ.end (by show resVs tab _ [.tmp 2, .tmp 3, .tmp 4] = _; simp only [kE, kT, kL, kC] <;> rfl) rfl ?_
 first | rfl | (simp [V.erase, V.trav, V.travL, packV, zz, zf, zy, zev]; done) | (simp [V.erase, V.trav, V.travL, packV, zz, zf, zy, zev]; rfl)
end Go.Proofs.YtliiphpbfambcaaGreatDoor.K

/- What strings.Split and strings.Join give, by the contracts of the kit's shelf. -/
namespace Go.Proofs.YtliiphpbfambcaaGreatDoor.K
open Go Go.RowKit Go.Shelf Go.Proofs
set_option linter.unusedVariables false
def ShelfS : Go.Shelf.Ren := ⟨fun | 146 => 27 | 221 => 49 | 268 => 66 | 138 => 67 | 143 => 68 | 195 => 93 | 197 => 87 | 218 => 94 | 219 => 95 | 260 => 123 | 217 => 126 | 225 => 127 | 224 => 128 | 267 => 129 | 266 => 157 | 314 => 158 | n => n, fun | 9 => 9 | 31 => 31 | 3 => 3 | 4 => 4 | 0 => 0 | 105 => 140 | 21 => 21 | 5 => 5 | 46 => 107 | 119 => 231 | 139 => 234 | 138 => 233 | 146 => 236 | 51 => 222 | n => n, fun | 1 => 0 | 3 => 1 | 4 => 2 | n => n⟩
theorem shelfS : Go.Proofs.Lays.n146 Tryz.prog ShelfS := {
  mixed := by kernel_rfl
  f138 := Tryz.func67.trans (congrArg some (by kernel_rfl))
  f143 := Tryz.func68.trans (congrArg some (by kernel_rfl))
  f146 := Tryz.func27.trans (congrArg some (by kernel_rfl))
  f195 := Tryz.func93.trans (congrArg some (by kernel_rfl))
  f197 := Tryz.func87.trans (congrArg some (by kernel_rfl))
  f217 := Tryz.func126.trans (congrArg some (by kernel_rfl))
  f218 := Tryz.func94.trans (congrArg some (by kernel_rfl))
  f219 := Tryz.func95.trans (congrArg some (by kernel_rfl))
  f221 := Tryz.func49.trans (congrArg some (by kernel_rfl))
  f224 := Tryz.func128.trans (congrArg some (by kernel_rfl))
  f225 := Tryz.func127.trans (congrArg some (by kernel_rfl))
  f260 := Tryz.func123.trans (congrArg some (by kernel_rfl))
  f266 := Tryz.func157.trans (congrArg some (by kernel_rfl))
  f267 := Tryz.func129.trans (congrArg some (by kernel_rfl))
  f268 := Tryz.func66.trans (congrArg some (by kernel_rfl))
  f314 := Tryz.func158.trans (congrArg some (by kernel_rfl))
  t0 := Tryz.underlying0
  a0 := Tryz.isAgg0
  z0 := Tryz.sizeOf0
  v0 := Tryz.zeroValue0
  t3 := Tryz.underlying3
  a3 := Tryz.isAgg3
  z3 := Tryz.sizeOf3
  v3 := Tryz.zeroValue3
  t4 := Tryz.underlying4
  a4 := Tryz.isAgg4
  z4 := Tryz.sizeOf4
  v4 := Tryz.zeroValue4
  t5 := Tryz.underlying5
  a5 := Tryz.isAgg5
  z5 := Tryz.sizeOf5
  v5 := Tryz.zeroValue5
  t9 := Tryz.underlying9
  a9 := Tryz.isAgg9
  z9 := Tryz.sizeOf9
  v9 := Tryz.zeroValue9
  t21 := Tryz.underlying21
  a21 := Tryz.isAgg21
  z21 := Tryz.sizeOf21
  v21 := Tryz.zeroValue21
  t31 := Tryz.underlying31
  a31 := Tryz.isAgg31
  z31 := Tryz.sizeOf31
  v31 := Tryz.zeroValue31
  t46 := Tryz.underlying107
  a46 := Tryz.isAgg107
  z46 := Tryz.sizeOf107
  v46 := Tryz.zeroValue107
  t51 := Tryz.underlying222
  a51 := Tryz.isAgg222
  z51 := Tryz.sizeOf222
  v51 := Tryz.zeroValue222
  t105 := Tryz.underlying140
  a105 := Tryz.isAgg140
  z105 := Tryz.sizeOf140
  v105 := Tryz.zeroValue140
  t119 := Tryz.underlying231
  a119 := Tryz.isAgg231
  z119 := Tryz.sizeOf231
  t138 := Tryz.underlying233
  a138 := Tryz.isAgg233
  z138 := Tryz.sizeOf233
  v138 := Tryz.zeroValue233
  t139 := Tryz.underlying234
  a139 := Tryz.isAgg234
  z139 := Tryz.sizeOf234
  v139 := Tryz.zeroValue234
  t146 := Tryz.underlying236
  a146 := Tryz.isAgg236
  z146 := Tryz.sizeOf236
  v146 := Tryz.zeroValue236
  g1 := by kernel_rfl
  g3 := by kernel_rfl
  g4 := by kernel_rfl }
def ShelfJ : Go.Shelf.Ren := ⟨fun | 156 => 30 | 165 => 50 | 166 => 51 | 169 => 52 | 240 => 69 | 241 => 70 | 276 => 96 | 277 => 97 | n => n, fun | 31 => 31 | 9 => 9 | 3 => 3 | 4 => 4 | 0 => 0 | 20 => 20 | 72 => 90 | 76 => 94 | 70 => 88 | 37 => 22 | 75 => 93 | 127 => 112 | 164 => 157 | 5 => 5 | 80 => 96 | n => n, fun | n => n⟩
theorem shelfJ : Go.Proofs.Lays.n156 Tryz.prog ShelfJ := {
  mixed := by kernel_rfl
  f156 := Tryz.func30.trans (congrArg some (by kernel_rfl))
  f165 := Tryz.func50.trans (congrArg some (by kernel_rfl))
  f166 := Tryz.func51.trans (congrArg some (by kernel_rfl))
  f169 := Tryz.func52.trans (congrArg some (by kernel_rfl))
  f240 := Tryz.func69.trans (congrArg some (by kernel_rfl))
  f241 := Tryz.func70.trans (congrArg some (by kernel_rfl))
  f276 := Tryz.func96.trans (congrArg some (by kernel_rfl))
  f277 := Tryz.func97.trans (congrArg some (by kernel_rfl))
  t0 := Tryz.underlying0
  a0 := Tryz.isAgg0
  z0 := Tryz.sizeOf0
  v0 := Tryz.zeroValue0
  t3 := Tryz.underlying3
  a3 := Tryz.isAgg3
  z3 := Tryz.sizeOf3
  v3 := Tryz.zeroValue3
  t4 := Tryz.underlying4
  a4 := Tryz.isAgg4
  z4 := Tryz.sizeOf4
  v4 := Tryz.zeroValue4
  t9 := Tryz.underlying9
  a9 := Tryz.isAgg9
  z9 := Tryz.sizeOf9
  v9 := Tryz.zeroValue9
  t20 := Tryz.underlying20
  a20 := Tryz.isAgg20
  z20 := Tryz.sizeOf20
  v20 := Tryz.zeroValue20
  t31 := Tryz.underlying31
  a31 := Tryz.isAgg31
  z31 := Tryz.sizeOf31
  v31 := Tryz.zeroValue31
  t37 := Tryz.underlying22
  a37 := Tryz.isAgg22
  z37 := Tryz.sizeOf22
  v37 := Tryz.zeroValue22
  t70 := Tryz.underlying88
  a70 := Tryz.isAgg88
  z70 := Tryz.sizeOf88
  v70 := Tryz.zeroValue88
  t72 := Tryz.underlying90
  a72 := Tryz.isAgg90
  z72 := Tryz.sizeOf90
  v72 := Tryz.zeroValue90
  t75 := Tryz.underlying93
  a75 := Tryz.isAgg93
  z75 := Tryz.sizeOf93
  v75 := Tryz.zeroValue93
  t76 := Tryz.underlying94
  a76 := Tryz.isAgg94
  z76 := Tryz.sizeOf94
  v76 := Tryz.zeroValue94
  t127 := Tryz.underlying112
  a127 := Tryz.isAgg112
  z127 := Tryz.sizeOf112
  v127 := Tryz.zeroValue112
  t164 := Tryz.underlying157
  a164 := Tryz.isAgg157
  z164 := Tryz.sizeOf157
  v164 := Tryz.zeroValue157 }
theorem pieces10 (s : Str) : (Lib.splitB (⟨#[10]⟩ : ByteArray) 0 (Lib.countB (⟨s.toArray⟩ : ByteArray) (⟨#[10]⟩ : ByteArray)) (⟨s.toArray⟩ : ByteArray)).map (·.data.toList) = splitNl s [] := by
  have hk : Lib.countB (⟨s.toArray⟩ : ByteArray) (⟨#[10]⟩ : ByteArray) = s.count 10 := by
    show Lib.count s [10] = _
    exact Lib.count_one _ _
  rw [Lib.splitB_data, hk, splitNl_eq, ← split_C]
theorem fresh_row {base : Base} {σ : Sig} {w : World} {t : TypeId} {p : List ByteArray} {l : List Str} (h : p.map (·.data.toList) = l) (hl : l.length ≤ maxLen) (hbad : ∀ k, base.bad k → k < w.heap.size) (hσ : ∀ L b o s, σ L = some (b, o, s) → b < w.heap.size) :
    M base σ (w.alloc (.cells (p.map Value.string).toArray t)) (.sl 0 1 0 (l.map cS)) (.slice (some ⟨w.heap.size, 0, none⟩) l.length l.length) := by
  have hlen : (l.map cS).length = l.length := List.length_map _
  have hb : (w.alloc (.cells (p.map Value.string).toArray t)).heap[w.heap.size]? = some (.cells (p.map Value.string).toArray t) := by
    show (w.heap.push _)[w.heap.size]? = _
    simp only [Array.getElem?_push_size]
  have hc : ∀ (j : Nat) (hj : j < l.length), (w.alloc (.cells (p.map Value.string).toArray t)).cell? ⟨w.heap.size, j, none⟩ = some (.string ⟨l[j].toArray⟩) := by
    intro j hj
    subst h
    rw [List.length_map] at hj
    unfold World.cell?
    dsimp only
    rw [hb]
    simp [hj]
  have := M.sl (base := base) (σ := σ) (w := w.alloc (.cells (p.map Value.string).toArray t)) 0 1 0 (l.map cS) (some ⟨w.heap.size, 0, none⟩) l.length (fun j _ => .string ⟨(l[j]?.getD []).toArray⟩) (by rw [hlen]; exact Nat.le_refl _) hl
    (by intro e he; obtain ⟨x, _, rfl⟩ := List.mem_map.1 he; rfl)
    (.inr (.inr ⟨_, rfl, .inl ⟨rfl, by have := (Array.getElem?_eq_some_iff.1 hb).1; exact this, fun L b o s hs => Nat.ne_of_lt (hσ L b o s hs), fun hk => Nat.lt_irrefl _ (hbad _ hk)⟩⟩))
    (by
      rintro ad e j e' c x he hx
      obtain rfl := Option.some.inj e
      rw [List.getElem?_map] at he
      obtain ⟨y, hy, rfl⟩ := Option.map_eq_some_iff.1 he
      obtain ⟨hj, rfl⟩ := List.getElem?_eq_some_iff.1 hy
      obtain rfl : c = 0 := by
        match c, hx with
        | 0, _ => rfl
      have ha : (⟨w.heap.size, 0, none⟩ : Addr).add (j * 1 + 0) = ⟨w.heap.size, j, none⟩ := by
        unfold Addr.add
        split
        · rename_i h0; rw [show j = 0 by omega]
        · simp
      rw [ha, hc j hj, List.getElem?_eq_getElem hj]; rfl)
    (by
      intro j e' c x he hx
      rw [List.getElem?_map] at he
      obtain ⟨y, hy, rfl⟩ := Option.map_eq_some_iff.1 he
      match c, hx with
      | 0, hx =>
        obtain rfl : V.str y = x := Option.some.inj hx
        rw [hy]; exact .str _)
  rwa [hlen] at this
theorem w_strings_Split (s : Str) (hs : s.length ≤ 1000000) : Weak Tryz.prog (ShelfS.f 146) [.str s, .str [10]] (.sl 0 1 0 ((splitNl s []).map cS)) := by
  intro base σ w vs hbad h0 hσ hgw hm
  obtain ⟨m, hm1⟩ := cellG_t (hgw.go 0 rfl)
  obtain ⟨v0, v1, rfl⟩ : ∃ v0 v1, vs = [v0, v1] := by
    have := hm.1
    match vs, this with
    | [a, b], _ => exact ⟨a, b, rfl⟩
  have e0 := hm.2 0 _ _ rfl rfl
  have e1 := hm.2 1 _ _ rfl rfl
  cases e0
  cases e1
  have hc := Any.strings_Split shelfS (by kernel_rfl) ⟨s.toArray⟩ ⟨#[10]⟩ m w (by show s.toArray.size < _; simp only [List.size_toArray]; omega) hm1 (by decide)
  refine Calls.mono hc ?_
  rintro e w' ⟨rfl, rfl⟩
  have hp := pieces10 s
  have hn : Lib.countB (⟨s.toArray⟩ : ByteArray) (⟨#[10]⟩ : ByteArray) + 1 = (splitNl s []).length := by
    rw [splitNl_eq, splitC_len]
    show Lib.count s [10] + 1 = _
    rw [Lib.count_one]
  have hl := splitNl_many s []
  rw [hn]
  exact ⟨_, rfl, fresh_row hp (by unfold maxLen; omega) hbad hσ, below_alloc' (Below.refl _ _) (Nat.le_refl _) _⟩
end Go.Proofs.YtliiphpbfambcaaGreatDoor.K

/- Walks: lines of scripts, the other side. Printed by w2.py. -/
namespace Go.Proofs.YtliiphpbfambcaaGreatDoor.K
open Go Go.RowKit
set_option linter.unusedVariables false
set_option linter.unusedSimpArgs false
set_option maxHeartbeats 4000000
set_option maxRecDepth 20000
theorem w_impl_linesOf (s : Str) (hs : s.length ≤ 1000000) : Weak Tryz.prog 10 [.str s] (.sl 0 1 0 ((linesOf s).map cS)) := by
 refine Weak.enter tab_ok Tryz.func10 rfl (.inr (by simp [V.labelsL, V.labels, zz, zf, zy, zev])) (t := [.str s, .any, .any, .any, .any, .any, .any, .any, .any, .any, .any, .any, .any, .any, .any, .any, .any, .any, .any]) rfl ?_
 refine OQ ?_
 refine EV ?_
 refine ON ?_
 refine OQ ?_
 refine EV ?_
 refine OW cl27 (w_strings_Split s hs) ?_
 refine EV ?_
 refine ON ?_
 refine Ok.seq ?_
 refine Ok.seq ?_
 have hq0 := split_pos s
 have hq1 := splitNl_many s []
 have hq : (splitNl s []).length - 1 < (splitNl s []).length := by omega
 refine Ok.region ?_
 iterate 3 (refine EV ?_)
 refine OkOps.ev tab_ok rfl (by simp only [kE, kT, kL, kC, wrap_less hq0 (by omega)] <;> rfl) (by simp only [kP] <;> rfl) ?_
 refine OkOps.ev tab_ok rfl (ev_idx_map (by simp only [kE, kT, kL, kC] <;> rfl) (by simp only [kE, kT, kL, kC] <;> rfl) (by omega) (by simp only [kE, kT, kL, kC] <;> rfl)) (by simp only [kP] <;> rfl) ?_
 iterate 2 (refine EV ?_)
 refine ON ?_
 refine OC (fun hb2 => ?_) (fun hb2 => ?_)
 ·
  try simp only [bsimp] at hb2
  rw [lines_cut hq hb2]
  refine Ok.region ?_
  iterate 3 (refine EV ?_)
  refine OkOps.ev tab_ok rfl (by simp only [kE, kT, kL, kC, wrap_less hq0 (by omega)] <;> rfl) (by simp only [kP] <;> rfl) ?_
  refine OkOps.ev tab_ok rfl (ev_partHi_map (by simp only [kE, kT, kL, kC] <;> rfl) (by simp only [kE, kT, kL, kC] <;> rfl) (by simp only [kT] <;> rfl) (by simp only [kT, Option.map_some] <;> rfl) (by omega)) (by simp only [kP] <;> rfl) ?_
  refine EV ?_
  refine ON ?_
  refine OQ ?_
  iterate 2 (refine EV ?_)
  refine ON ?_
  refine Ok.ret ?_
  with_reducible repeat (first | refine thenQ_ret ?_ | refine blockQ_ret ?_)
  refine RT ?_
  first | rfl | (simp [-List.map_take, V.erase, V.trav, V.travL, packV, zz, zf, zy, zev]; done)
 try simp only [bsimp] at hb2
 rw [lines_all hq hb2]
 refine Ok.skip ?_
 refine OQ ?_
 iterate 2 (refine EV ?_)
 refine ON ?_
 refine Ok.ret ?_
 with_reducible repeat (first | refine thenQ_ret ?_ | refine blockQ_ret ?_)
 refine RT ?_
 first | rfl | (simp [-List.map_take, V.erase, V.trav, V.travL, packV, zz, zf, zy, zev]; done)
end Go.Proofs.YtliiphpbfambcaaGreatDoor.K

/- What strings.Join gives, by the contract of the kit's shelf. -/
namespace Go.Proofs.YtliiphpbfambcaaGreatDoor.K
open Go Go.RowKit Go.Shelf Go.Proofs
set_option linter.unusedVariables false
theorem shelfX : Builder.Extra Tryz.prog ShelfJ := {
  sizeBuilder := by kernel_rfl
  liesBuilder := by kernel_rfl
  t5 := Tryz.underlying5
  a5 := Tryz.isAgg5
  z5 := Tryz.sizeOf5
  v5 := Tryz.zeroValue5
  infoByte := by kernel_rfl
  cellsByte := by kernel_rfl
  sizeByte := by kernel_rfl
  neB5 := by decide }
theorem joinB_lib : ∀ p : List Str, Lib.join p [32] = joinB p
  | [] => rfl
  | [x] => by rw [Lib.join_one]; rfl
  | x :: y :: l => by
    have h := joinB_lib (y :: l)
    rw [joinB, ← h]
    simp [Lib.join, List.intercalate]
theorem w_strings_Join (p : List Str) (o : Nat) (hp : p.length ≤ 1000) (hl : ∀ x ∈ p, x.length ≤ 1000000) : Weak Tryz.prog (ShelfJ.f 156) [.sl 0 1 o (p.map cS), .str [32]] (.str (joinB p)) := by
  intro base σ w vs hbad h0 hσ hgw hm
  obtain ⟨v0, v1, rfl⟩ : ∃ v0 v1, vs = [v0, v1] := by
    have := hm.1
    match vs, this with
    | [a, b], _ => exact ⟨a, b, rfl⟩
  have e0 := hm.2 0 _ _ rfl rfl
  have e1 := hm.2 1 _ _ rfl rfl
  cases e1
  obtain ⟨A, cap, u, rfl, h1, h4, h5, h6⟩ : ∃ (A : Option Addr) (cap : Nat) (u : Nat → Nat → Value), v0 = .slice A (p.map cS).length cap ∧ (p.map cS).length ≤ cap ∧ (((0 : Nat) = 0 ∧ p.map cS = []) ∨ cap = 0 ∨ ∃ ad, A = some ad ∧ At base σ w 0 1 (o * 1) (cap * 1) ad) ∧
      (∀ ad, A = some ad → ∀ (j : Nat) e (c : Nat) x, (p.map cS)[j]? = some e → e[c]? = some x → w.cell? (ad.add (j * 1 + c)) = some (u j c)) ∧
      (∀ (j : Nat) e (c : Nat) x, (p.map cS)[j]? = some e → e[c]? = some x → M base σ w x (u j c)) := by
    generalize p.map cS = es at e0
    cases e0 with
    | sl _ _ _ _ A cap u a1 a2 a3 a4 a5 a6 => exact ⟨A, cap, u, rfl, a1, a4, a5, a6⟩
  have hjl := joinB_len (l := p) (m := 1000000) hl
  have hxs : (p.map (fun s => (⟨s.toArray⟩ : ByteArray))).map (·.data.toList) = p := by
    rw [List.map_map]
    conv => rhs; rw [← List.map_id p]
    rfl
  rw [List.length_map] at h1 ⊢
  cases p with
  | nil =>
    refine Calls.mono (Any.strings_Join_none shelfJ shelfX A cap ⟨#[32]⟩ w) ?_
    rintro e w' ⟨rfl, rfl⟩
    exact ⟨_, rfl, .str _, Below.refl _ _⟩
  | cons x0 r =>
    obtain ⟨ad, rfl, hat⟩ : ∃ ad, A = some ad ∧ At base σ w 0 1 (o * 1) (cap * 1) ad := by
      rcases h4 with ⟨_, h⟩ | h | h
      · cases h
      · rw [h, List.length_cons] at h1; omega
      · exact h
    have hblk : ad.block < w.heap.size := by
      rcases hat with ⟨_, hold⟩ | ⟨b, o', _, _, _, hs, _⟩
      · exact hold.1
      · rw [h0] at hs; cases hs
    have hcell : ∀ (j : Nat) y, (x0 :: r)[j]? = some y → w.cell? (ad.add (j * 1 + 0)) = some (.string ⟨y.toArray⟩) := by
      intro j y hy
      have he : ((x0 :: r).map cS)[j]? = some (cS y) := by rw [List.getElem?_map, hy]; rfl
      rw [h5 ad rfl j _ 0 (.str y) he rfl]
      have := h6 j _ 0 (.str y) he rfl
      cases hu : u j 0 <;> rw [hu] at this <;> cases this
      rfl
    have hsp : ad.spot = none := by
      have h := hcell 0 x0 rfl
      rw [show 0 * 1 + 0 = 0 from rfl, show ad.add 0 = ad from if_pos rfl] at h
      cases hs : ad.spot with
      | none => rfl
      | some q =>
        exfalso
        unfold World.cell? at h
        split at h
        · rw [hs] at h; simp at h
        · cases h
    obtain ⟨bk, of, sp⟩ := ad
    obtain rfl : sp = none := hsp
    have hc := Any.strings_Join shelfJ shelfX bk of cap ((x0 :: r).map (fun s => (⟨s.toArray⟩ : ByteArray))) ⟨#[32]⟩ w (by
        intro j x hx
        rw [List.getElem?_map] at hx
        obtain ⟨y, hy, rfl⟩ := Option.map_eq_some_iff.1 hx
        have h := hcell j y hy
        have ha : (⟨bk, of, none⟩ : Addr).add (j * 1 + 0) = ⟨bk, of + j, none⟩ := by
          unfold Addr.add
          split
          · rename_i hz; rw [show j = 0 by omega]; rfl
          · simp
        rw [ha] at h
        exact h) hblk (by rw [List.length_map]; omega) (by rw [List.length_map]; exact h1) (by
          rw [hxs]
          show (Lib.join (x0 :: r) [32]).length ≤ _
          rw [joinB_lib]
          omega)
    rw [List.length_map] at hc
    refine Calls.mono hc ?_
    rintro e w' ⟨rfl, bel⟩
    refine ⟨_, rfl, ?_, bel⟩
    rw [hxs]
    show M base σ w' _ (.string ⟨(Lib.join (x0 :: r) [32]).toArray⟩)
    rw [joinB_lib]
    exact .str _
end Go.Proofs.YtliiphpbfambcaaGreatDoor.K

/- Plain: what the other side makes of the words of a line. -/
namespace Go.Proofs.YtliiphpbfambcaaGreatDoor.K
open Go Go.RowKit
set_option linter.unusedVariables false
set_option linter.unusedSimpArgs false
def rdAt (v : List Str) (j : Nat) : Int := ((readDec (v.getD j [])).1 : Int)
def evA (v : List Str) (i : Nat) : Int := if 0 < i then rdAt v 1 else 0
def evB (v : List Str) (i : Nat) : Int := if 1 < i then rdAt v 2 else 0
theorem getD_at {l : List Str} {i : Nat} (h : i < l.length) : l.getD i [] = l[i] := by simp [List.getD, List.getElem?_eq_getElem h]
theorem getD_no {l : List Str} {i : Nat} (h : l.length ≤ i) : l.getD i [] = [] := by simp [List.getD, List.getElem?_eq_none h]
def evSay (v : List Str) : Event := ⟨1, rdAt v 1, 0, joinB (v.drop 2) ++ [13, 10]⟩
def evTwo (v : List Str) : Event := ⟨(kI (v.getD 0 [])).1, rdAt v 1, rdAt v 2, []⟩
def okAll (v : List Str) (i : Nat) : Prop := ∀ x ∈ (v.drop 1).take i, (readDec x).2 = true
def evImp (v : List Str) : Event × Bool :=
  if v.getD 0 [] = wSay then (if v.length < 2 then (zEvent, false) else (evSay v, (readDec (v.getD 1 [])).2 && eventOk (evSay v)))
  else if ¬ ((v.length - 1 : Nat) : Int) = (kI (v.getD 0 [])).2 then (zEvent, false)
  else if (v.drop 1).all (fun x => (readDec x).2) = true then (evTwo v, eventOk (evTwo v)) else (zEvent, false)
theorem kI_kS (w : Str) : (kindOf w = none ∧ (kI w).2 = -1) ∨ (∃ k m, kindOf w = some (k, m) ∧ kI w = (k, (m : Int)) ∧ m ≤ 2) := by
  unfold kI
  cases h : kindOf w with
  | none => exact .inl ⟨rfl, rfl⟩
  | some x => obtain ⟨k, m⟩ := x; exact .inr ⟨k, m, rfl, rfl, (kind_some h).2⟩
theorem evOf_kind {w : Str} {p : List Str} {k : Int} {m : Nat} (hw : ¬ w = wSay) (hk : kindOf w = some (k, m)) : evOf (w :: p) = if p.length = m ∧ p.all (fun x => (readDec x).2) = true ∧ eventOk ⟨k, rdAt (w :: p) 1, rdAt (w :: p) 2, []⟩ = true then some ⟨k, rdAt (w :: p) 1, rdAt (w :: p) 2, []⟩ else none := by
  have e1 : ((p.map fun x => ((readDec x).1 : Int)).getD 0 0) = rdAt (w :: p) 1 := by
    cases p with
    | nil => rfl
    | cons a p => rfl
  have e2 : ((p.map fun x => ((readDec x).1 : Int)).getD 1 0) = rdAt (w :: p) 2 := by
    match p with
    | [] => rfl
    | [a] => rfl
    | a :: b :: p => rfl
  simp only [evOf, if_neg hw, hk, e1, e2]
theorem evOf_imp {v : List Str} (h : 0 < v.length) : evOf v = if (evImp v).2 = true then some (evImp v).1 else none := by
  match v, h with
  | w :: p, _ =>
    by_cases hw : w = wSay
    · match p with
      | [] => simp [evOf, evImp, hw]
      | a :: q =>
        have hlen : ¬ (w :: a :: q).length < 2 := by simp
        unfold evImp
        simp only [List.getD_cons_zero, if_pos hw, if_neg hlen, evOf, evSay, rdAt, List.getD_cons_succ, List.drop_succ_cons, List.drop_zero, Bool.and_eq_true]
    · rcases kI_kS w with ⟨hk, h2⟩ | ⟨k, m, hk, h2, hm⟩
      · have hneg : ¬ (((w :: p).length - 1 : Nat) : Int) = -1 := by generalize (w :: p).length - 1 = q; omega
        unfold evImp
        simp only [List.getD_cons_zero, if_neg hw, h2, if_pos hneg, evOf, hk]
        rfl
      · rw [evOf_kind hw hk]
        unfold evImp
        simp only [List.getD_cons_zero, if_neg hw, h2]
        have e3 : evTwo (w :: p) = ⟨k, rdAt (w :: p) 1, rdAt (w :: p) 2, []⟩ := by simp [evTwo, h2]
        by_cases hl : p.length = m
        · have q1 : (((w :: p).length - 1 : Nat) : Int) = (m : Int) := by rw [List.length_cons, hl]; rfl
          rw [if_neg (show ¬ ¬ (((w :: p).length - 1 : Nat) : Int) = (m : Int) from fun e => e q1), e3]
          by_cases ha : p.all (fun x => (readDec x).2) = true
          · have ha' : ((w :: p).drop 1).all (fun x => (readDec x).2) = true := ha
            rw [if_pos ha']
            simp only [hl, ha, true_and]
          · have ha' : ¬ ((w :: p).drop 1).all (fun x => (readDec x).2) = true := ha
            rw [if_neg ha', if_neg (fun hh => ha hh.2.1)]; rfl
        · have q1 : ¬ (((w :: p).length - 1 : Nat) : Int) = (m : Int) := by rw [List.length_cons, Nat.add_sub_cancel]; omega
          rw [if_pos q1, if_neg (fun hh => hl hh.1)]; rfl
theorem okAll_z (v : List Str) : okAll v 0 := fun x hx => by simp at hx
theorem okAll_s {v : List Str} {i : Nat} (h : okAll v i) (hi : i < (v.drop 1).length) (hb : (readDec (v.drop 1)[i]).2 = true) : okAll v (i + 1) := by
  intro x hx
  rw [List.take_succ_eq_append_getElem hi] at hx
  rcases List.mem_append.1 hx with hx | hx
  · exact h x hx
  · rw [List.mem_singleton.1 hx]; exact hb
section
variable {v : List Str} (h : 0 < v.length)
include h
theorem imp_say1 (hw : v[0] = wSay) (h1 : v.length < 2) : evImp v = (zEvent, false) := by
  unfold evImp
  rw [if_pos (by rw [getD_at h]; exact hw), if_pos h1]
theorem imp_say (hw : v[0] = wSay) (h1 : 1 < v.length) : evImp v = (⟨1, (readDec v[1]).1, 0, joinB (v.drop 2) ++ [13, 10]⟩, (readDec v[1]).2 && eventOk ⟨1, (readDec v[1]).1, 0, joinB (v.drop 2) ++ [13, 10]⟩) := by
  unfold evImp evSay rdAt
  rw [if_pos (by rw [getD_at h]; exact hw), if_neg (by omega), getD_at h1]
theorem imp_no (hw : ¬ v[0] = wSay) (h1 : ¬ ((v.length - 1 : Nat) : Int) = (kI v[0]).2) : evImp v = (zEvent, false) := by
  unfold evImp
  rw [getD_at h, if_neg hw, if_pos h1]
theorem imp_bad {i : Nat} (hw : ¬ v[0] = wSay) (h1 : ((v.length - 1 : Nat) : Int) = (kI v[0]).2) (hi : i < (v.drop 1).length) (hb : (readDec (v.drop 1)[i]).2 = false) : evImp v = (zEvent, false) := by
  unfold evImp
  rw [getD_at h, if_neg hw, if_neg (fun e => e h1), if_neg]
  intro ha
  have := List.all_eq_true.1 ha _ (List.getElem_mem hi)
  rw [hb] at this; cases this
theorem imp_two (hw : ¬ v[0] = wSay) (h1 : ((v.length - 1 : Nat) : Int) = (kI v[0]).2) (ho : okAll v (v.drop 1).length) : evImp v = (⟨(kI v[0]).1, evA v (v.drop 1).length, evB v (v.drop 1).length, []⟩, eventOk ⟨(kI v[0]).1, evA v (v.drop 1).length, evB v (v.drop 1).length, []⟩) := by
  have ha : (v.drop 1).all (fun x => (readDec x).2) = true := by
    unfold okAll at ho
    rw [List.take_length] at ho
    exact List.all_eq_true.2 ho
  have e : evTwo v = ⟨(kI v[0]).1, evA v (v.drop 1).length, evB v (v.drop 1).length, []⟩ := by
    unfold evTwo
    rw [getD_at h]
    have e1 : rdAt v 1 = evA v (v.drop 1).length := by
      show _ = if 0 < (v.drop 1).length then rdAt v 1 else 0
      split
      · rfl
      · rename_i hh
        unfold rdAt
        rw [getD_no (by rw [List.length_drop] at hh; omega)]; rfl
    have e2 : rdAt v 2 = evB v (v.drop 1).length := by
      show _ = if 1 < (v.drop 1).length then rdAt v 2 else 0
      split
      · rfl
      · rename_i hh
        unfold rdAt
        rw [getD_no (by rw [List.length_drop] at hh; omega)]; rfl
    rw [e1, e2]
  unfold evImp
  rw [e]
  rw [getD_at h, if_neg hw, if_neg (fun e => e h1), if_pos ha]
end
abbrev evN (v : List Str) (i : Nat) : List Int := [evA v i, evB v i]
theorem kI_le (w : Str) : (kI w).2 ≤ 2 := by
  rcases kI_kS w with ⟨_, h⟩ | ⟨k, m, _, h, hm⟩
  · rw [h]; decide
  · rw [h]; dsimp only; omega
theorem evN_set {v : List Str} {i : Nat} (h : i < 2) (hi : i < (v.drop 1).length) : ((evN v i).map cZ).set (i - 0) [.int .i64 ((readDec (v.drop 1)[i]).1 : Int)] = (evN v (i + 1)).map cZ := by
  match i, h with
  | 0, _ =>
    have e : rdAt v 1 = ((readDec (v.drop 1)[0]).1 : Int) := by
      unfold rdAt
      rw [List.length_drop] at hi
      rw [getD_at (by omega), List.getElem_drop]
    show [_, _] = [_, _]
    simp [evA, evB, e, cZ]
  | 1, _ =>
    have e : rdAt v 2 = ((readDec (v.drop 1)[1]).1 : Int) := by
      unfold rdAt
      rw [List.length_drop] at hi
      rw [getD_at (by omega), List.getElem_drop]
    show [_, _] = [_, _]
    simp [evA, evB, e, cZ]
theorem imp_fin {v : List Str} (h : 0 < v.length) (hw : ¬ v[0] = wSay) (h1 : ((v.length - 1 : Nat) : Int) = (kI v[0]).2) (ho : okAll v (v.length - 1)) : evImp v = (⟨(kI v[0]).1, evA v (v.length - 1), evB v (v.length - 1), []⟩, eventOk ⟨(kI v[0]).1, evA v (v.length - 1), evB v (v.length - 1), []⟩) := by
  have e : (v.drop 1).length = v.length - 1 := List.length_drop ..
  have := imp_two h hw h1 (by rw [e]; exact ho)
  rwa [e] at this
end Go.Proofs.YtliiphpbfambcaaGreatDoor.K
