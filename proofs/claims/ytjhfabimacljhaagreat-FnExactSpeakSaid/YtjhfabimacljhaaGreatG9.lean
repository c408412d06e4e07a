/- Walks: letters posted. Printed by w2.py. -/
import Derived.Test.YtjhfabimacljhaaGreatG6
import Derived.Test.YtjhfabimacljhaaGreatG7
import Derived.Test.YtjhfabimacljhaaGreatG8
namespace Go.Proofs.YtjhfabimacljhaaGreat.K
open Go Go.RowKit
set_option linter.unusedVariables false
set_option linter.unusedSimpArgs false
set_option maxHeartbeats 4000000
set_option maxRecDepth 20000
theorem w_impl_LinkSays (l : Link) : Weak Tryz.prog 30 [.agg (cLink l)] (.agg (cPacket (linkSays l))) := by
 refine Weak.enter tab_ok Tryz.func30 rfl (.inr (by simp [V.labelsL, V.labels, zz, zf, zy])) (t := [.agg (cLink l), .any, .any, .any, .any, .any, .any, .any, .any, .any, .any, .any, .any, .any, .any, .any, .any, .any, .any, .any, .any, .any]) rfl ?_
 refine OQ ?_
 iterate 2 (refine EV ?_)
 refine ON ?_
 refine OQ ?_
 iterate 4 (refine EV ?_)
 refine OkOps.ev tab_ok rfl (by simp [ev1, fillV, kE, kT, kL] <;> first | rfl | exact ⟨rfl, rfl⟩) (by simp only [kP] <;> rfl) ?_
 refine EV ?_
 refine OkOps.storeE tab_ok rfl rfl (by simp only [kE, kT, kL, kC] <;> rfl) ⟨_, _, by simp only [kE]; rfl⟩ (by first | (simp [V.labelsL, V.labelsLL, V.labels, zz, zf, zy]; done) | (simp [-List.map_map, -List.map_set, -List.map_drop, -List.map_take, -List.map_tail, -List.drop_one, V.labelsL, V.labelsLL, V.labels, zz, zf, zy]; done)) (by simp only [eq_self, V.updL, V.travL, V.travLL, V.trav, updS, updP, and_self, true_and, and_true, false_and, and_false, Nat.reduceEqDiff, Nat.reduceSub, Nat.le_refl, Nat.zero_le, ↓reduceIte, if_true, if_false, kP, zz, zf, zy] <;> rfl) (rfl) ?_
 refine ON ?_
 refine Ok.seq ?_
 refine OQ ?_
 iterate 4 (refine EV ?_)
 refine ON ?_
 refine Ok.cond (b := _) (by simp only [kE, kT, kL, kC] <;> rfl) (fun hb2 => ?_) (fun hb2 => ?_)
 ·
  try simp only [bsimp] at hb2
  obtain ⟨s, r, hw⟩ : ∃ s r, l.way = s :: r := by
    cases hh : l.way with
    | nil => simp [hh] at hb2
    | cons s r => exact ⟨s, r, rfl⟩
  refine OQ ?_
  iterate 3 (refine EV ?_)
  refine OkOps.storeE tab_ok rfl rfl (by simp only [kE, kT, kL, kC] <;> rfl) ⟨_, _, by simp only [kE]; rfl⟩ (by first | (simp [V.labelsL, V.labelsLL, V.labels, zz, zf, zy]; done) | (simp [-List.map_map, -List.map_set, -List.map_drop, -List.map_take, -List.map_tail, -List.drop_one, V.labelsL, V.labelsLL, V.labels, zz, zf, zy]; done)) (by simp only [eq_self, V.updL, V.travL, V.travLL, V.trav, updS, updP, and_self, true_and, and_true, false_and, and_false, Nat.reduceEqDiff, Nat.reduceSub, Nat.le_refl, Nat.zero_le, ↓reduceIte, if_true, if_false, kP, zz, zf, zy] <;> rfl) (rfl) ?_
  refine ON ?_
  refine Ok.region ?_
  iterate 2 (refine EV ?_)
  refine OkOps.ev tab_ok rfl (ev_idx (j := 0) (by simp only [kE, kT, kL, kC] <;> rfl) (by simp only [kE, kT, kL, kC] <;> rfl) (by rw [hw]; rfl) (by simp only [kE, kT, kL, kC] <;> rfl)) (by simp only [kP] <;> rfl) ?_
  iterate 2 (refine EV ?_)
  refine OkOps.storeE tab_ok rfl rfl (by simp only [kE, kT, kL, kC] <;> rfl) ⟨_, _, by simp only [kE]; rfl⟩ (by first | (simp [V.labelsL, V.labelsLL, V.labels, zz, zf, zy]; done) | (simp [-List.map_map, -List.map_set, -List.map_drop, -List.map_take, -List.map_tail, -List.drop_one, V.labelsL, V.labelsLL, V.labels, zz, zf, zy]; done)) (by simp only [eq_self, V.updL, V.travL, V.travLL, V.trav, updS, updP, and_self, true_and, and_true, false_and, and_false, Nat.reduceEqDiff, Nat.reduceSub, Nat.le_refl, Nat.zero_le, ↓reduceIte, if_true, if_false, kP, zz, zf, zy] <;> rfl) (rfl) ?_
  refine ON ?_
  refine OQ ?_
  refine EV ?_
  refine OkOps.storeE tab_ok rfl rfl (by simp only [kE, kT, kL, kC] <;> rfl) ⟨_, _, by simp only [kE]; rfl⟩ (by first | (simp [V.labelsL, V.labelsLL, V.labels, zz, zf, zy]; done) | (simp [-List.map_map, -List.map_set, -List.map_drop, -List.map_take, -List.map_tail, -List.drop_one, V.labelsL, V.labelsLL, V.labels, zz, zf, zy]; done)) (by simp only [eq_self, V.updL, V.travL, V.travLL, V.trav, updS, updP, and_self, true_and, and_true, false_and, and_false, Nat.reduceEqDiff, Nat.reduceSub, Nat.le_refl, Nat.zero_le, ↓reduceIte, if_true, if_false, kP, zz, zf, zy] <;> rfl) (rfl) ?_
  refine ON ?_
  refine Ok.ret ?_
  with_reducible repeat (first | refine thenQ_ret ?_ | refine blockQ_ret ?_)
  refine RT ?_
  simp only [packV, V.erase, V.trav, V.travL, zz, zf, zy, linkSays, hw]
 ·
  try simp only [bsimp] at hb2
  have hw : l.way = [] := List.eq_nil_of_length_eq_zero (by omega)
  refine Ok.skip ?_
  refine OQ ?_
  refine EV ?_
  refine OkOps.storeE tab_ok rfl rfl (by simp only [kE, kT, kL, kC] <;> rfl) ⟨_, _, by simp only [kE]; rfl⟩ (by first | (simp [V.labelsL, V.labelsLL, V.labels, zz, zf, zy]; done) | (simp [-List.map_map, -List.map_set, -List.map_drop, -List.map_take, -List.map_tail, -List.drop_one, V.labelsL, V.labelsLL, V.labels, zz, zf, zy]; done)) (by simp only [eq_self, V.updL, V.travL, V.travLL, V.trav, updS, updP, and_self, true_and, and_true, false_and, and_false, Nat.reduceEqDiff, Nat.reduceSub, Nat.le_refl, Nat.zero_le, ↓reduceIte, if_true, if_false, kP, zz, zf, zy] <;> rfl) (rfl) ?_
  refine ON ?_
  refine Ok.ret ?_
  with_reducible repeat (first | refine thenQ_ret ?_ | refine blockQ_ret ?_)
  refine RT ?_
  simp only [packV, V.erase, V.trav, V.travL, zz, zf, zy, linkSays, hw]
theorem w_spec_LinkSays (l : Link) : Weak Tryz.prog 143 [.agg (cLink l)] (.agg (cPacket (linkSays l))) := by
 refine Weak.enter tab_ok Tryz.func143 rfl (.inr (by simp [V.labelsL, V.labels, zz, zf, zy])) (t := [.agg (cLink l), .any, .any, .any, .any, .any, .any, .any, .any, .any, .any, .any, .any, .any, .any, .any, .any, .any, .any, .any, .any, .any]) rfl ?_
 refine OQ ?_
 iterate 2 (refine EV ?_)
 refine ON ?_
 refine OQ ?_
 iterate 4 (refine EV ?_)
 refine OkOps.ev tab_ok rfl (by simp [ev1, fillV, kE, kT, kL] <;> first | rfl | exact ⟨rfl, rfl⟩) (by simp only [kP] <;> rfl) ?_
 refine EV ?_
 refine OkOps.storeE tab_ok rfl rfl (by simp only [kE, kT, kL, kC] <;> rfl) ⟨_, _, by simp only [kE]; rfl⟩ (by first | (simp [V.labelsL, V.labelsLL, V.labels, zz, zf, zy]; done) | (simp [-List.map_map, -List.map_set, -List.map_drop, -List.map_take, -List.map_tail, -List.drop_one, V.labelsL, V.labelsLL, V.labels, zz, zf, zy]; done)) (by simp only [eq_self, V.updL, V.travL, V.travLL, V.trav, updS, updP, and_self, true_and, and_true, false_and, and_false, Nat.reduceEqDiff, Nat.reduceSub, Nat.le_refl, Nat.zero_le, ↓reduceIte, if_true, if_false, kP, zz, zf, zy] <;> rfl) (rfl) ?_
 refine ON ?_
 refine Ok.seq ?_
 refine OQ ?_
 iterate 4 (refine EV ?_)
 refine ON ?_
 refine Ok.cond (b := _) (by simp only [kE, kT, kL, kC] <;> rfl) (fun hb2 => ?_) (fun hb2 => ?_)
 ·
  try simp only [bsimp] at hb2
  obtain ⟨s, r, hw⟩ : ∃ s r, l.way = s :: r := by
    cases hh : l.way with
    | nil => simp [hh] at hb2
    | cons s r => exact ⟨s, r, rfl⟩
  refine OQ ?_
  iterate 3 (refine EV ?_)
  refine OkOps.storeE tab_ok rfl rfl (by simp only [kE, kT, kL, kC] <;> rfl) ⟨_, _, by simp only [kE]; rfl⟩ (by first | (simp [V.labelsL, V.labelsLL, V.labels, zz, zf, zy]; done) | (simp [-List.map_map, -List.map_set, -List.map_drop, -List.map_take, -List.map_tail, -List.drop_one, V.labelsL, V.labelsLL, V.labels, zz, zf, zy]; done)) (by simp only [eq_self, V.updL, V.travL, V.travLL, V.trav, updS, updP, and_self, true_and, and_true, false_and, and_false, Nat.reduceEqDiff, Nat.reduceSub, Nat.le_refl, Nat.zero_le, ↓reduceIte, if_true, if_false, kP, zz, zf, zy] <;> rfl) (rfl) ?_
  refine ON ?_
  refine Ok.region ?_
  iterate 2 (refine EV ?_)
  refine OkOps.ev tab_ok rfl (ev_idx (j := 0) (by simp only [kE, kT, kL, kC] <;> rfl) (by simp only [kE, kT, kL, kC] <;> rfl) (by rw [hw]; rfl) (by simp only [kE, kT, kL, kC] <;> rfl)) (by simp only [kP] <;> rfl) ?_
  iterate 2 (refine EV ?_)
  refine OkOps.storeE tab_ok rfl rfl (by simp only [kE, kT, kL, kC] <;> rfl) ⟨_, _, by simp only [kE]; rfl⟩ (by first | (simp [V.labelsL, V.labelsLL, V.labels, zz, zf, zy]; done) | (simp [-List.map_map, -List.map_set, -List.map_drop, -List.map_take, -List.map_tail, -List.drop_one, V.labelsL, V.labelsLL, V.labels, zz, zf, zy]; done)) (by simp only [eq_self, V.updL, V.travL, V.travLL, V.trav, updS, updP, and_self, true_and, and_true, false_and, and_false, Nat.reduceEqDiff, Nat.reduceSub, Nat.le_refl, Nat.zero_le, ↓reduceIte, if_true, if_false, kP, zz, zf, zy] <;> rfl) (rfl) ?_
  refine ON ?_
  refine OQ ?_
  refine EV ?_
  refine OkOps.storeE tab_ok rfl rfl (by simp only [kE, kT, kL, kC] <;> rfl) ⟨_, _, by simp only [kE]; rfl⟩ (by first | (simp [V.labelsL, V.labelsLL, V.labels, zz, zf, zy]; done) | (simp [-List.map_map, -List.map_set, -List.map_drop, -List.map_take, -List.map_tail, -List.drop_one, V.labelsL, V.labelsLL, V.labels, zz, zf, zy]; done)) (by simp only [eq_self, V.updL, V.travL, V.travLL, V.trav, updS, updP, and_self, true_and, and_true, false_and, and_false, Nat.reduceEqDiff, Nat.reduceSub, Nat.le_refl, Nat.zero_le, ↓reduceIte, if_true, if_false, kP, zz, zf, zy] <;> rfl) (rfl) ?_
  refine ON ?_
  refine Ok.ret ?_
  with_reducible repeat (first | refine thenQ_ret ?_ | refine blockQ_ret ?_)
  refine RT ?_
  simp only [packV, V.erase, V.trav, V.travL, zz, zf, zy, linkSays, hw]
 ·
  try simp only [bsimp] at hb2
  have hw : l.way = [] := List.eq_nil_of_length_eq_zero (by omega)
  refine Ok.skip ?_
  refine OQ ?_
  refine EV ?_
  refine OkOps.storeE tab_ok rfl rfl (by simp only [kE, kT, kL, kC] <;> rfl) ⟨_, _, by simp only [kE]; rfl⟩ (by first | (simp [V.labelsL, V.labelsLL, V.labels, zz, zf, zy]; done) | (simp [-List.map_map, -List.map_set, -List.map_drop, -List.map_take, -List.map_tail, -List.drop_one, V.labelsL, V.labelsLL, V.labels, zz, zf, zy]; done)) (by simp only [eq_self, V.updL, V.travL, V.travLL, V.trav, updS, updP, and_self, true_and, and_true, false_and, and_false, Nat.reduceEqDiff, Nat.reduceSub, Nat.le_refl, Nat.zero_le, ↓reduceIte, if_true, if_false, kP, zz, zf, zy] <;> rfl) (rfl) ?_
  refine ON ?_
  refine Ok.ret ?_
  with_reducible repeat (first | refine thenQ_ret ?_ | refine blockQ_ret ?_)
  refine RT ?_
  simp only [packV, V.erase, V.trav, V.travL, zz, zf, zy, linkSays, hw]
theorem c_put_s (y0 y1 : V) (ep : Int) (net : List Letter) (l : Letter) (hn : net.length ≤ 1048576) (L C : Nat) (h6 : net.length + 1 ≤ 6) {h : List V} {n : Nat} (hL : L + 1 < n) (hC : C + 1 < n) (hLC : ¬ L + 1 = C + 1) (a0 : ¬ L + 1 ∈ V.labels y0) (a1 : ¬ L + 1 ∈ V.labels y1) (b0 : ¬ C + 1 ∈ V.labels y0) (b1 : ¬ C + 1 ∈ V.labels y1) : OkCall Tryz.prog 91 [.ptr (L + 1) 0 0 [y0, y1, .sl (C + 1) 2 0 (net.map cLetter), .int .i64 ep], .agg (cLetter l)] h n (MarkQ (fun M => M = L + 1 ∨ M = C + 1) (.ptr (L + 1) 0 0 [y0, y1, .sl (C + 1) 2 0 (net.map cLetter), .int .i64 ep]) (.ptr (L + 1) 0 0 [y0, y1, .sl (C + 1) 2 0 ((net ++ [l]).map cLetter), .int .i64 ep]) (.tup []) h (n + 2)) := by
 have u0 := fun e => upd_far (i := 0) (e := e) a0
 have u1 := fun e => upd_far (i := 0) (e := e) a1
 have k0 := kill_far b0
 have k1 := kill_far b1
 have hlc2 : ¬ (C + 1 = L + 1) := fun h => hLC h.symm
 have hnl : ¬ (n = L + 1) := by omega
 have hnc : ¬ (n = C + 1) := by omega
 have hsn := snoc_letter net l
 have hx : (net ++ [l]).length = net.length + 1 := by simp
 refine OkCall.enter' tab_ok Tryz.func91 rfl (t := [.ptr (L + 1) 0 0 [y0, y1, .sl (C + 1) 2 0 (net.map cLetter), .int .i64 ep], .agg (cLetter l), .any, .any, .any, .any, .any, .any, .any, .any, .any, .any, .any, .any, .any, .any, .any, .any, .any, .any, .any, .any, .any, .any, .any, .any, .any, .any, .any, .any, .any, .any, .any, .any, .any, .any]) rfl ?_
 refine OQ ?_
 refine EV ?_
 refine ON ?_
 refine Ok.seq ?_
 refine Ok.drawn 7 36 [0] (by kernel_rfl) (by kernel_rfl) rfl ?_
 iterate 6 (refine SV ?_)
 refine SOps.ev tab_ok rfl (ev_bs (by simp only [kT] <;> rfl) (by simp only [kT] <;> rfl) (by decide) (by decide) (by simp only [kE, kT, kL, kC, List.map_cons, List.map_nil] <;> rfl) (by simp only [kfe, beq_self_eq_true, Bool.and_true, Bool.true_and, decide_true, Nat.zero_add, Nat.lt_add_one, Nat.reduceLT, Nat.reduceAdd, Nat.zero_lt_succ, if_true, ↓reduceIte] <;> rfl)) (by simp only [kP] <;> rfl) ?_
 refine SOps.nil ?_
 refine TOps.appendL tab_ok rfl rfl (by simp only [kT] <;> rfl) (by simp only [kT] <;> rfl) (by decide) rfl (by simp only [kE, kT, kL, kC] <;> rfl) (.inl ⟨_, _, by simp only [kE, kT, kL, kC] <;> rfl⟩) (by omega) (by omega) (by simp only [List.length_map, List.length_cons, List.length_nil]; omega) (by simp only [List.length_map, List.length_cons, List.length_nil]; omega) (by simp [V.one]) (by simp only [V.killL, V.killLL, V.travL, V.travLL, V.trav, killS, killP, Nat.reduceEqDiff, ↓reduceIte, reduceCtorEq, if_true, if_false, List.append_nil, List.nil_append, List.cons_append, zz, zf, zy] <;> rfl) (by simp only [V.killL, V.killLL, V.travL, V.travLL, V.trav, killS, killP, Nat.reduceEqDiff, ↓reduceIte, reduceCtorEq, if_true, if_false, List.append_nil, List.nil_append, List.cons_append, zz, zf, zy, kP, k0, k1, hsn, hLC, hlc2, hnl, hnc, zf, zy] <;> rfl) (rfl) (LateOk.cons (i := 0) tab_ok (by rfl) (by rfl) (by simp only [List.getElem_toArray, List.getElem_cons_succ, List.getElem_cons_zero]; exact (by simp only [kE, kT, kL, kC] <;> rfl)) (by show nth _ 4 = _; simp only [kE, kT, kL, kC] <;> rfl) LateOk.nil) ?_
 refine TOps.evL tab_ok rfl (by simp only [kE, kT, kL, kC] <;> rfl) (by simp only [kP] <;> rfl) (LateOk.cons (i := 0) tab_ok (by rfl) (by rfl) (by simp only [List.getElem_toArray, List.getElem_cons_succ, List.getElem_cons_zero]; exact (by simp only [kE, kT, kL, kC] <;> rfl)) (by show nth _ 4 = _; simp only [kE, kT, kL, kC] <;> rfl) LateOk.nil) ?_
 refine TOps.evL tab_ok rfl (by simp only [kE, kT, kL, kC] <;> rfl) (by simp only [kP] <;> rfl) (LateOk.cons (i := 0) tab_ok (by rfl) (by rfl) (by simp only [List.getElem_toArray, List.getElem_cons_succ, List.getElem_cons_zero]; exact (by simp only [kE, kT, kL, kC] <;> rfl)) (by show nth _ 4 = _; simp only [kE, kT, kL, kC] <;> rfl) LateOk.nil) ?_
 refine TOps.storeL tab_ok rfl rfl rfl (by simp only [kE, kT, kL, kC] <;> rfl) ⟨_, _, by simp only [kE]; rfl⟩ (by simp only [V.labelsL, V.labels, zf, List.mem_append, List.mem_cons, List.not_mem_nil, not_or, or_false, List.append_nil, not_false_eq_true, and_true]; first | exact ⟨a0, a1, hLC⟩ | exact ⟨a0, a1, by omega⟩) (by simp only [eq_self, V.updL, V.travL, V.travLL, V.trav, updS, updP, and_self, true_and, and_true, false_and, and_false, Nat.reduceEqDiff, Nat.reduceSub, Nat.le_refl, Nat.zero_le, ↓reduceIte, if_true, if_false, kP, zz, zf, zy, u0, u1, k0, k1, Nat.sub_zero, hLC, hlc2, hnl, hnc] <;> rfl) (rfl) (LateOk.cons (i := 0) tab_ok (by rfl) (by rfl) (by simp only [List.getElem_toArray, List.getElem_cons_succ, List.getElem_cons_zero]; exact (by simp only [kE, kT, kL, kC] <;> rfl)) (by show nth _ 4 = _; simp only [kE, kT, kL, kC] <;> rfl) LateOk.nil) ?_
 refine TOps.nil ?_
 refine OQ ?_
 iterate 6 (refine EV ?_)
 refine ON ?_
 refine Ok.cond (b := _) (by simp only [kE, kT, kL, kC] <;> rfl) (fun hb2 => ?_) (fun hb2 => ?_)
 ·
  try simp only [bsimp] at hb2
  exfalso; omega
 ·
  try simp only [bsimp] at hb2
  refine Ok.skip ?_
  refine RF ?_
  exact ⟨rfl, rfl, V.upd (L + 1) 0 [y0, y1, .sl (C + 1) 2 0 ((net ++ [l]).map cLetter), .int .i64 ep] ∘ V.kill (C + 1), ((upd_hom (L + 1) 0 [y0, y1, .sl (C + 1) 2 0 ((net ++ [l]).map cLetter), .int .i64 ep]).mono (fun M h => .inl h)).comp ((kill_hom (C + 1)).mono (fun M h => .inr h)), by simp only [Function.comp_apply, V.kill, V.upd, V.trav, V.travL, killP, updP, if_neg hLC, and_self, if_true], by simp only [updL_map, killL_map, List.map_map] <;> rfl⟩
theorem c_put_l (y0 y1 : V) (ep : Int) (net : List Letter) (l : Letter) (hn : net.length ≤ 1048576) (L C : Nat) (h6 : 6 < net.length + 1) {h : List V} {n : Nat} (hL : L + 1 < n) (hC : C + 1 < n) (hLC : ¬ L + 1 = C + 1) (a0 : ¬ L + 1 ∈ V.labels y0) (a1 : ¬ L + 1 ∈ V.labels y1) (b0 : ¬ C + 1 ∈ V.labels y0) (b1 : ¬ C + 1 ∈ V.labels y1) : OkCall Tryz.prog 91 [.ptr (L + 1) 0 0 [y0, y1, .sl (C + 1) 2 0 (net.map cLetter), .int .i64 ep], .agg (cLetter l)] h n (MarkQ (fun M => M = L + 1 ∨ M = C + 1) (.ptr (L + 1) 0 0 [y0, y1, .sl (C + 1) 2 0 (net.map cLetter), .int .i64 ep]) (.ptr (L + 1) 0 0 [y0, y1, .sl (n + 2) 2 0 ((post net l).map cLetter), .int .i64 ep]) (.tup []) h (n + 3)) := by
 have u0 := fun e => upd_far (i := 0) (e := e) a0
 have u1 := fun e => upd_far (i := 0) (e := e) a1
 have k0 := kill_far b0
 have k1 := kill_far b1
 have hlc2 : ¬ (C + 1 = L + 1) := fun h => hLC h.symm
 have hnl : ¬ (n = L + 1) := by omega
 have hnc : ¬ (n = C + 1) := by omega
 have hsn := snoc_letter net l
 have hx : (net ++ [l]).length = net.length + 1 := by simp
 have hw : IntKind.i64.wrap (((net ++ [l]).length : Int) - 6) = (((net ++ [l]).length - 6 : Nat) : Int) := by rw [IntKind.wrap_i64]; omega
 refine OkCall.enter' tab_ok Tryz.func91 rfl (t := [.ptr (L + 1) 0 0 [y0, y1, .sl (C + 1) 2 0 (net.map cLetter), .int .i64 ep], .agg (cLetter l), .any, .any, .any, .any, .any, .any, .any, .any, .any, .any, .any, .any, .any, .any, .any, .any, .any, .any, .any, .any, .any, .any, .any, .any, .any, .any, .any, .any, .any, .any, .any, .any, .any, .any]) rfl ?_
 refine OQ ?_
 refine EV ?_
 refine ON ?_
 refine Ok.seq ?_
 refine Ok.drawn 7 36 [0] (by kernel_rfl) (by kernel_rfl) rfl ?_
 iterate 6 (refine SV ?_)
 refine SOps.ev tab_ok rfl (ev_bs (by simp only [kT] <;> rfl) (by simp only [kT] <;> rfl) (by decide) (by decide) (by simp only [kE, kT, kL, kC, List.map_cons, List.map_nil] <;> rfl) (by simp only [kfe, beq_self_eq_true, Bool.and_true, Bool.true_and, decide_true, Nat.zero_add, Nat.lt_add_one, Nat.reduceLT, Nat.reduceAdd, Nat.zero_lt_succ, if_true, ↓reduceIte] <;> rfl)) (by simp only [kP] <;> rfl) ?_
 refine SOps.nil ?_
 refine TOps.appendL tab_ok rfl rfl (by simp only [kT] <;> rfl) (by simp only [kT] <;> rfl) (by decide) rfl (by simp only [kE, kT, kL, kC] <;> rfl) (.inl ⟨_, _, by simp only [kE, kT, kL, kC] <;> rfl⟩) (by omega) (by omega) (by simp only [List.length_map, List.length_cons, List.length_nil]; omega) (by simp only [List.length_map, List.length_cons, List.length_nil]; omega) (by simp [V.one]) (by simp only [V.killL, V.killLL, V.travL, V.travLL, V.trav, killS, killP, Nat.reduceEqDiff, ↓reduceIte, reduceCtorEq, if_true, if_false, List.append_nil, List.nil_append, List.cons_append, zz, zf, zy] <;> rfl) (by simp only [V.killL, V.killLL, V.travL, V.travLL, V.trav, killS, killP, Nat.reduceEqDiff, ↓reduceIte, reduceCtorEq, if_true, if_false, List.append_nil, List.nil_append, List.cons_append, zz, zf, zy, kP, k0, k1, hsn, hLC, hlc2, hnl, hnc, zf, zy] <;> rfl) (rfl) (LateOk.cons (i := 0) tab_ok (by rfl) (by rfl) (by simp only [List.getElem_toArray, List.getElem_cons_succ, List.getElem_cons_zero]; exact (by simp only [kE, kT, kL, kC] <;> rfl)) (by show nth _ 4 = _; simp only [kE, kT, kL, kC] <;> rfl) LateOk.nil) ?_
 refine TOps.evL tab_ok rfl (by simp only [kE, kT, kL, kC] <;> rfl) (by simp only [kP] <;> rfl) (LateOk.cons (i := 0) tab_ok (by rfl) (by rfl) (by simp only [List.getElem_toArray, List.getElem_cons_succ, List.getElem_cons_zero]; exact (by simp only [kE, kT, kL, kC] <;> rfl)) (by show nth _ 4 = _; simp only [kE, kT, kL, kC] <;> rfl) LateOk.nil) ?_
 refine TOps.evL tab_ok rfl (by simp only [kE, kT, kL, kC] <;> rfl) (by simp only [kP] <;> rfl) (LateOk.cons (i := 0) tab_ok (by rfl) (by rfl) (by simp only [List.getElem_toArray, List.getElem_cons_succ, List.getElem_cons_zero]; exact (by simp only [kE, kT, kL, kC] <;> rfl)) (by show nth _ 4 = _; simp only [kE, kT, kL, kC] <;> rfl) LateOk.nil) ?_
 refine TOps.storeL tab_ok rfl rfl rfl (by simp only [kE, kT, kL, kC] <;> rfl) ⟨_, _, by simp only [kE]; rfl⟩ (by simp only [V.labelsL, V.labels, zf, List.mem_append, List.mem_cons, List.not_mem_nil, not_or, or_false, List.append_nil, not_false_eq_true, and_true]; first | exact ⟨a0, a1, hLC⟩ | exact ⟨a0, a1, by omega⟩) (by simp only [eq_self, V.updL, V.travL, V.travLL, V.trav, updS, updP, and_self, true_and, and_true, false_and, and_false, Nat.reduceEqDiff, Nat.reduceSub, Nat.le_refl, Nat.zero_le, ↓reduceIte, if_true, if_false, kP, zz, zf, zy, u0, u1, k0, k1, Nat.sub_zero, hLC, hlc2, hnl, hnc] <;> rfl) (rfl) (LateOk.cons (i := 0) tab_ok (by rfl) (by rfl) (by simp only [List.getElem_toArray, List.getElem_cons_succ, List.getElem_cons_zero]; exact (by simp only [kE, kT, kL, kC] <;> rfl)) (by show nth _ 4 = _; simp only [kE, kT, kL, kC] <;> rfl) LateOk.nil) ?_
 refine TOps.nil ?_
 refine OQ ?_
 iterate 6 (refine EV ?_)
 refine ON ?_
 refine Ok.cond (b := _) (by simp only [kE, kT, kL, kC] <;> rfl) (fun hb2 => ?_) (fun hb2 => ?_)
 ·
  try simp only [bsimp] at hb2
  refine Ok.drawn 16 36 [] (by kernel_rfl) (by kernel_rfl) rfl ?_
  iterate 11 (refine SV ?_)
  refine SOps.ev tab_ok rfl (by simp only [kE, kT, kL, kC, hw] <;> rfl) (by simp only [kP] <;> rfl) ?_
  refine SOps.ev tab_ok rfl (ev_partLo_map (by simp only [kE, kT, kL, kC] <;> rfl) (by simp only [kE, kT, kL, kC] <;> rfl) (by simp only [kT] <;> rfl) (by simp only [kT, Option.map_some] <;> rfl) (by omega)) (by simp only [kP] <;> rfl) ?_
  refine SOps.S rfl (ok_append_nil tab_ok (by simp only [kT] <;> rfl) (by simp only [kT] <;> rfl) (by decide) rfl rfl (by simp only [kE, kT, kL, kC] <;> rfl) (.inl ⟨_, _, by simp only [kE, kT, kL, kC] <;> rfl⟩) (by simp only [List.length_map, List.length_drop]; omega) (by simp only [List.length_map, List.length_drop]; omega)) (by simp only [kP, kL] <;> rfl) ?_
  iterate 2 (refine SV ?_)
  refine SOps.nil ?_
  refine TOps.storeE tab_ok rfl rfl (by simp only [kE, kT, kL, kC] <;> rfl) ⟨_, _, by simp only [kE]; rfl⟩ (by simp only [V.labelsL, V.labels, zf, List.mem_append, List.mem_cons, List.not_mem_nil, not_or, or_false, List.append_nil, not_false_eq_true, and_true]; first | exact ⟨a0, a1, hLC⟩ | exact ⟨a0, a1, by omega⟩) (by simp only [eq_self, V.updL, V.travL, V.travLL, V.trav, updS, updP, and_self, true_and, and_true, false_and, and_false, Nat.reduceEqDiff, Nat.reduceSub, Nat.le_refl, Nat.zero_le, ↓reduceIte, if_true, if_false, kP, zz, zf, zy, u0, u1, k0, k1, Nat.sub_zero, hLC, hlc2, hnl, hnc] <;> rfl) (rfl) ?_
  refine TOps.nil ?_
  refine RF ?_
  exact ⟨rfl, rfl, V.upd (L + 1) 0 [y0, y1, .sl (n + 2) 2 0 ((post net l).map cLetter), .int .i64 ep] ∘ V.upd (L + 1) 0 [y0, y1, .sl (C + 1) 2 0 ((net ++ [l]).map cLetter), .int .i64 ep] ∘ V.kill (C + 1), ((upd_hom (L + 1) 0 [y0, y1, .sl (n + 2) 2 0 ((post net l).map cLetter), .int .i64 ep]).mono (fun M h => .inl h)).comp (((upd_hom (L + 1) 0 [y0, y1, .sl (C + 1) 2 0 ((net ++ [l]).map cLetter), .int .i64 ep]).mono (fun M h => .inl h)).comp ((kill_hom (C + 1)).mono (fun M h => .inr h))), by simp only [Function.comp_apply, V.kill, V.upd, V.trav, V.travL, killP, updP, if_neg hLC, and_self, if_true], by simp only [updL_map, killL_map, List.map_map] <;> rfl⟩
 ·
  try simp only [bsimp] at hb2
  exfalso; omega
theorem c_post_s (y0 y1 : V) (ep : Int) (net : List Letter) (l : Letter) (hn : net.length ≤ 1048576) (L C : Nat) (h6 : net.length + 1 ≤ 6) {h : List V} {n : Nat} (hL : L + 1 < n) (hC : C < n) (a0 : ¬ L + 1 ∈ V.labels y0) (a1 : ¬ L + 1 ∈ V.labels y1) (c0 : ∀ M ∈ V.labels y0, M < n) (c1 : ∀ M ∈ V.labels y1, M < n) : OkCall Tryz.prog 144 [.ptr (L + 1) 0 0 [y0, y1, .sl C 2 0 (net.map cLetter), .int .i64 ep], .agg (cLetter l)] h n (MarkQ (fun M => M = L + 1 ∨ n ≤ M) (.ptr (L + 1) 0 0 [y0, y1, .sl C 2 0 (net.map cLetter), .int .i64 ep]) (.ptr (L + 1) 0 0 [y0, y1, .sl (n + 1) 2 0 ((net ++ [l]).map cLetter), .int .i64 ep]) (.tup []) h (n + 3)) := by
 have u0 := fun e => upd_far (i := 0) (e := e) a0
 have u1 := fun e => upd_far (i := 0) (e := e) a1
 have k0 := kill_far (L := n + 1) (fun h => by have := c0 _ h; omega)
 have k1 := kill_far (L := n + 1) (fun h => by have := c1 _ h; omega)
 have h01 : ¬ (C = n + 1) := by omega
 have h02 : ¬ (L + 1 = n + 1) := by omega
 have h03 : ¬ (n = n + 1) := by omega
 have h04 : ¬ (n + 2 = n + 1) := by omega
 have h05 : ¬ (n = L + 1) := by omega
 have h06 : ¬ (n + 1 = L + 1) := by omega
 have h07 : ¬ (n + 2 = L + 1) := by omega
 have h08 : ¬ (n + 1 + 1 = n + 1) := by omega
 have h09 : ¬ (n + 1 + 1 = L + 1) := by omega
 have hsn := snoc_letter net l
 have hx : (net ++ [l]).length = net.length + 1 := by simp
 refine OkCall.enter' tab_ok Tryz.func144 rfl (t := [.ptr (L + 1) 0 0 [y0, y1, .sl C 2 0 (net.map cLetter), .int .i64 ep], .agg (cLetter l), .any, .any, .any, .any, .any, .any, .any, .any, .any, .any, .any, .any, .any, .any, .any, .any, .any, .any, .any, .any, .any, .any, .any, .any, .any, .any, .any, .any, .any, .any, .any, .any, .any, .any, .any, .any]) rfl ?_
 refine OQ ?_
 refine EV ?_
 refine ON ?_
 refine Ok.seq ?_
 refine Ok.drawn 9 38 [0] (by kernel_rfl) (by kernel_rfl) rfl ?_
 iterate 6 (refine SV ?_)
 refine SOps.S rfl (ok_append_nil tab_ok (by simp only [kT] <;> rfl) (by simp only [kT] <;> rfl) (by decide) rfl rfl (by simp only [kE, kT, kL, kC] <;> rfl) (.inl ⟨_, _, by simp only [kE, kT, kL, kC] <;> rfl⟩) (by simp only [List.length_map]; omega) (by simp only [List.length_map]; omega)) (by simp only [kP, kL] <;> rfl) ?_
 refine SV ?_
 refine SOps.ev tab_ok rfl (ev_bs (by simp only [kT] <;> rfl) (by simp only [kT] <;> rfl) (by decide) (by decide) (by simp only [kE, kT, kL, kC, List.map_cons, List.map_nil] <;> rfl) (by simp only [kfe, beq_self_eq_true, Bool.and_true, Bool.true_and, decide_true, Nat.zero_add, Nat.lt_add_one, Nat.reduceLT, Nat.reduceAdd, Nat.zero_lt_succ, if_true, ↓reduceIte] <;> rfl)) (by simp only [kP] <;> rfl) ?_
 refine SOps.nil ?_
 refine TOps.appendL tab_ok rfl rfl (by simp only [kT] <;> rfl) (by simp only [kT] <;> rfl) (by decide) rfl (by simp only [kE, kT, kL, kC] <;> rfl) (.inl ⟨_, _, by simp only [kE, kT, kL, kC] <;> rfl⟩) (by omega) (by omega) (by simp only [List.length_map, List.length_cons, List.length_nil]; omega) (by simp only [List.length_map, List.length_cons, List.length_nil]; omega) (by simp [V.one]) (by simp only [V.killL, V.killLL, V.travL, V.travLL, V.trav, killS, killP, Nat.reduceEqDiff, ↓reduceIte, reduceCtorEq, if_true, if_false, List.append_nil, List.nil_append, List.cons_append, zz, zf, zy, h01, h02, h03, h04, h05, h06, h07, h08, h09, hsn] <;> rfl) (by simp only [V.killL, V.killLL, V.travL, V.travLL, V.trav, killS, killP, Nat.reduceEqDiff, ↓reduceIte, reduceCtorEq, if_true, if_false, List.append_nil, List.nil_append, List.cons_append, zz, zf, zy, h01, h02, h03, h04, h05, h06, h07, h08, h09, hsn, kP, k0, k1, zf, zy, h01, h02, h03, h04, h05, h06, h07, h08, h09, hsn] <;> rfl) (rfl) (LateOk.cons (i := 0) tab_ok (by rfl) (by rfl) (by simp only [List.getElem_toArray, List.getElem_cons_succ, List.getElem_cons_zero]; exact (by simp only [kE, kT, kL, kC] <;> rfl)) (by show nth _ 4 = _; simp only [kE, kT, kL, kC] <;> rfl) LateOk.nil) ?_
 refine TOps.evL tab_ok rfl (by simp only [kE, kT, kL, kC] <;> rfl) (by simp only [kP] <;> rfl) (LateOk.cons (i := 0) tab_ok (by rfl) (by rfl) (by simp only [List.getElem_toArray, List.getElem_cons_succ, List.getElem_cons_zero]; exact (by simp only [kE, kT, kL, kC] <;> rfl)) (by show nth _ 4 = _; simp only [kE, kT, kL, kC] <;> rfl) LateOk.nil) ?_
 refine TOps.evL tab_ok rfl (by simp only [kE, kT, kL, kC] <;> rfl) (by simp only [kP] <;> rfl) (LateOk.cons (i := 0) tab_ok (by rfl) (by rfl) (by simp only [List.getElem_toArray, List.getElem_cons_succ, List.getElem_cons_zero]; exact (by simp only [kE, kT, kL, kC] <;> rfl)) (by show nth _ 4 = _; simp only [kE, kT, kL, kC] <;> rfl) LateOk.nil) ?_
 refine TOps.storeL tab_ok rfl rfl rfl (by simp only [kE, kT, kL, kC] <;> rfl) ⟨_, _, by simp only [kE]; rfl⟩ (by simp only [V.labelsL, V.labels, zf, List.mem_append, List.mem_cons, List.not_mem_nil, not_or, or_false, List.append_nil, not_false_eq_true, and_true]; exact ⟨a0, a1, by omega⟩) (by simp only [eq_self, V.updL, V.travL, V.travLL, V.trav, updS, updP, and_self, true_and, and_true, false_and, and_false, Nat.reduceEqDiff, Nat.reduceSub, Nat.le_refl, Nat.zero_le, ↓reduceIte, if_true, if_false, kP, zz, zf, zy, u0, u1, k0, k1, Nat.sub_zero, h01, h02, h03, h04, h05, h06, h07, h08, h09, hsn] <;> rfl) (rfl) (LateOk.cons (i := 0) tab_ok (by rfl) (by rfl) (by simp only [List.getElem_toArray, List.getElem_cons_succ, List.getElem_cons_zero]; exact (by simp only [kE, kT, kL, kC] <;> rfl)) (by show nth _ 4 = _; simp only [kE, kT, kL, kC] <;> rfl) LateOk.nil) ?_
 refine TOps.nil ?_
 refine OQ ?_
 iterate 6 (refine EV ?_)
 refine ON ?_
 refine Ok.cond (b := _) (by simp only [kE, kT, kL, kC] <;> rfl) (fun hb2 => ?_) (fun hb2 => ?_)
 ·
  try simp only [bsimp] at hb2
  exfalso; omega
 ·
  try simp only [bsimp] at hb2
  refine Ok.skip ?_
  refine RF ?_
  exact ⟨rfl, rfl, V.upd (L + 1) 0 [y0, y1, .sl (n + 1) 2 0 ((net ++ [l]).map cLetter), .int .i64 ep] ∘ V.kill (n + 1), ((upd_hom (L + 1) 0 [y0, y1, .sl (n + 1) 2 0 ((net ++ [l]).map cLetter), .int .i64 ep]).mono (fun M h => .inl h)).comp ((kill_hom (n + 1)).mono (fun M h => .inr (by omega))), by simp only [Function.comp_apply, V.kill, V.upd, V.trav, V.travL, killP, updP, if_neg h02, and_self, if_true], by simp only [updL_map, killL_map, List.map_map] <;> rfl⟩
theorem c_post_l (y0 y1 : V) (ep : Int) (net : List Letter) (l : Letter) (hn : net.length ≤ 1048576) (L C : Nat) (h6 : 6 < net.length + 1) {h : List V} {n : Nat} (hL : L + 1 < n) (hC : C < n) (a0 : ¬ L + 1 ∈ V.labels y0) (a1 : ¬ L + 1 ∈ V.labels y1) (c0 : ∀ M ∈ V.labels y0, M < n) (c1 : ∀ M ∈ V.labels y1, M < n) : OkCall Tryz.prog 144 [.ptr (L + 1) 0 0 [y0, y1, .sl C 2 0 (net.map cLetter), .int .i64 ep], .agg (cLetter l)] h n (MarkQ (fun M => M = L + 1 ∨ n ≤ M) (.ptr (L + 1) 0 0 [y0, y1, .sl C 2 0 (net.map cLetter), .int .i64 ep]) (.ptr (L + 1) 0 0 [y0, y1, .sl (n + 3) 2 0 ((post net l).map cLetter), .int .i64 ep]) (.tup []) h (n + 4)) := by
 have u0 := fun e => upd_far (i := 0) (e := e) a0
 have u1 := fun e => upd_far (i := 0) (e := e) a1
 have k0 := kill_far (L := n + 1) (fun h => by have := c0 _ h; omega)
 have k1 := kill_far (L := n + 1) (fun h => by have := c1 _ h; omega)
 have h01 : ¬ (C = n + 1) := by omega
 have h02 : ¬ (L + 1 = n + 1) := by omega
 have h03 : ¬ (n = n + 1) := by omega
 have h04 : ¬ (n + 2 = n + 1) := by omega
 have h05 : ¬ (n = L + 1) := by omega
 have h06 : ¬ (n + 1 = L + 1) := by omega
 have h07 : ¬ (n + 2 = L + 1) := by omega
 have h08 : ¬ (n + 1 + 1 = n + 1) := by omega
 have h09 : ¬ (n + 1 + 1 = L + 1) := by omega
 have hsn := snoc_letter net l
 have hx : (net ++ [l]).length = net.length + 1 := by simp
 have hw : IntKind.i64.wrap (((net ++ [l]).length : Int) - 6) = (((net ++ [l]).length - 6 : Nat) : Int) := by rw [IntKind.wrap_i64]; omega
 refine OkCall.enter' tab_ok Tryz.func144 rfl (t := [.ptr (L + 1) 0 0 [y0, y1, .sl C 2 0 (net.map cLetter), .int .i64 ep], .agg (cLetter l), .any, .any, .any, .any, .any, .any, .any, .any, .any, .any, .any, .any, .any, .any, .any, .any, .any, .any, .any, .any, .any, .any, .any, .any, .any, .any, .any, .any, .any, .any, .any, .any, .any, .any, .any, .any]) rfl ?_
 refine OQ ?_
 refine EV ?_
 refine ON ?_
 refine Ok.seq ?_
 refine Ok.drawn 9 38 [0] (by kernel_rfl) (by kernel_rfl) rfl ?_
 iterate 6 (refine SV ?_)
 refine SOps.S rfl (ok_append_nil tab_ok (by simp only [kT] <;> rfl) (by simp only [kT] <;> rfl) (by decide) rfl rfl (by simp only [kE, kT, kL, kC] <;> rfl) (.inl ⟨_, _, by simp only [kE, kT, kL, kC] <;> rfl⟩) (by simp only [List.length_map]; omega) (by simp only [List.length_map]; omega)) (by simp only [kP, kL] <;> rfl) ?_
 refine SV ?_
 refine SOps.ev tab_ok rfl (ev_bs (by simp only [kT] <;> rfl) (by simp only [kT] <;> rfl) (by decide) (by decide) (by simp only [kE, kT, kL, kC, List.map_cons, List.map_nil] <;> rfl) (by simp only [kfe, beq_self_eq_true, Bool.and_true, Bool.true_and, decide_true, Nat.zero_add, Nat.lt_add_one, Nat.reduceLT, Nat.reduceAdd, Nat.zero_lt_succ, if_true, ↓reduceIte] <;> rfl)) (by simp only [kP] <;> rfl) ?_
 refine SOps.nil ?_
 refine TOps.appendL tab_ok rfl rfl (by simp only [kT] <;> rfl) (by simp only [kT] <;> rfl) (by decide) rfl (by simp only [kE, kT, kL, kC] <;> rfl) (.inl ⟨_, _, by simp only [kE, kT, kL, kC] <;> rfl⟩) (by omega) (by omega) (by simp only [List.length_map, List.length_cons, List.length_nil]; omega) (by simp only [List.length_map, List.length_cons, List.length_nil]; omega) (by simp [V.one]) (by simp only [V.killL, V.killLL, V.travL, V.travLL, V.trav, killS, killP, Nat.reduceEqDiff, ↓reduceIte, reduceCtorEq, if_true, if_false, List.append_nil, List.nil_append, List.cons_append, zz, zf, zy, h01, h02, h03, h04, h05, h06, h07, h08, h09, hsn] <;> rfl) (by simp only [V.killL, V.killLL, V.travL, V.travLL, V.trav, killS, killP, Nat.reduceEqDiff, ↓reduceIte, reduceCtorEq, if_true, if_false, List.append_nil, List.nil_append, List.cons_append, zz, zf, zy, h01, h02, h03, h04, h05, h06, h07, h08, h09, hsn, kP, k0, k1, zf, zy, h01, h02, h03, h04, h05, h06, h07, h08, h09, hsn] <;> rfl) (rfl) (LateOk.cons (i := 0) tab_ok (by rfl) (by rfl) (by simp only [List.getElem_toArray, List.getElem_cons_succ, List.getElem_cons_zero]; exact (by simp only [kE, kT, kL, kC] <;> rfl)) (by show nth _ 4 = _; simp only [kE, kT, kL, kC] <;> rfl) LateOk.nil) ?_
 refine TOps.evL tab_ok rfl (by simp only [kE, kT, kL, kC] <;> rfl) (by simp only [kP] <;> rfl) (LateOk.cons (i := 0) tab_ok (by rfl) (by rfl) (by simp only [List.getElem_toArray, List.getElem_cons_succ, List.getElem_cons_zero]; exact (by simp only [kE, kT, kL, kC] <;> rfl)) (by show nth _ 4 = _; simp only [kE, kT, kL, kC] <;> rfl) LateOk.nil) ?_
 refine TOps.evL tab_ok rfl (by simp only [kE, kT, kL, kC] <;> rfl) (by simp only [kP] <;> rfl) (LateOk.cons (i := 0) tab_ok (by rfl) (by rfl) (by simp only [List.getElem_toArray, List.getElem_cons_succ, List.getElem_cons_zero]; exact (by simp only [kE, kT, kL, kC] <;> rfl)) (by show nth _ 4 = _; simp only [kE, kT, kL, kC] <;> rfl) LateOk.nil) ?_
 refine TOps.storeL tab_ok rfl rfl rfl (by simp only [kE, kT, kL, kC] <;> rfl) ⟨_, _, by simp only [kE]; rfl⟩ (by simp only [V.labelsL, V.labels, zf, List.mem_append, List.mem_cons, List.not_mem_nil, not_or, or_false, List.append_nil, not_false_eq_true, and_true]; exact ⟨a0, a1, by omega⟩) (by simp only [eq_self, V.updL, V.travL, V.travLL, V.trav, updS, updP, and_self, true_and, and_true, false_and, and_false, Nat.reduceEqDiff, Nat.reduceSub, Nat.le_refl, Nat.zero_le, ↓reduceIte, if_true, if_false, kP, zz, zf, zy, u0, u1, k0, k1, Nat.sub_zero, h01, h02, h03, h04, h05, h06, h07, h08, h09, hsn] <;> rfl) (rfl) (LateOk.cons (i := 0) tab_ok (by rfl) (by rfl) (by simp only [List.getElem_toArray, List.getElem_cons_succ, List.getElem_cons_zero]; exact (by simp only [kE, kT, kL, kC] <;> rfl)) (by show nth _ 4 = _; simp only [kE, kT, kL, kC] <;> rfl) LateOk.nil) ?_
 refine TOps.nil ?_
 refine OQ ?_
 iterate 6 (refine EV ?_)
 refine ON ?_
 refine Ok.cond (b := _) (by simp only [kE, kT, kL, kC] <;> rfl) (fun hb2 => ?_) (fun hb2 => ?_)
 ·
  try simp only [bsimp] at hb2
  refine Ok.drawn 16 38 [] (by kernel_rfl) (by kernel_rfl) rfl ?_
  iterate 11 (refine SV ?_)
  refine SOps.ev tab_ok rfl (by simp only [kE, kT, kL, kC, hw] <;> rfl) (by simp only [kP] <;> rfl) ?_
  refine SOps.ev tab_ok rfl (ev_partLo_map (by simp only [kE, kT, kL, kC] <;> rfl) (by simp only [kE, kT, kL, kC] <;> rfl) (by simp only [kT] <;> rfl) (by simp only [kT, Option.map_some] <;> rfl) (by omega)) (by simp only [kP] <;> rfl) ?_
  refine SOps.S rfl (ok_append_nil tab_ok (by simp only [kT] <;> rfl) (by simp only [kT] <;> rfl) (by decide) rfl rfl (by simp only [kE, kT, kL, kC] <;> rfl) (.inl ⟨_, _, by simp only [kE, kT, kL, kC] <;> rfl⟩) (by simp only [List.length_map, List.length_drop]; omega) (by simp only [List.length_map, List.length_drop]; omega)) (by simp only [kP, kL] <;> rfl) ?_
  iterate 2 (refine SV ?_)
  refine SOps.nil ?_
  refine TOps.storeE tab_ok rfl rfl (by simp only [kE, kT, kL, kC] <;> rfl) ⟨_, _, by simp only [kE]; rfl⟩ (by simp only [V.labelsL, V.labels, zf, List.mem_append, List.mem_cons, List.not_mem_nil, not_or, or_false, List.append_nil, not_false_eq_true, and_true]; exact ⟨a0, a1, by omega⟩) (by simp only [eq_self, V.updL, V.travL, V.travLL, V.trav, updS, updP, and_self, true_and, and_true, false_and, and_false, Nat.reduceEqDiff, Nat.reduceSub, Nat.le_refl, Nat.zero_le, ↓reduceIte, if_true, if_false, kP, zz, zf, zy, u0, u1, k0, k1, Nat.sub_zero, h01, h02, h03, h04, h05, h06, h07, h08, h09, hsn] <;> rfl) (rfl) ?_
  refine TOps.nil ?_
  refine RF ?_
  exact ⟨rfl, rfl, V.upd (L + 1) 0 [y0, y1, .sl (n + 3) 2 0 ((post net l).map cLetter), .int .i64 ep] ∘ V.upd (L + 1) 0 [y0, y1, .sl (n + 1) 2 0 ((net ++ [l]).map cLetter), .int .i64 ep] ∘ V.kill (n + 1), ((upd_hom (L + 1) 0 [y0, y1, .sl (n + 3) 2 0 ((post net l).map cLetter), .int .i64 ep]).mono (fun M h => .inl h)).comp (((upd_hom (L + 1) 0 [y0, y1, .sl (n + 1) 2 0 ((net ++ [l]).map cLetter), .int .i64 ep]).mono (fun M h => .inl h)).comp ((kill_hom (n + 1)).mono (fun M h => .inr (by omega)))), by simp only [Function.comp_apply, V.kill, V.upd, V.trav, V.travL, killP, updP, if_neg h02, and_self, if_true], by simp only [updL_map, killL_map, List.map_map] <;> rfl⟩
 ·
  try simp only [bsimp] at hb2
  exfalso; omega
end Go.Proofs.YtjhfabimacljhaaGreat.K

/- Walks: servers that rise. Printed by w2.py. -/
namespace Go.Proofs.YtjhfabimacljhaaGreat.K
open Go Go.RowKit
set_option linter.unusedVariables false
set_option linter.unusedSimpArgs false
set_option maxHeartbeats 4000000
set_option maxRecDepth 20000
end Go.Proofs.YtjhfabimacljhaaGreat.K

/- Walks: pairs of which one rises. Printed by w2.py. -/
namespace Go.Proofs.YtjhfabimacljhaaGreat.K
open Go Go.RowKit
set_option linter.unusedVariables false
set_option linter.unusedSimpArgs false
set_option maxHeartbeats 4000000
set_option maxRecDepth 20000
theorem w_impl_Pair_has (p : Pair) (i : Int) : Weak Tryz.prog 78 [.agg (cPair p), .int .i64 i] (.bool (hasP p i)) := by
 refine Weak.enter tab_ok Tryz.func78 rfl (.inr (by simp [V.labelsL, V.labels, V.labelsLL, zz, zf, zy, or_imp, forall_and])) (t := [.agg (cPair p), .int .i64 i, .any, .any, .any, .any, .any, .any, .any, .any, .any, .any, .any, .any, .any, .any, .any, .any, .any, .any, .any]) rfl ?_
 refine OQ ?_
 iterate 2 (refine EV ?_)
 refine ON ?_
 refine OQ ?_
 refine EV ?_
 refine OkOps.S0 rfl (OpS.weak' rfl (by simp only [kE, kT, kL, kC] <;> rfl) (by simp only [kE, kT, kL, kC] <;> rfl) cl124 (w_impl_within i 0 1)) (by simp only [kP] <;> rfl) ?_
 refine EV ?_
 refine OkOps.split (d := 7) (by simp only [kE, kT, kL, kC] <;> rfl) (by simp only [kP] <;> rfl) (by simp only [kP] <;> rfl) (fun hg1_2 => ?_) (fun hg1_2 => ?_)
 ·
  try simp only [bsimp] at hg1_2
  have h1 := inR_t.1 hg1_2
  refine OO ?_
  refine EV ?_
  refine OO ?_
  refine EV ?_
  refine OO ?_
  refine EV ?_
  refine OO ?_
  refine EV ?_
  refine OO ?_
  iterate 3 (refine EV ?_)
  refine OkOps.split (d := 14) (by simp only [kE, kT, kL, kC] <;> rfl) (by simp only [kP] <;> rfl) (by simp only [kP] <;> rfl) (fun hg1_9 => ?_) (fun hg1_9 => ?_)
  ·
   try simp only [bsimp] at hg1_9
   have e : hasP p i = decide (i < (p.syncs.length : Int)) := by unfold hasP; exact decide_eq_decide.2 (by omega)
   rw [e]
   refine OO ?_
   refine EV ?_
   refine OO ?_
   refine EV ?_
   refine OO ?_
   refine EV ?_
   refine OO ?_
   refine EV ?_
   refine OO ?_
   iterate 3 (refine EV ?_)
   refine ON ?_
   refine Ok.ret ?_
   with_reducible repeat (first | refine thenQ_ret ?_ | refine blockQ_ret ?_)
   refine RT ?_
   rfl
  ·
   try simp only [bsimp] at hg1_9
   rw [hasP_no (p := p) (i := i) (by omega)]
   refine OkOps.offU rfl rfl (.inl (by simp only [kE, kT, kL, kC, Bool.not_true, Bool.not_false])) (by simp only [kP] <;> rfl) ?_
   refine OkOps.offU rfl rfl (.inl (by simp only [kE, kT, kL, kC, Bool.not_true, Bool.not_false])) (by simp only [kP] <;> rfl) ?_
   refine OkOps.offU rfl rfl (.inl (by simp only [kE, kT, kL, kC, Bool.not_true, Bool.not_false])) (by simp only [kP] <;> rfl) ?_
   refine OkOps.offU rfl rfl (.inl (by simp only [kE, kT, kL, kC, Bool.not_true, Bool.not_false])) (by simp only [kP] <;> rfl) ?_
   refine OkOps.offU rfl rfl (.inl (by simp only [kE, kT, kL, kC, Bool.not_true, Bool.not_false])) (by simp only [kP] <;> rfl) ?_
   iterate 2 (refine EV ?_)
   refine ON ?_
   refine Ok.ret ?_
   with_reducible repeat (first | refine thenQ_ret ?_ | refine blockQ_ret ?_)
   refine RT ?_
   rfl
 ·
  try simp only [bsimp] at hg1_2
  have h1 := inR_f.1 hg1_2
  rw [hasP_no (p := p) (i := i) (by omega)]
  refine OkOps.offU rfl rfl (.inl (by simp only [kE, kT, kL, kC, Bool.not_true, Bool.not_false])) (by simp only [kP] <;> rfl) ?_
  refine OkOps.offU rfl rfl (.inl (by simp only [kE, kT, kL, kC, Bool.not_true, Bool.not_false])) (by simp only [kP] <;> rfl) ?_
  refine OkOps.offU rfl rfl (.inl (by simp only [kE, kT, kL, kC, Bool.not_true, Bool.not_false])) (by simp only [kP] <;> rfl) ?_
  refine OkOps.offU rfl rfl (.inl (by simp only [kE, kT, kL, kC, Bool.not_true, Bool.not_false])) (by simp only [kP] <;> rfl) ?_
  refine OkOps.offU rfl rfl (.inl (by simp only [kE, kT, kL, kC, Bool.not_true, Bool.not_false])) (by simp only [kP] <;> rfl) ?_
  iterate 2 (refine EV ?_)
  refine OkOps.offU rfl rfl (.inl (by simp only [kE, kT, kL, kC, Bool.not_true, Bool.not_false])) (by simp only [kP] <;> rfl) ?_
  refine OkOps.offU rfl rfl (.inl (by simp only [kE, kT, kL, kC, Bool.not_true, Bool.not_false])) (by simp only [kP] <;> rfl) ?_
  refine OkOps.offU rfl rfl (.inl (by simp only [kE, kT, kL, kC, Bool.not_true, Bool.not_false])) (by simp only [kP] <;> rfl) ?_
  refine OkOps.offU rfl rfl (.inl (by simp only [kE, kT, kL, kC, Bool.not_true, Bool.not_false])) (by simp only [kP] <;> rfl) ?_
  refine OkOps.offU rfl rfl (.inl (by simp only [kE, kT, kL, kC, Bool.not_true, Bool.not_false])) (by simp only [kP] <;> rfl) ?_
  iterate 2 (refine EV ?_)
  refine ON ?_
  refine Ok.ret ?_
  with_reducible repeat (first | refine thenQ_ret ?_ | refine blockQ_ret ?_)
  refine RT ?_
  rfl
theorem w_spec_l19Place (p : Pair) (i : Int) : Weak Tryz.prog 133 [.agg (cPair p), .int .i64 i] (.bool (hasP p i)) := by
 refine Weak.enter tab_ok Tryz.func133 rfl (.inr (by simp [V.labelsL, V.labels, V.labelsLL, zz, zf, zy, or_imp, forall_and])) (t := [.agg (cPair p), .int .i64 i, .any, .any, .any, .any, .any, .any, .any, .any, .any, .any, .any, .any, .any, .any, .any, .any, .any, .any, .any]) rfl ?_
 refine OQ ?_
 iterate 2 (refine EV ?_)
 refine ON ?_
 refine OQ ?_
 refine EV ?_
 refine OkOps.S0 rfl (OpS.weak' rfl (by simp only [kE, kT, kL, kC] <;> rfl) (by simp only [kE, kT, kL, kC] <;> rfl) cl118 (w_spec_l01In i 0 1)) (by simp only [kP] <;> rfl) ?_
 refine EV ?_
 refine OkOps.split (d := 7) (by simp only [kE, kT, kL, kC] <;> rfl) (by simp only [kP] <;> rfl) (by simp only [kP] <;> rfl) (fun hg1_2 => ?_) (fun hg1_2 => ?_)
 ·
  try simp only [bsimp] at hg1_2
  have h1 := inR_t.1 hg1_2
  refine OO ?_
  refine EV ?_
  refine OO ?_
  refine EV ?_
  refine OO ?_
  refine EV ?_
  refine OO ?_
  refine EV ?_
  refine OO ?_
  iterate 3 (refine EV ?_)
  refine OkOps.split (d := 14) (by simp only [kE, kT, kL, kC] <;> rfl) (by simp only [kP] <;> rfl) (by simp only [kP] <;> rfl) (fun hg1_9 => ?_) (fun hg1_9 => ?_)
  ·
   try simp only [bsimp] at hg1_9
   have e : hasP p i = decide (i < (p.syncs.length : Int)) := by unfold hasP; exact decide_eq_decide.2 (by omega)
   rw [e]
   refine OO ?_
   refine EV ?_
   refine OO ?_
   refine EV ?_
   refine OO ?_
   refine EV ?_
   refine OO ?_
   refine EV ?_
   refine OO ?_
   iterate 3 (refine EV ?_)
   refine ON ?_
   refine Ok.ret ?_
   with_reducible repeat (first | refine thenQ_ret ?_ | refine blockQ_ret ?_)
   refine RT ?_
   rfl
  ·
   try simp only [bsimp] at hg1_9
   rw [hasP_no (p := p) (i := i) (by omega)]
   refine OkOps.offU rfl rfl (.inl (by simp only [kE, kT, kL, kC, Bool.not_true, Bool.not_false])) (by simp only [kP] <;> rfl) ?_
   refine OkOps.offU rfl rfl (.inl (by simp only [kE, kT, kL, kC, Bool.not_true, Bool.not_false])) (by simp only [kP] <;> rfl) ?_
   refine OkOps.offU rfl rfl (.inl (by simp only [kE, kT, kL, kC, Bool.not_true, Bool.not_false])) (by simp only [kP] <;> rfl) ?_
   refine OkOps.offU rfl rfl (.inl (by simp only [kE, kT, kL, kC, Bool.not_true, Bool.not_false])) (by simp only [kP] <;> rfl) ?_
   refine OkOps.offU rfl rfl (.inl (by simp only [kE, kT, kL, kC, Bool.not_true, Bool.not_false])) (by simp only [kP] <;> rfl) ?_
   iterate 2 (refine EV ?_)
   refine ON ?_
   refine Ok.ret ?_
   with_reducible repeat (first | refine thenQ_ret ?_ | refine blockQ_ret ?_)
   refine RT ?_
   rfl
 ·
  try simp only [bsimp] at hg1_2
  have h1 := inR_f.1 hg1_2
  rw [hasP_no (p := p) (i := i) (by omega)]
  refine OkOps.offU rfl rfl (.inl (by simp only [kE, kT, kL, kC, Bool.not_true, Bool.not_false])) (by simp only [kP] <;> rfl) ?_
  refine OkOps.offU rfl rfl (.inl (by simp only [kE, kT, kL, kC, Bool.not_true, Bool.not_false])) (by simp only [kP] <;> rfl) ?_
  refine OkOps.offU rfl rfl (.inl (by simp only [kE, kT, kL, kC, Bool.not_true, Bool.not_false])) (by simp only [kP] <;> rfl) ?_
  refine OkOps.offU rfl rfl (.inl (by simp only [kE, kT, kL, kC, Bool.not_true, Bool.not_false])) (by simp only [kP] <;> rfl) ?_
  refine OkOps.offU rfl rfl (.inl (by simp only [kE, kT, kL, kC, Bool.not_true, Bool.not_false])) (by simp only [kP] <;> rfl) ?_
  iterate 2 (refine EV ?_)
  refine OkOps.offU rfl rfl (.inl (by simp only [kE, kT, kL, kC, Bool.not_true, Bool.not_false])) (by simp only [kP] <;> rfl) ?_
  refine OkOps.offU rfl rfl (.inl (by simp only [kE, kT, kL, kC, Bool.not_true, Bool.not_false])) (by simp only [kP] <;> rfl) ?_
  refine OkOps.offU rfl rfl (.inl (by simp only [kE, kT, kL, kC, Bool.not_true, Bool.not_false])) (by simp only [kP] <;> rfl) ?_
  refine OkOps.offU rfl rfl (.inl (by simp only [kE, kT, kL, kC, Bool.not_true, Bool.not_false])) (by simp only [kP] <;> rfl) ?_
  refine OkOps.offU rfl rfl (.inl (by simp only [kE, kT, kL, kC, Bool.not_true, Bool.not_false])) (by simp only [kP] <;> rfl) ?_
  iterate 2 (refine EV ?_)
  refine ON ?_
  refine Ok.ret ?_
  with_reducible repeat (first | refine thenQ_ret ?_ | refine blockQ_ret ?_)
  refine RT ?_
  rfl
end Go.Proofs.YtjhfabimacljhaaGreat.K

/- Walks: pairs of which one speaks. Printed by w2.py. -/
namespace Go.Proofs.YtjhfabimacljhaaGreat.K
open Go Go.RowKit
set_option linter.unusedVariables false
set_option linter.unusedSimpArgs false
set_option maxHeartbeats 4000000
set_option maxRecDepth 20000
theorem c_spec_l19Speak_s (p : Pair) (hn : p.net.length ≤ 1048576) (j : Nat) (h1 : j ≤ 1) (h2 : j < p.servers.length) (h3 : j < p.syncs.length) (h4 : p.servers[j].up = true) (h5 : p.syncs[j].failed = false) (t : Str) (h7 : packetText (linkSays p.syncs[j].link) = some t) (L C S T : Nat) (h6 : p.net.length + 1 ≤ 6) {h : List V} {n : Nat} (hL : L + 1 < n) (hC : C < n) (hLS : ¬ L + 1 = S + 1) (hLT : ¬ L + 1 = T + 1) (hS : S + 1 < n) (hT : T + 1 < n) : OkCall Tryz.prog 89 [.ptr (L + 1) 0 0 [.sl (S + 1) 13 0 (p.servers.map cServer), .sl (T + 1) 9 0 (p.syncs.map cSync), .sl C 2 0 (p.net.map cLetter), .int .i64 p.epoch], .int .i64 (j : Int)] h n (MarkQ (fun M => M = L + 1 ∨ n ≤ M) (.ptr (L + 1) 0 0 [.sl (S + 1) 13 0 (p.servers.map cServer), .sl (T + 1) 9 0 (p.syncs.map cSync), .sl C 2 0 (p.net.map cLetter), .int .i64 p.epoch]) (.ptr (L + 1) 0 0 [.sl (S + 1) 13 0 (p.servers.map cServer), .sl (T + 1) 9 0 (p.syncs.map cSync), .sl (n + 1) 2 0 ((p.net ++ [(⟨1 - (j : Int), t⟩ : Letter)]).map cLetter), .int .i64 p.epoch]) (.bool true) h (n + 3)) := by
 have hp : hasP p (j : Int) = true := hasP_nat h1 h2 h3
 have hw : IntKind.i64.wrap (1 - (j : Int)) = 1 - (j : Int) := by rw [IntKind.wrap_i64]; omega
 have a0 : ¬ L + 1 ∈ V.labels (.sl (S + 1) 13 0 (p.servers.map cServer)) := by simp [V.labels, zz, zf, zy]; omega
 have a1 : ¬ L + 1 ∈ V.labels (.sl (T + 1) 9 0 (p.syncs.map cSync)) := by simp [V.labels, zz, zf, zy]; omega
 have z0 : ∀ M ∈ V.labels (.sl (S + 1) 13 0 (p.servers.map cServer)), M < n := fun M hM => by rcases List.mem_cons.1 hM with h | h; omega; (have := (show ∀ L ∈ V.labelsLL (p.servers.map cServer), L = 0 by simp [zy]) M h; omega)
 have z1 : ∀ M ∈ V.labels (.sl (T + 1) 9 0 (p.syncs.map cSync)), M < n := fun M hM => by rcases List.mem_cons.1 hM with h | h; omega; (have := (show ∀ L ∈ V.labelsLL (p.syncs.map cSync), L = 0 by simp [zy]) M h; omega)
 refine OkCall.enter' tab_ok Tryz.func89 rfl (t := [.ptr (L + 1) 0 0 [.sl (S + 1) 13 0 (p.servers.map cServer), .sl (T + 1) 9 0 (p.syncs.map cSync), .sl C 2 0 (p.net.map cLetter), .int .i64 p.epoch], .int .i64 (j : Int), .any, .any, .any, .any, .any, .any, .any, .any, .any, .any, .any, .any, .any, .any, .any, .any, .any, .any, .any, .any, .any, .any, .any, .any, .any, .any, .any, .any, .any, .any, .any, .any, .any, .any, .any, .any, .any, .any, .any, .any, .any, .any, .any, .any, .any, .any, .any, .any, .any, .any, .any, .any, .any]) rfl ?_
 refine OQ ?_
 refine OkOps.ofMap ?_
 have hU := Hom.id' (fun M => M = L + 1 ∨ n ≤ M)
 have hv : id (V.ptr (L + 1) 0 0 [.sl (S + 1) 13 0 (p.servers.map cServer), .sl (T + 1) 9 0 (p.syncs.map cSync), .sl C 2 0 (p.net.map cLetter), .int .i64 p.epoch]) = .ptr (L + 1) 0 0 [.sl (S + 1) 13 0 (p.servers.map cServer), .sl (T + 1) 9 0 (p.syncs.map cSync), .sl C 2 0 (p.net.map cLetter), .int .i64 p.epoch] := rfl
 refine EV ?_
 refine ON ?_
 refine Ok.seq ?_
 refine OQ ?_
 iterate 4 (refine EV ?_)
 refine OkOps.S0 rfl (OpS.weakE rfl (by simp only [kE, kT, kL, kC] <;> rfl) (by simp only [kE, kT, kL, kC, V.eraseL, V.erase, V.travL, V.trav, zz, zf, zy] <;> rfl) cl133 (by simp [V.labels, V.labelsL, V.labelsLL, zz, zf, zy]) (w_spec_l19Place p (j : Int))) (by simp only [kP] <;> rfl) ?_
 iterate 2 (refine EV ?_)
 refine OkOps.split (d := 13) (by simp only [kE, kT, kL, kC] <;> rfl) (by simp only [kP] <;> rfl) (by simp only [kP] <;> rfl) (fun hg1_6 => ?_) (fun hg1_6 => ?_)
 ·
  try simp only [bsimp] at hg1_6
  rw [hp] at hg1_6; cases hg1_6
 ·
  try simp only [bsimp] at hg1_6
  refine OO ?_
  refine EV ?_
  refine OO ?_
  refine EV ?_
  refine OO ?_
  refine EV ?_
  refine OO ?_
  refine EV ?_
  refine OO ?_
  refine EV ?_
  refine OO ?_
  refine OkOps.ev tab_ok rfl (ev_idx_map (by simp only [kE, kT, kL, kC] <;> rfl) (by simp only [kE, kT, kL, kC] <;> rfl) (h2) (by simp only [kE, kT, kL, kC] <;> rfl)) (by simp only [kP] <;> rfl) ?_
  refine OO ?_
  refine EV ?_
  refine OO ?_
  refine EV ?_
  refine OO ?_
  iterate 3 (refine EV ?_)
  refine OkOps.split (d := 24) (by simp only [kE, kT, kL, kC] <;> rfl) (by simp only [kP] <;> rfl) (by simp only [kP] <;> rfl) (fun hg1_17 => ?_) (fun hg1_17 => ?_)
  ·
   try simp only [bsimp] at hg1_17
   rw [h4] at hg1_17; cases hg1_17
  ·
   try simp only [bsimp] at hg1_17
   refine OO ?_
   refine EV ?_
   refine OO ?_
   refine EV ?_
   refine OO ?_
   refine EV ?_
   refine OO ?_
   refine EV ?_
   refine OO ?_
   refine EV ?_
   refine OO ?_
   refine OkOps.ev tab_ok rfl (ev_idx_map (by simp only [kE, kT, kL, kC] <;> rfl) (by simp only [kE, kT, kL, kC] <;> rfl) (h3) (by simp only [kE, kT, kL, kC] <;> rfl)) (by simp only [kP] <;> rfl) ?_
   refine OO ?_
   refine EV ?_
   refine OO ?_
   iterate 2 (refine EV ?_)
   refine ON ?_
   refine Ok.cond_false (by simp only [kE, kT, kL, kC, h5] <;> rfl) ?_
   refine Ok.skip ?_
   refine Ok.seq ?_
   refine Ok.drop [7, 8, 9, 10, 11, 12, 13, 14, 15, 16, 17, 18, 19, 20, 21, 22, 23, 24, 25, 26, 27, 28, 29, 30, 31, 32, 33] (by simp only [kover] <;> rfl) ?_
   refine Ok.region ?_
   iterate 5 (refine EV ?_)
   refine OkOps.ev tab_ok rfl (ev_idx_map (by simp only [kE, kT, kL, kC] <;> rfl) (by simp only [kE, kT, kL, kC] <;> rfl) (h3) (by simp only [kE, kT, kL, kC] <;> rfl)) (by simp only [kP] <;> rfl) ?_
   iterate 2 (refine EV ?_)
   refine OkOps.S0 rfl (OpS.weak' rfl (by simp only [kE, kT, kL, kC] <;> rfl) (by simp only [kE, kT, kL, kC] <;> rfl) cl143 (w_spec_LinkSays p.syncs[j].link)) (by simp only [kP] <;> rfl) ?_
   refine OkOps.S0 rfl (OpS.weak' rfl (by simp only [kE, kT, kL, kC] <;> rfl) (by simp only [kE, kT, kL, kC] <;> rfl) cl142 (w_spec_PacketText (linkSays p.syncs[j].link))) (by simp only [kP] <;> rfl) ?_
   iterate 3 (refine OkOps.ev tab_ok rfl (by simp only [kE, kT, kL, kC, h7, Option.getD_some, Option.isSome_some] <;> rfl) (by simp only [kP] <;> rfl) ?_)
   iterate 2 (refine EV ?_)
   refine ON ?_
   refine Ok.seq ?_
   refine Ok.seq ?_
   refine Ok.drop [34, 35, 36, 37, 38, 39, 40, 41, 42, 43, 44, 45, 46] (by simp only [kover] <;> rfl) ?_
   refine Ok.region ?_
   iterate 2 (refine EV ?_)
   refine ON ?_
   refine Ok.cond_false (by simp only [kE, kT, kL, kC] <;> rfl) ?_
   refine Ok.skip ?_
   refine Ok.seq ?_
   refine Ok.drop [47, 48] (by simp only [kover] <;> rfl) ?_
   refine Ok.region ?_
   iterate 2 (refine EV ?_)
   refine OkOps.ev tab_ok rfl (by simp only [kE, kT, kL, kC, hw] <;> rfl) (by simp only [kP] <;> rfl) ?_
   refine EV ?_
   refine OkOps.ev tab_ok rfl (by simp [ev1, fillV, kE, kT, kL] <;> first | rfl | exact ⟨rfl, rfl⟩) (by simp only [kP] <;> rfl) ?_
   refine OkOps.turnU 3 rfl rfl (by simp only [kE, kT, kL, kC] <;> rfl) (by simp only [kE, kT, kL, kC] <;> rfl) cl144 (fun h => c_post_s (.sl (S + 1) 13 0 (p.servers.map cServer)) (.sl (T + 1) 9 0 (p.syncs.map cSync)) p.epoch p.net (⟨1 - (j : Int), t⟩ : Letter) hn L C h6 hL hC a0 a1 z0 z1) (by first | rfl | (simp only [Nat.add_zero, Nat.reduceAdd] <;> rfl)) hU hv ((fun M h => h)) (fun W hW ha => by simp only [List.map_cons, List.map_nil, List.map_append, hW.int, hW.str, hW.bool, hW.any, hW.tup0, hW.agg, ha, kP] <;> rfl) (fun W hW ha => by simp only [List.map_cons, List.map_nil, List.map_append, hW.int, hW.str, hW.bool, hW.any, hW.tup0, hW.agg, ha, kP] <;> rfl) ?_
   intro U hU hv
   refine ON ?_
   refine Ok.seq ?_
   refine Ok.drop [49, 50, 51, 52, 53, 54] (by simp only [kover] <;> rfl) ?_
   refine Ok.region ?_
   refine EV ?_
   refine ON ?_
   refine Ok.ret ?_
   with_reducible repeat (first | refine thenQ_ret ?_ | refine blockQ_ret ?_)
   refine RT ?_
   exact ⟨rfl, rfl, U, hU, by rw [hv, List.map_append]; rfl, rfl⟩
theorem c_spec_l19Speak_l (p : Pair) (hn : p.net.length ≤ 1048576) (j : Nat) (h1 : j ≤ 1) (h2 : j < p.servers.length) (h3 : j < p.syncs.length) (h4 : p.servers[j].up = true) (h5 : p.syncs[j].failed = false) (t : Str) (h7 : packetText (linkSays p.syncs[j].link) = some t) (L C S T : Nat) (h6 : 6 < p.net.length + 1) {h : List V} {n : Nat} (hL : L + 1 < n) (hC : C < n) (hLS : ¬ L + 1 = S + 1) (hLT : ¬ L + 1 = T + 1) (hS : S + 1 < n) (hT : T + 1 < n) : OkCall Tryz.prog 89 [.ptr (L + 1) 0 0 [.sl (S + 1) 13 0 (p.servers.map cServer), .sl (T + 1) 9 0 (p.syncs.map cSync), .sl C 2 0 (p.net.map cLetter), .int .i64 p.epoch], .int .i64 (j : Int)] h n (MarkQ (fun M => M = L + 1 ∨ n ≤ M) (.ptr (L + 1) 0 0 [.sl (S + 1) 13 0 (p.servers.map cServer), .sl (T + 1) 9 0 (p.syncs.map cSync), .sl C 2 0 (p.net.map cLetter), .int .i64 p.epoch]) (.ptr (L + 1) 0 0 [.sl (S + 1) 13 0 (p.servers.map cServer), .sl (T + 1) 9 0 (p.syncs.map cSync), .sl (n + 3) 2 0 ((post p.net (⟨1 - (j : Int), t⟩ : Letter)).map cLetter), .int .i64 p.epoch]) (.bool true) h (n + 4)) := by
 have hp : hasP p (j : Int) = true := hasP_nat h1 h2 h3
 have hw : IntKind.i64.wrap (1 - (j : Int)) = 1 - (j : Int) := by rw [IntKind.wrap_i64]; omega
 have a0 : ¬ L + 1 ∈ V.labels (.sl (S + 1) 13 0 (p.servers.map cServer)) := by simp [V.labels, zz, zf, zy]; omega
 have a1 : ¬ L + 1 ∈ V.labels (.sl (T + 1) 9 0 (p.syncs.map cSync)) := by simp [V.labels, zz, zf, zy]; omega
 have z0 : ∀ M ∈ V.labels (.sl (S + 1) 13 0 (p.servers.map cServer)), M < n := fun M hM => by rcases List.mem_cons.1 hM with h | h; omega; (have := (show ∀ L ∈ V.labelsLL (p.servers.map cServer), L = 0 by simp [zy]) M h; omega)
 have z1 : ∀ M ∈ V.labels (.sl (T + 1) 9 0 (p.syncs.map cSync)), M < n := fun M hM => by rcases List.mem_cons.1 hM with h | h; omega; (have := (show ∀ L ∈ V.labelsLL (p.syncs.map cSync), L = 0 by simp [zy]) M h; omega)
 refine OkCall.enter' tab_ok Tryz.func89 rfl (t := [.ptr (L + 1) 0 0 [.sl (S + 1) 13 0 (p.servers.map cServer), .sl (T + 1) 9 0 (p.syncs.map cSync), .sl C 2 0 (p.net.map cLetter), .int .i64 p.epoch], .int .i64 (j : Int), .any, .any, .any, .any, .any, .any, .any, .any, .any, .any, .any, .any, .any, .any, .any, .any, .any, .any, .any, .any, .any, .any, .any, .any, .any, .any, .any, .any, .any, .any, .any, .any, .any, .any, .any, .any, .any, .any, .any, .any, .any, .any, .any, .any, .any, .any, .any, .any, .any, .any, .any, .any, .any]) rfl ?_
 refine OQ ?_
 refine OkOps.ofMap ?_
 have hU := Hom.id' (fun M => M = L + 1 ∨ n ≤ M)
 have hv : id (V.ptr (L + 1) 0 0 [.sl (S + 1) 13 0 (p.servers.map cServer), .sl (T + 1) 9 0 (p.syncs.map cSync), .sl C 2 0 (p.net.map cLetter), .int .i64 p.epoch]) = .ptr (L + 1) 0 0 [.sl (S + 1) 13 0 (p.servers.map cServer), .sl (T + 1) 9 0 (p.syncs.map cSync), .sl C 2 0 (p.net.map cLetter), .int .i64 p.epoch] := rfl
 refine EV ?_
 refine ON ?_
 refine Ok.seq ?_
 refine OQ ?_
 iterate 4 (refine EV ?_)
 refine OkOps.S0 rfl (OpS.weakE rfl (by simp only [kE, kT, kL, kC] <;> rfl) (by simp only [kE, kT, kL, kC, V.eraseL, V.erase, V.travL, V.trav, zz, zf, zy] <;> rfl) cl133 (by simp [V.labels, V.labelsL, V.labelsLL, zz, zf, zy]) (w_spec_l19Place p (j : Int))) (by simp only [kP] <;> rfl) ?_
 iterate 2 (refine EV ?_)
 refine OkOps.split (d := 13) (by simp only [kE, kT, kL, kC] <;> rfl) (by simp only [kP] <;> rfl) (by simp only [kP] <;> rfl) (fun hg1_6 => ?_) (fun hg1_6 => ?_)
 ·
  try simp only [bsimp] at hg1_6
  rw [hp] at hg1_6; cases hg1_6
 ·
  try simp only [bsimp] at hg1_6
  refine OO ?_
  refine EV ?_
  refine OO ?_
  refine EV ?_
  refine OO ?_
  refine EV ?_
  refine OO ?_
  refine EV ?_
  refine OO ?_
  refine EV ?_
  refine OO ?_
  refine OkOps.ev tab_ok rfl (ev_idx_map (by simp only [kE, kT, kL, kC] <;> rfl) (by simp only [kE, kT, kL, kC] <;> rfl) (h2) (by simp only [kE, kT, kL, kC] <;> rfl)) (by simp only [kP] <;> rfl) ?_
  refine OO ?_
  refine EV ?_
  refine OO ?_
  refine EV ?_
  refine OO ?_
  iterate 3 (refine EV ?_)
  refine OkOps.split (d := 24) (by simp only [kE, kT, kL, kC] <;> rfl) (by simp only [kP] <;> rfl) (by simp only [kP] <;> rfl) (fun hg1_17 => ?_) (fun hg1_17 => ?_)
  ·
   try simp only [bsimp] at hg1_17
   rw [h4] at hg1_17; cases hg1_17
  ·
   try simp only [bsimp] at hg1_17
   refine OO ?_
   refine EV ?_
   refine OO ?_
   refine EV ?_
   refine OO ?_
   refine EV ?_
   refine OO ?_
   refine EV ?_
   refine OO ?_
   refine EV ?_
   refine OO ?_
   refine OkOps.ev tab_ok rfl (ev_idx_map (by simp only [kE, kT, kL, kC] <;> rfl) (by simp only [kE, kT, kL, kC] <;> rfl) (h3) (by simp only [kE, kT, kL, kC] <;> rfl)) (by simp only [kP] <;> rfl) ?_
   refine OO ?_
   refine EV ?_
   refine OO ?_
   iterate 2 (refine EV ?_)
   refine ON ?_
   refine Ok.cond_false (by simp only [kE, kT, kL, kC, h5] <;> rfl) ?_
   refine Ok.skip ?_
   refine Ok.seq ?_
   refine Ok.drop [7, 8, 9, 10, 11, 12, 13, 14, 15, 16, 17, 18, 19, 20, 21, 22, 23, 24, 25, 26, 27, 28, 29, 30, 31, 32, 33] (by simp only [kover] <;> rfl) ?_
   refine Ok.region ?_
   iterate 5 (refine EV ?_)
   refine OkOps.ev tab_ok rfl (ev_idx_map (by simp only [kE, kT, kL, kC] <;> rfl) (by simp only [kE, kT, kL, kC] <;> rfl) (h3) (by simp only [kE, kT, kL, kC] <;> rfl)) (by simp only [kP] <;> rfl) ?_
   iterate 2 (refine EV ?_)
   refine OkOps.S0 rfl (OpS.weak' rfl (by simp only [kE, kT, kL, kC] <;> rfl) (by simp only [kE, kT, kL, kC] <;> rfl) cl143 (w_spec_LinkSays p.syncs[j].link)) (by simp only [kP] <;> rfl) ?_
   refine OkOps.S0 rfl (OpS.weak' rfl (by simp only [kE, kT, kL, kC] <;> rfl) (by simp only [kE, kT, kL, kC] <;> rfl) cl142 (w_spec_PacketText (linkSays p.syncs[j].link))) (by simp only [kP] <;> rfl) ?_
   iterate 3 (refine OkOps.ev tab_ok rfl (by simp only [kE, kT, kL, kC, h7, Option.getD_some, Option.isSome_some] <;> rfl) (by simp only [kP] <;> rfl) ?_)
   iterate 2 (refine EV ?_)
   refine ON ?_
   refine Ok.seq ?_
   refine Ok.seq ?_
   refine Ok.drop [34, 35, 36, 37, 38, 39, 40, 41, 42, 43, 44, 45, 46] (by simp only [kover] <;> rfl) ?_
   refine Ok.region ?_
   iterate 2 (refine EV ?_)
   refine ON ?_
   refine Ok.cond_false (by simp only [kE, kT, kL, kC] <;> rfl) ?_
   refine Ok.skip ?_
   refine Ok.seq ?_
   refine Ok.drop [47, 48] (by simp only [kover] <;> rfl) ?_
   refine Ok.region ?_
   iterate 2 (refine EV ?_)
   refine OkOps.ev tab_ok rfl (by simp only [kE, kT, kL, kC, hw] <;> rfl) (by simp only [kP] <;> rfl) ?_
   refine EV ?_
   refine OkOps.ev tab_ok rfl (by simp [ev1, fillV, kE, kT, kL] <;> first | rfl | exact ⟨rfl, rfl⟩) (by simp only [kP] <;> rfl) ?_
   refine OkOps.turnU 4 rfl rfl (by simp only [kE, kT, kL, kC] <;> rfl) (by simp only [kE, kT, kL, kC] <;> rfl) cl144 (fun h => c_post_l (.sl (S + 1) 13 0 (p.servers.map cServer)) (.sl (T + 1) 9 0 (p.syncs.map cSync)) p.epoch p.net (⟨1 - (j : Int), t⟩ : Letter) hn L C h6 hL hC a0 a1 z0 z1) (by first | rfl | (simp only [Nat.add_zero, Nat.reduceAdd] <;> rfl)) hU hv ((fun M h => h)) (fun W hW ha => by simp only [List.map_cons, List.map_nil, List.map_append, hW.int, hW.str, hW.bool, hW.any, hW.tup0, hW.agg, ha, kP] <;> rfl) (fun W hW ha => by simp only [List.map_cons, List.map_nil, List.map_append, hW.int, hW.str, hW.bool, hW.any, hW.tup0, hW.agg, ha, kP] <;> rfl) ?_
   intro U hU hv
   refine ON ?_
   refine Ok.seq ?_
   refine Ok.drop [49, 50, 51, 52, 53, 54] (by simp only [kover] <;> rfl) ?_
   refine Ok.region ?_
   refine EV ?_
   refine ON ?_
   refine Ok.ret ?_
   with_reducible repeat (first | refine thenQ_ret ?_ | refine blockQ_ret ?_)
   refine RT ?_
   exact ⟨rfl, rfl, U, hU, hv, rfl⟩
theorem w_spec_l19Speak (p : Pair) (i : Int) (hr : speakT p i = none) : Weak Tryz.prog 89 [.ptr 0 0 0 (cPair p), .int .i64 i] (.bool false) := by
 refine Weak.enter tab_ok Tryz.func89 rfl (.inr (by simp [V.labelsL, V.labels, V.labelsLL, zz, zf, zy, or_imp, forall_and])) (t := [.ptr 0 0 0 (cPair p), .int .i64 i, .any, .any, .any, .any, .any, .any, .any, .any, .any, .any, .any, .any, .any, .any, .any, .any, .any, .any, .any, .any, .any, .any, .any, .any, .any, .any, .any, .any, .any, .any, .any, .any, .any, .any, .any, .any, .any, .any, .any, .any, .any, .any, .any, .any, .any, .any, .any, .any, .any, .any, .any, .any, .any]) rfl ?_
 refine OQ ?_
 refine EV ?_
 refine ON ?_
 refine Ok.seq ?_
 refine OQ ?_
 iterate 4 (refine EV ?_)
 refine OkOps.S0 rfl (OpS.weakE rfl (by simp only [kE, kT, kL, kC] <;> rfl) (by simp only [kE, kT, kL, kC, V.eraseL, V.erase, V.travL, V.trav, zz, zf, zy] <;> rfl) cl133 (by simp [V.labels, V.labelsL, V.labelsLL, zz, zf, zy]) (w_spec_l19Place p i)) (by simp only [kP] <;> rfl) ?_
 iterate 2 (refine EV ?_)
 refine OkOps.split (d := 13) (by simp only [kE, kT, kL, kC] <;> rfl) (by simp only [kP] <;> rfl) (by simp only [kP] <;> rfl) (fun hg1_6 => ?_) (fun hg1_6 => ?_)
 ·
  try simp only [bsimp] at hg1_6
  refine OkOps.offU rfl rfl (.inl (by simp only [kE, kT, kL, kC, Bool.not_true, Bool.not_false])) (by simp only [kP] <;> rfl) ?_
  refine OkOps.offU rfl rfl (.inl (by simp only [kE, kT, kL, kC, Bool.not_true, Bool.not_false])) (by simp only [kP] <;> rfl) ?_
  refine OkOps.offU rfl rfl (.inl (by simp only [kE, kT, kL, kC, Bool.not_true, Bool.not_false])) (by simp only [kP] <;> rfl) ?_
  refine OkOps.offU rfl rfl (.inl (by simp only [kE, kT, kL, kC, Bool.not_true, Bool.not_false])) (by simp only [kP] <;> rfl) ?_
  refine OkOps.offU rfl rfl (.inl (by simp only [kE, kT, kL, kC, Bool.not_true, Bool.not_false])) (by simp only [kP] <;> rfl) ?_
  refine OkOps.offU rfl rfl (.inl (by simp only [kE, kT, kL, kC, Bool.not_true, Bool.not_false])) (by simp only [kP] <;> rfl) ?_
  refine OkOps.offU rfl rfl (.inl (by simp only [kE, kT, kL, kC, Bool.not_true, Bool.not_false])) (by simp only [kP] <;> rfl) ?_
  refine OkOps.offU rfl rfl (.inl (by simp only [kE, kT, kL, kC, Bool.not_true, Bool.not_false])) (by simp only [kP] <;> rfl) ?_
  refine OkOps.offU rfl rfl (.inl (by simp only [kE, kT, kL, kC, Bool.not_true, Bool.not_false])) (by simp only [kP] <;> rfl) ?_
  iterate 2 (refine EV ?_)
  refine OkOps.offU rfl rfl (.inl (by simp only [kE, kT, kL, kC, Bool.not_true, Bool.not_false])) (by simp only [kP] <;> rfl) ?_
  refine OkOps.offU rfl rfl (.inl (by simp only [kE, kT, kL, kC, Bool.not_true, Bool.not_false])) (by simp only [kP] <;> rfl) ?_
  refine OkOps.offU rfl rfl (.inl (by simp only [kE, kT, kL, kC, Bool.not_true, Bool.not_false])) (by simp only [kP] <;> rfl) ?_
  refine OkOps.offU rfl rfl (.inl (by simp only [kE, kT, kL, kC, Bool.not_true, Bool.not_false])) (by simp only [kP] <;> rfl) ?_
  refine OkOps.offU rfl rfl (.inl (by simp only [kE, kT, kL, kC, Bool.not_true, Bool.not_false])) (by simp only [kP] <;> rfl) ?_
  refine OkOps.offU rfl rfl (.inl (by simp only [kE, kT, kL, kC, Bool.not_true, Bool.not_false])) (by simp only [kP] <;> rfl) ?_
  refine OkOps.offU rfl rfl (.inl (by simp only [kE, kT, kL, kC, Bool.not_true, Bool.not_false])) (by simp only [kP] <;> rfl) ?_
  refine OkOps.offU rfl rfl (.inl (by simp only [kE, kT, kL, kC, Bool.not_true, Bool.not_false])) (by simp only [kP] <;> rfl) ?_
  refine EV ?_
  refine ON ?_
  refine Ok.cond_true (by simp only [kE, kT, kL, kC] <;> rfl) ?_
  refine OQ ?_
  refine EV ?_
  refine ON ?_
  refine Ok.ret ?_
  with_reducible repeat (first | refine thenQ_ret ?_ | refine blockQ_ret ?_)
  refine RT ?_
  rfl
 ·
  try simp only [bsimp] at hg1_6
  have hp : hasP p i = true := by simpa using hg1_6
  obtain ⟨j, rfl, h1, h2, h3⟩ := hasP_is hp
  have hs := speakT_nat h1 h2 h3
  refine OO ?_
  refine EV ?_
  refine OO ?_
  refine EV ?_
  refine OO ?_
  refine EV ?_
  refine OO ?_
  refine EV ?_
  refine OO ?_
  refine EV ?_
  refine OO ?_
  refine OkOps.ev tab_ok rfl (ev_idx_map (by simp only [kE, kT, kL, kC] <;> rfl) (by simp only [kE, kT, kL, kC] <;> rfl) (h2) (by simp only [kE, kT, kL, kC] <;> rfl)) (by simp only [kP] <;> rfl) ?_
  refine OO ?_
  refine EV ?_
  refine OO ?_
  refine EV ?_
  refine OO ?_
  iterate 3 (refine EV ?_)
  refine OkOps.split (d := 24) (by simp only [kE, kT, kL, kC] <;> rfl) (by simp only [kP] <;> rfl) (by simp only [kP] <;> rfl) (fun hg1_17 => ?_) (fun hg1_17 => ?_)
  ·
   try simp only [bsimp] at hg1_17
   refine OkOps.offU rfl rfl (.inl (by simp only [kE, kT, kL, kC, Bool.not_true, Bool.not_false])) (by simp only [kP] <;> rfl) ?_
   refine OkOps.offU rfl rfl (.inl (by simp only [kE, kT, kL, kC, Bool.not_true, Bool.not_false])) (by simp only [kP] <;> rfl) ?_
   refine OkOps.offU rfl rfl (.inl (by simp only [kE, kT, kL, kC, Bool.not_true, Bool.not_false])) (by simp only [kP] <;> rfl) ?_
   refine OkOps.offU rfl rfl (.inl (by simp only [kE, kT, kL, kC, Bool.not_true, Bool.not_false])) (by simp only [kP] <;> rfl) ?_
   refine OkOps.offU rfl rfl (.inl (by simp only [kE, kT, kL, kC, Bool.not_true, Bool.not_false])) (by simp only [kP] <;> rfl) ?_
   refine OkOps.offU rfl rfl (.inl (by simp only [kE, kT, kL, kC, Bool.not_true, Bool.not_false])) (by simp only [kP] <;> rfl) ?_
   refine OkOps.offU rfl rfl (.inl (by simp only [kE, kT, kL, kC, Bool.not_true, Bool.not_false])) (by simp only [kP] <;> rfl) ?_
   refine OkOps.offU rfl rfl (.inl (by simp only [kE, kT, kL, kC, Bool.not_true, Bool.not_false])) (by simp only [kP] <;> rfl) ?_
   refine EV ?_
   refine ON ?_
   refine Ok.cond_true (by simp only [kE, kT, kL, kC] <;> rfl) ?_
   refine OQ ?_
   refine EV ?_
   refine ON ?_
   refine Ok.ret ?_
   with_reducible repeat (first | refine thenQ_ret ?_ | refine blockQ_ret ?_)
   refine RT ?_
   rfl
  ·
   try simp only [bsimp] at hg1_17
   refine OO ?_
   refine EV ?_
   refine OO ?_
   refine EV ?_
   refine OO ?_
   refine EV ?_
   refine OO ?_
   refine EV ?_
   refine OO ?_
   refine EV ?_
   refine OO ?_
   refine OkOps.ev tab_ok rfl (ev_idx_map (by simp only [kE, kT, kL, kC] <;> rfl) (by simp only [kE, kT, kL, kC] <;> rfl) (h3) (by simp only [kE, kT, kL, kC] <;> rfl)) (by simp only [kP] <;> rfl) ?_
   refine OO ?_
   refine EV ?_
   refine OO ?_
   iterate 2 (refine EV ?_)
   refine ON ?_
   refine Ok.cond (b := _) (by simp only [kE, kT, kL, kC] <;> rfl) (fun hb1 => ?_) (fun hb1 => ?_)
   ·
    try simp only [bsimp] at hb1
    refine OQ ?_
    refine EV ?_
    refine ON ?_
    refine Ok.ret ?_
    with_reducible repeat (first | refine thenQ_ret ?_ | refine blockQ_ret ?_)
    refine RT ?_
    rfl
   ·
    try simp only [bsimp] at hb1
    have h4 : p.servers[j].up = true := by simpa using hg1_17
    have h7 : packetText (linkSays p.syncs[j].link) = none := by rw [hs, h4, hb1] at hr; exact hr
    refine Ok.skip ?_
    refine OQ ?_
    iterate 5 (refine EV ?_)
    refine OkOps.ev tab_ok rfl (ev_idx_map (by simp only [kE, kT, kL, kC] <;> rfl) (by simp only [kE, kT, kL, kC] <;> rfl) (h3) (by simp only [kE, kT, kL, kC] <;> rfl)) (by simp only [kP] <;> rfl) ?_
    iterate 2 (refine EV ?_)
    refine OkOps.S0 rfl (OpS.weak' rfl (by simp only [kE, kT, kL, kC] <;> rfl) (by simp only [kE, kT, kL, kC] <;> rfl) cl143 (w_spec_LinkSays p.syncs[j].link)) (by simp only [kP] <;> rfl) ?_
    refine OkOps.S0 rfl (OpS.weak' rfl (by simp only [kE, kT, kL, kC] <;> rfl) (by simp only [kE, kT, kL, kC] <;> rfl) cl142 (w_spec_PacketText (linkSays p.syncs[j].link))) (by simp only [kP] <;> rfl) ?_
    iterate 3 (refine OkOps.ev tab_ok rfl (by simp only [kE, kT, kL, kC, h7, Option.getD_none, Option.isSome_none] <;> rfl) (by simp only [kP] <;> rfl) ?_)
    iterate 2 (refine EV ?_)
    refine ON ?_
    refine Ok.seq ?_
    refine OQ ?_
    iterate 2 (refine EV ?_)
    refine ON ?_
    refine Ok.cond_true (by simp only [kE, kT, kL, kC] <;> rfl) ?_
    refine OQ ?_
    refine EV ?_
    refine ON ?_
    refine Ok.ret ?_
    with_reducible repeat (first | refine thenQ_ret ?_ | refine blockQ_ret ?_)
    refine RT ?_
    rfl
theorem w_spec_Speak_s (p : Pair) (h : smPair p) (j : Nat) (h1 : j ≤ 1) (h2 : j < p.servers.length) (h3 : j < p.syncs.length) (h4 : p.servers[j].up = true) (h5 : p.syncs[j].failed = false) (t : Str) (h7 : packetText (linkSays p.syncs[j].link) = some t) (h6 : p.net.length + 1 ≤ 6) : Weak Tryz.prog 24 [.agg (cPair p), .int .i64 (j : Int)] (.tup [.agg (cPair { p with net := post p.net (⟨1 - (j : Int), t⟩ : Letter) }), .bool true]) := by
 have hn := h.2.2.1
 rw [post_few h6]
 refine Weak.enter tab_ok Tryz.func24 rfl (.inr (by simp [V.labelsL, V.labels, V.labelsLL, zz, zf, zy, or_imp, forall_and])) (t := [.agg (cPair p), .int .i64 (j : Int), .any, .any, .any, .any, .any, .any, .any, .any, .any, .any, .any, .any]) rfl ?_
 refine OQ ?_
 iterate 3 (refine EV ?_)
 refine ON ?_
 refine OQ ?_
 refine EV ?_
 refine OkOps.S' rfl (OpS.semi rfl (by simp only [kE, kT, kL, kC] <;> rfl) (by simp only [kE, kT, kL, kC, V.eraseL, V.erase, V.travL, V.trav, zz, zf, zy] <;> rfl) cl72 (by simp [V.dat, V.datL, V.datLL, zz, zf, zy]) (by simp [V.erase, V.trav, V.travL, V.travLL, zz, zf, zy]) (p_spec_l19Copy p h)) (by simp only [ksem, Nat.add_zero, Nat.zero_add, Nat.reduceAdd] <;> rfl) (by simp only [kP, ksem, Nat.add_zero, Nat.zero_add, Nat.reduceAdd] <;> rfl) ?_
 refine EV ?_
 refine OkOps.storeE tab_ok rfl rfl (by simp only [kE, kT, kL, kC] <;> rfl) ⟨_, _, by simp only [kE]; rfl⟩ (by first | (simp [V.labelsL, V.labelsLL, V.labels, zz, zf, zy]; done) | (simp [-List.map_map, -List.map_set, -List.map_drop, -List.map_take, -List.map_tail, -List.drop_one, V.labelsL, V.labelsLL, V.labels, zz, zf, zy]; done)) (by simp only [eq_self, V.updL, V.travL, V.travLL, V.trav, updS, updP, and_self, true_and, and_true, false_and, and_false, Nat.reduceEqDiff, Nat.reduceSub, Nat.le_refl, Nat.zero_le, ↓reduceIte, if_true, if_false, kP, zz, zf, zy] <;> rfl) (rfl) ?_
 refine ON ?_
 refine OQ ?_
 refine EV ?_
 refine OkOps.drop [8, 9] (by simp only [kover] <;> rfl) ?_
 refine OkOps.turnN 3 rfl rfl (by simp only [kE, kT, kL, kC] <;> rfl) (by simp only [kE, kT, kL, kC] <;> rfl) cl89 (fun h => c_spec_l19Speak_s p hn j h1 h2 h3 h4 h5 t h7 5 5 2 3 h6 (by omega) (by omega) (by omega) (by omega) (by omega) (by omega)) (by first | rfl | (simp only [Nat.add_zero, Nat.reduceAdd] <;> rfl)) (fun W hW ha => by have f0 := far0 hW (fun h => by omega); have p1 := fun i o e => hW.ptr 1 i o e (by omega); have p2 := fun i o e => hW.ptr 2 i o e (by omega); simp only [List.map_cons, List.map_nil, hW.int, hW.str, hW.bool, hW.any, hW.tup0, hW.agg, hW.nilV, f0, p1, p2, ha, kP] <;> rfl) ?_
 refine EV ?_
 refine ON ?_
 refine OQ ?_
 iterate 2 (refine EV ?_)
 refine OkOps.storeE tab_ok rfl rfl (by simp only [kE, kT, kL, kC] <;> rfl) ⟨_, _, by simp only [kE]; rfl⟩ (by first | (simp [V.labelsL, V.labelsLL, V.labels, zz, zf, zy]; done) | (simp [-List.map_map, -List.map_set, -List.map_drop, -List.map_take, -List.map_tail, -List.drop_one, V.labelsL, V.labelsLL, V.labels, zz, zf, zy]; done)) (by simp only [eq_self, V.updL, V.travL, V.travLL, V.trav, updS, updP, and_self, true_and, and_true, false_and, and_false, Nat.reduceEqDiff, Nat.reduceSub, Nat.le_refl, Nat.zero_le, ↓reduceIte, if_true, if_false, kP, zz, zf, zy] <;> rfl) (rfl) ?_
 refine EV ?_
 refine ON ?_
 refine Ok.ret ?_
 with_reducible repeat (first | refine thenQ_ret ?_ | refine blockQ_ret ?_)
 refine RT ?_
 simp [-List.map_set, -List.map_append, V.erase, V.trav, V.travL, V.travLL, packV, zz, zf, zy]
theorem w_spec_Speak_l (p : Pair) (h : smPair p) (j : Nat) (h1 : j ≤ 1) (h2 : j < p.servers.length) (h3 : j < p.syncs.length) (h4 : p.servers[j].up = true) (h5 : p.syncs[j].failed = false) (t : Str) (h7 : packetText (linkSays p.syncs[j].link) = some t) (h6 : 6 < p.net.length + 1) : Weak Tryz.prog 24 [.agg (cPair p), .int .i64 (j : Int)] (.tup [.agg (cPair { p with net := post p.net (⟨1 - (j : Int), t⟩ : Letter) }), .bool true]) := by
 have hn := h.2.2.1
 refine Weak.enter tab_ok Tryz.func24 rfl (.inr (by simp [V.labelsL, V.labels, V.labelsLL, zz, zf, zy, or_imp, forall_and])) (t := [.agg (cPair p), .int .i64 (j : Int), .any, .any, .any, .any, .any, .any, .any, .any, .any, .any, .any, .any]) rfl ?_
 refine OQ ?_
 iterate 3 (refine EV ?_)
 refine ON ?_
 refine OQ ?_
 refine EV ?_
 refine OkOps.S' rfl (OpS.semi rfl (by simp only [kE, kT, kL, kC] <;> rfl) (by simp only [kE, kT, kL, kC, V.eraseL, V.erase, V.travL, V.trav, zz, zf, zy] <;> rfl) cl72 (by simp [V.dat, V.datL, V.datLL, zz, zf, zy]) (by simp [V.erase, V.trav, V.travL, V.travLL, zz, zf, zy]) (p_spec_l19Copy p h)) (by simp only [ksem, Nat.add_zero, Nat.zero_add, Nat.reduceAdd] <;> rfl) (by simp only [kP, ksem, Nat.add_zero, Nat.zero_add, Nat.reduceAdd] <;> rfl) ?_
 refine EV ?_
 refine OkOps.storeE tab_ok rfl rfl (by simp only [kE, kT, kL, kC] <;> rfl) ⟨_, _, by simp only [kE]; rfl⟩ (by first | (simp [V.labelsL, V.labelsLL, V.labels, zz, zf, zy]; done) | (simp [-List.map_map, -List.map_set, -List.map_drop, -List.map_take, -List.map_tail, -List.drop_one, V.labelsL, V.labelsLL, V.labels, zz, zf, zy]; done)) (by simp only [eq_self, V.updL, V.travL, V.travLL, V.trav, updS, updP, and_self, true_and, and_true, false_and, and_false, Nat.reduceEqDiff, Nat.reduceSub, Nat.le_refl, Nat.zero_le, ↓reduceIte, if_true, if_false, kP, zz, zf, zy] <;> rfl) (rfl) ?_
 refine ON ?_
 refine OQ ?_
 refine EV ?_
 refine OkOps.drop [8, 9] (by simp only [kover] <;> rfl) ?_
 refine OkOps.turnN 4 rfl rfl (by simp only [kE, kT, kL, kC] <;> rfl) (by simp only [kE, kT, kL, kC] <;> rfl) cl89 (fun h => c_spec_l19Speak_l p hn j h1 h2 h3 h4 h5 t h7 5 5 2 3 h6 (by omega) (by omega) (by omega) (by omega) (by omega) (by omega)) (by first | rfl | (simp only [Nat.add_zero, Nat.reduceAdd] <;> rfl)) (fun W hW ha => by have f0 := far0 hW (fun h => by omega); have p1 := fun i o e => hW.ptr 1 i o e (by omega); have p2 := fun i o e => hW.ptr 2 i o e (by omega); simp only [List.map_cons, List.map_nil, hW.int, hW.str, hW.bool, hW.any, hW.tup0, hW.agg, hW.nilV, f0, p1, p2, ha, kP] <;> rfl) ?_
 refine EV ?_
 refine ON ?_
 refine OQ ?_
 iterate 2 (refine EV ?_)
 refine OkOps.storeE tab_ok rfl rfl (by simp only [kE, kT, kL, kC] <;> rfl) ⟨_, _, by simp only [kE]; rfl⟩ (by first | (simp [V.labelsL, V.labelsLL, V.labels, zz, zf, zy]; done) | (simp [-List.map_map, -List.map_set, -List.map_drop, -List.map_take, -List.map_tail, -List.drop_one, V.labelsL, V.labelsLL, V.labels, zz, zf, zy]; done)) (by simp only [eq_self, V.updL, V.travL, V.travLL, V.trav, updS, updP, and_self, true_and, and_true, false_and, and_false, Nat.reduceEqDiff, Nat.reduceSub, Nat.le_refl, Nat.zero_le, ↓reduceIte, if_true, if_false, kP, zz, zf, zy] <;> rfl) (rfl) ?_
 refine EV ?_
 refine ON ?_
 refine Ok.ret ?_
 with_reducible repeat (first | refine thenQ_ret ?_ | refine blockQ_ret ?_)
 refine RT ?_
 simp [-List.map_set, -List.map_append, V.erase, V.trav, V.travL, V.travLL, packV, zz, zf, zy]
theorem w_spec_Speak_f (p : Pair) (h : smPair p) (i : Int) (hr : speakT p i = none) : Weak Tryz.prog 24 [.agg (cPair p), .int .i64 i] (.tup [.agg (cPair p), .bool false]) := by
 refine Weak.enter tab_ok Tryz.func24 rfl (.inr (by simp [V.labelsL, V.labels, V.labelsLL, zz, zf, zy, or_imp, forall_and])) (t := [.agg (cPair p), .int .i64 i, .any, .any, .any, .any, .any, .any, .any, .any, .any, .any, .any, .any]) rfl ?_
 refine OQ ?_
 iterate 3 (refine EV ?_)
 refine ON ?_
 refine OQ ?_
 refine EV ?_
 refine OkOps.S' rfl (OpS.semi rfl (by simp only [kE, kT, kL, kC] <;> rfl) (by simp only [kE, kT, kL, kC, V.eraseL, V.erase, V.travL, V.trav, zz, zf, zy] <;> rfl) cl72 (by simp [V.dat, V.datL, V.datLL, zz, zf, zy]) (by simp [V.erase, V.trav, V.travL, V.travLL, zz, zf, zy]) (p_spec_l19Copy p h)) (by simp only [ksem, Nat.add_zero, Nat.zero_add, Nat.reduceAdd] <;> rfl) (by simp only [kP, ksem, Nat.add_zero, Nat.zero_add, Nat.reduceAdd] <;> rfl) ?_
 refine EV ?_
 refine OkOps.storeE tab_ok rfl rfl (by simp only [kE, kT, kL, kC] <;> rfl) ⟨_, _, by simp only [kE]; rfl⟩ (by first | (simp [V.labelsL, V.labelsLL, V.labels, zz, zf, zy]; done) | (simp [-List.map_map, -List.map_set, -List.map_drop, -List.map_take, -List.map_tail, -List.drop_one, V.labelsL, V.labelsLL, V.labels, zz, zf, zy]; done)) (by simp only [eq_self, V.updL, V.travL, V.travLL, V.trav, updS, updP, and_self, true_and, and_true, false_and, and_false, Nat.reduceEqDiff, Nat.reduceSub, Nat.le_refl, Nat.zero_le, ↓reduceIte, if_true, if_false, kP, zz, zf, zy] <;> rfl) (rfl) ?_
 refine ON ?_
 refine OQ ?_
 refine EV ?_
 refine OkOps.S0 rfl (OpS.weakE rfl (by simp only [kE, kT, kL, kC] <;> rfl) (by simp only [kE, kT, kL, kC, V.eraseL, V.erase, V.travL, V.trav, zz, zf, zy] <;> rfl) cl89 (by simp [V.labels, V.labelsL, V.labelsLL, zz, zf, zy]) (w_spec_l19Speak p i hr)) (by simp only [kP] <;> rfl) ?_
 refine EV ?_
 refine ON ?_
 refine OQ ?_
 iterate 2 (refine EV ?_)
 refine OkOps.storeE tab_ok rfl rfl (by simp only [kE, kT, kL, kC] <;> rfl) ⟨_, _, by simp only [kE]; rfl⟩ (by first | (simp [V.labelsL, V.labelsLL, V.labels, zz, zf, zy]; done) | (simp [-List.map_map, -List.map_set, -List.map_drop, -List.map_take, -List.map_tail, -List.drop_one, V.labelsL, V.labelsLL, V.labels, zz, zf, zy]; done)) (by simp only [eq_self, V.updL, V.travL, V.travLL, V.trav, updS, updP, and_self, true_and, and_true, false_and, and_false, Nat.reduceEqDiff, Nat.reduceSub, Nat.le_refl, Nat.zero_le, ↓reduceIte, if_true, if_false, kP, zz, zf, zy] <;> rfl) (rfl) ?_
 refine EV ?_
 refine ON ?_
 refine Ok.ret ?_
 with_reducible repeat (first | refine thenQ_ret ?_ | refine blockQ_ret ?_)
 refine RT ?_
 simp [-List.map_set, -List.map_append, V.erase, V.trav, V.travL, V.travLL, packV, zz, zf, zy]
theorem w_spec_Speak (p : Pair) (i : Int) (h : smPair p) : Weak Tryz.prog 24 [.agg (cPair p), .int .i64 i] (.tup [.agg (cPair (speakP p i)), .bool (speakB p i)]) := by
  cases hr : speakT p i with
  | none => rw [(speak_no hr).1, (speak_no hr).2]; exact w_spec_Speak_f p h i hr
  | some t =>
    obtain ⟨j, rfl, h1, h2, h3, h4, h5, h7⟩ := speak_is hr
    rw [(speak_yes hr).1, (speak_yes hr).2]
    rcases Nat.lt_or_ge 6 (p.net.length + 1) with h6 | h6
    · exact w_spec_Speak_l p h j h1 h2 h3 h4 h5 t h7 h6
    · exact w_spec_Speak_s p h j h1 h2 h3 h4 h5 t h7 h6
end Go.Proofs.YtjhfabimacljhaaGreat.K

/- Walks: pairs of which one speaks, as data of the call's own. Printed by w2.py. -/
namespace Go.Proofs.YtjhfabimacljhaaGreat.K
open Go Go.RowKit
set_option linter.unusedVariables false
set_option linter.unusedSimpArgs false
set_option maxHeartbeats 4000000
set_option maxRecDepth 20000
theorem p_impl_Speak_f (p : Pair) (h : smPair p) (i : Int) (hr : speakT p i = none) : Pure Tryz.prog 25 [.agg (cPair p), .int .i64 i] (.tup [.agg (cPair p), .bool false]) := by
 refine Pure.of (by simp [V.dat, V.datL, V.datLL, zz, zf, zy]) (OkCall.enter' tab_ok Tryz.func25 rfl (t := [.agg (cPair p), .int .i64 i, .any, .any, .any, .any, .any, .any, .any, .any, .any, .any, .any, .any, .any, .any, .any, .any, .any, .any, .any, .any, .any, .any, .any, .any, .any, .any, .any, .any, .any, .any, .any, .any, .any, .any, .any, .any, .any, .any, .any, .any, .any, .any, .any, .any, .any, .any, .any, .any, .any, .any, .any]) rfl ?_)
 refine OQ ?_
 iterate 3 (refine EV ?_)
 refine ON ?_
 refine OQ ?_
 refine EV ?_
 obtain ⟨L0a, e0a, L1a, e1a, L2a, e2a, hXa, q0a, E0a, M0a, N0a, q1a, E1a, M1a, N1a, q2a, E2a, M2a, N2a, nda, rga⟩ := ownPair (2) (p)
 obtain ⟨ma, hma⟩ : ∃ m, 2 + 1 + V.cnt (.agg (cPair (p))) = m + 1 := ⟨2 + V.cnt (.agg (cPair (p))), by omega⟩
 have r0a : ∀ z ∈ V.labels (.sl (L0a + 1) 13 0 e0a), 2 + 1 ≤ z ∧ z < ma + 1 := fun z hz => by have := rga z (by first | exact hz | (simp only [V.labelsL, V.labels, List.mem_append] at hz ⊢; simp only [hz, true_or, or_true])); omega
 have r1a : ∀ z ∈ V.labels (.sl (L1a + 1) 9 0 e1a), 2 + 1 ≤ z ∧ z < ma + 1 := fun z hz => by have := rga z (by first | exact hz | (simp only [V.labelsL, V.labels, List.mem_append] at hz ⊢; simp only [hz, true_or, or_true])); omega
 have r2a : ∀ z ∈ V.labels (.sl (L2a + 1) 2 0 e2a), 2 + 1 ≤ z ∧ z < ma + 1 := fun z hz => by have := rga z (by first | exact hz | (simp only [V.labelsL, V.labels, List.mem_append] at hz ⊢; simp only [hz, true_or, or_true])); omega
 refine OkOps.S' rfl (OpS.pure' rfl (by simp only [kE, kT, kL, kC] <;> rfl) (by simp only [kE, kT, kL, kC, V.eraseL, V.erase, V.travL, V.trav, zz, zf, zy] <;> rfl) cl77 (by simp [V.dat, V.datL, V.datLL, zz, zf, zy]) (p_impl_copyPair p h)) hma (by simp only [kP, hXa] <;> rfl) ?_
 refine EV ?_
 refine OkOps.storeN tab_ok rfl rfl (by simp only [kE, kT, kL, kC] <;> rfl) ⟨_, _, by simp only [kE]; rfl⟩ (by first | (simp [V.labelsL, V.labelsLL, V.labels, zz, zf, zy]; done) | (intro h; simp only [V.labelsL, V.labels, List.mem_append, List.append_nil, List.nil_append, List.not_mem_nil, or_false, false_or] at h; first | ((first | (have := r0a _ h; omega) | (have := r1a _ h; omega) | (have := r2a _ h; omega))) | (rcases h with h | h <;> (first | (have := r0a _ h; omega) | (have := r1a _ h; omega) | (have := r2a _ h; omega))) | (rcases h with h | h | h <;> (first | (have := r0a _ h; omega) | (have := r1a _ h; omega) | (have := r2a _ h; omega))))) (fun W hW hF => by obtain ⟨z0a, zz0a⟩ := farA hW r0a (fun y h1 h2 h => by omega); obtain ⟨z1a, zz1a⟩ := farA hW r1a (fun y h1 h2 h => by omega); obtain ⟨z2a, zz2a⟩ := farA hW r2a (fun y h1 h2 h => by omega); have f0 := far0 hW (fun h => by omega); have p0 := fun i o e => hW.ptr (1) i o e (by omega);  have p1 := fun i o e => hW.ptr (2) i o e (by omega); simp only [List.map_cons, List.map_nil, hW.int, hW.str, hW.bool, hW.any, hW.tup0, hW.agg, hW.nilV, hF.ptr, z0a, zz0a, z1a, zz1a, z2a, zz2a, f0, p0, p1, kP] <;> rfl) ?_
 refine ON ?_
 refine Ok.seq ?_
 refine Ok.seq ?_
 refine Ok.drop [9, 10] (by simp only [kover] <;> rfl) ?_
 refine Ok.region ?_
 iterate 2 (refine EV ?_)
 refine OkOps.S0 rfl (OpS.weak' rfl (by simp only [kE, kT, kL, kC] <;> rfl) (by simp only [kE, kT, kL, kC] <;> rfl) cl78 (w_impl_Pair_has p i)) (by simp only [kP] <;> rfl) ?_
 iterate 2 (refine EV ?_)
 refine OkOps.split (d := 15) (by simp only [kE, kT, kL, kC] <;> rfl) (by simp only [kP] <;> rfl) (by simp only [kP] <;> rfl) (fun hg2_4 => ?_) (fun hg2_4 => ?_)
 ·
  try simp only [bsimp] at hg2_4
  refine OkOps.offU rfl rfl (.inl (by simp only [kE, kT, kL, kC, Bool.not_true, Bool.not_false])) (by simp only [kP] <;> rfl) ?_
  refine OkOps.offU rfl rfl (.inl (by simp only [kE, kT, kL, kC, Bool.not_true, Bool.not_false])) (by simp only [kP] <;> rfl) ?_
  refine OkOps.offU rfl rfl (.inl (by simp only [kE, kT, kL, kC, Bool.not_true, Bool.not_false])) (by simp only [kP] <;> rfl) ?_
  refine OkOps.offU rfl rfl (.inl (by simp only [kE, kT, kL, kC, Bool.not_true, Bool.not_false])) (by simp only [kP] <;> rfl) ?_
  refine OkOps.offU rfl rfl (.inl (by simp only [kE, kT, kL, kC, Bool.not_true, Bool.not_false])) (by simp only [kP] <;> rfl) ?_
  refine OkOps.offU rfl rfl (.inl (by simp only [kE, kT, kL, kC, Bool.not_true, Bool.not_false])) (by simp only [kP] <;> rfl) ?_
  refine OkOps.offU rfl rfl (.inl (by simp only [kE, kT, kL, kC, Bool.not_true, Bool.not_false])) (by simp only [kP] <;> rfl) ?_
  iterate 2 (refine EV ?_)
  refine OkOps.offU rfl rfl (.inl (by simp only [kE, kT, kL, kC, Bool.not_true, Bool.not_false])) (by simp only [kP] <;> rfl) ?_
  refine OkOps.offU rfl rfl (.inl (by simp only [kE, kT, kL, kC, Bool.not_true, Bool.not_false])) (by simp only [kP] <;> rfl) ?_
  refine OkOps.offU rfl rfl (.inl (by simp only [kE, kT, kL, kC, Bool.not_true, Bool.not_false])) (by simp only [kP] <;> rfl) ?_
  refine OkOps.offU rfl rfl (.inl (by simp only [kE, kT, kL, kC, Bool.not_true, Bool.not_false])) (by simp only [kP] <;> rfl) ?_
  refine OkOps.offU rfl rfl (.inl (by simp only [kE, kT, kL, kC, Bool.not_true, Bool.not_false])) (by simp only [kP] <;> rfl) ?_
  refine OkOps.offU rfl rfl (.inl (by simp only [kE, kT, kL, kC, Bool.not_true, Bool.not_false])) (by simp only [kP] <;> rfl) ?_
  refine EV ?_
  refine ON ?_
  refine Ok.cond_true (by simp only [kE, kT, kL, kC] <;> rfl) ?_
  refine Ok.seq ?_
  refine Ok.drop [11, 12, 13, 14, 15, 16, 17, 18, 19, 20, 21, 22, 23, 24, 25, 26, 27, 28, 29, 30, 31] (by simp only [kover] <;> rfl) ?_
  refine Ok.region ?_
  refine EV ?_
  refine OkOps.storeN tab_ok rfl rfl (by simp only [kE, kT, kL, kC] <;> rfl) ⟨_, _, by simp only [kE]; rfl⟩ (by first | (simp [V.labelsL, V.labelsLL, V.labels, zz, zf, zy]; done) | (intro h; simp only [V.labelsL, V.labels, List.mem_append, List.append_nil, List.nil_append, List.not_mem_nil, or_false, false_or] at h; first | ((first | (have := r0a _ h; omega) | (have := r1a _ h; omega) | (have := r2a _ h; omega))) | (rcases h with h | h <;> (first | (have := r0a _ h; omega) | (have := r1a _ h; omega) | (have := r2a _ h; omega))) | (rcases h with h | h | h <;> (first | (have := r0a _ h; omega) | (have := r1a _ h; omega) | (have := r2a _ h; omega))))) (fun W hW hF => by obtain ⟨z0a, zz0a⟩ := farA hW r0a (fun y h1 h2 h => by omega); obtain ⟨z1a, zz1a⟩ := farA hW r1a (fun y h1 h2 h => by omega); obtain ⟨z2a, zz2a⟩ := farA hW r2a (fun y h1 h2 h => by omega); have f0 := far0 hW (fun h => by omega); have p0 := fun i o e => hW.ptr (1) i o e (by omega);  have p2 := fun i o e => hW.ptr (ma + 1) i o e (by omega); simp only [List.map_cons, List.map_nil, hW.int, hW.str, hW.bool, hW.any, hW.tup0, hW.agg, hW.nilV, hF.ptr, z0a, zz0a, z1a, zz1a, z2a, zz2a, f0, p0, p2, kP] <;> rfl) ?_
  refine EV ?_
  refine ON ?_
  refine Ok.ret ?_
  with_reducible repeat (first | refine thenQ_ret ?_ | refine blockQ_ret ?_)
  refine RT ?_
  exact ⟨(by simp only [packV, V.erase, V.trav, V.travL, V.travLL, zz, zf, zy, E0a, E1a, E2a] <;> rfl), (by intro L hL; simp only [packV, V.labels, V.labelsL, List.append_nil, List.nil_append, List.mem_append] at hL; rcases hL with hL | hL | hL <;> first | (have := r0a L hL; omega) | (have := r1a L hL; omega) | (have := r2a L hL; omega)), (by have na := nda; simp only [V.labels, V.labelsL, List.append_nil, List.nil_append] at na; obtain ⟨w0a, na, f0a, _⟩ := nd_app na; obtain ⟨w1a, na, f1a, _⟩ := nd_app na; have w2a := na; simp only [packV, V.labels, V.labelsL, List.append_nil, List.nil_append]; exact (nd_app2 w0a (nd_app2 w1a w2a (fun y hy hh => by exact (f1a y hy (by first | exact hh | (simp only [List.mem_append]; simp only [hh, true_or, or_true]))))) (fun y hy hh => by exact (List.mem_append.1 hh).elim (fun hh => (f0a y hy (by first | exact hh | (simp only [List.mem_append]; simp only [hh, true_or, or_true])))) (fun hh => by exact (f0a y hy (by first | exact hh | (simp only [List.mem_append]; simp only [hh, true_or, or_true])))))))⟩
 ·
  try simp only [bsimp] at hg2_4
  have hp : hasP p i = true := by simpa using hg2_4
  obtain ⟨j, rfl, h1, h2, h3⟩ := hasP_is hp
  have hs := speakT_nat h1 h2 h3
  refine OO ?_
  refine EV ?_
  refine OO ?_
  refine EV ?_
  refine OO ?_
  refine EV ?_
  refine OO ?_
  refine OkOps.ev tab_ok rfl (ev_idx_map (by simp only [kE, kT, kL, kC] <;> rfl) (by simp only [kE, kT, kL, kC] <;> rfl) (h2) (by simp only [kE, kT, kL, kC] <;> rfl)) (by simp only [kP] <;> rfl) ?_
  refine OO ?_
  refine EV ?_
  refine OO ?_
  refine EV ?_
  refine OO ?_
  iterate 3 (refine EV ?_)
  refine OkOps.split (d := 24) (by simp only [kE, kT, kL, kC] <;> rfl) (by simp only [kP] <;> rfl) (by simp only [kP] <;> rfl) (fun hg2_13 => ?_) (fun hg2_13 => ?_)
  ·
   try simp only [bsimp] at hg2_13
   refine OkOps.offU rfl rfl (.inl (by simp only [kE, kT, kL, kC, Bool.not_true, Bool.not_false])) (by simp only [kP] <;> rfl) ?_
   refine OkOps.offU rfl rfl (.inl (by simp only [kE, kT, kL, kC, Bool.not_true, Bool.not_false])) (by simp only [kP] <;> rfl) ?_
   refine OkOps.offU rfl rfl (.inl (by simp only [kE, kT, kL, kC, Bool.not_true, Bool.not_false])) (by simp only [kP] <;> rfl) ?_
   refine OkOps.offU rfl rfl (.inl (by simp only [kE, kT, kL, kC, Bool.not_true, Bool.not_false])) (by simp only [kP] <;> rfl) ?_
   refine OkOps.offU rfl rfl (.inl (by simp only [kE, kT, kL, kC, Bool.not_true, Bool.not_false])) (by simp only [kP] <;> rfl) ?_
   refine OkOps.offU rfl rfl (.inl (by simp only [kE, kT, kL, kC, Bool.not_true, Bool.not_false])) (by simp only [kP] <;> rfl) ?_
   refine EV ?_
   refine ON ?_
   refine Ok.cond_true (by simp only [kE, kT, kL, kC] <;> rfl) ?_
   refine Ok.seq ?_
   refine Ok.drop [11, 12, 13, 14, 15, 16, 17, 18, 19, 20, 21, 22, 23, 24, 25, 26, 27, 28, 29, 30, 31] (by simp only [kover] <;> rfl) ?_
   refine Ok.region ?_
   refine EV ?_
   refine OkOps.storeN tab_ok rfl rfl (by simp only [kE, kT, kL, kC] <;> rfl) ⟨_, _, by simp only [kE]; rfl⟩ (by first | (simp [V.labelsL, V.labelsLL, V.labels, zz, zf, zy]; done) | (intro h; simp only [V.labelsL, V.labels, List.mem_append, List.append_nil, List.nil_append, List.not_mem_nil, or_false, false_or] at h; first | ((first | (have := r0a _ h; omega) | (have := r1a _ h; omega) | (have := r2a _ h; omega))) | (rcases h with h | h <;> (first | (have := r0a _ h; omega) | (have := r1a _ h; omega) | (have := r2a _ h; omega))) | (rcases h with h | h | h <;> (first | (have := r0a _ h; omega) | (have := r1a _ h; omega) | (have := r2a _ h; omega))))) (fun W hW hF => by obtain ⟨z0a, zz0a⟩ := farA hW r0a (fun y h1 h2 h => by omega); obtain ⟨z1a, zz1a⟩ := farA hW r1a (fun y h1 h2 h => by omega); obtain ⟨z2a, zz2a⟩ := farA hW r2a (fun y h1 h2 h => by omega); have f0 := far0 hW (fun h => by omega); have p0 := fun i o e => hW.ptr (1) i o e (by omega);  have p2 := fun i o e => hW.ptr (ma + 1) i o e (by omega); simp only [List.map_cons, List.map_nil, hW.int, hW.str, hW.bool, hW.any, hW.tup0, hW.agg, hW.nilV, hF.ptr, z0a, zz0a, z1a, zz1a, z2a, zz2a, f0, p0, p2, kP] <;> rfl) ?_
   refine EV ?_
   refine ON ?_
   refine Ok.ret ?_
   with_reducible repeat (first | refine thenQ_ret ?_ | refine blockQ_ret ?_)
   refine RT ?_
   exact ⟨(by simp only [packV, V.erase, V.trav, V.travL, V.travLL, zz, zf, zy, E0a, E1a, E2a] <;> rfl), (by intro L hL; simp only [packV, V.labels, V.labelsL, List.append_nil, List.nil_append, List.mem_append] at hL; rcases hL with hL | hL | hL <;> first | (have := r0a L hL; omega) | (have := r1a L hL; omega) | (have := r2a L hL; omega)), (by have na := nda; simp only [V.labels, V.labelsL, List.append_nil, List.nil_append] at na; obtain ⟨w0a, na, f0a, _⟩ := nd_app na; obtain ⟨w1a, na, f1a, _⟩ := nd_app na; have w2a := na; simp only [packV, V.labels, V.labelsL, List.append_nil, List.nil_append]; exact (nd_app2 w0a (nd_app2 w1a w2a (fun y hy hh => by exact (f1a y hy (by first | exact hh | (simp only [List.mem_append]; simp only [hh, true_or, or_true]))))) (fun y hy hh => by exact (List.mem_append.1 hh).elim (fun hh => (f0a y hy (by first | exact hh | (simp only [List.mem_append]; simp only [hh, true_or, or_true])))) (fun hh => by exact (f0a y hy (by first | exact hh | (simp only [List.mem_append]; simp only [hh, true_or, or_true])))))))⟩
  ·
   try simp only [bsimp] at hg2_13
   refine OO ?_
   refine EV ?_
   refine OO ?_
   refine EV ?_
   refine OO ?_
   refine EV ?_
   refine OO ?_
   refine OkOps.ev tab_ok rfl (ev_idx_map (by simp only [kE, kT, kL, kC] <;> rfl) (by simp only [kE, kT, kL, kC] <;> rfl) (h3) (by simp only [kE, kT, kL, kC] <;> rfl)) (by simp only [kP] <;> rfl) ?_
   refine OO ?_
   refine EV ?_
   refine OO ?_
   iterate 2 (refine EV ?_)
   refine ON ?_
   refine Ok.cond (b := _) (by simp only [kE, kT, kL, kC] <;> rfl) (fun hb2 => ?_) (fun hb2 => ?_)
   ·
    try simp only [bsimp] at hb2
    refine Ok.seq ?_
    refine Ok.drop [11, 12, 13, 14, 15, 16, 17, 18, 19, 20, 21, 22, 23, 24, 25, 26, 27, 28, 29, 30, 31] (by simp only [kover] <;> rfl) ?_
    refine Ok.region ?_
    refine EV ?_
    refine OkOps.storeN tab_ok rfl rfl (by simp only [kE, kT, kL, kC] <;> rfl) ⟨_, _, by simp only [kE]; rfl⟩ (by first | (simp [V.labelsL, V.labelsLL, V.labels, zz, zf, zy]; done) | (intro h; simp only [V.labelsL, V.labels, List.mem_append, List.append_nil, List.nil_append, List.not_mem_nil, or_false, false_or] at h; first | ((first | (have := r0a _ h; omega) | (have := r1a _ h; omega) | (have := r2a _ h; omega))) | (rcases h with h | h <;> (first | (have := r0a _ h; omega) | (have := r1a _ h; omega) | (have := r2a _ h; omega))) | (rcases h with h | h | h <;> (first | (have := r0a _ h; omega) | (have := r1a _ h; omega) | (have := r2a _ h; omega))))) (fun W hW hF => by obtain ⟨z0a, zz0a⟩ := farA hW r0a (fun y h1 h2 h => by omega); obtain ⟨z1a, zz1a⟩ := farA hW r1a (fun y h1 h2 h => by omega); obtain ⟨z2a, zz2a⟩ := farA hW r2a (fun y h1 h2 h => by omega); have f0 := far0 hW (fun h => by omega); have p0 := fun i o e => hW.ptr (1) i o e (by omega);  have p2 := fun i o e => hW.ptr (ma + 1) i o e (by omega); simp only [List.map_cons, List.map_nil, hW.int, hW.str, hW.bool, hW.any, hW.tup0, hW.agg, hW.nilV, hF.ptr, z0a, zz0a, z1a, zz1a, z2a, zz2a, f0, p0, p2, kP] <;> rfl) ?_
    refine EV ?_
    refine ON ?_
    refine Ok.ret ?_
    with_reducible repeat (first | refine thenQ_ret ?_ | refine blockQ_ret ?_)
    refine RT ?_
    exact ⟨(by simp only [packV, V.erase, V.trav, V.travL, V.travLL, zz, zf, zy, E0a, E1a, E2a] <;> rfl), (by intro L hL; simp only [packV, V.labels, V.labelsL, List.append_nil, List.nil_append, List.mem_append] at hL; rcases hL with hL | hL | hL <;> first | (have := r0a L hL; omega) | (have := r1a L hL; omega) | (have := r2a L hL; omega)), (by have na := nda; simp only [V.labels, V.labelsL, List.append_nil, List.nil_append] at na; obtain ⟨w0a, na, f0a, _⟩ := nd_app na; obtain ⟨w1a, na, f1a, _⟩ := nd_app na; have w2a := na; simp only [packV, V.labels, V.labelsL, List.append_nil, List.nil_append]; exact (nd_app2 w0a (nd_app2 w1a w2a (fun y hy hh => by exact (f1a y hy (by first | exact hh | (simp only [List.mem_append]; simp only [hh, true_or, or_true]))))) (fun y hy hh => by exact (List.mem_append.1 hh).elim (fun hh => (f0a y hy (by first | exact hh | (simp only [List.mem_append]; simp only [hh, true_or, or_true])))) (fun hh => by exact (f0a y hy (by first | exact hh | (simp only [List.mem_append]; simp only [hh, true_or, or_true])))))))⟩
   ·
    try simp only [bsimp] at hb2
    have h4 : p.servers[j].up = true := by simpa using hg2_13
    have h7 : packetText (linkSays p.syncs[j].link) = none := by rw [hs, h4, hb2] at hr; exact hr
    refine Ok.skip ?_
    refine Ok.seq ?_
    refine Ok.drop [11, 12, 13, 14, 15, 16, 17, 18, 19, 20, 21, 22, 23, 24, 25, 26, 27, 28, 29, 30, 31] (by simp only [kover] <;> rfl) ?_
    refine Ok.region ?_
    iterate 3 (refine EV ?_)
    refine OkOps.ev tab_ok rfl (ev_idx_map (by simp only [kE, kT, kL, kC] <;> rfl) (by simp only [kE, kT, kL, kC] <;> rfl) (h3) (by simp only [kE, kT, kL, kC] <;> rfl)) (by simp only [kP] <;> rfl) ?_
    iterate 2 (refine EV ?_)
    refine OkOps.S0 rfl (OpS.weak' rfl (by simp only [kE, kT, kL, kC] <;> rfl) (by simp only [kE, kT, kL, kC] <;> rfl) cl30 (w_impl_LinkSays p.syncs[j].link)) (by simp only [kP] <;> rfl) ?_
    refine OkOps.S0 rfl (OpS.weak' rfl (by simp only [kE, kT, kL, kC] <;> rfl) (by simp only [kE, kT, kL, kC] <;> rfl) cl90 (w_impl_PacketText (linkSays p.syncs[j].link))) (by simp only [kP] <;> rfl) ?_
    iterate 3 (refine OkOps.ev tab_ok rfl (by simp only [kE, kT, kL, kC, h7, Option.getD_none, Option.isSome_none] <;> rfl) (by simp only [kP] <;> rfl) ?_)
    iterate 2 (refine EV ?_)
    refine ON ?_
    refine Ok.seq ?_
    refine Ok.seq ?_
    refine Ok.drop [33, 34, 35, 36, 37, 38, 39, 40, 41, 42, 43] (by simp only [kover] <;> rfl) ?_
    refine Ok.region ?_
    iterate 2 (refine EV ?_)
    refine ON ?_
    refine Ok.cond_true (by simp only [kE, kT, kL, kC] <;> rfl) ?_
    refine Ok.seq ?_
    refine Ok.drop [44, 45] (by simp only [kover] <;> rfl) ?_
    refine Ok.region ?_
    refine EV ?_
    refine OkOps.storeN tab_ok rfl rfl (by simp only [kE, kT, kL, kC] <;> rfl) ⟨_, _, by simp only [kE]; rfl⟩ (by first | (simp [V.labelsL, V.labelsLL, V.labels, zz, zf, zy]; done) | (intro h; simp only [V.labelsL, V.labels, List.mem_append, List.append_nil, List.nil_append, List.not_mem_nil, or_false, false_or] at h; first | ((first | (have := r0a _ h; omega) | (have := r1a _ h; omega) | (have := r2a _ h; omega))) | (rcases h with h | h <;> (first | (have := r0a _ h; omega) | (have := r1a _ h; omega) | (have := r2a _ h; omega))) | (rcases h with h | h | h <;> (first | (have := r0a _ h; omega) | (have := r1a _ h; omega) | (have := r2a _ h; omega))))) (fun W hW hF => by obtain ⟨z0a, zz0a⟩ := farA hW r0a (fun y h1 h2 h => by omega); obtain ⟨z1a, zz1a⟩ := farA hW r1a (fun y h1 h2 h => by omega); obtain ⟨z2a, zz2a⟩ := farA hW r2a (fun y h1 h2 h => by omega); have f0 := far0 hW (fun h => by omega); have p0 := fun i o e => hW.ptr (1) i o e (by omega);  have p2 := fun i o e => hW.ptr (ma + 1) i o e (by omega); simp only [List.map_cons, List.map_nil, hW.int, hW.str, hW.bool, hW.any, hW.tup0, hW.agg, hW.nilV, hF.ptr, z0a, zz0a, z1a, zz1a, z2a, zz2a, f0, p0, p2, kP] <;> rfl) ?_
    refine EV ?_
    refine ON ?_
    refine Ok.ret ?_
    with_reducible repeat (first | refine thenQ_ret ?_ | refine blockQ_ret ?_)
    refine RT ?_
    exact ⟨(by simp only [packV, V.erase, V.trav, V.travL, V.travLL, zz, zf, zy, E0a, E1a, E2a] <;> rfl), (by intro L hL; simp only [packV, V.labels, V.labelsL, List.append_nil, List.nil_append, List.mem_append] at hL; rcases hL with hL | hL | hL <;> first | (have := r0a L hL; omega) | (have := r1a L hL; omega) | (have := r2a L hL; omega)), (by have na := nda; simp only [V.labels, V.labelsL, List.append_nil, List.nil_append] at na; obtain ⟨w0a, na, f0a, _⟩ := nd_app na; obtain ⟨w1a, na, f1a, _⟩ := nd_app na; have w2a := na; simp only [packV, V.labels, V.labelsL, List.append_nil, List.nil_append]; exact (nd_app2 w0a (nd_app2 w1a w2a (fun y hy hh => by exact (f1a y hy (by first | exact hh | (simp only [List.mem_append]; simp only [hh, true_or, or_true]))))) (fun y hy hh => by exact (List.mem_append.1 hh).elim (fun hh => (f0a y hy (by first | exact hh | (simp only [List.mem_append]; simp only [hh, true_or, or_true])))) (fun hh => by exact (f0a y hy (by first | exact hh | (simp only [List.mem_append]; simp only [hh, true_or, or_true])))))))⟩
theorem p_impl_Speak_s (p : Pair) (h : smPair p) (j : Nat) (h1 : j ≤ 1) (h2 : j < p.servers.length) (h3 : j < p.syncs.length) (h4 : p.servers[j].up = true) (h5 : p.syncs[j].failed = false) (t : Str) (h7 : packetText (linkSays p.syncs[j].link) = some t) (h6 : p.net.length + 1 ≤ 6) : Pure Tryz.prog 25 [.agg (cPair p), .int .i64 (j : Int)] (.tup [.agg (cPair { p with net := (p.net ++ [(⟨1 - (j : Int), t⟩ : Letter)]) }), .bool true]) := by
 have hn := h.2.2.1
 have hp : hasP p (j : Int) = true := hasP_nat h1 h2 h3
 have hw : IntKind.i64.wrap (1 - (j : Int)) = 1 - (j : Int) := by rw [IntKind.wrap_i64]; omega
 refine Pure.of (by simp [-List.map_append, V.dat, V.datL, V.datLL, zz, zf, zy]) (OkCall.enter' tab_ok Tryz.func25 rfl (t := [.agg (cPair p), .int .i64 (j : Int), .any, .any, .any, .any, .any, .any, .any, .any, .any, .any, .any, .any, .any, .any, .any, .any, .any, .any, .any, .any, .any, .any, .any, .any, .any, .any, .any, .any, .any, .any, .any, .any, .any, .any, .any, .any, .any, .any, .any, .any, .any, .any, .any, .any, .any, .any, .any, .any, .any, .any, .any]) rfl ?_)
 refine OQ ?_
 iterate 3 (refine EV ?_)
 refine ON ?_
 refine OQ ?_
 refine EV ?_
 obtain ⟨L0a, e0a, L1a, e1a, L2a, e2a, hXa, q0a, E0a, M0a, N0a, q1a, E1a, M1a, N1a, q2a, E2a, M2a, N2a, nda, rga⟩ := ownPair (2) (p)
 obtain ⟨ma, hma⟩ : ∃ m, 2 + 1 + V.cnt (.agg (cPair (p))) = m + 1 := ⟨2 + V.cnt (.agg (cPair (p))), by omega⟩
 have r0a : ∀ z ∈ V.labels (.sl (L0a + 1) 13 0 e0a), 2 + 1 ≤ z ∧ z < ma + 1 := fun z hz => by have := rga z (by first | exact hz | (simp only [V.labelsL, V.labels, List.mem_append] at hz ⊢; simp only [hz, true_or, or_true])); omega
 have r1a : ∀ z ∈ V.labels (.sl (L1a + 1) 9 0 e1a), 2 + 1 ≤ z ∧ z < ma + 1 := fun z hz => by have := rga z (by first | exact hz | (simp only [V.labelsL, V.labels, List.mem_append] at hz ⊢; simp only [hz, true_or, or_true])); omega
 have r2a : ∀ z ∈ V.labels (.sl (L2a + 1) 2 0 e2a), 2 + 1 ≤ z ∧ z < ma + 1 := fun z hz => by have := rga z (by first | exact hz | (simp only [V.labelsL, V.labels, List.mem_append] at hz ⊢; simp only [hz, true_or, or_true])); omega
 refine OkOps.S' rfl (OpS.pure' rfl (by simp only [kE, kT, kL, kC] <;> rfl) (by simp only [kE, kT, kL, kC, V.eraseL, V.erase, V.travL, V.trav, zz, zf, zy] <;> rfl) cl77 (by simp [V.dat, V.datL, V.datLL, zz, zf, zy]) (p_impl_copyPair p h)) hma (by simp only [kP, hXa] <;> rfl) ?_
 refine EV ?_
 refine OkOps.storeN tab_ok rfl rfl (by simp only [kE, kT, kL, kC] <;> rfl) ⟨_, _, by simp only [kE]; rfl⟩ (by first | (simp [V.labelsL, V.labelsLL, V.labels, zz, zf, zy]; done) | (intro h; simp only [V.labelsL, V.labels, List.mem_append, List.append_nil, List.nil_append, List.not_mem_nil, or_false, false_or] at h; first | ((first | (have := r0a _ h; omega) | (have := r1a _ h; omega) | (have := r2a _ h; omega))) | (rcases h with h | h <;> (first | (have := r0a _ h; omega) | (have := r1a _ h; omega) | (have := r2a _ h; omega))) | (rcases h with h | h | h <;> (first | (have := r0a _ h; omega) | (have := r1a _ h; omega) | (have := r2a _ h; omega))))) (fun W hW hF => by obtain ⟨z0a, zz0a⟩ := farA hW r0a (fun y h1 h2 h => by omega); obtain ⟨z1a, zz1a⟩ := farA hW r1a (fun y h1 h2 h => by omega); obtain ⟨z2a, zz2a⟩ := farA hW r2a (fun y h1 h2 h => by omega); have f0 := far0 hW (fun h => by omega); have p0 := fun i o e => hW.ptr (1) i o e (by omega);  have p1 := fun i o e => hW.ptr (2) i o e (by omega); simp only [List.map_cons, List.map_nil, hW.int, hW.str, hW.bool, hW.any, hW.tup0, hW.agg, hW.nilV, hF.ptr, z0a, zz0a, z1a, zz1a, z2a, zz2a, f0, p0, p1, kP] <;> rfl) ?_
 refine ON ?_
 refine Ok.seq ?_
 refine Ok.seq ?_
 refine Ok.drop [9, 10] (by simp only [kover] <;> rfl) ?_
 refine Ok.region ?_
 iterate 2 (refine EV ?_)
 refine OkOps.S0 rfl (OpS.weak' rfl (by simp only [kE, kT, kL, kC] <;> rfl) (by simp only [kE, kT, kL, kC] <;> rfl) cl78 (w_impl_Pair_has p (j : Int))) (by simp only [kP] <;> rfl) ?_
 iterate 2 (refine EV ?_)
 refine OkOps.split (d := 15) (by simp only [kE, kT, kL, kC] <;> rfl) (by simp only [kP] <;> rfl) (by simp only [kP] <;> rfl) (fun hg2_4 => ?_) (fun hg2_4 => ?_)
 ·
  try simp only [bsimp] at hg2_4
  rw [hp] at hg2_4; cases hg2_4
 ·
  try simp only [bsimp] at hg2_4
  refine OO ?_
  refine EV ?_
  refine OO ?_
  refine EV ?_
  refine OO ?_
  refine EV ?_
  refine OO ?_
  refine OkOps.ev tab_ok rfl (ev_idx_map (by simp only [kE, kT, kL, kC] <;> rfl) (by simp only [kE, kT, kL, kC] <;> rfl) (h2) (by simp only [kE, kT, kL, kC] <;> rfl)) (by simp only [kP] <;> rfl) ?_
  refine OO ?_
  refine EV ?_
  refine OO ?_
  refine EV ?_
  refine OO ?_
  iterate 3 (refine EV ?_)
  refine OkOps.split (d := 24) (by simp only [kE, kT, kL, kC] <;> rfl) (by simp only [kP] <;> rfl) (by simp only [kP] <;> rfl) (fun hg2_13 => ?_) (fun hg2_13 => ?_)
  ·
   try simp only [bsimp] at hg2_13
   rw [h4] at hg2_13; cases hg2_13
  ·
   try simp only [bsimp] at hg2_13
   refine OO ?_
   refine EV ?_
   refine OO ?_
   refine EV ?_
   refine OO ?_
   refine EV ?_
   refine OO ?_
   refine OkOps.ev tab_ok rfl (ev_idx_map (by simp only [kE, kT, kL, kC] <;> rfl) (by simp only [kE, kT, kL, kC] <;> rfl) (h3) (by simp only [kE, kT, kL, kC] <;> rfl)) (by simp only [kP] <;> rfl) ?_
   refine OO ?_
   refine EV ?_
   refine OO ?_
   iterate 2 (refine EV ?_)
   refine ON ?_
   refine Ok.cond_false (by simp only [kE, kT, kL, kC, h5] <;> rfl) ?_
   refine Ok.skip ?_
   refine Ok.seq ?_
   refine Ok.drop [11, 12, 13, 14, 15, 16, 17, 18, 19, 20, 21, 22, 23, 24, 25, 26, 27, 28, 29, 30, 31] (by simp only [kover] <;> rfl) ?_
   refine Ok.region ?_
   iterate 3 (refine EV ?_)
   refine OkOps.ev tab_ok rfl (ev_idx_map (by simp only [kE, kT, kL, kC] <;> rfl) (by simp only [kE, kT, kL, kC] <;> rfl) (h3) (by simp only [kE, kT, kL, kC] <;> rfl)) (by simp only [kP] <;> rfl) ?_
   iterate 2 (refine EV ?_)
   refine OkOps.S0 rfl (OpS.weak' rfl (by simp only [kE, kT, kL, kC] <;> rfl) (by simp only [kE, kT, kL, kC] <;> rfl) cl30 (w_impl_LinkSays p.syncs[j].link)) (by simp only [kP] <;> rfl) ?_
   refine OkOps.S0 rfl (OpS.weak' rfl (by simp only [kE, kT, kL, kC] <;> rfl) (by simp only [kE, kT, kL, kC] <;> rfl) cl90 (w_impl_PacketText (linkSays p.syncs[j].link))) (by simp only [kP] <;> rfl) ?_
   iterate 3 (refine OkOps.ev tab_ok rfl (by simp only [kE, kT, kL, kC, h7, Option.getD_some, Option.isSome_some] <;> rfl) (by simp only [kP] <;> rfl) ?_)
   iterate 2 (refine EV ?_)
   refine ON ?_
   refine Ok.seq ?_
   refine Ok.seq ?_
   refine Ok.drop [33, 34, 35, 36, 37, 38, 39, 40, 41, 42, 43] (by simp only [kover] <;> rfl) ?_
   refine Ok.region ?_
   iterate 2 (refine EV ?_)
   refine ON ?_
   refine Ok.cond_false (by simp only [kE, kT, kL, kC] <;> rfl) ?_
   refine Ok.skip ?_
   refine Ok.seq ?_
   refine Ok.drop [44, 45] (by simp only [kover] <;> rfl) ?_
   refine Ok.region ?_
   have he2 : e2a = p.net.map cLetter := (flat_letters q2a).symm.trans E2a
   subst he2
   have n0 := nda; simp only [V.labels, V.labelsL, List.append_nil, List.nil_append] at n0
   obtain ⟨w0a, n1, f0a, _⟩ := nd_app n0
   obtain ⟨w1a, w2a, f1a, _⟩ := nd_app n1
   have q20 := r2a _ (List.mem_cons_self ..)
   have q00 := r0a _ (List.mem_cons_self ..)
   have q10 := r1a _ (List.mem_cons_self ..)
   refine EV ?_
   refine OkOps.ev tab_ok rfl (by simp only [kE, kT, kL, kC, hw] <;> rfl) (by simp only [kP] <;> rfl) ?_
   refine EV ?_
   refine OkOps.ev tab_ok rfl (by simp [ev1, fillV, kE, kT, kL] <;> first | rfl | exact ⟨rfl, rfl⟩) (by simp only [kP] <;> rfl) ?_
   refine OkOps.turnN 2 rfl rfl (by simp only [kE, kT, kL, kC] <;> rfl) (by simp only [kE, kT, kL, kC] <;> rfl) cl91 (fun h => c_put_s (.sl (L0a + 1) 13 0 e0a) (.sl (L1a + 1) 9 0 e1a) p.epoch p.net (⟨1 - (j : Int), t⟩ : Letter) hn ma L2a h6 (by omega) (by omega) (by omega) (fun h => by have := r0a _ h; omega) (fun h => by have := r1a _ h; omega) (fun h => f0a _ h (List.mem_append_right _ (List.mem_cons_self ..))) (fun h => f1a _ h (List.mem_cons_self ..))) (by first | rfl | (simp only [Nat.add_zero, Nat.reduceAdd] <;> rfl)) (fun W hW ha => by have f0 := far0 hW (fun h => by omega); have p1 := fun i o e => hW.ptr 1 i o e (by omega); have p2 := fun i o e => hW.ptr 2 i o e (by omega); simp only [List.map_cons, List.map_nil, hW.int, hW.str, hW.bool, hW.any, hW.tup0, hW.agg, hW.nilV, f0, p1, p2, ha, kP] <;> rfl) ?_
   refine ON ?_
   refine Ok.seq ?_
   refine Ok.drop [47, 48, 49, 50, 51] (by simp only [kover] <;> rfl) ?_
   refine Ok.region ?_
   refine EV ?_
   refine OkOps.storeN tab_ok rfl rfl (by simp only [kE, kT, kL, kC] <;> rfl) ⟨_, _, by simp only [kE]; rfl⟩ (by first | (simp [V.labelsL, V.labelsLL, V.labels, zz, zf, zy]; done) | (intro h; simp only [V.labelsL, V.labels, zf, List.append_nil, List.nil_append, List.mem_append, List.mem_cons, List.not_mem_nil, or_false, false_or] at h; rcases h with h | h | h <;> first | omega | (rcases h with h | h <;> first | omega | (have := r0a _ (List.mem_cons_of_mem _ h); omega) | (have := r1a _ (List.mem_cons_of_mem _ h); omega)))) (fun W hW hF => by obtain ⟨z0a, zz0a⟩ := farA hW r0a (fun y h1 h2 h => by omega); obtain ⟨z1a, zz1a⟩ := farA hW r1a (fun y h1 h2 h => by omega); obtain ⟨z2a, zz2a⟩ := farA hW r2a (fun y h1 h2 h => by omega); have f0 := far0 hW (fun h => by omega); have zn := hW.far (.sl (L2a + 1) 2 0 ((p.net ++ [(⟨1 - (j : Int), t⟩ : Letter)]).map cLetter)) (fun y hy h => by simp only [V.labels, zf, List.mem_cons, List.not_mem_nil, or_false] at hy; omega); have p0 := fun i o e => hW.ptr (1) i o e (by omega);  have p2 := fun i o e => hW.ptr (ma + 1) i o e (by omega); simp only [List.map_cons, List.map_nil, hW.int, hW.str, hW.bool, hW.any, hW.tup0, hW.agg, hW.nilV, hF.ptr, z0a, zz0a, z1a, zz1a, z2a, zz2a, f0, zn, p0, p2, kP] <;> rfl) ?_
   refine EV ?_
   refine ON ?_
   refine Ok.ret ?_
   with_reducible repeat (first | refine thenQ_ret ?_ | refine blockQ_ret ?_)
   refine RT ?_
   exact ⟨(by simp only [packV, V.erase, V.trav, V.travL, V.travLL, zz, zf, zy, E0a, E1a] <;> rfl), (by intro L hL; simp only [packV, V.labels, V.labelsL, zf, List.append_nil, List.nil_append, List.mem_append] at hL; rcases hL with hL | hL | hL <;> first | (have := r0a L hL; omega) | (have := r1a L hL; omega) | (simp only [List.mem_cons, List.not_mem_nil, or_false] at hL; omega)), (by simp only [packV, V.labels, V.labelsL, zf, List.append_nil, List.nil_append]; exact nd_app2 w0a (nd_app2 w1a (by simp) (fun y hy hh => by have h9 := List.mem_singleton.1 hh; exact f1a y hy (by rw [h9]; exact List.mem_cons_self ..))) (fun y hy hh => (List.mem_append.1 hh).elim (fun hh => f0a y hy (List.mem_append_left _ hh)) (fun hh => by have h9 := List.mem_singleton.1 hh; exact f0a y hy (by rw [h9]; exact List.mem_append_right _ (List.mem_cons_self ..)))))⟩
theorem p_impl_Speak_l (p : Pair) (h : smPair p) (j : Nat) (h1 : j ≤ 1) (h2 : j < p.servers.length) (h3 : j < p.syncs.length) (h4 : p.servers[j].up = true) (h5 : p.syncs[j].failed = false) (t : Str) (h7 : packetText (linkSays p.syncs[j].link) = some t) (h6 : 6 < p.net.length + 1) : Pure Tryz.prog 25 [.agg (cPair p), .int .i64 (j : Int)] (.tup [.agg (cPair { p with net := (post p.net (⟨1 - (j : Int), t⟩ : Letter)) }), .bool true]) := by
 have hn := h.2.2.1
 have hp : hasP p (j : Int) = true := hasP_nat h1 h2 h3
 have hw : IntKind.i64.wrap (1 - (j : Int)) = 1 - (j : Int) := by rw [IntKind.wrap_i64]; omega
 refine Pure.of (by simp [-List.map_append, V.dat, V.datL, V.datLL, zz, zf, zy]) (OkCall.enter' tab_ok Tryz.func25 rfl (t := [.agg (cPair p), .int .i64 (j : Int), .any, .any, .any, .any, .any, .any, .any, .any, .any, .any, .any, .any, .any, .any, .any, .any, .any, .any, .any, .any, .any, .any, .any, .any, .any, .any, .any, .any, .any, .any, .any, .any, .any, .any, .any, .any, .any, .any, .any, .any, .any, .any, .any, .any, .any, .any, .any, .any, .any, .any, .any]) rfl ?_)
 refine OQ ?_
 iterate 3 (refine EV ?_)
 refine ON ?_
 refine OQ ?_
 refine EV ?_
 obtain ⟨L0a, e0a, L1a, e1a, L2a, e2a, hXa, q0a, E0a, M0a, N0a, q1a, E1a, M1a, N1a, q2a, E2a, M2a, N2a, nda, rga⟩ := ownPair (2) (p)
 obtain ⟨ma, hma⟩ : ∃ m, 2 + 1 + V.cnt (.agg (cPair (p))) = m + 1 := ⟨2 + V.cnt (.agg (cPair (p))), by omega⟩
 have r0a : ∀ z ∈ V.labels (.sl (L0a + 1) 13 0 e0a), 2 + 1 ≤ z ∧ z < ma + 1 := fun z hz => by have := rga z (by first | exact hz | (simp only [V.labelsL, V.labels, List.mem_append] at hz ⊢; simp only [hz, true_or, or_true])); omega
 have r1a : ∀ z ∈ V.labels (.sl (L1a + 1) 9 0 e1a), 2 + 1 ≤ z ∧ z < ma + 1 := fun z hz => by have := rga z (by first | exact hz | (simp only [V.labelsL, V.labels, List.mem_append] at hz ⊢; simp only [hz, true_or, or_true])); omega
 have r2a : ∀ z ∈ V.labels (.sl (L2a + 1) 2 0 e2a), 2 + 1 ≤ z ∧ z < ma + 1 := fun z hz => by have := rga z (by first | exact hz | (simp only [V.labelsL, V.labels, List.mem_append] at hz ⊢; simp only [hz, true_or, or_true])); omega
 refine OkOps.S' rfl (OpS.pure' rfl (by simp only [kE, kT, kL, kC] <;> rfl) (by simp only [kE, kT, kL, kC, V.eraseL, V.erase, V.travL, V.trav, zz, zf, zy] <;> rfl) cl77 (by simp [V.dat, V.datL, V.datLL, zz, zf, zy]) (p_impl_copyPair p h)) hma (by simp only [kP, hXa] <;> rfl) ?_
 refine EV ?_
 refine OkOps.storeN tab_ok rfl rfl (by simp only [kE, kT, kL, kC] <;> rfl) ⟨_, _, by simp only [kE]; rfl⟩ (by first | (simp [V.labelsL, V.labelsLL, V.labels, zz, zf, zy]; done) | (intro h; simp only [V.labelsL, V.labels, List.mem_append, List.append_nil, List.nil_append, List.not_mem_nil, or_false, false_or] at h; first | ((first | (have := r0a _ h; omega) | (have := r1a _ h; omega) | (have := r2a _ h; omega))) | (rcases h with h | h <;> (first | (have := r0a _ h; omega) | (have := r1a _ h; omega) | (have := r2a _ h; omega))) | (rcases h with h | h | h <;> (first | (have := r0a _ h; omega) | (have := r1a _ h; omega) | (have := r2a _ h; omega))))) (fun W hW hF => by obtain ⟨z0a, zz0a⟩ := farA hW r0a (fun y h1 h2 h => by omega); obtain ⟨z1a, zz1a⟩ := farA hW r1a (fun y h1 h2 h => by omega); obtain ⟨z2a, zz2a⟩ := farA hW r2a (fun y h1 h2 h => by omega); have f0 := far0 hW (fun h => by omega); have p0 := fun i o e => hW.ptr (1) i o e (by omega);  have p1 := fun i o e => hW.ptr (2) i o e (by omega); simp only [List.map_cons, List.map_nil, hW.int, hW.str, hW.bool, hW.any, hW.tup0, hW.agg, hW.nilV, hF.ptr, z0a, zz0a, z1a, zz1a, z2a, zz2a, f0, p0, p1, kP] <;> rfl) ?_
 refine ON ?_
 refine Ok.seq ?_
 refine Ok.seq ?_
 refine Ok.drop [9, 10] (by simp only [kover] <;> rfl) ?_
 refine Ok.region ?_
 iterate 2 (refine EV ?_)
 refine OkOps.S0 rfl (OpS.weak' rfl (by simp only [kE, kT, kL, kC] <;> rfl) (by simp only [kE, kT, kL, kC] <;> rfl) cl78 (w_impl_Pair_has p (j : Int))) (by simp only [kP] <;> rfl) ?_
 iterate 2 (refine EV ?_)
 refine OkOps.split (d := 15) (by simp only [kE, kT, kL, kC] <;> rfl) (by simp only [kP] <;> rfl) (by simp only [kP] <;> rfl) (fun hg2_4 => ?_) (fun hg2_4 => ?_)
 ·
  try simp only [bsimp] at hg2_4
  rw [hp] at hg2_4; cases hg2_4
 ·
  try simp only [bsimp] at hg2_4
  refine OO ?_
  refine EV ?_
  refine OO ?_
  refine EV ?_
  refine OO ?_
  refine EV ?_
  refine OO ?_
  refine OkOps.ev tab_ok rfl (ev_idx_map (by simp only [kE, kT, kL, kC] <;> rfl) (by simp only [kE, kT, kL, kC] <;> rfl) (h2) (by simp only [kE, kT, kL, kC] <;> rfl)) (by simp only [kP] <;> rfl) ?_
  refine OO ?_
  refine EV ?_
  refine OO ?_
  refine EV ?_
  refine OO ?_
  iterate 3 (refine EV ?_)
  refine OkOps.split (d := 24) (by simp only [kE, kT, kL, kC] <;> rfl) (by simp only [kP] <;> rfl) (by simp only [kP] <;> rfl) (fun hg2_13 => ?_) (fun hg2_13 => ?_)
  ·
   try simp only [bsimp] at hg2_13
   rw [h4] at hg2_13; cases hg2_13
  ·
   try simp only [bsimp] at hg2_13
   refine OO ?_
   refine EV ?_
   refine OO ?_
   refine EV ?_
   refine OO ?_
   refine EV ?_
   refine OO ?_
   refine OkOps.ev tab_ok rfl (ev_idx_map (by simp only [kE, kT, kL, kC] <;> rfl) (by simp only [kE, kT, kL, kC] <;> rfl) (h3) (by simp only [kE, kT, kL, kC] <;> rfl)) (by simp only [kP] <;> rfl) ?_
   refine OO ?_
   refine EV ?_
   refine OO ?_
   iterate 2 (refine EV ?_)
   refine ON ?_
   refine Ok.cond_false (by simp only [kE, kT, kL, kC, h5] <;> rfl) ?_
   refine Ok.skip ?_
   refine Ok.seq ?_
   refine Ok.drop [11, 12, 13, 14, 15, 16, 17, 18, 19, 20, 21, 22, 23, 24, 25, 26, 27, 28, 29, 30, 31] (by simp only [kover] <;> rfl) ?_
   refine Ok.region ?_
   iterate 3 (refine EV ?_)
   refine OkOps.ev tab_ok rfl (ev_idx_map (by simp only [kE, kT, kL, kC] <;> rfl) (by simp only [kE, kT, kL, kC] <;> rfl) (h3) (by simp only [kE, kT, kL, kC] <;> rfl)) (by simp only [kP] <;> rfl) ?_
   iterate 2 (refine EV ?_)
   refine OkOps.S0 rfl (OpS.weak' rfl (by simp only [kE, kT, kL, kC] <;> rfl) (by simp only [kE, kT, kL, kC] <;> rfl) cl30 (w_impl_LinkSays p.syncs[j].link)) (by simp only [kP] <;> rfl) ?_
   refine OkOps.S0 rfl (OpS.weak' rfl (by simp only [kE, kT, kL, kC] <;> rfl) (by simp only [kE, kT, kL, kC] <;> rfl) cl90 (w_impl_PacketText (linkSays p.syncs[j].link))) (by simp only [kP] <;> rfl) ?_
   iterate 3 (refine OkOps.ev tab_ok rfl (by simp only [kE, kT, kL, kC, h7, Option.getD_some, Option.isSome_some] <;> rfl) (by simp only [kP] <;> rfl) ?_)
   iterate 2 (refine EV ?_)
   refine ON ?_
   refine Ok.seq ?_
   refine Ok.seq ?_
   refine Ok.drop [33, 34, 35, 36, 37, 38, 39, 40, 41, 42, 43] (by simp only [kover] <;> rfl) ?_
   refine Ok.region ?_
   iterate 2 (refine EV ?_)
   refine ON ?_
   refine Ok.cond_false (by simp only [kE, kT, kL, kC] <;> rfl) ?_
   refine Ok.skip ?_
   refine Ok.seq ?_
   refine Ok.drop [44, 45] (by simp only [kover] <;> rfl) ?_
   refine Ok.region ?_
   have he2 : e2a = p.net.map cLetter := (flat_letters q2a).symm.trans E2a
   subst he2
   have n0 := nda; simp only [V.labels, V.labelsL, List.append_nil, List.nil_append] at n0
   obtain ⟨w0a, n1, f0a, _⟩ := nd_app n0
   obtain ⟨w1a, w2a, f1a, _⟩ := nd_app n1
   have q20 := r2a _ (List.mem_cons_self ..)
   have q00 := r0a _ (List.mem_cons_self ..)
   have q10 := r1a _ (List.mem_cons_self ..)
   refine EV ?_
   refine OkOps.ev tab_ok rfl (by simp only [kE, kT, kL, kC, hw] <;> rfl) (by simp only [kP] <;> rfl) ?_
   refine EV ?_
   refine OkOps.ev tab_ok rfl (by simp [ev1, fillV, kE, kT, kL] <;> first | rfl | exact ⟨rfl, rfl⟩) (by simp only [kP] <;> rfl) ?_
   refine OkOps.turnN 3 rfl rfl (by simp only [kE, kT, kL, kC] <;> rfl) (by simp only [kE, kT, kL, kC] <;> rfl) cl91 (fun h => c_put_l (.sl (L0a + 1) 13 0 e0a) (.sl (L1a + 1) 9 0 e1a) p.epoch p.net (⟨1 - (j : Int), t⟩ : Letter) hn ma L2a h6 (by omega) (by omega) (by omega) (fun h => by have := r0a _ h; omega) (fun h => by have := r1a _ h; omega) (fun h => f0a _ h (List.mem_append_right _ (List.mem_cons_self ..))) (fun h => f1a _ h (List.mem_cons_self ..))) (by first | rfl | (simp only [Nat.add_zero, Nat.reduceAdd] <;> rfl)) (fun W hW ha => by have f0 := far0 hW (fun h => by omega); have p1 := fun i o e => hW.ptr 1 i o e (by omega); have p2 := fun i o e => hW.ptr 2 i o e (by omega); simp only [List.map_cons, List.map_nil, hW.int, hW.str, hW.bool, hW.any, hW.tup0, hW.agg, hW.nilV, f0, p1, p2, ha, kP] <;> rfl) ?_
   refine ON ?_
   refine Ok.seq ?_
   refine Ok.drop [47, 48, 49, 50, 51] (by simp only [kover] <;> rfl) ?_
   refine Ok.region ?_
   refine EV ?_
   refine OkOps.storeN tab_ok rfl rfl (by simp only [kE, kT, kL, kC] <;> rfl) ⟨_, _, by simp only [kE]; rfl⟩ (by first | (simp [V.labelsL, V.labelsLL, V.labels, zz, zf, zy]; done) | (intro h; simp only [V.labelsL, V.labels, zf, List.append_nil, List.nil_append, List.mem_append, List.mem_cons, List.not_mem_nil, or_false, false_or] at h; rcases h with h | h | h <;> first | omega | (rcases h with h | h <;> first | omega | (have := r0a _ (List.mem_cons_of_mem _ h); omega) | (have := r1a _ (List.mem_cons_of_mem _ h); omega)))) (fun W hW hF => by obtain ⟨z0a, zz0a⟩ := farA hW r0a (fun y h1 h2 h => by omega); obtain ⟨z1a, zz1a⟩ := farA hW r1a (fun y h1 h2 h => by omega); obtain ⟨z2a, zz2a⟩ := farA hW r2a (fun y h1 h2 h => by omega); have f0 := far0 hW (fun h => by omega); have zn := hW.far (.sl (ma + 1 + 1 + 2) 2 0 ((post p.net (⟨1 - (j : Int), t⟩ : Letter)).map cLetter)) (fun y hy h => by simp only [V.labels, zf, List.mem_cons, List.not_mem_nil, or_false] at hy; omega); have p0 := fun i o e => hW.ptr (1) i o e (by omega);  have p2 := fun i o e => hW.ptr (ma + 1) i o e (by omega); simp only [List.map_cons, List.map_nil, hW.int, hW.str, hW.bool, hW.any, hW.tup0, hW.agg, hW.nilV, hF.ptr, z0a, zz0a, z1a, zz1a, z2a, zz2a, f0, zn, p0, p2, kP] <;> rfl) ?_
   refine EV ?_
   refine ON ?_
   refine Ok.ret ?_
   with_reducible repeat (first | refine thenQ_ret ?_ | refine blockQ_ret ?_)
   refine RT ?_
   exact ⟨(by simp only [packV, V.erase, V.trav, V.travL, V.travLL, zz, zf, zy, E0a, E1a] <;> rfl), (by intro L hL; simp only [packV, V.labels, V.labelsL, zf, List.append_nil, List.nil_append, List.mem_append] at hL; rcases hL with hL | hL | hL <;> first | (have := r0a L hL; omega) | (have := r1a L hL; omega) | (simp only [List.mem_cons, List.not_mem_nil, or_false] at hL; omega)), (by simp only [packV, V.labels, V.labelsL, zf, List.append_nil, List.nil_append]; exact nd_app2 w0a (nd_app2 w1a (by simp) (fun y hy hh => by have h9 := List.mem_singleton.1 hh; (have := r1a y hy; omega))) (fun y hy hh => (List.mem_append.1 hh).elim (fun hh => f0a y hy (List.mem_append_left _ hh)) (fun hh => by have h9 := List.mem_singleton.1 hh; (have := r0a y hy; omega))))⟩
theorem p_impl_Speak (p : Pair) (i : Int) (h : smPair p) : Pure Tryz.prog 25 [.agg (cPair p), .int .i64 i] (.tup [.agg (cPair (speakP p i)), .bool (speakB p i)]) := by
  cases hr : speakT p i with
  | none => rw [(speak_no hr).1, (speak_no hr).2]; exact p_impl_Speak_f p h i hr
  | some t =>
    obtain ⟨j, rfl, h1, h2, h3, h4, h5, h7⟩ := speak_is hr
    rw [(speak_yes hr).1, (speak_yes hr).2]
    rcases Nat.lt_or_ge 6 (p.net.length + 1) with h6 | h6
    · exact p_impl_Speak_l p h j h1 h2 h3 h4 h5 t h7 h6
    · rw [post_few h6]; exact p_impl_Speak_s p h j h1 h2 h3 h4 h5 t h7 h6
end Go.Proofs.YtjhfabimacljhaaGreat.K
