/- Walks: syncs that hear. Printed by w2.py. -/
import Derived.Test.YtjhfabimacljhaaGreatG10
import Derived.Test.YtjhfabimacljhaaGreatG5
import Derived.Test.YtjhfabimacljhaaGreatG8
namespace Go.Proofs.YtjhfabimacljhaaGreat.K
open Go Go.RowKit
set_option linter.unusedVariables false
set_option linter.unusedSimpArgs false
set_option maxHeartbeats 4000000
set_option maxRecDepth 20000
theorem w_impl_SyncHears (y : Sync) (p : Packet) (h : smSync y) (hp : p.text.length ≤ 1000000) (hf : y.pieces.flatten.length ≤ 1000000) : Weak Tryz.prog 29 [.agg (cSync y), .agg (cPacket p)] (vYS (syncHears y p)) := by
 refine Weak.enter tab_ok Tryz.func29 rfl (.inr (by simp [V.labelsL, V.labels, V.labelsLL, zz, zf, zy, or_imp, forall_and])) (t := [.agg (cSync y), .agg (cPacket p), .any, .any, .any, .any, .any, .any, .any, .any, .any, .any, .any, .any, .any, .any, .any, .any, .any, .any, .any, .any, .any, .any, .any, .any, .any, .any, .any, .any, .any, .any, .any, .any, .any, .any, .any, .any, .any, .any, .any, .any, .any, .any, .any, .any, .any, .any, .any, .any, .any, .any, .any, .any, .any, .any, .any, .any, .any, .any, .any, .any, .any, .any, .any, .any, .any, .any, .any, .any, .any, .any, .any, .any, .any, .any, .any, .any, .any, .any, .any, .any, .any, .any, .any, .any, .any, .any, .any, .any, .any, .any, .any, .any, .any, .any, .any, .any, .any, .any, .any, .any, .any]) rfl ?_
 refine OQ ?_
 iterate 4 (refine EV ?_)
 refine ON ?_
 refine OQ ?_
 refine EV ?_
 refine OkOps.S' rfl (OpS.pure' rfl (by simp only [kE, kT, kL, kC] <;> rfl) (by simp only [kE, kT, kL, kC, V.eraseL, V.erase, V.travL, V.trav, zz, zf, zy] <;> rfl) cl94 (by simp [V.dat, V.datL, V.datLL, zz, zf, zy]) (p_impl_copySync y h)) (by simp only [V.cnt, V.cntL, zz, zf, zy, Nat.add_zero, Nat.reduceAdd] <;> rfl) (by simp only [kP, V.tag, V.tagL, V.cnt, V.cntL, zz, zf, zy, Nat.add_zero, Nat.reduceAdd] <;> rfl) ?_
 refine EV ?_
 refine OE ?_
 refine ON ?_
 refine OQ ?_
 iterate 3 (refine EV ?_)
 refine OW cl95 (w_impl_LinkHears y.link p (by have := h.1.1; omega)) ?_
 iterate 5 (refine EV ?_)
 refine OE ?_
 iterate 2 (refine EV ?_)
 refine ON ?_
 refine Ok.seq ?_
 obtain ⟨⟨L1, T, b1⟩, hlh⟩ : ∃ z, linkHears y.link p = z := ⟨_, rfl⟩
 have htl := linkHears_text y.link p
 rw [hlh] at htl ⊢
 dsimp only at htl ⊢
 refine Ok.region ?_
 iterate 2 (refine EV ?_)
 refine OE ?_
 refine ON ?_
 refine Ok.seq ?_
 refine OQ ?_
 iterate 2 (refine EV ?_)
 refine ON ?_
 refine OC (fun hb4 => ?_) (fun hb4 => ?_)
 ·
  try simp only [bsimp] at hb4
  obtain rfl : b1 = false := by simpa using hb4
  rw [syncHears_no hlh]
  refine OQ ?_
  refine EV ?_
  refine OE ?_
  refine EV ?_
  refine ON ?_
  refine Ok.ret ?_
  with_reducible repeat (first | refine thenQ_ret ?_ | refine blockQ_ret ?_)
  refine RT ?_
  first | rfl | (simp [V.erase, V.trav, V.travL, V.travLL, packV, zz, zf, zy, hE1, hE2, hE3, hE4, hoP, hot]; done) | (simp [-List.map_append, V.erase, V.trav, V.travL, V.travLL, packV, zz, zf, zy]; done) | (simp [V.erase, V.trav, V.travL, V.travLL, packV, zz, zf, zy]; done)
 try simp only [bsimp] at hb4
 obtain rfl : b1 = true := by simpa using hb4
 rw [syncHears_yes hlh]
 refine Ok.skip ?_
 refine Ok.seq ?_
 refine Ok.block ?_
 refine Ok.seqC [(33, .bool (isB 84 T))] [34, 35, 36, 37, 38, 39, 40] (by simp only [kover] <;> rfl) ?_ ?_
 ·
  refine Ok.region ?_
  iterate 3 (refine EV ?_)
  refine OP (d := 36) (fun hg8_2 => ?_) (fun hg8_2 => ?_)
  ·
   try simp only [bsimp] at hg8_2
   refine OX ?_
   refine OO ?_
   refine OkOps.ev tab_ok rfl (ev_byte_lt (j := 0) (by simp only [kE, kT, kL, kC] <;> rfl) (by simp only [kE, kT, kL, kC] <;> rfl) (List.length_pos_iff.2 (by simpa using hg8_2)) rfl) (by simp only [kP] <;> rfl) ?_
   refine OO ?_
   iterate 3 (refine EV ?_)
   refine ON ?_
   refine ⟨rfl, ?_, rfl, rfl⟩
   (repeat (first | exact trivial | refine leC ?_ | refine leK ?_ ?_)) <;> first | (refine .inl (congrArg V.bool ?_); (first | exact isB84 _ | exact isB80 _ | (simp_all [isB]; done))) | exact le_rfl' _
  try simp only [bsimp] at hg8_2
  iterate 3 (refine OU ?_)
  iterate 2 (refine EV ?_)
  refine ON ?_
  refine ⟨rfl, ?_, rfl, rfl⟩
  (repeat (first | exact trivial | refine leC ?_ | refine leK ?_ ?_)) <;> first | (refine .inl (congrArg V.bool ?_); (first | exact isB84 _ | exact isB80 _ | (simp_all [isB]; done))) | exact le_rfl' _
 refine OC (fun hb8 => ?_) (fun hb8 => ?_)
 ·
  try simp only [bsimp] at hb8
  refine OQ ?_
  refine EV ?_
  refine OW cl96 (w_impl_ReadVar T 1 (by omega)) ?_
  iterate 7 (refine EV ?_)
  refine ON ?_
  refine Ok.seq ?_
  refine Ok.seqC [(58, .bool (tellB T))] [47, 48, 49, 50, 51, 52, 53, 54, 55, 56, 57] (by simp only [kover] <;> rfl) ?_ ?_
  ·
   refine Ok.region ?_
   iterate 3 (refine EV ?_)
   refine OP (d := 49) (fun hg10_2 => ?_) (fun hg10_2 => ?_)
   ·
    try simp only [bsimp] at hg10_2
    iterate 4 (refine OU ?_)
    iterate 2 (refine EV ?_)
    refine OU ?_
    refine OU ?_
    refine EV ?_
    refine ON ?_
    refine ⟨rfl, ?_, rfl, rfl⟩
    (repeat (first | exact trivial | refine leC ?_ | refine leK ?_ ?_)) <;> first | (refine .inl (congrArg V.bool ?_); (first | (simp [tellB, *]; done) | (simp [tellB, *] <;> omega) | (rw [Bool.eq_iff_iff]; simp [tellB, *] <;> omega) | (simp_all [tellB]; done))) | exact le_rfl' _
   try simp only [bsimp] at hg10_2
   iterate 3 (refine OX ?_)
   refine OO ?_
   iterate 3 (refine EV ?_)
   refine OP (d := 55) (fun hg10_8 => ?_) (fun hg10_8 => ?_)
   ·
    try simp only [bsimp] at hg10_8
    refine OU ?_
    refine OU ?_
    refine EV ?_
    refine ON ?_
    refine ⟨rfl, ?_, rfl, rfl⟩
    (repeat (first | exact trivial | refine leC ?_ | refine leK ?_ ?_)) <;> first | (refine .inl (congrArg V.bool ?_); (first | (simp [tellB, *]; done) | (simp [tellB, *] <;> omega) | (rw [Bool.eq_iff_iff]; simp [tellB, *] <;> omega) | (simp_all [tellB]; done))) | exact le_rfl' _
   try simp only [bsimp] at hg10_8
   refine OX ?_
   refine OO ?_
   iterate 2 (refine EV ?_)
   refine ON ?_
   refine ⟨rfl, ?_, rfl, rfl⟩
   (repeat (first | exact trivial | refine leC ?_ | refine leK ?_ ?_)) <;> first | (refine .inl (congrArg V.bool ?_); (first | (simp [tellB, *]; done) | (simp [tellB, *] <;> omega) | (rw [Bool.eq_iff_iff]; simp [tellB, *] <;> omega) | (simp_all [tellB]; done))) | exact le_rfl' _
  refine OC (fun hb10 => ?_) (fun hb10 => ?_)
  ·
   try simp only [bsimp] at hb10
   rw [syncText_F hb8 (tell_no hb10)]
   refine OQ ?_
   refine EV ?_
   refine OE ?_
   refine ON ?_
   refine OQ ?_
   refine EV ?_
   refine OE ?_
   refine EV ?_
   refine ON ?_
   refine Ok.ret ?_
   with_reducible repeat (first | refine thenQ_ret ?_ | refine blockQ_ret ?_)
   refine RT ?_
   first | rfl | (simp [V.erase, V.trav, V.travL, V.travLL, packV, zz, zf, zy, hE1, hE2, hE3, hE4, hoP, hot]; done) | (simp [-List.map_append, V.erase, V.trav, V.travL, V.travLL, packV, zz, zf, zy]; done) | (simp [V.erase, V.trav, V.travL, V.travLL, packV, zz, zf, zy]; done)
  try simp only [bsimp] at hb10
  rw [syncText_T hb8 (tell_yes hb10)]
  obtain ⟨o, ho⟩ : ∃ o : Sync, o = { y with link := L1, total := (((readVar T 1).getD (0, 0)).1 : Int) } := ⟨_, rfl⟩
  rw [← ho]
  have hop : o.pieces.flatten.length ≤ 2000000 := by rw [ho]; show y.pieces.flatten.length ≤ _; omega
  have hot : o.total = (((readVar T 1).getD (0, 0)).1 : Int) := by rw [ho]
  have hoP : y.pieces.map cS = o.pieces.map cS := by rw [ho]
  have hol : o.pieces.length ≤ 2097152 := by rw [ho]; exact (by have := h.2.1; show y.pieces.length ≤ _; omega)
  obtain ⟨hE1, hE2, hE3, hE4⟩ : o.epoch = y.epoch ∧ o.link = L1 ∧ o.done = y.done ∧ o.failed = y.failed := by rw [ho]; exact ⟨rfl, rfl, rfl, rfl⟩
  clear ho
  refine Ok.skip ?_
  refine Ok.region ?_
  iterate 2 (refine EV ?_)
  refine OE ?_
  refine ON ?_
  refine Ok.seq ?_
  rw [hoP]
  refine Ok.seqC [(88, .bool (doneB o))] [78, 79, 80, 81, 82, 83, 84, 85, 86, 87] (by simp only [kover] <;> rfl) ?_ ?_
  ·
   refine Ok.region ?_
   iterate 4 (refine EV ?_)
   refine OP (d := 81) (fun hg16_3 => ?_) (fun hg16_3 => ?_)
   ·
    try simp only [bsimp] at hg16_3
    iterate 6 (refine OU ?_)
    refine EV ?_
    refine ON ?_
    refine ⟨rfl, ?_, rfl, rfl⟩
    (repeat (first | exact trivial | refine leC ?_ | refine leK ?_ ?_)) <;> first | (refine .inl (congrArg V.bool ?_); (first | (simp [doneB, hot, *]; done) | (simp_all [doneB]; done))) | exact le_rfl' _
   try simp only [bsimp] at hg16_3
   iterate 5 (refine OX ?_)
   refine OO ?_
   iterate 2 (refine EV ?_)
   refine ON ?_
   refine ⟨rfl, ?_, rfl, rfl⟩
   (repeat (first | exact trivial | refine leC ?_ | refine leK ?_ ?_)) <;> first | (refine .inl (congrArg V.bool ?_); (first | (simp [doneB, hot, *]; done) | (simp_all [doneB]; done))) | exact le_rfl' _
  refine OC (fun hb16 => ?_) (fun hb16 => ?_)
  ·
   try simp only [bsimp] at hb16
   rw [done_no hb16]
   refine OQ ?_
   refine EV ?_
   refine OE ?_
   refine EV ?_
   refine ON ?_
   refine Ok.ret ?_
   with_reducible repeat (first | refine thenQ_ret ?_ | refine blockQ_ret ?_)
   refine RT ?_
   first | rfl | (simp [V.erase, V.trav, V.travL, V.travLL, packV, zz, zf, zy, hE1, hE2, hE3, hE4, hoP, hot]; done) | (simp [-List.map_append, V.erase, V.trav, V.travL, V.travLL, packV, zz, zf, zy]; done) | (simp [V.erase, V.trav, V.travL, V.travLL, packV, zz, zf, zy]; done)
  try simp only [bsimp] at hb16
  rw [done_yes hb16]
  refine Ok.skip ?_
  refine OQ ?_
  refine EV ?_
  refine ON ?_
  refine Ok.seq ?_
  refine OQ ?_
  iterate 4 (refine EV ?_)
  refine ON ?_
  refine Ok.block ?_
  refine Ok.loopW (τ := Nat) (fun x => [(13, .str ((o.pieces.take x).flatten)), (93, .int .i64 (x : Int))]) [15, 94, 95, 96, 97, 98, 99, 100] (fun x => by simp only [kover] <;> rfl) (fun x => x ≤ o.pieces.length) (fun x => o.pieces.length - x) 0 (by (repeat (first | exact trivial | refine leC ?_ | refine leK ?_ ?_)) <;> first | (first | exact le_rfl' _ | exact le_eqm rfl) | exact le_rfl' _) (Nat.zero_le _) ?_
  rintro i h1
  refine OQ ?_
  refine EV ?_
  refine ON ?_
  refine Ok.seq ?_
  refine OC (fun hb20 => ?_) (fun hb20 => ?_)
  ·
   try simp only [bsimp] at hb20
   have hi : i < o.pieces.length := by omega
   have hfl := flat_take hi
   have hfb := flatT_le (l := o.pieces) (i + 1)
   rw [hfl, List.length_append] at hfb
   refine Ok.skip ?_
   refine Ok.seq ?_
   refine Ok.block ?_
   refine OQ ?_
   refine OkOps.ev tab_ok rfl (ev_idx_map (by simp only [kE, kT, kL, kC] <;> rfl) (by simp only [kE, kT, kL, kC] <;> rfl) (by omega) (by simp only [kE, kT, kL, kC] <;> rfl)) (by simp only [kP] <;> rfl) ?_
   iterate 2 (refine EV ?_)
   refine ON ?_
   refine Ok.region ?_
   iterate 2 (refine EV ?_)
   refine OkOps.ev tab_ok rfl (ev_cat (by simp only [kE, kT, kL, kC] <;> rfl) (by simp only [kE, kT, kL, kC] <;> rfl) (by first | omega | (simp only [List.length_append, List.length_cons, List.length_nil] at *; omega))) (by simp only [kP] <;> rfl) ?_
   refine EV ?_
   refine ON ?_
   refine Ok.region ?_
   iterate 2 (refine EV ?_)
   refine ON ?_
   refine ⟨i + 1, ?_, rfl, rfl, by omega, by omega⟩
   (repeat (first | exact trivial | refine leC ?_ | refine leK ?_ ?_)) <;> first | (first | exact le_rfl' _ | (rw [wrap_add_one (by omega)]; exact le_rfl' _) | (rw [hfl]; exact le_rfl' _)) | exact le_rfl' _
  try simp only [bsimp] at hb20
  rw [show i = o.pieces.length by omega, List.take_length]
  refine Ok.exit ?_
  refine OQ ?_
  iterate 2 (refine EV ?_)
  refine OE ?_
  refine EV ?_
  refine ON ?_
  refine Ok.ret ?_
  with_reducible repeat (first | refine thenQ_ret ?_ | refine blockQ_ret ?_)
  refine RT ?_
  first | rfl | (simp [V.erase, V.trav, V.travL, V.travLL, packV, zz, zf, zy, hE1, hE2, hE3, hE4, hoP, hot]; done) | (simp [-List.map_append, V.erase, V.trav, V.travL, V.travLL, packV, zz, zf, zy]; done) | (simp [V.erase, V.trav, V.travL, V.travLL, packV, zz, zf, zy]; done)
 try simp only [bsimp] at hb8
 refine Ok.seqC [(63, .bool (isB 80 T))] [64, 65, 66, 67, 68, 69, 70] (by simp only [kover] <;> rfl) ?_ ?_
 ·
  refine Ok.region ?_
  iterate 3 (refine EV ?_)
  refine OP (d := 66) (fun hg14_2 => ?_) (fun hg14_2 => ?_)
  ·
   try simp only [bsimp] at hg14_2
   refine OX ?_
   refine OO ?_
   refine OkOps.ev tab_ok rfl (ev_byte_lt (j := 0) (by simp only [kE, kT, kL, kC] <;> rfl) (by simp only [kE, kT, kL, kC] <;> rfl) (List.length_pos_iff.2 (by simpa using hg14_2)) rfl) (by simp only [kP] <;> rfl) ?_
   refine OO ?_
   iterate 3 (refine EV ?_)
   refine ON ?_
   refine ⟨rfl, ?_, rfl, rfl⟩
   (repeat (first | exact trivial | refine leC ?_ | refine leK ?_ ?_)) <;> first | (refine .inl (congrArg V.bool ?_); (first | exact isB84 _ | exact isB80 _ | (simp_all [isB]; done))) | exact le_rfl' _
  try simp only [bsimp] at hg14_2
  iterate 3 (refine OU ?_)
  iterate 2 (refine EV ?_)
  refine ON ?_
  refine ⟨rfl, ?_, rfl, rfl⟩
  (repeat (first | exact trivial | refine leC ?_ | refine leK ?_ ?_)) <;> first | (refine .inl (congrArg V.bool ?_); (first | exact isB84 _ | exact isB80 _ | (simp_all [isB]; done))) | exact le_rfl' _
 refine OC (fun hb14 => ?_) (fun hb14 => ?_)
 ·
  try simp only [bsimp] at hb14
  rw [syncText_P hb8 hb14]
  obtain ⟨r, hxr⟩ := isB_cond.1 hb14
  have hT1 : 1 ≤ T.length := by rw [hxr]; simp
  obtain ⟨o, ho⟩ : ∃ o : Sync, o = { y with link := L1, pieces := y.pieces ++ [T.drop 1] } := ⟨_, rfl⟩
  rw [← ho]
  have hot : o.total = y.total := by rw [ho]
  have hol : o.pieces.length ≤ 2097152 := by rw [ho]; show (y.pieces ++ [_]).length ≤ _; have := h.2.1; simp only [List.length_append, List.length_singleton]; omega
  have hoP : y.pieces.map cS ++ [[V.str (T.drop 1)]] = o.pieces.map cS := by rw [ho]; simp
  obtain ⟨hE1, hE2, hE3, hE4⟩ : o.epoch = y.epoch ∧ o.link = L1 ∧ o.done = y.done ∧ o.failed = y.failed := by rw [ho]; exact ⟨rfl, rfl, rfl, rfl⟩
  have hop : o.pieces.flatten.length ≤ 2000000 := by rw [ho]; show (y.pieces ++ [T.drop 1]).flatten.length ≤ _; simp only [List.flatten_append, List.flatten_cons, List.flatten_nil, List.append_nil, List.length_append, List.length_drop]; omega
  clear ho
  refine Ok.drawn 5 103 [] (by kernel_rfl) (by kernel_rfl) rfl ?_
  iterate 3 (refine SV ?_)
  refine SOps.ev tab_ok rfl (ev_cutLo (a := 1) (by simp only [kE, kT, kL, kC] <;> rfl) (by simp only [kE, kT, kL, kC] <;> rfl) rfl (by omega)) (by simp only [kP] <;> rfl) ?_
  refine SOps.ev tab_ok rfl (ev_bs (by simp only [kT] <;> rfl) (by simp only [kT] <;> rfl) (by decide) (by decide) (by simp only [kE, kT, kL, kC, List.map_cons, List.map_nil] <;> rfl) (by simp only [kfe, beq_self_eq_true, Bool.and_true, Bool.true_and, decide_true, Nat.zero_add, Nat.lt_add_one, Nat.reduceLT, Nat.reduceAdd, Nat.zero_lt_succ, if_true, ↓reduceIte] <;> rfl)) (by simp only [kP] <;> rfl) ?_
  refine SOps.nil ?_
  refine TOps.append tab_ok rfl rfl (by simp only [kT] <;> rfl) (by simp only [kT] <;> rfl) (by decide) rfl (by simp only [kE, kT, kL, kC] <;> rfl) (.inl ⟨_, _, by simp only [kE, kT, kL, kC] <;> rfl⟩) (by omega) (by omega) (by have := h.2.1; simp only [List.length_map, List.length_cons, List.length_nil]; omega) (by have := h.2.1; simp only [List.length_map, List.length_cons, List.length_nil]; omega) (by simp [V.one]) (by simp only [V.killL, V.killLL, V.travL, V.travLL, V.trav, killS, killP, Nat.reduceEqDiff, ↓reduceIte, reduceCtorEq, if_true, if_false, List.append_nil, List.nil_append, List.cons_append, zz, zf, zy] <;> rfl) (by simp only [V.killL, V.killLL, V.travL, V.travLL, V.trav, killS, killP, Nat.reduceEqDiff, ↓reduceIte, reduceCtorEq, if_true, if_false, List.append_nil, List.nil_append, List.cons_append, zz, zf, zy, kP] <;> rfl) (rfl) ?_
  refine TV ?_
  refine TOps.storeE tab_ok rfl rfl (by simp only [kE, kT, kL, kC] <;> rfl) ⟨_, _, by simp only [kE]; rfl⟩ (by first | (simp [V.labelsL, V.labelsLL, V.labels, zz, zf, zy]; done) | (simp [-List.map_map, -List.map_set, -List.map_drop, -List.map_take, -List.map_tail, -List.drop_one, V.labelsL, V.labelsLL, V.labels, zz, zf, zy]; done)) (by simp only [eq_self, V.updL, V.travL, V.travLL, V.trav, updS, updP, and_self, true_and, and_true, false_and, and_false, Nat.reduceEqDiff, Nat.reduceSub, Nat.le_refl, Nat.zero_le, ↓reduceIte, if_true, if_false, kP, zz, zf, zy] <;> rfl) (rfl) ?_
  refine TOps.nil ?_
  refine Ok.seq ?_
  rw [hoP]
  refine Ok.seqC [(88, .bool (doneB o))] [78, 79, 80, 81, 82, 83, 84, 85, 86, 87] (by simp only [kover] <;> rfl) ?_ ?_
  ·
   refine Ok.region ?_
   iterate 4 (refine EV ?_)
   refine OP (d := 81) (fun hg16_3 => ?_) (fun hg16_3 => ?_)
   ·
    try simp only [bsimp] at hg16_3
    iterate 6 (refine OU ?_)
    refine EV ?_
    refine ON ?_
    refine ⟨rfl, ?_, rfl, rfl⟩
    (repeat (first | exact trivial | refine leC ?_ | refine leK ?_ ?_)) <;> first | (refine .inl (congrArg V.bool ?_); (first | (simp [doneB, hot, *]; done) | (simp_all [doneB]; done))) | exact le_rfl' _
   try simp only [bsimp] at hg16_3
   iterate 5 (refine OX ?_)
   refine OO ?_
   iterate 2 (refine EV ?_)
   refine ON ?_
   refine ⟨rfl, ?_, rfl, rfl⟩
   (repeat (first | exact trivial | refine leC ?_ | refine leK ?_ ?_)) <;> first | (refine .inl (congrArg V.bool ?_); (first | (simp [doneB, hot, *]; done) | (simp_all [doneB]; done))) | exact le_rfl' _
  refine OC (fun hb16 => ?_) (fun hb16 => ?_)
  ·
   try simp only [bsimp] at hb16
   rw [done_no hb16]
   refine OQ ?_
   refine EV ?_
   refine OE ?_
   refine EV ?_
   refine ON ?_
   refine Ok.ret ?_
   with_reducible repeat (first | refine thenQ_ret ?_ | refine blockQ_ret ?_)
   refine RT ?_
   first | rfl | (simp [V.erase, V.trav, V.travL, V.travLL, packV, zz, zf, zy, hE1, hE2, hE3, hE4, hoP, hot]; done) | (simp [-List.map_append, V.erase, V.trav, V.travL, V.travLL, packV, zz, zf, zy]; done) | (simp [V.erase, V.trav, V.travL, V.travLL, packV, zz, zf, zy]; done)
  try simp only [bsimp] at hb16
  rw [done_yes hb16]
  refine Ok.skip ?_
  refine OQ ?_
  refine EV ?_
  refine ON ?_
  refine Ok.seq ?_
  refine OQ ?_
  iterate 4 (refine EV ?_)
  refine ON ?_
  refine Ok.block ?_
  refine Ok.loopW (τ := Nat) (fun x => [(13, .str ((o.pieces.take x).flatten)), (93, .int .i64 (x : Int))]) [15, 94, 95, 96, 97, 98, 99, 100] (fun x => by simp only [kover] <;> rfl) (fun x => x ≤ o.pieces.length) (fun x => o.pieces.length - x) 0 (by (repeat (first | exact trivial | refine leC ?_ | refine leK ?_ ?_)) <;> first | (first | exact le_rfl' _ | exact le_eqm rfl) | exact le_rfl' _) (Nat.zero_le _) ?_
  rintro i h1
  refine OQ ?_
  refine EV ?_
  refine ON ?_
  refine Ok.seq ?_
  refine OC (fun hb20 => ?_) (fun hb20 => ?_)
  ·
   try simp only [bsimp] at hb20
   have hi : i < o.pieces.length := by omega
   have hfl := flat_take hi
   have hfb := flatT_le (l := o.pieces) (i + 1)
   rw [hfl, List.length_append] at hfb
   refine Ok.skip ?_
   refine Ok.seq ?_
   refine Ok.block ?_
   refine OQ ?_
   refine OkOps.ev tab_ok rfl (ev_idx_map (by simp only [kE, kT, kL, kC] <;> rfl) (by simp only [kE, kT, kL, kC] <;> rfl) (by omega) (by simp only [kE, kT, kL, kC] <;> rfl)) (by simp only [kP] <;> rfl) ?_
   iterate 2 (refine EV ?_)
   refine ON ?_
   refine Ok.region ?_
   iterate 2 (refine EV ?_)
   refine OkOps.ev tab_ok rfl (ev_cat (by simp only [kE, kT, kL, kC] <;> rfl) (by simp only [kE, kT, kL, kC] <;> rfl) (by first | omega | (simp only [List.length_append, List.length_cons, List.length_nil] at *; omega))) (by simp only [kP] <;> rfl) ?_
   refine EV ?_
   refine ON ?_
   refine Ok.region ?_
   iterate 2 (refine EV ?_)
   refine ON ?_
   refine ⟨i + 1, ?_, rfl, rfl, by omega, by omega⟩
   (repeat (first | exact trivial | refine leC ?_ | refine leK ?_ ?_)) <;> first | (first | exact le_rfl' _ | (rw [wrap_add_one (by omega)]; exact le_rfl' _) | (rw [hfl]; exact le_rfl' _)) | exact le_rfl' _
  try simp only [bsimp] at hb20
  rw [show i = o.pieces.length by omega, List.take_length]
  refine Ok.exit ?_
  refine OQ ?_
  iterate 2 (refine EV ?_)
  refine OE ?_
  refine EV ?_
  refine ON ?_
  refine Ok.ret ?_
  with_reducible repeat (first | refine thenQ_ret ?_ | refine blockQ_ret ?_)
  refine RT ?_
  first | rfl | (simp [V.erase, V.trav, V.travL, V.travLL, packV, zz, zf, zy, hE1, hE2, hE3, hE4, hoP, hot]; done) | (simp [-List.map_append, V.erase, V.trav, V.travL, V.travLL, packV, zz, zf, zy]; done) | (simp [V.erase, V.trav, V.travL, V.travLL, packV, zz, zf, zy]; done)
 try simp only [bsimp] at hb14
 rw [syncText_X hb8 hb14]
 refine OQ ?_
 refine EV ?_
 refine OE ?_
 refine ON ?_
 refine OQ ?_
 refine EV ?_
 refine OE ?_
 refine EV ?_
 refine ON ?_
 refine Ok.ret ?_
 with_reducible repeat (first | refine thenQ_ret ?_ | refine blockQ_ret ?_)
 refine RT ?_
 first | rfl | (simp [V.erase, V.trav, V.travL, V.travLL, packV, zz, zf, zy, hE1, hE2, hE3, hE4, hoP, hot]; done) | (simp [-List.map_append, V.erase, V.trav, V.travL, V.travLL, packV, zz, zf, zy]; done) | (simp [V.erase, V.trav, V.travL, V.travLL, packV, zz, zf, zy]; done)
end Go.Proofs.YtjhfabimacljhaaGreat.K
