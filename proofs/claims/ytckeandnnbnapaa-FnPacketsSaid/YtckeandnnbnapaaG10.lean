/- The walk of FnPackets. Printed by w2.py. -/
import Derived.Test.YtckeandnnbnapaaG8
import Derived.Test.YtckeandnnbnapaaG5
import Derived.Test.YtckeandnnbnapaaG9
namespace Go.Proofs.Ytckeandnnbnapaa.K
open Go Go.RowKit
set_option linter.unusedVariables false
set_option linter.unusedSimpArgs false
set_option maxHeartbeats 4000000
set_option maxRecDepth 20000
theorem sealed_len (s : Str) : ((sealed s).getD []).length ≤ 20004 := by
  unfold sealed
  split
  · simp
  · simp only [Option.getD_some]; unfold sealT; rw [List.length_append, fourT_len]; omega
theorem readD_len (code : Str) : (readD code).length ≤ 4611686018427387904 := by
  unfold readD
  split
  · exact Nat.le_trans (sealed_len _) (by decide)
  · exact Nat.le_trans (readT_len _) (by decide)
theorem pick_ack (c : Cur) : (pickI c [-9223372036854775808, 9223372036854775807]).1 ≤ 9223372036854775807 := by
  have h := pickI_mem (c := c) (xs := [-9223372036854775808, 9223372036854775807]) (Nat.succ_pos _)
  generalize (pickI c [-9223372036854775808, 9223372036854775807]).1 = z at h ⊢
  simp only [List.mem_cons, List.not_mem_nil, or_false] at h
  omega
theorem pack0_ack (c : Cur) : (pack0 c).1.ack ≤ 9223372036854775807 := by
  unfold pack0; simp only []
  have := curBelow_lt (c := (curBelow (curBelow c 3).2 5).2) (n := 6) (by decide); omega
theorem packD_ack (c : Cur) : (packD c).1.ack ≤ 9223372036854775807 := by
  have h0 := pack0_ack c
  by_cases h1 : (curBelow (pack0 c).2 12).1 = 0
  · rw [packD_0 h1]; exact h0
  by_cases h2 : (curBelow (pack0 c).2 12).1 = 1
  · rw [packD_1 h2]; dsimp only; exact pick_ack _
  by_cases h3 : (curBelow (pack0 c).2 12).1 = 2
  · rw [packD_2 h3]; exact h0
  · rw [packD_n h1 h2 h3]; exact h0
theorem hears_next (code : Str) : 1 ≤ (hearsL code).next ∧ (hearsL code).next ≤ 1000 := by
  have h := linkD_next (curBelow (curNew code) 3).2
  exact ⟨h.1, Int.le_trans h.2.1 (by decide)⟩
theorem hearsP0_ack (code : Str) : (hearsP0 code).ack ≤ 9223372036854775807 := by
  delta hearsP0
  exact packD_ack _
theorem ite_ack {p q : Packet} {b : Prop} [Decidable b] {N : Int} (hp : p.ack ≤ N) (hq : q.ack ≤ N) : (if b then p else q).ack ≤ N := by split <;> assumption
theorem hearsP1_ack (code : Str) : (hearsP1 code).ack ≤ 9223372036854775807 := by
  have h := hearsP0_ack code
  unfold hearsP1
  generalize (9223372036854775807 : Int) = N at h ⊢
  generalize hearsP0 code = p at h ⊢
  exact ite_ack h h
theorem hearsD_ack (code : Str) : (hearsD code).ack ≤ 9223372036854775807 := by
  have h := hearsP1_ack code
  have h3 : IntKind.i64.wrap ((hearsL code).next + 1) ≤ 9223372036854775807 := by
    have h2 := hears_next code
    generalize (hearsL code).next = z at h2 ⊢
    rw [IntKind.wrap_i64]; omega
  unfold hearsD
  generalize hearsP1 code = p at h ⊢
  generalize IntKind.i64.wrap ((hearsL code).next + 1) = e at h3 ⊢
  exact ite_ack h3 h
theorem hears_ok (code : Str) : hearsS (hearsL code) (hearsD code) = linkHears (hearsL code) (hearsD code) := hears_same (hears_next code) (hearsD_ack code)
theorem eqV_Packet (a b : Packet) : eqV tab 4 25 (.agg (cPacket a)) (.agg (cPacket b)) = some (decide (a = b)) := by
  have h : eqV tab 4 25 (.agg (cPacket a)) (.agg (cPacket b)) = some (decide (a.epoch = b.epoch) && (decide (a.seq = b.seq) && (decide (a.ack = b.ack) && (decide (a.text = b.text) && true)))) := rfl
  rw [h]
  cases a; cases b
  simp [Bool.eq_iff_iff]
theorem w_laws_FnPackets (code : Str) (hc : code.length ≤ 4611686018427387904) : Weak Try.prog 3 [.sl 0 1 0 (code.map cB)] (.bool true) := by
 have hrl := readD_len code
 have hhs := hears_ok code
 refine Weak.enter tab_ok Try.func3 rfl (.inr (by simp [V.labelsL, V.labels, zz])) (t := [.sl 0 1 0 (code.map cB), .any, .any, .any, .any, .any, .any, .any, .any, .any, .any, .any, .any, .any, .any, .any, .any, .any, .any, .any, .any, .any, .any, .any, .any, .any, .any, .any, .any, .any, .any, .any, .any, .any, .any, .any, .any, .any, .any, .any, .any, .any, .any, .any, .any, .any, .any, .any, .any, .any, .any, .any, .any, .any, .any, .any, .any, .any, .any, .any, .any, .any, .any, .any, .any, .any, .any, .any, .any, .any, .any, .any, .any, .any, .any, .any, .any, .any, .any, .any, .any, .any, .any, .any, .any, .any, .any, .any, .any, .any, .any, .any, .any, .any, .any, .any, .any, .any, .any, .any, .any, .any, .any, .any, .any, .any, .any, .any, .any, .any, .any, .any, .any, .any, .any, .any, .any, .any, .any, .any, .any, .any, .any, .any, .any, .any, .any, .any, .any, .any, .any, .any, .any, .any, .any, .any, .any, .any, .any, .any, .any, .any, .any, .any, .any, .any, .any, .any, .any, .any, .any, .any, .any, .any, .any, .any, .any, .any, .any, .any, .any, .any, .any, .any]) rfl ?_
 refine OQ ?_
 refine EV ?_
 refine ON ?_
 refine Ok.seq ?_
 refine OQ ?_
 refine EV ?_
 refine OkOps.S0 rfl (OpS.weak' rfl (by simp only [kE, kT, kL, kC] <;> rfl) (by simp only [kE, kT, kL, kC] <;> rfl) cl4 (w_laws_big code)) (by simp only [kP] <;> rfl) ?_
 refine ON ?_
 refine Ok.cond (b := _) (by simp only [kE, kT, kL, kC] <;> rfl) (fun hb1 => ?_) (fun hb1 => ?_)
 ·
  try simp only [bsimp] at hb1
  refine OQ ?_
  refine EV ?_
  refine ON ?_
  refine Ok.ret ?_
  with_reducible repeat (first | refine thenQ_ret ?_ | refine blockQ_ret ?_)
  refine RT ?_
  first | rfl | (simp; done)
 ·
  try simp only [bsimp] at hb1
  refine Ok.skip ?_
  refine OQ ?_
  refine EV ?_
  refine OkOps.S0 rfl (OpS.weak' rfl (by simp only [kE, kT, kL, kC] <;> rfl) (by simp only [kE, kT, kL, kC] <;> rfl) cl5 (w_spec_DrawPacketText code hc)) (by simp only [kP] <;> rfl) ?_
  refine EV ?_
  refine OkOps.storeE tab_ok rfl rfl (by simp only [kE, kT, kL, kC] <;> rfl) ⟨_, _, by simp only [kE]; rfl⟩ (by first | (simp [V.labelsL, V.labelsLL, V.labels, zz]; done) | (simp [-List.map_map, -List.map_set, -List.map_drop, -List.map_take, -List.map_tail, -List.drop_one, V.labelsL, V.labelsLL, V.labels, zz]; done)) (by simp only [eq_self, V.updL, V.travL, V.travLL, V.trav, updS, updP, and_self, true_and, and_true, false_and, and_false, Nat.reduceEqDiff, Nat.reduceSub, Nat.le_refl, Nat.zero_le, ↓reduceIte, if_true, if_false, kP, zz] <;> rfl) (rfl) ?_
  refine ON ?_
  refine OQ ?_
  refine EV ?_
  refine OkOps.S0 rfl (OpS.weak' rfl (by simp only [kE, kT, kL, kC] <;> rfl) (by simp only [kE, kT, kL, kC] <;> rfl) cl6 (w_impl_PacketText (packD (curNew code)).1)) (by simp only [kP] <;> rfl) ?_
  iterate 5 (refine EV ?_)
  refine ON ?_
  refine OQ ?_
  refine EV ?_
  refine OkOps.S0 rfl (OpS.weak' rfl (by simp only [kE, kT, kL, kC] <;> rfl) (by simp only [kE, kT, kL, kC] <;> rfl) cl7 (w_spec_PacketText (packD (curNew code)).1)) (by simp only [kP] <;> rfl) ?_
  iterate 5 (refine EV ?_)
  refine ON ?_
  refine OQ ?_
  refine EV ?_
  refine OkOps.S0 rfl (OpS.weak' rfl (by simp only [kE, kT, kL, kC] <;> rfl) (by simp only [kE, kT, kL, kC] <;> rfl) cl8 (w_impl_ReadPacket ((packetText (packD (curNew code)).1).getD []) (Nat.le_trans (packetText_len _) (by decide)))) (by simp only [kP] <;> rfl) ?_
  iterate 4 (refine EV ?_)
  refine OkOps.storeE tab_ok rfl rfl (by simp only [kE, kT, kL, kC] <;> rfl) ⟨_, _, by simp only [kE]; rfl⟩ (by first | (simp [V.labelsL, V.labelsLL, V.labels, zz]; done) | (simp [-List.map_map, -List.map_set, -List.map_drop, -List.map_take, -List.map_tail, -List.drop_one, V.labelsL, V.labelsLL, V.labels, zz]; done)) (by simp only [eq_self, V.updL, V.travL, V.travLL, V.trav, updS, updP, and_self, true_and, and_true, false_and, and_false, Nat.reduceEqDiff, Nat.reduceSub, Nat.le_refl, Nat.zero_le, ↓reduceIte, if_true, if_false, kP, zz] <;> rfl) (rfl) ?_
  refine EV ?_
  refine ON ?_
  refine OQ ?_
  refine EV ?_
  refine OkOps.S0 rfl (OpS.weak' rfl (by simp only [kE, kT, kL, kC] <;> rfl) (by simp only [kE, kT, kL, kC] <;> rfl) cl9 (w_spec_DrawReadPacket code hc)) (by simp only [kP] <;> rfl) ?_
  refine EV ?_
  refine ON ?_
  refine OQ ?_
  refine EV ?_
  refine OkOps.S0 rfl (OpS.weak' rfl (by simp only [kE, kT, kL, kC] <;> rfl) (by simp only [kE, kT, kL, kC] <;> rfl) cl8 (w_impl_ReadPacket (readD code) hrl)) (by simp only [kP] <;> rfl) ?_
  iterate 4 (refine EV ?_)
  refine OkOps.storeE tab_ok rfl rfl (by simp only [kE, kT, kL, kC] <;> rfl) ⟨_, _, by simp only [kE]; rfl⟩ (by first | (simp [V.labelsL, V.labelsLL, V.labels, zz]; done) | (simp [-List.map_map, -List.map_set, -List.map_drop, -List.map_take, -List.map_tail, -List.drop_one, V.labelsL, V.labelsLL, V.labels, zz]; done)) (by simp only [eq_self, V.updL, V.travL, V.travLL, V.trav, updS, updP, and_self, true_and, and_true, false_and, and_false, Nat.reduceEqDiff, Nat.reduceSub, Nat.le_refl, Nat.zero_le, ↓reduceIte, if_true, if_false, kP, zz] <;> rfl) (rfl) ?_
  refine EV ?_
  refine ON ?_
  refine OQ ?_
  refine EV ?_
  refine OkOps.S0 rfl (OpS.weak' rfl (by simp only [kE, kT, kL, kC] <;> rfl) (by simp only [kE, kT, kL, kC] <;> rfl) cl10 (w_spec_ReadPacket (readD code) hrl)) (by simp only [kP] <;> rfl) ?_
  iterate 4 (refine EV ?_)
  refine OkOps.storeE tab_ok rfl rfl (by simp only [kE, kT, kL, kC] <;> rfl) ⟨_, _, by simp only [kE]; rfl⟩ (by first | (simp [V.labelsL, V.labelsLL, V.labels, zz]; done) | (simp [-List.map_map, -List.map_set, -List.map_drop, -List.map_take, -List.map_tail, -List.drop_one, V.labelsL, V.labelsLL, V.labels, zz]; done)) (by simp only [eq_self, V.updL, V.travL, V.travLL, V.trav, updS, updP, and_self, true_and, and_true, false_and, and_false, Nat.reduceEqDiff, Nat.reduceSub, Nat.le_refl, Nat.zero_le, ↓reduceIte, if_true, if_false, kP, zz] <;> rfl) (rfl) ?_
  refine EV ?_
  refine ON ?_
  refine OQ ?_
  refine EV ?_
  refine OkOps.S0 rfl (OpS.weak' rfl (by simp only [kE, kT, kL, kC] <;> rfl) (by simp only [kE, kT, kL, kC] <;> rfl) cl6 (w_impl_PacketText ((readS (readD code)).getD ⟨0, 0, 0, []⟩))) (by simp only [kP] <;> rfl) ?_
  iterate 5 (refine EV ?_)
  refine ON ?_
  refine OQ ?_
  refine EV ?_
  refine OkOps.S0 rfl (OpS.weak' rfl (by simp only [kE, kT, kL, kC] <;> rfl) (by simp only [kE, kT, kL, kC] <;> rfl) cl11 (w_spec_DrawLinkHears code hc)) (by simp only [kP] <;> rfl) ?_
  iterate 5 (refine EV ?_)
  refine OkOps.storeE tab_ok rfl rfl (by simp only [kE, kT, kL, kC] <;> rfl) ⟨_, _, by simp only [kE]; rfl⟩ (by first | (simp [V.labelsL, V.labelsLL, V.labels, zz]; done) | (simp [-List.map_map, -List.map_set, -List.map_drop, -List.map_take, -List.map_tail, -List.drop_one, V.labelsL, V.labelsLL, V.labels, zz]; done)) (by simp only [eq_self, V.updL, V.travL, V.travLL, V.trav, updS, updP, and_self, true_and, and_true, false_and, and_false, Nat.reduceEqDiff, Nat.reduceSub, Nat.le_refl, Nat.zero_le, ↓reduceIte, if_true, if_false, kP, zz] <;> rfl) (rfl) ?_
  refine OkOps.storeE tab_ok rfl rfl (by simp only [kE, kT, kL, kC] <;> rfl) ⟨_, _, by simp only [kE]; rfl⟩ (by first | (simp [V.labelsL, V.labelsLL, V.labels, zz]; done) | (simp [-List.map_map, -List.map_set, -List.map_drop, -List.map_take, -List.map_tail, -List.drop_one, V.labelsL, V.labelsLL, V.labels, zz]; done)) (by simp only [eq_self, V.updL, V.travL, V.travLL, V.trav, updS, updP, and_self, true_and, and_true, false_and, and_false, Nat.reduceEqDiff, Nat.reduceSub, Nat.le_refl, Nat.zero_le, ↓reduceIte, if_true, if_false, kP, zz] <;> rfl) (rfl) ?_
  refine ON ?_
  refine OQ ?_
  iterate 2 (refine EV ?_)
  refine OkOps.S0 rfl (OpS.weak' rfl (by simp only [kE, kT, kL, kC] <;> rfl) (by simp only [kE, kT, kL, kC] <;> rfl) cl12 (w_impl_LinkHears (hearsL code) (hearsD code) (Nat.le_trans (linkD_way _) (by decide)))) (by simp only [kP] <;> rfl) ?_
  iterate 5 (refine EV ?_)
  refine OkOps.storeE tab_ok rfl rfl (by simp only [kE, kT, kL, kC] <;> rfl) ⟨_, _, by simp only [kE]; rfl⟩ (by first | (simp [V.labelsL, V.labelsLL, V.labels, zz]; done) | (simp [-List.map_map, -List.map_set, -List.map_drop, -List.map_take, -List.map_tail, -List.drop_one, V.labelsL, V.labelsLL, V.labels, zz]; done)) (by simp only [eq_self, V.updL, V.travL, V.travLL, V.trav, updS, updP, and_self, true_and, and_true, false_and, and_false, Nat.reduceEqDiff, Nat.reduceSub, Nat.le_refl, Nat.zero_le, ↓reduceIte, if_true, if_false, kP, zz] <;> rfl) (rfl) ?_
  iterate 2 (refine EV ?_)
  refine ON ?_
  refine OQ ?_
  iterate 2 (refine EV ?_)
  refine OkOps.S0 rfl (OpS.weak' rfl (by simp only [kE, kT, kL, kC] <;> rfl) (by simp only [kE, kT, kL, kC] <;> rfl) cl13 (w_spec_LinkHears (hearsL code) (hearsD code) (Nat.le_trans (linkD_way _) (by decide)))) (by simp only [kP] <;> rfl) ?_
  refine EV ?_
  iterate 3 (refine OkOps.ev tab_ok rfl (by simp only [kE, kT, kL, kC, hhs] <;> rfl) (by simp only [kP] <;> rfl) ?_)
  refine EV ?_
  refine OkOps.storeE tab_ok rfl rfl (by simp only [kE, kT, kL, kC] <;> rfl) ⟨_, _, by simp only [kE]; rfl⟩ (by first | (simp [V.labelsL, V.labelsLL, V.labels, zz]; done) | (simp [-List.map_map, -List.map_set, -List.map_drop, -List.map_take, -List.map_tail, -List.drop_one, V.labelsL, V.labelsLL, V.labels, zz]; done)) (by simp only [eq_self, V.updL, V.travL, V.travLL, V.trav, updS, updP, and_self, true_and, and_true, false_and, and_false, Nat.reduceEqDiff, Nat.reduceSub, Nat.le_refl, Nat.zero_le, ↓reduceIte, if_true, if_false, kP, zz] <;> rfl) (rfl) ?_
  iterate 2 (refine EV ?_)
  refine ON ?_
  refine OQ ?_
  refine EV ?_
  refine OkOps.S0 rfl (OpS.weak' rfl (by simp only [kE, kT, kL, kC] <;> rfl) (by simp only [kE, kT, kL, kC] <;> rfl) cl14 (w_spec_DrawLinkPut code hc)) (by simp only [kP] <;> rfl) ?_
  iterate 4 (refine EV ?_)
  refine OkOps.storeE tab_ok rfl rfl (by simp only [kE, kT, kL, kC] <;> rfl) ⟨_, _, by simp only [kE]; rfl⟩ (by first | (simp [V.labelsL, V.labelsLL, V.labels, zz]; done) | (simp [-List.map_map, -List.map_set, -List.map_drop, -List.map_take, -List.map_tail, -List.drop_one, V.labelsL, V.labelsLL, V.labels, zz]; done)) (by simp only [eq_self, V.updL, V.travL, V.travLL, V.trav, updS, updP, and_self, true_and, and_true, false_and, and_false, Nat.reduceEqDiff, Nat.reduceSub, Nat.le_refl, Nat.zero_le, ↓reduceIte, if_true, if_false, kP, zz] <;> rfl) (rfl) ?_
  refine EV ?_
  refine ON ?_
  refine OQ ?_
  iterate 2 (refine EV ?_)
  refine OkOps.S0 rfl (OpS.weak' rfl (by simp only [kE, kT, kL, kC] <;> rfl) (by simp only [kE, kT, kL, kC] <;> rfl) cl15 (w_impl_LinkPut (putL code) (putT code) (Nat.le_trans (putL_way code) (by decide)))) (by simp only [kP] <;> rfl) ?_
  iterate 4 (refine EV ?_)
  refine OkOps.storeE tab_ok rfl rfl (by simp only [kE, kT, kL, kC] <;> rfl) ⟨_, _, by simp only [kE]; rfl⟩ (by first | (simp [V.labelsL, V.labelsLL, V.labels, zz]; done) | (simp [-List.map_map, -List.map_set, -List.map_drop, -List.map_take, -List.map_tail, -List.drop_one, V.labelsL, V.labelsLL, V.labels, zz]; done)) (by simp only [eq_self, V.updL, V.travL, V.travLL, V.trav, updS, updP, and_self, true_and, and_true, false_and, and_false, Nat.reduceEqDiff, Nat.reduceSub, Nat.le_refl, Nat.zero_le, ↓reduceIte, if_true, if_false, kP, zz] <;> rfl) (rfl) ?_
  refine EV ?_
  refine ON ?_
  refine OQ ?_
  iterate 2 (refine EV ?_)
  refine OkOps.S0 rfl (OpS.weak' rfl (by simp only [kE, kT, kL, kC] <;> rfl) (by simp only [kE, kT, kL, kC] <;> rfl) cl16 (w_spec_LinkPut (putL code) (putT code) (Nat.le_trans (putL_way code) (by decide)))) (by simp only [kP] <;> rfl) ?_
  iterate 4 (refine EV ?_)
  refine OkOps.storeE tab_ok rfl rfl (by simp only [kE, kT, kL, kC] <;> rfl) ⟨_, _, by simp only [kE]; rfl⟩ (by first | (simp [V.labelsL, V.labelsLL, V.labels, zz]; done) | (simp [-List.map_map, -List.map_set, -List.map_drop, -List.map_take, -List.map_tail, -List.drop_one, V.labelsL, V.labelsLL, V.labels, zz]; done)) (by simp only [eq_self, V.updL, V.travL, V.travLL, V.trav, updS, updP, and_self, true_and, and_true, false_and, and_false, Nat.reduceEqDiff, Nat.reduceSub, Nat.le_refl, Nat.zero_le, ↓reduceIte, if_true, if_false, kP, zz] <;> rfl) (rfl) ?_
  refine EV ?_
  refine ON ?_
  refine Ok.seq ?_
  refine Ok.drawn 62 164 [] (by kernel_rfl) (by kernel_rfl) rfl ?_
  iterate 2 (refine SV ?_)
  refine SOps.ev tab_ok rfl (by simp only [kE, kT, kL, kC, eq_self, decide_true, beq_self_eq_true] <;> rfl) (by simp only [kP] <;> rfl) ?_
  refine SV ?_
  refine SOps.onEv tab_ok rfl rfl (by simp only [kE, kT, kL, kC]) (by simp only [kE, kT, kL, kC] <;> rfl) (by simp only [kP] <;> rfl) ?_
  refine SOps.onEv tab_ok rfl rfl (by simp only [kE, kT, kL, kC]) (by simp only [kE, kT, kL, kC] <;> rfl) (by simp only [kP] <;> rfl) ?_
  refine SOps.onEv tab_ok rfl rfl (by simp only [kE, kT, kL, kC]) (by simp only [kE, kT, kL, kC] <;> rfl) (by simp only [kP] <;> rfl) ?_
  refine SOps.split (d := 109) (by simp only [kE, kT, kL, kC] <;> rfl) (by simp only [kP] <;> rfl) (by simp only [kP] <;> rfl) (fun hg17_6 => ?_) (fun hg17_6 => ?_)
  ·
   try simp only [bsimp] at hg17_6
   refine SOps.offU rfl rfl (.inl (by simp only [kE, kT, kL, kC, Bool.not_true, Bool.not_false])) (by simp only [kP] <;> rfl) ?_
   refine SOps.offU rfl rfl (.inl (by simp only [kE, kT, kL, kC, Bool.not_true, Bool.not_false])) (by simp only [kP] <;> rfl) ?_
   refine SOps.offU rfl rfl (.inr (by simp only [kE, kT, kL, kC])) (by simp only [kP] <;> rfl) ?_
   refine SOps.offU rfl rfl (.inr (by simp only [kE, kT, kL, kC])) (by simp only [kP] <;> rfl) ?_
   refine SOps.offU rfl rfl (.inr (by simp only [kE, kT, kL, kC])) (by simp only [kP] <;> rfl) ?_
   refine SOps.offU rfl rfl (.inl (by simp only [kE, kT, kL, kC, Bool.not_true, Bool.not_false])) (by simp only [kP] <;> rfl) ?_
   refine SOps.onEv tab_ok rfl rfl (by simp only [kE, kT, kL, kC]) (by simp only [kE, kT, kL, kC] <;> rfl) (by simp only [kP] <;> rfl) ?_
   iterate 2 (refine SV ?_)
   refine SOps.onEv tab_ok rfl rfl (by simp only [kE, kT, kL, kC]) (by simp only [kE, kT, kL, kC] <;> rfl) (by simp only [kP] <;> rfl) ?_
   refine SOps.onEv tab_ok rfl rfl (by simp only [kE, kT, kL, kC]) (by simp only [kE, kT, kL, kC] <;> rfl) (by simp only [kP] <;> rfl) ?_
   refine SOps.onEv tab_ok rfl rfl (by simp only [kE, kT, kL, kC]) (by simp only [kE, kT, kL, kC, eq_self, decide_true, beq_self_eq_true] <;> rfl) (by simp only [kP] <;> rfl) ?_
   iterate 2 (refine SV ?_)
   refine SOps.onEv tab_ok rfl rfl (by simp only [kE, kT, kL, kC]) (by simp only [kE, kT, kL, kC] <;> rfl) (by simp only [kP] <;> rfl) ?_
   refine SOps.onEv tab_ok rfl rfl (by simp only [kE, kT, kL, kC]) (by simp only [kE, kT, kL, kC] <;> rfl) (by simp only [kP] <;> rfl) ?_
   refine SOps.onEv tab_ok rfl rfl (by simp only [kE, kT, kL, kC]) (by simp only [kE, kT, kL, kC] <;> rfl) (by simp only [kP] <;> rfl) ?_
   refine SOps.split (d := 126) (by simp only [kE, kT, kL, kC] <;> rfl) (by simp only [kP] <;> rfl) (by simp only [kP] <;> rfl) (fun hg17_23 => ?_) (fun hg17_23 => ?_)
   ·
    try simp only [bsimp] at hg17_23
    refine SOps.offU rfl rfl (.inl (by simp only [kE, kT, kL, kC, Bool.not_true, Bool.not_false])) (by simp only [kP] <;> rfl) ?_
    refine SOps.offU rfl rfl (.inl (by simp only [kE, kT, kL, kC, Bool.not_true, Bool.not_false])) (by simp only [kP] <;> rfl) ?_
    refine SOps.offU rfl rfl (.inl (by simp only [kE, kT, kL, kC, Bool.not_true, Bool.not_false])) (by simp only [kP] <;> rfl) ?_
    refine SOps.onEv tab_ok rfl rfl (by simp only [kE, kT, kL, kC]) (by simp only [kE, kT, kL, kC] <;> rfl) (by simp only [kP] <;> rfl) ?_
    iterate 2 (refine SV ?_)
    refine SOps.onEv tab_ok rfl rfl (by simp only [kE, kT, kL, kC]) (by simp only [kE, kT, kL, kC] <;> rfl) (by simp only [kP] <;> rfl) ?_
    refine SOps.onEv tab_ok rfl rfl (by simp only [kE, kT, kL, kC]) (by simp only [kE, kT, kL, kC] <;> rfl) (by simp only [kP] <;> rfl) ?_
    refine SOps.onS0 rfl rfl (by simp only [kE, kT, kL, kC]) (OpS.weakM rfl (by simp only [kE, kT, kL, kC] <;> rfl) (by simp only [kE, kT, kL, kC] <;> rfl) cl17 ((by have h := w_laws_sameLink (linkHears (hearsL code) (hearsD code)).1 (linkHears (hearsL code) (hearsD code)).1; rwa [decide_eq_true rfl] at h))) (by simp only [kP] <;> rfl) ?_
    iterate 2 (refine SV ?_)
    refine SOps.onEv tab_ok rfl rfl (by simp only [kE, kT, kL, kC]) (by simp only [kE, kT, kL, kC] <;> rfl) (by simp only [kP] <;> rfl) ?_
    refine SOps.onEv tab_ok rfl rfl (by simp only [kE, kT, kL, kC]) (by simp only [kE, kT, kL, kC] <;> rfl) (by simp only [kP] <;> rfl) ?_
    refine SOps.onEv tab_ok rfl rfl (by simp only [kE, kT, kL, kC]) (by simp only [kE, kT, kL, kC, eq_self, decide_true, beq_self_eq_true] <;> rfl) (by simp only [kP] <;> rfl) ?_
    iterate 2 (refine SV ?_)
    refine SOps.onEv tab_ok rfl rfl (by simp only [kE, kT, kL, kC]) (by simp only [kE, kT, kL, kC] <;> rfl) (by simp only [kP] <;> rfl) ?_
    refine SOps.onEv tab_ok rfl rfl (by simp only [kE, kT, kL, kC]) (by simp only [kE, kT, kL, kC] <;> rfl) (by simp only [kP] <;> rfl) ?_
    refine SOps.onEv tab_ok rfl rfl (by simp only [kE, kT, kL, kC]) (by simp only [kE, kT, kL, kC, eq_self, decide_true, beq_self_eq_true] <;> rfl) (by simp only [kP] <;> rfl) ?_
    iterate 2 (refine SV ?_)
    refine SOps.onEv tab_ok rfl rfl (by simp only [kE, kT, kL, kC]) (by simp only [kE, kT, kL, kC] <;> rfl) (by simp only [kP] <;> rfl) ?_
    refine SOps.onEv tab_ok rfl rfl (by simp only [kE, kT, kL, kC]) (by simp only [kE, kT, kL, kC] <;> rfl) (by simp only [kP] <;> rfl) ?_
    refine SOps.onEv tab_ok rfl rfl (by simp only [kE, kT, kL, kC]) (by simp only [kE, kT, kL, kC, eq_self, decide_true, beq_self_eq_true] <;> rfl) (by simp only [kP] <;> rfl) ?_
    iterate 2 (refine SV ?_)
    refine SOps.onEv tab_ok rfl rfl (by simp only [kE, kT, kL, kC]) (by simp only [kE, kT, kL, kC] <;> rfl) (by simp only [kP] <;> rfl) ?_
    refine SOps.onEv tab_ok rfl rfl (by simp only [kE, kT, kL, kC]) (by simp only [kE, kT, kL, kC] <;> rfl) (by simp only [kP] <;> rfl) ?_
    refine SOps.onS0 rfl rfl (by simp only [kE, kT, kL, kC]) (OpS.weakM rfl (by simp only [kE, kT, kL, kC] <;> rfl) (by simp only [kE, kT, kL, kC] <;> rfl) cl17 ((by have h := w_laws_sameLink (linkPut (putL code) (putT code)).1 (linkPut (putL code) (putT code)).1; rwa [decide_eq_true rfl] at h))) (by simp only [kP] <;> rfl) ?_
    iterate 2 (refine SV ?_)
    refine SOps.onEv tab_ok rfl rfl (by simp only [kE, kT, kL, kC]) (by simp only [kE, kT, kL, kC] <;> rfl) (by simp only [kP] <;> rfl) ?_
    refine SOps.onS0 rfl rfl (by simp only [kE, kT, kL, kC]) (OpS.weakM rfl (by simp only [kE, kT, kL, kC] <;> rfl) (by simp only [kE, kT, kL, kC] <;> rfl) cl18 (w_impl_LinkSays (hearsL code))) (by simp only [kP] <;> rfl) ?_
    refine SOps.onEv tab_ok rfl rfl (by simp only [kE, kT, kL, kC]) (by simp only [kE, kT, kL, kC] <;> rfl) (by simp only [kP] <;> rfl) ?_
    refine SOps.onS0 rfl rfl (by simp only [kE, kT, kL, kC]) (OpS.weakM rfl (by simp only [kE, kT, kL, kC] <;> rfl) (by simp only [kE, kT, kL, kC] <;> rfl) cl19 (w_spec_LinkSays (hearsL code))) (by simp only [kP] <;> rfl) ?_
    refine SOps.onS0 rfl rfl (by simp only [kE, kT, kL, kC]) (OpS.eqSM 4 tab_ok rfl (by simp only [kE, kT, kL, kC] <;> rfl) (by simp only [kE, kT, kL, kC] <;> rfl) (eqV_Packet _ _) (.inl ⟨rfl, rfl⟩) (by kernel_rfl) (by decide) (by kernel_rfl)) (by simp only [kP] <;> rfl) ?_
    iterate 2 (refine SV ?_)
    refine SOps.nil ?_
    refine TOps.nil ?_
    refine Ok.ret ?_
    with_reducible repeat (first | refine thenQ_ret ?_ | refine blockQ_ret ?_)
    refine RT ?_
    first | rfl | (simp; done)
   ·
    try simp only [bsimp] at hg17_23
    obtain ⟨y0, hy0⟩ := Option.isSome_iff_exists.1 (show (readS (readD code)).isSome = true by simpa using hg17_23)
    have hp2 : (packetText ((readS (readD code)).getD ⟨0, 0, 0, []⟩)).getD [] = readD code := by rw [hy0]; simp only [Option.getD_some]; rw [read_text hy0]; rfl
    refine SOps.onEv tab_ok rfl rfl (by simp only [kE, kT, kL, kC]) (by simp only [kE, kT, kL, kC] <;> rfl) (by simp only [kP] <;> rfl) ?_
    refine SOps.onEv tab_ok rfl rfl (by simp only [kE, kT, kL, kC]) (by simp only [kE, kT, kL, kC] <;> rfl) (by simp only [kP] <;> rfl) ?_
    refine SOps.onEv tab_ok rfl rfl (by simp only [kE, kT, kL, kC]) (by simp only [kE, kT, kL, kC, hp2, decide_true] <;> rfl) (by simp only [kP] <;> rfl) ?_
    refine SOps.onEv tab_ok rfl rfl (by simp only [kE, kT, kL, kC]) (by simp only [kE, kT, kL, kC] <;> rfl) (by simp only [kP] <;> rfl) ?_
    iterate 2 (refine SV ?_)
    refine SOps.onEv tab_ok rfl rfl (by simp only [kE, kT, kL, kC]) (by simp only [kE, kT, kL, kC] <;> rfl) (by simp only [kP] <;> rfl) ?_
    refine SOps.onEv tab_ok rfl rfl (by simp only [kE, kT, kL, kC]) (by simp only [kE, kT, kL, kC] <;> rfl) (by simp only [kP] <;> rfl) ?_
    refine SOps.onS0 rfl rfl (by simp only [kE, kT, kL, kC]) (OpS.weakM rfl (by simp only [kE, kT, kL, kC] <;> rfl) (by simp only [kE, kT, kL, kC] <;> rfl) cl17 ((by have h := w_laws_sameLink (linkHears (hearsL code) (hearsD code)).1 (linkHears (hearsL code) (hearsD code)).1; rwa [decide_eq_true rfl] at h))) (by simp only [kP] <;> rfl) ?_
    iterate 2 (refine SV ?_)
    refine SOps.onEv tab_ok rfl rfl (by simp only [kE, kT, kL, kC]) (by simp only [kE, kT, kL, kC] <;> rfl) (by simp only [kP] <;> rfl) ?_
    refine SOps.onEv tab_ok rfl rfl (by simp only [kE, kT, kL, kC]) (by simp only [kE, kT, kL, kC] <;> rfl) (by simp only [kP] <;> rfl) ?_
    refine SOps.onEv tab_ok rfl rfl (by simp only [kE, kT, kL, kC]) (by simp only [kE, kT, kL, kC, eq_self, decide_true, beq_self_eq_true] <;> rfl) (by simp only [kP] <;> rfl) ?_
    iterate 2 (refine SV ?_)
    refine SOps.onEv tab_ok rfl rfl (by simp only [kE, kT, kL, kC]) (by simp only [kE, kT, kL, kC] <;> rfl) (by simp only [kP] <;> rfl) ?_
    refine SOps.onEv tab_ok rfl rfl (by simp only [kE, kT, kL, kC]) (by simp only [kE, kT, kL, kC] <;> rfl) (by simp only [kP] <;> rfl) ?_
    refine SOps.onEv tab_ok rfl rfl (by simp only [kE, kT, kL, kC]) (by simp only [kE, kT, kL, kC, eq_self, decide_true, beq_self_eq_true] <;> rfl) (by simp only [kP] <;> rfl) ?_
    iterate 2 (refine SV ?_)
    refine SOps.onEv tab_ok rfl rfl (by simp only [kE, kT, kL, kC]) (by simp only [kE, kT, kL, kC] <;> rfl) (by simp only [kP] <;> rfl) ?_
    refine SOps.onEv tab_ok rfl rfl (by simp only [kE, kT, kL, kC]) (by simp only [kE, kT, kL, kC] <;> rfl) (by simp only [kP] <;> rfl) ?_
    refine SOps.onEv tab_ok rfl rfl (by simp only [kE, kT, kL, kC]) (by simp only [kE, kT, kL, kC, eq_self, decide_true, beq_self_eq_true] <;> rfl) (by simp only [kP] <;> rfl) ?_
    iterate 2 (refine SV ?_)
    refine SOps.onEv tab_ok rfl rfl (by simp only [kE, kT, kL, kC]) (by simp only [kE, kT, kL, kC] <;> rfl) (by simp only [kP] <;> rfl) ?_
    refine SOps.onEv tab_ok rfl rfl (by simp only [kE, kT, kL, kC]) (by simp only [kE, kT, kL, kC] <;> rfl) (by simp only [kP] <;> rfl) ?_
    refine SOps.onS0 rfl rfl (by simp only [kE, kT, kL, kC]) (OpS.weakM rfl (by simp only [kE, kT, kL, kC] <;> rfl) (by simp only [kE, kT, kL, kC] <;> rfl) cl17 ((by have h := w_laws_sameLink (linkPut (putL code) (putT code)).1 (linkPut (putL code) (putT code)).1; rwa [decide_eq_true rfl] at h))) (by simp only [kP] <;> rfl) ?_
    iterate 2 (refine SV ?_)
    refine SOps.onEv tab_ok rfl rfl (by simp only [kE, kT, kL, kC]) (by simp only [kE, kT, kL, kC] <;> rfl) (by simp only [kP] <;> rfl) ?_
    refine SOps.onS0 rfl rfl (by simp only [kE, kT, kL, kC]) (OpS.weakM rfl (by simp only [kE, kT, kL, kC] <;> rfl) (by simp only [kE, kT, kL, kC] <;> rfl) cl18 (w_impl_LinkSays (hearsL code))) (by simp only [kP] <;> rfl) ?_
    refine SOps.onEv tab_ok rfl rfl (by simp only [kE, kT, kL, kC]) (by simp only [kE, kT, kL, kC] <;> rfl) (by simp only [kP] <;> rfl) ?_
    refine SOps.onS0 rfl rfl (by simp only [kE, kT, kL, kC]) (OpS.weakM rfl (by simp only [kE, kT, kL, kC] <;> rfl) (by simp only [kE, kT, kL, kC] <;> rfl) cl19 (w_spec_LinkSays (hearsL code))) (by simp only [kP] <;> rfl) ?_
    refine SOps.onS0 rfl rfl (by simp only [kE, kT, kL, kC]) (OpS.eqSM 4 tab_ok rfl (by simp only [kE, kT, kL, kC] <;> rfl) (by simp only [kE, kT, kL, kC] <;> rfl) (eqV_Packet _ _) (.inl ⟨rfl, rfl⟩) (by kernel_rfl) (by decide) (by kernel_rfl)) (by simp only [kP] <;> rfl) ?_
    iterate 2 (refine SV ?_)
    refine SOps.nil ?_
    refine TOps.nil ?_
    refine Ok.ret ?_
    with_reducible repeat (first | refine thenQ_ret ?_ | refine blockQ_ret ?_)
    refine RT ?_
    first | rfl | (simp; done)
  ·
   try simp only [bsimp] at hg17_6
   obtain ⟨t0, ht0⟩ := Option.isSome_iff_exists.1 (show (packetText (packD (curNew code)).1).isSome = true by simpa using hg17_6)
   have hp1 : readS ((packetText (packD (curNew code)).1).getD []) = some (packD (curNew code)).1 := by rw [ht0]; exact packet_round ht0
   refine SOps.onEv tab_ok rfl rfl (by simp only [kE, kT, kL, kC]) (by simp only [kE, kT, kL, kC, hp1, Option.isSome_some] <;> rfl) (by simp only [kP] <;> rfl) ?_
   refine SOps.onEv tab_ok rfl rfl (by simp only [kE, kT, kL, kC]) (by simp only [kE, kT, kL, kC] <;> rfl) (by simp only [kP] <;> rfl) ?_
   refine SOps.onEv tab_ok rfl rfl (by simp only [kE, kT, kL, kC]) (by simp only [kE, kT, kL, kC] <;> rfl) (by simp only [kP] <;> rfl) ?_
   refine SOps.onEv tab_ok rfl rfl (by simp only [kE, kT, kL, kC]) (by simp only [kE, kT, kL, kC] <;> rfl) (by simp only [kP] <;> rfl) ?_
   refine SOps.onS0 rfl rfl (by simp only [kE, kT, kL, kC]) (OpS.eqSM 4 tab_ok rfl (by simp only [kE, kT, kL, kC] <;> rfl) (by simp only [kE, kT, kL, kC] <;> rfl) ((eqV_Packet ((readS ((packetText (packD (curNew code)).1).getD [])).getD ⟨0, 0, 0, []⟩) (packD (curNew code)).1).trans (congrArg some (decide_eq_true (by rw [hp1]; rfl)))) (.inl ⟨rfl, rfl⟩) (by kernel_rfl) (by decide) (by kernel_rfl)) (by simp only [kP] <;> rfl) ?_
   refine SOps.onEv tab_ok rfl rfl (by simp only [kE, kT, kL, kC]) (by simp only [kE, kT, kL, kC] <;> rfl) (by simp only [kP] <;> rfl) ?_
   refine SOps.onEv tab_ok rfl rfl (by simp only [kE, kT, kL, kC]) (by simp only [kE, kT, kL, kC] <;> rfl) (by simp only [kP] <;> rfl) ?_
   iterate 2 (refine SV ?_)
   refine SOps.onEv tab_ok rfl rfl (by simp only [kE, kT, kL, kC]) (by simp only [kE, kT, kL, kC] <;> rfl) (by simp only [kP] <;> rfl) ?_
   refine SOps.onEv tab_ok rfl rfl (by simp only [kE, kT, kL, kC]) (by simp only [kE, kT, kL, kC] <;> rfl) (by simp only [kP] <;> rfl) ?_
   refine SOps.onEv tab_ok rfl rfl (by simp only [kE, kT, kL, kC]) (by simp only [kE, kT, kL, kC, eq_self, decide_true, beq_self_eq_true] <;> rfl) (by simp only [kP] <;> rfl) ?_
   iterate 2 (refine SV ?_)
   refine SOps.onEv tab_ok rfl rfl (by simp only [kE, kT, kL, kC]) (by simp only [kE, kT, kL, kC] <;> rfl) (by simp only [kP] <;> rfl) ?_
   refine SOps.onEv tab_ok rfl rfl (by simp only [kE, kT, kL, kC]) (by simp only [kE, kT, kL, kC] <;> rfl) (by simp only [kP] <;> rfl) ?_
   refine SOps.onEv tab_ok rfl rfl (by simp only [kE, kT, kL, kC]) (by simp only [kE, kT, kL, kC] <;> rfl) (by simp only [kP] <;> rfl) ?_
   refine SOps.split (d := 126) (by simp only [kE, kT, kL, kC] <;> rfl) (by simp only [kP] <;> rfl) (by simp only [kP] <;> rfl) (fun hg17_23 => ?_) (fun hg17_23 => ?_)
   ·
    try simp only [bsimp] at hg17_23
    refine SOps.offU rfl rfl (.inl (by simp only [kE, kT, kL, kC, Bool.not_true, Bool.not_false])) (by simp only [kP] <;> rfl) ?_
    refine SOps.offU rfl rfl (.inl (by simp only [kE, kT, kL, kC, Bool.not_true, Bool.not_false])) (by simp only [kP] <;> rfl) ?_
    refine SOps.offU rfl rfl (.inl (by simp only [kE, kT, kL, kC, Bool.not_true, Bool.not_false])) (by simp only [kP] <;> rfl) ?_
    refine SOps.onEv tab_ok rfl rfl (by simp only [kE, kT, kL, kC]) (by simp only [kE, kT, kL, kC] <;> rfl) (by simp only [kP] <;> rfl) ?_
    iterate 2 (refine SV ?_)
    refine SOps.onEv tab_ok rfl rfl (by simp only [kE, kT, kL, kC]) (by simp only [kE, kT, kL, kC] <;> rfl) (by simp only [kP] <;> rfl) ?_
    refine SOps.onEv tab_ok rfl rfl (by simp only [kE, kT, kL, kC]) (by simp only [kE, kT, kL, kC] <;> rfl) (by simp only [kP] <;> rfl) ?_
    refine SOps.onS0 rfl rfl (by simp only [kE, kT, kL, kC]) (OpS.weakM rfl (by simp only [kE, kT, kL, kC] <;> rfl) (by simp only [kE, kT, kL, kC] <;> rfl) cl17 ((by have h := w_laws_sameLink (linkHears (hearsL code) (hearsD code)).1 (linkHears (hearsL code) (hearsD code)).1; rwa [decide_eq_true rfl] at h))) (by simp only [kP] <;> rfl) ?_
    iterate 2 (refine SV ?_)
    refine SOps.onEv tab_ok rfl rfl (by simp only [kE, kT, kL, kC]) (by simp only [kE, kT, kL, kC] <;> rfl) (by simp only [kP] <;> rfl) ?_
    refine SOps.onEv tab_ok rfl rfl (by simp only [kE, kT, kL, kC]) (by simp only [kE, kT, kL, kC] <;> rfl) (by simp only [kP] <;> rfl) ?_
    refine SOps.onEv tab_ok rfl rfl (by simp only [kE, kT, kL, kC]) (by simp only [kE, kT, kL, kC, eq_self, decide_true, beq_self_eq_true] <;> rfl) (by simp only [kP] <;> rfl) ?_
    iterate 2 (refine SV ?_)
    refine SOps.onEv tab_ok rfl rfl (by simp only [kE, kT, kL, kC]) (by simp only [kE, kT, kL, kC] <;> rfl) (by simp only [kP] <;> rfl) ?_
    refine SOps.onEv tab_ok rfl rfl (by simp only [kE, kT, kL, kC]) (by simp only [kE, kT, kL, kC] <;> rfl) (by simp only [kP] <;> rfl) ?_
    refine SOps.onEv tab_ok rfl rfl (by simp only [kE, kT, kL, kC]) (by simp only [kE, kT, kL, kC, eq_self, decide_true, beq_self_eq_true] <;> rfl) (by simp only [kP] <;> rfl) ?_
    iterate 2 (refine SV ?_)
    refine SOps.onEv tab_ok rfl rfl (by simp only [kE, kT, kL, kC]) (by simp only [kE, kT, kL, kC] <;> rfl) (by simp only [kP] <;> rfl) ?_
    refine SOps.onEv tab_ok rfl rfl (by simp only [kE, kT, kL, kC]) (by simp only [kE, kT, kL, kC] <;> rfl) (by simp only [kP] <;> rfl) ?_
    refine SOps.onEv tab_ok rfl rfl (by simp only [kE, kT, kL, kC]) (by simp only [kE, kT, kL, kC, eq_self, decide_true, beq_self_eq_true] <;> rfl) (by simp only [kP] <;> rfl) ?_
    iterate 2 (refine SV ?_)
    refine SOps.onEv tab_ok rfl rfl (by simp only [kE, kT, kL, kC]) (by simp only [kE, kT, kL, kC] <;> rfl) (by simp only [kP] <;> rfl) ?_
    refine SOps.onEv tab_ok rfl rfl (by simp only [kE, kT, kL, kC]) (by simp only [kE, kT, kL, kC] <;> rfl) (by simp only [kP] <;> rfl) ?_
    refine SOps.onS0 rfl rfl (by simp only [kE, kT, kL, kC]) (OpS.weakM rfl (by simp only [kE, kT, kL, kC] <;> rfl) (by simp only [kE, kT, kL, kC] <;> rfl) cl17 ((by have h := w_laws_sameLink (linkPut (putL code) (putT code)).1 (linkPut (putL code) (putT code)).1; rwa [decide_eq_true rfl] at h))) (by simp only [kP] <;> rfl) ?_
    iterate 2 (refine SV ?_)
    refine SOps.onEv tab_ok rfl rfl (by simp only [kE, kT, kL, kC]) (by simp only [kE, kT, kL, kC] <;> rfl) (by simp only [kP] <;> rfl) ?_
    refine SOps.onS0 rfl rfl (by simp only [kE, kT, kL, kC]) (OpS.weakM rfl (by simp only [kE, kT, kL, kC] <;> rfl) (by simp only [kE, kT, kL, kC] <;> rfl) cl18 (w_impl_LinkSays (hearsL code))) (by simp only [kP] <;> rfl) ?_
    refine SOps.onEv tab_ok rfl rfl (by simp only [kE, kT, kL, kC]) (by simp only [kE, kT, kL, kC] <;> rfl) (by simp only [kP] <;> rfl) ?_
    refine SOps.onS0 rfl rfl (by simp only [kE, kT, kL, kC]) (OpS.weakM rfl (by simp only [kE, kT, kL, kC] <;> rfl) (by simp only [kE, kT, kL, kC] <;> rfl) cl19 (w_spec_LinkSays (hearsL code))) (by simp only [kP] <;> rfl) ?_
    refine SOps.onS0 rfl rfl (by simp only [kE, kT, kL, kC]) (OpS.eqSM 4 tab_ok rfl (by simp only [kE, kT, kL, kC] <;> rfl) (by simp only [kE, kT, kL, kC] <;> rfl) (eqV_Packet _ _) (.inl ⟨rfl, rfl⟩) (by kernel_rfl) (by decide) (by kernel_rfl)) (by simp only [kP] <;> rfl) ?_
    iterate 2 (refine SV ?_)
    refine SOps.nil ?_
    refine TOps.nil ?_
    refine Ok.ret ?_
    with_reducible repeat (first | refine thenQ_ret ?_ | refine blockQ_ret ?_)
    refine RT ?_
    first | rfl | (simp; done)
   ·
    try simp only [bsimp] at hg17_23
    obtain ⟨y0, hy0⟩ := Option.isSome_iff_exists.1 (show (readS (readD code)).isSome = true by simpa using hg17_23)
    have hp2 : (packetText ((readS (readD code)).getD ⟨0, 0, 0, []⟩)).getD [] = readD code := by rw [hy0]; simp only [Option.getD_some]; rw [read_text hy0]; rfl
    refine SOps.onEv tab_ok rfl rfl (by simp only [kE, kT, kL, kC]) (by simp only [kE, kT, kL, kC] <;> rfl) (by simp only [kP] <;> rfl) ?_
    refine SOps.onEv tab_ok rfl rfl (by simp only [kE, kT, kL, kC]) (by simp only [kE, kT, kL, kC] <;> rfl) (by simp only [kP] <;> rfl) ?_
    refine SOps.onEv tab_ok rfl rfl (by simp only [kE, kT, kL, kC]) (by simp only [kE, kT, kL, kC, hp2, decide_true] <;> rfl) (by simp only [kP] <;> rfl) ?_
    refine SOps.onEv tab_ok rfl rfl (by simp only [kE, kT, kL, kC]) (by simp only [kE, kT, kL, kC] <;> rfl) (by simp only [kP] <;> rfl) ?_
    iterate 2 (refine SV ?_)
    refine SOps.onEv tab_ok rfl rfl (by simp only [kE, kT, kL, kC]) (by simp only [kE, kT, kL, kC] <;> rfl) (by simp only [kP] <;> rfl) ?_
    refine SOps.onEv tab_ok rfl rfl (by simp only [kE, kT, kL, kC]) (by simp only [kE, kT, kL, kC] <;> rfl) (by simp only [kP] <;> rfl) ?_
    refine SOps.onS0 rfl rfl (by simp only [kE, kT, kL, kC]) (OpS.weakM rfl (by simp only [kE, kT, kL, kC] <;> rfl) (by simp only [kE, kT, kL, kC] <;> rfl) cl17 ((by have h := w_laws_sameLink (linkHears (hearsL code) (hearsD code)).1 (linkHears (hearsL code) (hearsD code)).1; rwa [decide_eq_true rfl] at h))) (by simp only [kP] <;> rfl) ?_
    iterate 2 (refine SV ?_)
    refine SOps.onEv tab_ok rfl rfl (by simp only [kE, kT, kL, kC]) (by simp only [kE, kT, kL, kC] <;> rfl) (by simp only [kP] <;> rfl) ?_
    refine SOps.onEv tab_ok rfl rfl (by simp only [kE, kT, kL, kC]) (by simp only [kE, kT, kL, kC] <;> rfl) (by simp only [kP] <;> rfl) ?_
    refine SOps.onEv tab_ok rfl rfl (by simp only [kE, kT, kL, kC]) (by simp only [kE, kT, kL, kC, eq_self, decide_true, beq_self_eq_true] <;> rfl) (by simp only [kP] <;> rfl) ?_
    iterate 2 (refine SV ?_)
    refine SOps.onEv tab_ok rfl rfl (by simp only [kE, kT, kL, kC]) (by simp only [kE, kT, kL, kC] <;> rfl) (by simp only [kP] <;> rfl) ?_
    refine SOps.onEv tab_ok rfl rfl (by simp only [kE, kT, kL, kC]) (by simp only [kE, kT, kL, kC] <;> rfl) (by simp only [kP] <;> rfl) ?_
    refine SOps.onEv tab_ok rfl rfl (by simp only [kE, kT, kL, kC]) (by simp only [kE, kT, kL, kC, eq_self, decide_true, beq_self_eq_true] <;> rfl) (by simp only [kP] <;> rfl) ?_
    iterate 2 (refine SV ?_)
    refine SOps.onEv tab_ok rfl rfl (by simp only [kE, kT, kL, kC]) (by simp only [kE, kT, kL, kC] <;> rfl) (by simp only [kP] <;> rfl) ?_
    refine SOps.onEv tab_ok rfl rfl (by simp only [kE, kT, kL, kC]) (by simp only [kE, kT, kL, kC] <;> rfl) (by simp only [kP] <;> rfl) ?_
    refine SOps.onEv tab_ok rfl rfl (by simp only [kE, kT, kL, kC]) (by simp only [kE, kT, kL, kC, eq_self, decide_true, beq_self_eq_true] <;> rfl) (by simp only [kP] <;> rfl) ?_
    iterate 2 (refine SV ?_)
    refine SOps.onEv tab_ok rfl rfl (by simp only [kE, kT, kL, kC]) (by simp only [kE, kT, kL, kC] <;> rfl) (by simp only [kP] <;> rfl) ?_
    refine SOps.onEv tab_ok rfl rfl (by simp only [kE, kT, kL, kC]) (by simp only [kE, kT, kL, kC] <;> rfl) (by simp only [kP] <;> rfl) ?_
    refine SOps.onS0 rfl rfl (by simp only [kE, kT, kL, kC]) (OpS.weakM rfl (by simp only [kE, kT, kL, kC] <;> rfl) (by simp only [kE, kT, kL, kC] <;> rfl) cl17 ((by have h := w_laws_sameLink (linkPut (putL code) (putT code)).1 (linkPut (putL code) (putT code)).1; rwa [decide_eq_true rfl] at h))) (by simp only [kP] <;> rfl) ?_
    iterate 2 (refine SV ?_)
    refine SOps.onEv tab_ok rfl rfl (by simp only [kE, kT, kL, kC]) (by simp only [kE, kT, kL, kC] <;> rfl) (by simp only [kP] <;> rfl) ?_
    refine SOps.onS0 rfl rfl (by simp only [kE, kT, kL, kC]) (OpS.weakM rfl (by simp only [kE, kT, kL, kC] <;> rfl) (by simp only [kE, kT, kL, kC] <;> rfl) cl18 (w_impl_LinkSays (hearsL code))) (by simp only [kP] <;> rfl) ?_
    refine SOps.onEv tab_ok rfl rfl (by simp only [kE, kT, kL, kC]) (by simp only [kE, kT, kL, kC] <;> rfl) (by simp only [kP] <;> rfl) ?_
    refine SOps.onS0 rfl rfl (by simp only [kE, kT, kL, kC]) (OpS.weakM rfl (by simp only [kE, kT, kL, kC] <;> rfl) (by simp only [kE, kT, kL, kC] <;> rfl) cl19 (w_spec_LinkSays (hearsL code))) (by simp only [kP] <;> rfl) ?_
    refine SOps.onS0 rfl rfl (by simp only [kE, kT, kL, kC]) (OpS.eqSM 4 tab_ok rfl (by simp only [kE, kT, kL, kC] <;> rfl) (by simp only [kE, kT, kL, kC] <;> rfl) (eqV_Packet _ _) (.inl ⟨rfl, rfl⟩) (by kernel_rfl) (by decide) (by kernel_rfl)) (by simp only [kP] <;> rfl) ?_
    iterate 2 (refine SV ?_)
    refine SOps.nil ?_
    refine TOps.nil ?_
    refine Ok.ret ?_
    with_reducible repeat (first | refine thenQ_ret ?_ | refine blockQ_ret ?_)
    refine RT ?_
    first | rfl | (simp; done)
end Go.Proofs.Ytckeandnnbnapaa.K
