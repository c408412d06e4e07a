/- The walk of FnLinks. Printed by w2.py. -/
import Derived.Test.YtckeandnnbnapaaG4
import Derived.Test.YtckeandnnbnapaaG1
namespace Go.Proofs.Ytckeandnnbnapaa.K
open Go Go.RowKit
set_option linter.unusedVariables false
set_option linter.unusedSimpArgs false
set_option maxHeartbeats 4000000
set_option maxRecDepth 20000
theorem w_impl_LinkSays (l : Link) : Weak Try.prog 18 [.agg (cLink l)] (.agg (cPacket (linkSays l))) := by
 refine Weak.enter tab_ok Try.func18 rfl (.inr (by simp [V.labelsL, V.labels, zz])) (t := [.agg (cLink l), .any, .any, .any, .any, .any, .any, .any, .any, .any, .any, .any, .any, .any, .any, .any, .any, .any, .any, .any, .any, .any]) rfl ?_
 refine OQ ?_
 iterate 2 (refine EV ?_)
 refine ON ?_
 refine OQ ?_
 iterate 4 (refine EV ?_)
 refine OkOps.ev tab_ok rfl (by simp [ev1, fillV, kE, kT, kL] <;> first | rfl | exact ⟨rfl, rfl⟩) (by simp only [kP] <;> rfl) ?_
 refine EV ?_
 refine OkOps.storeE tab_ok rfl rfl (by simp only [kE, kT, kL, kC] <;> rfl) ⟨_, _, by simp only [kE]; rfl⟩ (by first | (simp [V.labelsL, V.labelsLL, V.labels, zz]; done) | (simp [-List.map_map, -List.map_set, -List.map_drop, -List.map_take, -List.map_tail, -List.drop_one, V.labelsL, V.labelsLL, V.labels, zz]; done)) (by simp only [eq_self, V.updL, V.travL, V.travLL, V.trav, updS, updP, and_self, true_and, and_true, false_and, and_false, Nat.reduceEqDiff, Nat.reduceSub, Nat.le_refl, Nat.zero_le, ↓reduceIte, if_true, if_false, kP, zz] <;> rfl) (rfl) ?_
 refine ON ?_
 refine Ok.seq ?_
 refine OQ ?_
 iterate 4 (refine EV ?_)
 refine ON ?_
 refine Ok.cond (b := _) (by simp only [kE, kT, kL, kC] <;> rfl) (fun hb2 => ?_) (fun hb2 => ?_)
 ·
  try simp only [bsimp] at hb2
  obtain ⟨s, r, hw⟩ : ∃ s r, l.way = s :: r := by
    cases hh : l.way with
    | nil => simp [hh] at hb2
    | cons s r => exact ⟨s, r, rfl⟩
  refine OQ ?_
  iterate 3 (refine EV ?_)
  refine OkOps.storeE tab_ok rfl rfl (by simp only [kE, kT, kL, kC] <;> rfl) ⟨_, _, by simp only [kE]; rfl⟩ (by first | (simp [V.labelsL, V.labelsLL, V.labels, zz]; done) | (simp [-List.map_map, -List.map_set, -List.map_drop, -List.map_take, -List.map_tail, -List.drop_one, V.labelsL, V.labelsLL, V.labels, zz]; done)) (by simp only [eq_self, V.updL, V.travL, V.travLL, V.trav, updS, updP, and_self, true_and, and_true, false_and, and_false, Nat.reduceEqDiff, Nat.reduceSub, Nat.le_refl, Nat.zero_le, ↓reduceIte, if_true, if_false, kP, zz] <;> rfl) (rfl) ?_
  refine ON ?_
  refine Ok.region ?_
  iterate 2 (refine EV ?_)
  refine OkOps.ev tab_ok rfl (ev_idx (j := 0) (by simp only [kE, kT, kL, kC] <;> rfl) (by simp only [kE, kT, kL, kC] <;> rfl) (by rw [hw]; rfl) (by simp only [kE, kT, kL, kC] <;> rfl)) (by simp only [kP] <;> rfl) ?_
  iterate 2 (refine EV ?_)
  refine OkOps.storeE tab_ok rfl rfl (by simp only [kE, kT, kL, kC] <;> rfl) ⟨_, _, by simp only [kE]; rfl⟩ (by first | (simp [V.labelsL, V.labelsLL, V.labels, zz]; done) | (simp [-List.map_map, -List.map_set, -List.map_drop, -List.map_take, -List.map_tail, -List.drop_one, V.labelsL, V.labelsLL, V.labels, zz]; done)) (by simp only [eq_self, V.updL, V.travL, V.travLL, V.trav, updS, updP, and_self, true_and, and_true, false_and, and_false, Nat.reduceEqDiff, Nat.reduceSub, Nat.le_refl, Nat.zero_le, ↓reduceIte, if_true, if_false, kP, zz] <;> rfl) (rfl) ?_
  refine ON ?_
  refine OQ ?_
  refine EV ?_
  refine OkOps.storeE tab_ok rfl rfl (by simp only [kE, kT, kL, kC] <;> rfl) ⟨_, _, by simp only [kE]; rfl⟩ (by first | (simp [V.labelsL, V.labelsLL, V.labels, zz]; done) | (simp [-List.map_map, -List.map_set, -List.map_drop, -List.map_take, -List.map_tail, -List.drop_one, V.labelsL, V.labelsLL, V.labels, zz]; done)) (by simp only [eq_self, V.updL, V.travL, V.travLL, V.trav, updS, updP, and_self, true_and, and_true, false_and, and_false, Nat.reduceEqDiff, Nat.reduceSub, Nat.le_refl, Nat.zero_le, ↓reduceIte, if_true, if_false, kP, zz] <;> rfl) (rfl) ?_
  refine ON ?_
  refine Ok.ret ?_
  with_reducible repeat (first | refine thenQ_ret ?_ | refine blockQ_ret ?_)
  refine RT ?_
  simp only [packV, V.erase, V.trav, V.travL, zz, linkSays, hw]
 ·
  try simp only [bsimp] at hb2
  have hw : l.way = [] := List.eq_nil_of_length_eq_zero (by omega)
  refine Ok.skip ?_
  refine OQ ?_
  refine EV ?_
  refine OkOps.storeE tab_ok rfl rfl (by simp only [kE, kT, kL, kC] <;> rfl) ⟨_, _, by simp only [kE]; rfl⟩ (by first | (simp [V.labelsL, V.labelsLL, V.labels, zz]; done) | (simp [-List.map_map, -List.map_set, -List.map_drop, -List.map_take, -List.map_tail, -List.drop_one, V.labelsL, V.labelsLL, V.labels, zz]; done)) (by simp only [eq_self, V.updL, V.travL, V.travLL, V.trav, updS, updP, and_self, true_and, and_true, false_and, and_false, Nat.reduceEqDiff, Nat.reduceSub, Nat.le_refl, Nat.zero_le, ↓reduceIte, if_true, if_false, kP, zz] <;> rfl) (rfl) ?_
  refine ON ?_
  refine Ok.ret ?_
  with_reducible repeat (first | refine thenQ_ret ?_ | refine blockQ_ret ?_)
  refine RT ?_
  simp only [packV, V.erase, V.trav, V.travL, zz, linkSays, hw]
theorem w_spec_LinkSays (l : Link) : Weak Try.prog 19 [.agg (cLink l)] (.agg (cPacket (linkSays l))) := by
 refine Weak.enter tab_ok Try.func19 rfl (.inr (by simp [V.labelsL, V.labels, zz])) (t := [.agg (cLink l), .any, .any, .any, .any, .any, .any, .any, .any, .any, .any, .any, .any, .any, .any, .any, .any, .any, .any, .any, .any, .any]) rfl ?_
 refine OQ ?_
 iterate 2 (refine EV ?_)
 refine ON ?_
 refine OQ ?_
 iterate 4 (refine EV ?_)
 refine OkOps.ev tab_ok rfl (by simp [ev1, fillV, kE, kT, kL] <;> first | rfl | exact ⟨rfl, rfl⟩) (by simp only [kP] <;> rfl) ?_
 refine EV ?_
 refine OkOps.storeE tab_ok rfl rfl (by simp only [kE, kT, kL, kC] <;> rfl) ⟨_, _, by simp only [kE]; rfl⟩ (by first | (simp [V.labelsL, V.labelsLL, V.labels, zz]; done) | (simp [-List.map_map, -List.map_set, -List.map_drop, -List.map_take, -List.map_tail, -List.drop_one, V.labelsL, V.labelsLL, V.labels, zz]; done)) (by simp only [eq_self, V.updL, V.travL, V.travLL, V.trav, updS, updP, and_self, true_and, and_true, false_and, and_false, Nat.reduceEqDiff, Nat.reduceSub, Nat.le_refl, Nat.zero_le, ↓reduceIte, if_true, if_false, kP, zz] <;> rfl) (rfl) ?_
 refine ON ?_
 refine Ok.seq ?_
 refine OQ ?_
 iterate 4 (refine EV ?_)
 refine ON ?_
 refine Ok.cond (b := _) (by simp only [kE, kT, kL, kC] <;> rfl) (fun hb2 => ?_) (fun hb2 => ?_)
 ·
  try simp only [bsimp] at hb2
  obtain ⟨s, r, hw⟩ : ∃ s r, l.way = s :: r := by
    cases hh : l.way with
    | nil => simp [hh] at hb2
    | cons s r => exact ⟨s, r, rfl⟩
  refine OQ ?_
  iterate 3 (refine EV ?_)
  refine OkOps.storeE tab_ok rfl rfl (by simp only [kE, kT, kL, kC] <;> rfl) ⟨_, _, by simp only [kE]; rfl⟩ (by first | (simp [V.labelsL, V.labelsLL, V.labels, zz]; done) | (simp [-List.map_map, -List.map_set, -List.map_drop, -List.map_take, -List.map_tail, -List.drop_one, V.labelsL, V.labelsLL, V.labels, zz]; done)) (by simp only [eq_self, V.updL, V.travL, V.travLL, V.trav, updS, updP, and_self, true_and, and_true, false_and, and_false, Nat.reduceEqDiff, Nat.reduceSub, Nat.le_refl, Nat.zero_le, ↓reduceIte, if_true, if_false, kP, zz] <;> rfl) (rfl) ?_
  refine ON ?_
  refine Ok.region ?_
  iterate 2 (refine EV ?_)
  refine OkOps.ev tab_ok rfl (ev_idx (j := 0) (by simp only [kE, kT, kL, kC] <;> rfl) (by simp only [kE, kT, kL, kC] <;> rfl) (by rw [hw]; rfl) (by simp only [kE, kT, kL, kC] <;> rfl)) (by simp only [kP] <;> rfl) ?_
  iterate 2 (refine EV ?_)
  refine OkOps.storeE tab_ok rfl rfl (by simp only [kE, kT, kL, kC] <;> rfl) ⟨_, _, by simp only [kE]; rfl⟩ (by first | (simp [V.labelsL, V.labelsLL, V.labels, zz]; done) | (simp [-List.map_map, -List.map_set, -List.map_drop, -List.map_take, -List.map_tail, -List.drop_one, V.labelsL, V.labelsLL, V.labels, zz]; done)) (by simp only [eq_self, V.updL, V.travL, V.travLL, V.trav, updS, updP, and_self, true_and, and_true, false_and, and_false, Nat.reduceEqDiff, Nat.reduceSub, Nat.le_refl, Nat.zero_le, ↓reduceIte, if_true, if_false, kP, zz] <;> rfl) (rfl) ?_
  refine ON ?_
  refine OQ ?_
  refine EV ?_
  refine OkOps.storeE tab_ok rfl rfl (by simp only [kE, kT, kL, kC] <;> rfl) ⟨_, _, by simp only [kE]; rfl⟩ (by first | (simp [V.labelsL, V.labelsLL, V.labels, zz]; done) | (simp [-List.map_map, -List.map_set, -List.map_drop, -List.map_take, -List.map_tail, -List.drop_one, V.labelsL, V.labelsLL, V.labels, zz]; done)) (by simp only [eq_self, V.updL, V.travL, V.travLL, V.trav, updS, updP, and_self, true_and, and_true, false_and, and_false, Nat.reduceEqDiff, Nat.reduceSub, Nat.le_refl, Nat.zero_le, ↓reduceIte, if_true, if_false, kP, zz] <;> rfl) (rfl) ?_
  refine ON ?_
  refine Ok.ret ?_
  with_reducible repeat (first | refine thenQ_ret ?_ | refine blockQ_ret ?_)
  refine RT ?_
  simp only [packV, V.erase, V.trav, V.travL, zz, linkSays, hw]
 ·
  try simp only [bsimp] at hb2
  have hw : l.way = [] := List.eq_nil_of_length_eq_zero (by omega)
  refine Ok.skip ?_
  refine OQ ?_
  refine EV ?_
  refine OkOps.storeE tab_ok rfl rfl (by simp only [kE, kT, kL, kC] <;> rfl) ⟨_, _, by simp only [kE]; rfl⟩ (by first | (simp [V.labelsL, V.labelsLL, V.labels, zz]; done) | (simp [-List.map_map, -List.map_set, -List.map_drop, -List.map_take, -List.map_tail, -List.drop_one, V.labelsL, V.labelsLL, V.labels, zz]; done)) (by simp only [eq_self, V.updL, V.travL, V.travLL, V.trav, updS, updP, and_self, true_and, and_true, false_and, and_false, Nat.reduceEqDiff, Nat.reduceSub, Nat.le_refl, Nat.zero_le, ↓reduceIte, if_true, if_false, kP, zz] <;> rfl) (rfl) ?_
  refine ON ?_
  refine Ok.ret ?_
  with_reducible repeat (first | refine thenQ_ret ?_ | refine blockQ_ret ?_)
  refine RT ?_
  simp only [packV, V.erase, V.trav, V.travL, zz, linkSays, hw]
end Go.Proofs.Ytckeandnnbnapaa.K

/- Draws of packets and links: plain functions. Calls that turn one array and take memory of their own. -/
namespace Go.Proofs.Ytckeandnnbnapaa.K
open Go Go.RowKit
set_option linter.unusedVariables false
set_option linter.unusedSimpArgs false
section
variable {P : Program} {ti : Tab} {n n' : Nat} {t t' h h' : List V} {Q : Exit → List V → List V → Nat → Prop} {ops : Array Oper} {o : Oper} {l : List Oper}
end
section
variable {P : Program} {ti : Tab} {n : Nat} {t h : List V} {Q : Exit → List V → List V → Nat → Prop}
theorem Ok.loopHN {τ : Type} {c : Code} {F : τ → List V} (W : τ → List (Nat × V)) (dead : List Nat) (hF : ∀ x, overW (W x) (overD dead t) = F x) (H : τ → List V) (N : τ → Nat) (p : τ → Prop) (m : τ → Nat) (x : τ) (hle : leL t (F x)) (hH : h = H x) (hn : n ≤ N x) (hp : p x)
    (round : ∀ x, p x → Ok P c (F x) (H x) (N x) (thenQ (fun t' h' n' => ∃ y, leL t' (F y) ∧ h' = H y ∧ n' ≤ N y ∧ p y ∧ m y < m x) Q)) : Ok P (.loop c) t h n Q := by
  refine Ok.loop (fun x t' h' n' => leL t' (F x) ∧ h' = H x ∧ n' ≤ N x ∧ p x) m x ⟨hle, hH, hn, hp⟩ ?_
  rintro x t' h' n' ⟨h1, rfl, h3, h4⟩
  refine Ok.bump h3 (Ok.forget (leL_spec h1).1 (leL_spec h1).2 ((round x h4).mono ?_))
  intro e t2 h2 n2 hq
  cases e with
  | normal => obtain ⟨y, a, b, c, d, e⟩ := hq; exact ⟨y, ⟨a, b, c, d⟩, e⟩
  | exit id => exact hq
  | goto l => exact hq
  | ret => exact hq
  | panic ch => exact hq
  | outgrown => exact hq
end
def pickS (c : Cur) (xs : List Str) : Str × Cur := (xs.getD (curBelow c xs.length).1 [], (curBelow c xs.length).2)
def pickI (c : Cur) (xs : List Int) : Int × Cur := (xs.getD (curBelow c xs.length).1 0, (curBelow c xs.length).2)
theorem pickS_b (c : Cur) (xs : List Str) : (pickS c xs).2.b = c.b := curBelow_b _ _
theorem pickI_b (c : Cur) (xs : List Int) : (pickI c xs).2.b = c.b := curBelow_b _ _
theorem pickS_get {c : Cur} {xs : List Str} (h : 0 < xs.length) : xs[(curBelow c xs.length).1]? = some (pickS c xs).1 := by
  have := curBelow_lt (c := c) h
  unfold pickS; rw [List.getD_eq_getElem?_getD, List.getElem?_eq_getElem this, Option.getD_some]
theorem pickI_get {c : Cur} {xs : List Int} (h : 0 < xs.length) : xs[(curBelow c xs.length).1]? = some (pickI c xs).1 := by
  have := curBelow_lt (c := c) h
  unfold pickI; rw [List.getD_eq_getElem?_getD, List.getElem?_eq_getElem this, Option.getD_some]
theorem pickI_mem {c : Cur} {xs : List Int} (h : 0 < xs.length) : (pickI c xs).1 ∈ xs := List.mem_of_getElem? (pickI_get h)
abbrev wOne : Str := [111, 110, 101]
abbrev wTwo : Str := [116, 119, 111]
abbrev wThree : Str := [116, 104, 114, 101, 101]
def linkGo : Nat → Nat → Link → Cur → Link × Cur
  | 0, _, l, c => (l, c)
  | f + 1, i, l, c => if i < (curBelow c 5).1 then linkGo f (i + 1) (linkPut l (pickS (curBelow c 5).2 [wOne, wTwo, wThree]).1).1 (pickS (curBelow c 5).2 [wOne, wTwo, wThree]).2 else (l, (curBelow c 5).2)
theorem linkGo_t {f i : Nat} {l : Link} {c : Cur} (h : i < (curBelow c 5).1) : linkGo (f + 1) i l c = linkGo f (i + 1) (linkPut l (pickS (curBelow c 5).2 [wOne, wTwo, wThree]).1).1 (pickS (curBelow c 5).2 [wOne, wTwo, wThree]).2 := if_pos h
theorem linkGo_f {f i : Nat} {l : Link} {c : Cur} (h : ¬ i < (curBelow c 5).1) : linkGo (f + 1) i l c = (l, (curBelow c 5).2) := if_neg h
theorem linkGo_b : ∀ (f i : Nat) (l : Link) (c : Cur), (linkGo f i l c).2.b = c.b
  | 0, _, _, _ => rfl
  | f + 1, i, l, c => by
    by_cases h : i < (curBelow c 5).1
    · rw [linkGo_t h, linkGo_b, pickS_b, curBelow_b]
    · rw [linkGo_f h]; exact curBelow_b _ _
theorem linkGo_way : ∀ (f i : Nat) (l : Link) (c : Cur), (linkGo f i l c).1.way.length ≤ l.way.length + f
  | 0, _, _, _ => Nat.le_refl _
  | f + 1, i, l, c => by
    by_cases h : i < (curBelow c 5).1
    · rw [linkGo_t h]
      have := linkGo_way f (i + 1) (linkPut l (pickS (curBelow c 5).2 [wOne, wTwo, wThree]).1).1 (pickS (curBelow c 5).2 [wOne, wTwo, wThree]).2
      have := linkPut_len l (pickS (curBelow c 5).2 [wOne, wTwo, wThree]).1
      omega
    · rw [linkGo_f h]; exact Nat.le_add_right _ _
def link0 (c : Cur) : Link × Cur := linkGo 5 0 ⟨((curBelow c 3).1 : Int), [], 1, 1⟩ (curBelow c 3).2
def linkD (c : Cur) : Link × Cur := (⟨(link0 c).1.epoch, (link0 c).1.way, ((1 + (curBelow (link0 c).2 4).1 : Nat) : Int), ((1 + (curBelow (curBelow (link0 c).2 4).2 4).1 : Nat) : Int)⟩, (curBelow (curBelow (link0 c).2 4).2 4).2)
theorem linkD_b (c : Cur) : (linkD c).2.b = c.b := by unfold linkD link0; simp only [curBelow_b, linkGo_b]
theorem linkD_way (c : Cur) : (linkD c).1.way.length ≤ 5 := by have := linkGo_way 5 0 ⟨((curBelow c 3).1 : Int), [], 1, 1⟩ (curBelow c 3).2; exact Nat.le_trans this (by simp)
theorem linkD_next (c : Cur) : 1 ≤ (linkD c).1.next ∧ (linkD c).1.next ≤ 4 ∧ 1 ≤ (linkD c).1.want ∧ (linkD c).1.want ≤ 4 := by
  have h1 := curBelow_lt (c := (link0 c).2) (n := 4) (by decide)
  have h2 := curBelow_lt (c := (curBelow (link0 c).2 4).2) (n := 4) (by decide)
  unfold linkD; simp only []; omega
def pack0 (c : Cur) : Packet × Cur :=
  let a := curBelow c 3; let b := curBelow a.2 5; let d := curBelow b.2 6; let e := pickS d.2 [wOne, wTwo, []]
  (⟨(a.1 : Int), (b.1 : Int), (d.1 : Int), e.1⟩, e.2)
theorem pack0_b (c : Cur) : (pack0 c).2.b = c.b := by unfold pack0; simp only [pickS_b, curBelow_b]
def longT (n : Nat) (x : UInt8) : Str := List.replicate n x
def packD (c : Cur) : Packet × Cur :=
  let w := curBelow (pack0 c).2 12
  if w.1 = 0 then ({ (pack0 c).1 with seq := (pickI w.2 [-1, 1000000001, 9223372036854775807]).1 }, (pickI w.2 [-1, 1000000001, 9223372036854775807]).2)
  else if w.1 = 1 then ({ (pack0 c).1 with ack := (pickI w.2 [-9223372036854775808, 9223372036854775807]).1 }, (pickI w.2 [-9223372036854775808, 9223372036854775807]).2)
  else if w.1 = 2 then ({ (pack0 c).1 with text := longT (400 + (curBelow w.2 2).1) 97 }, (curBelow w.2 2).2)
  else ((pack0 c).1, w.2)
theorem packD_b (c : Cur) : (packD c).2.b = c.b := by
  unfold packD; simp only []
  split
  · rw [pickI_b, curBelow_b, pack0_b]
  · split
    · rw [pickI_b, curBelow_b, pack0_b]
    · split <;> simp only [curBelow_b, pack0_b]
def byteD (c : Cur) : Str × Cur := ([UInt8.ofNat (curByte c).1], (curByte c).2)
def spoilt (c : Cur) (s : Str) : Str × Cur :=
  let w := curBelow c 12
  if w.1 = 0 then (s ++ (byteD w.2).1, (byteD w.2).2)
  else if w.1 = 1 then (s.take (curBelow w.2 (s.length + 1)).1, (curBelow w.2 (s.length + 1)).2)
  else if (w.1 = 2 ∨ w.1 = 3) ∧ 0 < s.length then
    (s.take (curBelow w.2 s.length).1 ++ (byteD (curBelow w.2 s.length).2).1 ++ s.drop ((curBelow w.2 s.length).1 + 1), (byteD (curBelow w.2 s.length).2).2)
  else (s, w.2)
def hearsS (l : Link) (p : Packet) : Link × Str × Bool :=
  if p.epoch ≠ l.epoch then (l, [], false) else
  let l1 := if l.way ≠ [] ∧ p.ack > 1 ∧ IntKind.i64.wrap (p.ack - 1) = l.next then { l with way := l.way.drop 1, next := IntKind.i64.wrap (l.next + 1) } else l
  if p.seq = 0 ∨ p.seq ≠ l1.want then (l1, [], false) else ({ l1 with want := IntKind.i64.wrap (l1.want + 1) }, p.text, true)
theorem hears_same {l : Link} {p : Packet} (h : 1 ≤ l.next ∧ l.next ≤ 1000) (ha : p.ack ≤ 9223372036854775807) : hearsS l p = linkHears l p := by
  have e : (l.way ≠ [] ∧ p.ack > 1 ∧ IntKind.i64.wrap (p.ack - 1) = l.next) ↔ (l.way ≠ [] ∧ p.ack > l.next ∧ p.ack = IntKind.i64.wrap (l.next + 1)) := by
    have w2 : IntKind.i64.wrap (l.next + 1) = l.next + 1 := by rw [IntKind.wrap_i64]; omega
    rw [w2]
    constructor
    · rintro ⟨h1, h2, h3⟩
      have w1 : IntKind.i64.wrap (p.ack - 1) = p.ack - 1 := by rw [IntKind.wrap_i64]; omega
      rw [w1] at h3; exact ⟨h1, by omega, by omega⟩
    · rintro ⟨h1, h2, h3⟩
      have w1 : IntKind.i64.wrap (p.ack - 1) = p.ack - 1 := by rw [IntKind.wrap_i64]; omega
      rw [w1]; exact ⟨h1, by omega, by omega⟩
  unfold hearsS linkHears
  split
  · rfl
  · by_cases hc : l.way ≠ [] ∧ p.ack > l.next ∧ p.ack = IntKind.i64.wrap (l.next + 1)
    · simp only [if_pos (e.2 hc), if_pos hc]
    · simp only [if_neg (fun q => hc (e.1 q)), if_neg hc]
end Go.Proofs.Ytckeandnnbnapaa.K

/- Calls that turn one array and take memory of their own: what the callers know is kept. -/
namespace Go.Proofs.Ytckeandnnbnapaa.K
open Go Go.RowKit
set_option linter.unusedVariables false
set_option linter.unusedSimpArgs false
theorem far_trav {L : Nat} {fs : Nat → Nat → Nat → List (List V) → V} {fp : Nat → Nat → Nat → List V → V} (hs : ∀ M sz off es, M ≠ L → fs M sz off es = .sl M sz off es) (hp : ∀ M i o e, M ≠ L → fp M i o e = .ptr M i o e) {l : List V} (h : L ∉ V.labelsL l) : V.travL V.nil fs fp l = l := by
  exact far2 hs hp l h
where
  far1 {L : Nat} {fs : Nat → Nat → Nat → List (List V) → V} {fp : Nat → Nat → Nat → List V → V} (hs : ∀ M sz off es, M ≠ L → fs M sz off es = .sl M sz off es) (hp : ∀ M i o e, M ≠ L → fp M i o e = .ptr M i o e) : ∀ x : V, L ∉ V.labels x → V.trav V.nil fs fp x = x
    | .sl M sz off es, h => by
      have h' : L ∉ M :: V.labelsLL es := h
      show fs M sz off (V.travLL V.nil fs fp es) = _
      rw [far3 hs hp es fun q => h' (List.mem_cons_of_mem _ q), hs _ _ _ _ fun q => h' (q ▸ List.mem_cons_self ..)]
    | .ptr M i o e, h => by
      have h' : L ∉ M :: V.labelsL e := h
      show fp M i o (V.travL V.nil fs fp e) = _
      rw [far2 hs hp e fun q => h' (List.mem_cons_of_mem _ q), hp _ _ _ _ fun q => h' (q ▸ List.mem_cons_self ..)]
    | .fn f cs, h => by show V.fn f _ = _; rw [far2 hs hp cs h]
    | .agg cs, h => by show V.agg _ = _; rw [far2 hs hp cs h]
    | .tup cs, h => by show V.tup _ = _; rw [far2 hs hp cs h]
    | .any, _ => rfl
    | .bool _, _ => rfl
    | .int .., _ => rfl
    | .str _, _ => rfl
    | .nil _, _ => rfl
    | .nilP, _ => rfl
  far2 {L : Nat} {fs : Nat → Nat → Nat → List (List V) → V} {fp : Nat → Nat → Nat → List V → V} (hs : ∀ M sz off es, M ≠ L → fs M sz off es = .sl M sz off es) (hp : ∀ M i o e, M ≠ L → fp M i o e = .ptr M i o e) : ∀ l : List V, L ∉ V.labelsL l → V.travL V.nil fs fp l = l
    | [], _ => rfl
    | x :: l, h => by
      have h' : L ∉ V.labels x ++ V.labelsL l := h
      show V.trav _ _ _ x :: V.travL _ _ _ l = _
      rw [far1 hs hp x fun q => h' (List.mem_append_left _ q), far2 hs hp l fun q => h' (List.mem_append_right _ q)]
  far3 {L : Nat} {fs : Nat → Nat → Nat → List (List V) → V} {fp : Nat → Nat → Nat → List V → V} (hs : ∀ M sz off es, M ≠ L → fs M sz off es = .sl M sz off es) (hp : ∀ M i o e, M ≠ L → fp M i o e = .ptr M i o e) : ∀ l : List (List V), L ∉ V.labelsLL l → V.travLL V.nil fs fp l = l
    | [], _ => rfl
    | x :: l, h => by
      have h' : L ∉ V.labelsL x ++ V.labelsLL l := h
      show V.travL _ _ _ x :: V.travLL _ _ _ l = _
      rw [far2 hs hp x fun q => h' (List.mem_append_left _ q), far3 hs hp l fun q => h' (List.mem_append_right _ q)]
section
variable {L j : Nat} {e : List V}
mutual
theorem lab_upd1 : ∀ x : V, ∀ y ∈ V.labels (V.trav V.nil (updS L j e) (updP L j e) x), y ∈ V.labels x ∨ y ∈ V.labelsL e
  | .sl M sz off es, y, hy => by
    have ih := lab_upd3 es
    have hy : y ∈ V.labels (updS L j e M sz off (V.travLL V.nil (updS L j e) (updP L j e) es)) := hy
    unfold updS at hy
    split at hy
    · rcases List.mem_cons.1 hy with rfl | hy
      · exact .inl (List.mem_cons_self ..)
      · obtain ⟨r, hr, hyr⟩ := mem_labelsLL.1 hy
        rcases List.mem_or_eq_of_mem_set hr with hr | rfl
        · rcases ih y (mem_labelsLL.2 ⟨r, hr, hyr⟩) with h | h
          · exact .inl (List.mem_cons_of_mem _ h)
          · exact .inr h
        · exact .inr hyr
    · rcases List.mem_cons.1 hy with rfl | hy
      · exact .inl (List.mem_cons_self ..)
      · rcases ih y hy with h | h
        · exact .inl (List.mem_cons_of_mem _ h)
        · exact .inr h
  | .ptr M i o es, y, hy => by
    have ih := lab_upd2 es
    have hy : y ∈ V.labels (updP L j e M i o (V.travL V.nil (updS L j e) (updP L j e) es)) := hy
    unfold updP at hy
    split at hy
    · rcases List.mem_cons.1 hy with rfl | hy
      · exact .inl (List.mem_cons_self ..)
      · exact .inr hy
    · rcases List.mem_cons.1 hy with rfl | hy
      · exact .inl (List.mem_cons_self ..)
      · rcases ih y hy with h | h
        · exact .inl (List.mem_cons_of_mem _ h)
        · exact .inr h
  | .fn f cs, y, hy => lab_upd2 cs y hy
  | .agg cs, y, hy => lab_upd2 cs y hy
  | .tup cs, y, hy => lab_upd2 cs y hy
  | .any, y, hy => by cases hy
  | .bool _, y, hy => by cases hy
  | .int .., y, hy => by cases hy
  | .str _, y, hy => by cases hy
  | .nil _, y, hy => by cases hy
  | .nilP, y, hy => by cases hy
theorem lab_upd2 : ∀ l : List V, ∀ y ∈ V.labelsL (V.travL V.nil (updS L j e) (updP L j e) l), y ∈ V.labelsL l ∨ y ∈ V.labelsL e
  | [], y, hy => by cases hy
  | x :: l, y, hy => by
    have hy : y ∈ V.labels (V.trav V.nil (updS L j e) (updP L j e) x) ++ V.labelsL (V.travL V.nil (updS L j e) (updP L j e) l) := hy
    rcases List.mem_append.1 hy with h | h
    · exact (lab_upd1 x y h).imp (List.mem_append_left _) id
    · exact (lab_upd2 l y h).imp (List.mem_append_right _) id
theorem lab_upd3 : ∀ l : List (List V), ∀ y ∈ V.labelsLL (V.travLL V.nil (updS L j e) (updP L j e) l), y ∈ V.labelsLL l ∨ y ∈ V.labelsL e
  | [], y, hy => by cases hy
  | x :: l, y, hy => by
    have hy : y ∈ V.labelsL (V.travL V.nil (updS L j e) (updP L j e) x) ++ V.labelsLL (V.travLL V.nil (updS L j e) (updP L j e) l) := hy
    rcases List.mem_append.1 hy with h | h
    · exact (lab_upd2 x y h).imp (List.mem_append_left _) id
    · exact (lab_upd3 l y h).imp (List.mem_append_right _) id
end
end
abbrev Ahd (n : Nat) (h : List V) : Prop := ∀ y ∈ V.labelsL h, y < n
theorem Ahd.upd {n L j : Nat} {e h : List V} (hh : Ahd n h) (he : Ahd n e) : Ahd n (V.updL L j e h) := fun y hy => (lab_upd2 h y hy).elim (hh y) (he y)
theorem Ahd.mono {n m : Nat} {h : List V} (hh : Ahd n h) (hm : n ≤ m) : Ahd m h := fun y hy => Nat.lt_of_lt_of_le (hh y hy) hm
theorem Ahd.updL {m j : Nat} {e h : List V} (hh : Ahd m h) : V.updL m j e h = h :=
  far_trav (L := m) (fun M sz off es hM => if_neg fun q => hM q.1) (fun M i o e hM => if_neg fun q => hM q.1) fun q => Nat.lt_irrefl _ (hh m q)
theorem Ahd.killL {m : Nat} {h : List V} (hh : Ahd m h) : V.killL m h = h :=
  far_trav (L := m) (fun M sz off es hM => if_neg hM) (fun M i o e hM => if_neg hM) fun q => Nat.lt_irrefl _ (hh m q)
theorem Ahd.nil (n : Nat) : Ahd n [] := fun y hy => by cases hy
theorem Ahd.cur {n : Nat} (hn : 1 ≤ n) (c : Cur) : Ahd n (cCur c) := fun y hy => by
  simp [V.labelsL, V.labels, V.labelsLL, zz] at hy; omega
theorem Ahd.app {n : Nat} {a b : List V} (ha : Ahd n a) (hb : Ahd n b) : Ahd n (a ++ b) := fun y hy => by
  obtain ⟨x, hx, hy⟩ := mem_labelsL.1 hy
  rcases List.mem_append.1 hx with h | h
  · exact ha y (mem_labelsL.2 ⟨x, h, hy⟩)
  · exact hb y (mem_labelsL.2 ⟨x, h, hy⟩)
section
variable {P : Program} {ti : Tab} {n n' : Nat} {t t' h h' : List V} {Q : Exit → List V → List V → Nat → Prop} {ops : Array Oper} {o : Oper} {l : List Oper} {late : List Nat}
theorem OkOps.updF {fx : Operand} {args : Array Operand} {ts : Array TypeId} {f : FuncId} {caps ags : List V} {L j k : Nat} {e' : List V} {x : V} (hg : o.guard = none) (ho : o.op = .call ⟨.value fx, args, ts⟩) (hf : opnd t fx = .fn f caps) (ha : args.toList.map (opnd t) ++ caps = ags)
    (hcl : Callable P f) (h1 : Ahd n t) (h2 : Ahd n h) (hc : ∀ h, Ahd n h → OkCall P f ags h n fun r h1 n1 => r = x ∧ h1 = V.updL L j e' h ∧ n1 = n + k) (hn : n + k = n') (ht : putV (V.updL L j e' t) o.dst x = t') (hh : V.updL L j e' h = h') (hk : OkOps P ops l t' h' n' Q) : OkOps P ops (o :: l) t h n Q := by
  refine OkOps.step hg (t' := t') (h' := h') (n' := n') ?_ hk
  rw [← ht, ← hh]
  refine OpOk.call ho hf hcl ?_ ?_
  · unfold V.updL; rw [travL_len]
  · rw [ha]
    refine (hc (t ++ h) (h1.app h2)).mono ?_
    rintro r h1 n1 ⟨rfl, rfl, rfl⟩
    exact ⟨rfl, by unfold V.updL; rw [travL_eq, travL_eq, travL_eq, List.map_append], hn⟩
theorem maskP_ahd {f : Nat → Bool} : ∀ {t : List V} {i : Nat}, Ahd n t → Ahd n (maskP f i t)
  | [], i, h => h
  | x :: t, i, h => by
    have h0 : ∀ y ∈ V.labels x ++ V.labelsL t, y < n := h
    intro y hy
    have hy : y ∈ V.labels (if f i then x else .any) ++ V.labelsL (maskP f (i + 1) t) := hy
    rcases List.mem_append.1 hy with hy | hy
    · split at hy
      · exact h0 y (List.mem_append_left _ hy)
      · cases hy
    · exact maskP_ahd (i := i + 1) (fun z hz => h0 z (List.mem_append_right _ hz)) y hy
theorem TOps.updF {fx : Operand} {args : Array Operand} {ts : Array TypeId} {f : FuncId} {caps ags : List V} {L j k : Nat} {e' : List V} {x : V} (hg : o.guard = none) (ho : o.op = .call ⟨.value fx, args, ts⟩) (hf : opnd t fx = .fn f caps) (ha : args.toList.map (opnd t) ++ caps = ags)
    (hcl : Callable P f) (h1 : Ahd n t) (h2 : Ahd n h) (hc : ∀ h, Ahd n h → OkCall P f ags h n fun r h1 n1 => r = x ∧ h1 = V.updL L j e' h ∧ n1 = n + k) (hn : n + k = n') (ht : putV (V.updL L j e' t) o.dst x = t') (hh : V.updL L j e' h = h') (hl : LateOk P ops t' late) (hk : TOps P ops late Q l t' h' n') : TOps P ops late Q (o :: l) t h n := by
  refine ⟨t', h', n', hg, .inr fun f' hf' hd => ?_, hl, hk⟩
  have e1 : opnd (maskP f' 0 t) fx = opnd t fx := opnd_maskP (by rw [ho]; simp [Op.operands, Call.operands]) hf'
  have e2 : args.toList.map (opnd (maskP f' 0 t)) = args.toList.map (opnd t) := List.map_congr_left fun x hx => opnd_maskP (by rw [ho]; simp only [Op.operands, Call.operands, Array.toList_append, List.mem_append]; exact .inr hx) hf'
  have e3 : maskP f' 0 (V.updL L j e' t) = V.updL L j e' (maskP f' 0 t) := by
    unfold V.updL
    rw [travL_eq, travL_eq]
    exact maskP_map f' _ rfl t 0
  rw [← ht, ← hh, ← maskP_put hd, e3]
  refine OpOk.call ho (e1.trans hf) hcl ?_ ?_
  · unfold V.updL; rw [travL_len]
  · rw [e2, ha]
    refine (hc (maskP f' 0 t ++ h) ((maskP_ahd h1).app h2)).mono ?_
    rintro r h1 n1 ⟨rfl, rfl, rfl⟩
    exact ⟨rfl, by unfold V.updL; rw [travL_eq, travL_eq, travL_eq, List.map_append], hn⟩
end
end Go.Proofs.Ytckeandnnbnapaa.K

/- Plain laws: what is written as a number, a packet, is read again. -/
namespace Go.Proofs.Ytckeandnnbnapaa.K
open Go Go.RowKit
theorem rdV_var {s : Str} {p N E : Nat} (hN : N ≤ 1000000000) (hv : varT N = (s.take E).drop p) : ∀ (m f i n : Nat) (r : Str), s.drop (p + i) = varT m ++ r → n + m * 128 ^ i = N → p + i + (varT m).length = E → (varT m).length ≤ f → rdV s p f i n = some (N, E) := by
  intro m
  induction m using Nat.strongRecOn with
  | ind m ih =>
    intro f i n r hs hn hE hf
    have hlen : ∀ (b : UInt8) (l : Str), s.drop (p + i) = b :: l → ∃ h : p + i < s.length, s[p + i] = b ∧ s.drop (p + i + 1) = l := fun b l h => by
      have hl : p + i < s.length := by
        have := congrArg List.length h
        rw [List.length_drop, List.length_cons] at this; omega
      have hd := List.drop_eq_getElem_cons hl
      rw [h] at hd
      exact ⟨hl, (List.cons.inj hd).1.symm, (List.cons.inj hd).2.symm⟩
    by_cases hm : m ≤ 127
    · rw [varT_lo hm] at hs hE hf
      obtain ⟨h1, h2, h3⟩ := hlen _ _ hs
      obtain ⟨f, rfl⟩ : ∃ k, f = k + 1 := ⟨f - 1, by simp at hf; omega⟩
      have hb : s[p + i].toNat = m := by rw [h2, UInt8.toNat_ofNat']; omega
      rw [rdV_lo h1 (by omega), hb, Nat.mod_eq_of_lt (by omega), hn]
      rw [List.length_singleton] at hE
      rw [hE, if_pos ⟨hN, hv⟩]
    · have hm' : 127 < m := by omega
      rw [varT_hi hm'] at hs hE hf
      obtain ⟨h1, h2, h3⟩ := hlen _ _ hs
      obtain ⟨f, rfl⟩ : ∃ k, f = k + 1 := ⟨f - 1, by simp at hf; omega⟩
      have hb : s[p + i].toNat = m % 128 + 128 := by rw [h2, UInt8.toNat_ofNat']; omega
      rw [rdV_hi h1 (by omega), hb]
      refine ih (m / 128) (by omega) f (i + 1) _ r ?_ ?_ ?_ ?_
      · rw [← Nat.add_assoc]; exact h3
      · rw [← hn, Nat.pow_succ, show (m % 128 + 128) % 128 = m % 128 by omega]
        have h4 : m = 128 * (m / 128) + m % 128 := by omega
        have h5 : m / 128 * (128 ^ i * 128) = 128 * (m / 128) * 128 ^ i := by rw [Nat.mul_comm (128 ^ i) 128, ← Nat.mul_assoc, Nat.mul_comm (m / 128) 128]
        rw [h5, Nat.add_assoc, ← Nat.add_mul]
        rw [Nat.add_comm (m % 128), ← h4]
      · simp only [List.length_cons] at hE; omega
      · simp only [List.length_cons] at hf; omega
theorem readVar_at (a r : Str) {n : Nat} (hn : n ≤ 1000000000) : readVar (a ++ (varT n ++ r)) (a.length : Int) = some (n, a.length + (varT n).length) := by
  unfold readVar
  rw [if_pos (inR_t.2 (by simp only [List.length_append]; omega)), Int.toNat_natCast]
  refine rdV_var hn ?_ n 5 0 0 r ?_ (by simp) (by omega) (varT_len5 (by omega))
  · rw [← List.append_assoc, List.take_left' (by simp), List.drop_left]
  · rw [Nat.add_zero, List.drop_left]
theorem scanNum_at (a r : Str) {n : Nat} (hn : n ≤ 1000000000) : scanNum ⟨a ++ (varT n ++ r), (a.length : Int), false⟩ = (n, ⟨a ++ (varT n ++ r), ((a ++ varT n).length : Int), false⟩) := by
  unfold scanNum
  rw [readVar_at a r hn]
  simp
theorem scanShort_at (a t : Str) (hn : t.length ≤ 20000) : scanShort ⟨a ++ (varT t.length ++ t), (a.length : Int), false⟩ = (t, ⟨a ++ (varT t.length ++ t), ((a ++ (varT t.length ++ t)).length : Int), false⟩) := by
  unfold scanShort readShort
  rw [readVar_at a t (by omega)]
  simp only []
  rw [if_pos ⟨hn, by simp only [List.length_append]; omega⟩]
  have h1 : (a ++ (varT t.length ++ t)).take (a.length + (varT t.length).length + t.length) = a ++ (varT t.length ++ t) := List.take_of_length_le (by simp only [List.length_append]; omega)
  have h2 : (a ++ (varT t.length ++ t)).drop (a.length + (varT t.length).length) = t := by
    rw [← List.append_assoc, List.drop_left' (by simp)]
  rw [h1, h2]
  simp [Nat.add_assoc]
theorem unsealed_seal {s : Str} (h : s.length ≤ 20000) : unsealed (sealT s) = some s := by
  have hl : (sealT s).length = s.length + 4 := by unfold sealT; rw [List.length_append, fourT_len]
  have h1 : (sealT s).take ((sealT s).length - 4) = s := by rw [hl, Nat.add_sub_cancel]; unfold sealT; rw [List.take_left]
  have h2 : (sealT s).drop ((sealT s).length - 4) = fourT (sumOf s) := by rw [hl, Nat.add_sub_cancel]; unfold sealT; rw [List.drop_left]
  unfold unsealed
  rw [h1, if_pos ⟨by omega, by omega, h2⟩]
theorem packetBody_len {p : Packet} (h : packetOk p = true) : (0 ≤ p.epoch ∧ p.epoch ≤ 1000000000) ∧ (0 ≤ p.seq ∧ p.seq ≤ 1000000000) ∧ (0 ≤ p.ack ∧ p.ack ≤ 1000000000) ∧ p.text.length ≤ 400 ∧ (packetBody p).length ≤ 20000 := by
  unfold packetOk at h
  simp only [Bool.and_eq_true, decide_eq_true_eq] at h
  obtain ⟨⟨⟨h1, h2⟩, h3⟩, h4⟩ := h
  have h1 := inR_t.1 h1; have h2 := inR_t.1 h2; have h3 := inR_t.1 h3
  refine ⟨h1, h2, h3, by omega, ?_⟩
  have q1 := varT_len5 (n := p.epoch.toNat) (by omega)
  have q2 := varT_len5 (n := p.seq.toNat) (by omega)
  have q3 := varT_len5 (n := p.ack.toNat) (by omega)
  have q4 := varT_len5 (n := p.text.length) (by omega)
  unfold packetBody
  simp only [List.length_append]; omega
theorem packet_back {p : Packet} (h : packetOk p = true) : readS (sealT (packetBody p)) = some p := by
  obtain ⟨h1, h2, h3, h4, h5⟩ := packetBody_len h
  have e1 : packetBody p = [] ++ (varT p.epoch.toNat ++ (varT p.seq.toNat ++ (varT p.ack.toNat ++ (varT p.text.length ++ p.text)))) := by unfold packetBody; simp only [List.append_assoc, List.nil_append]
  have e2 : packetBody p = varT p.epoch.toNat ++ (varT p.seq.toNat ++ (varT p.ack.toNat ++ (varT p.text.length ++ p.text))) := e1
  have e3 : packetBody p = (varT p.epoch.toNat ++ varT p.seq.toNat) ++ (varT p.ack.toNat ++ (varT p.text.length ++ p.text)) := by unfold packetBody; simp only [List.append_assoc]
  have e4 : packetBody p = (varT p.epoch.toNat ++ varT p.seq.toNat ++ varT p.ack.toNat) ++ (varT p.text.length ++ p.text) := rfl
  have s1 : scan1 (packetBody p) false = (p.epoch.toNat, ⟨packetBody p, ((varT p.epoch.toNat).length : Int), false⟩) := by
    have := scanNum_at [] (varT p.seq.toNat ++ (varT p.ack.toNat ++ (varT p.text.length ++ p.text))) (n := p.epoch.toNat) (by omega)
    rw [← e1] at this; exact this
  have s2 : scan2 (packetBody p) false = (p.seq.toNat, ⟨packetBody p, ((varT p.epoch.toNat ++ varT p.seq.toNat).length : Int), false⟩) := by
    unfold scan2; rw [s1]
    have := scanNum_at (varT p.epoch.toNat) (varT p.ack.toNat ++ (varT p.text.length ++ p.text)) (n := p.seq.toNat) (by omega)
    rw [← e2] at this; exact this
  have s3 : scan3 (packetBody p) false = (p.ack.toNat, ⟨packetBody p, ((varT p.epoch.toNat ++ varT p.seq.toNat ++ varT p.ack.toNat).length : Int), false⟩) := by
    unfold scan3; rw [s2]
    have := scanNum_at (varT p.epoch.toNat ++ varT p.seq.toNat) (varT p.text.length ++ p.text) (n := p.ack.toNat) (by omega)
    rw [← e3] at this; exact this
  have s4 : scan4 (packetBody p) false = (p.text, ⟨packetBody p, ((packetBody p).length : Int), false⟩) := by
    unfold scan4; rw [s3]
    have := scanShort_at (varT p.epoch.toNat ++ varT p.seq.toNat ++ varT p.ack.toNat) p.text (by omega)
    rw [← e4] at this; exact this
  have hp : scanP (packetBody p) false = p := by
    unfold scanP
    rw [s1, s2, s3, s4]
    simp only []
    rw [Int.toNat_of_nonneg h1.1, Int.toNat_of_nonneg h2.1, Int.toNat_of_nonneg h3.1]
  unfold readS
  rw [unsealed_seal h5]
  simp only [Option.getD_some, Option.isNone_some]
  rw [hp, s4, if_pos ⟨rfl, if_pos h⟩]
theorem packetText_len (p : Packet) : ((packetText p).getD []).length ≤ 20004 := by
  unfold packetText
  split
  · rename_i hk
    have := (packetBody_len hk).2.2.2.2
    simp only [Option.getD_some]; unfold sealT; rw [List.length_append, fourT_len]; omega
  · simp
theorem packet_round {p : Packet} {t : Str} (h : packetText p = some t) : readS t = some p := by
  unfold packetText at h
  split at h
  · rename_i hk
    rw [← Option.some.inj h]; exact packet_back hk
  · cases h
theorem read_text {t : Str} {p : Packet} (h : readS t = some p) : packetText p = some t := by
  unfold readS at h
  split at h
  · rename_i hc
    rw [← Option.some.inj h]; exact hc.2
  · cases h
end Go.Proofs.Ytckeandnnbnapaa.K

/- Plain laws: bytes laid one by one. -/
namespace Go.Proofs.Ytckeandnnbnapaa.K
open Go Go.RowKit
theorem le_eqm {a b : V} (h : a = b) : V.le a b := h ▸ le_rfl' a
theorem set_rep {i n : Nat} {b d : UInt8} (h : i < n) : ((List.replicate i b ++ List.replicate (n - i) d).map cB).set i [.int .u8 (b.toNat : Int)] = (List.replicate (i + 1) b ++ List.replicate (n - (i + 1)) d).map cB := by
  rw [show ([V.int IntKind.u8 (b.toNat : Int)] : List V) = cB b from rfl, set_map cB]
  congr 1
  rw [show n - i = n - (i + 1) + 1 by omega, List.replicate_succ, List.set_append_right _ _ (by simp)]
  simp [List.replicate_succ']
theorem longT_end {n : Nat} {b d : UInt8} : List.replicate n b ++ List.replicate (n - n) d = longT n b := by simp [longT]
theorem wrap_400 {x : Nat} (h : x ≤ 1000) : IntKind.i64.wrap (400 + (x : Int)) = ((400 + x : Nat) : Int) := by rw [IntKind.wrap_i64]; omega
theorem wrap_1 {x : Nat} (h : x ≤ 1000) : IntKind.i64.wrap (1 + (x : Int)) = ((1 + x : Nat) : Int) := by rw [IntKind.wrap_i64]; omega
theorem longT_len (n : Nat) (b : UInt8) : (longT n b).length = n := by simp [longT]
theorem byteD_len (c : Cur) : (byteD c).1.length = 1 := rfl
theorem byteD_b (c : Cur) : (byteD c).2.b = c.b := curByte_b c
theorem spoilt_0 {c : Cur} {s : Str} (h : (curBelow c 12).1 = 0) : spoilt c s = (s ++ (byteD (curBelow c 12).2).1, (byteD (curBelow c 12).2).2) := if_pos h
theorem spoilt_1 {c : Cur} {s : Str} (h : (curBelow c 12).1 = 1) : spoilt c s = (s.take (curBelow (curBelow c 12).2 (s.length + 1)).1, (curBelow (curBelow c 12).2 (s.length + 1)).2) := by
  unfold spoilt; simp only []; rw [if_neg (by omega), if_pos h]
theorem spoilt_2 {c : Cur} {s : Str} (h : (curBelow c 12).1 = 2 ∨ (curBelow c 12).1 = 3) (hs : 0 < s.length) : spoilt c s = (s.take (curBelow (curBelow c 12).2 s.length).1 ++ (byteD (curBelow (curBelow c 12).2 s.length).2).1 ++ s.drop ((curBelow (curBelow c 12).2 s.length).1 + 1), (byteD (curBelow (curBelow c 12).2 s.length).2).2) := by
  unfold spoilt; simp only []; rw [if_neg (by omega), if_neg (by omega), if_pos ⟨h, hs⟩]
theorem spoilt_n {c : Cur} {s : Str} (h0 : ¬ (curBelow c 12).1 = 0) (h1 : ¬ (curBelow c 12).1 = 1) (h : ¬ (((curBelow c 12).1 = 2 ∨ (curBelow c 12).1 = 3) ∧ 0 < s.length)) : spoilt c s = (s, (curBelow c 12).2) := by
  unfold spoilt; simp only []; rw [if_neg h0, if_neg h1, if_neg h]
theorem packD_0 {c : Cur} (h : (curBelow (pack0 c).2 12).1 = 0) : packD c = ({ (pack0 c).1 with seq := (pickI (curBelow (pack0 c).2 12).2 [-1, 1000000001, 9223372036854775807]).1 }, (pickI (curBelow (pack0 c).2 12).2 [-1, 1000000001, 9223372036854775807]).2) := if_pos h
theorem packD_1 {c : Cur} (h : (curBelow (pack0 c).2 12).1 = 1) : packD c = ({ (pack0 c).1 with ack := (pickI (curBelow (pack0 c).2 12).2 [-9223372036854775808, 9223372036854775807]).1 }, (pickI (curBelow (pack0 c).2 12).2 [-9223372036854775808, 9223372036854775807]).2) := by
  unfold packD; simp only []; rw [if_neg (by omega), if_pos h]
theorem packD_2 {c : Cur} (h : (curBelow (pack0 c).2 12).1 = 2) : packD c = ({ (pack0 c).1 with text := longT (400 + (curBelow (curBelow (pack0 c).2 12).2 2).1) 97 }, (curBelow (curBelow (pack0 c).2 12).2 2).2) := by
  unfold packD; simp only []; rw [if_neg (by omega), if_neg (by omega), if_pos h]
theorem packD_n {c : Cur} (h0 : ¬ (curBelow (pack0 c).2 12).1 = 0) (h1 : ¬ (curBelow (pack0 c).2 12).1 = 1) (h2 : ¬ (curBelow (pack0 c).2 12).1 = 2) : packD c = ((pack0 c).1, (curBelow (pack0 c).2 12).2) := by
  unfold packD; simp only []; rw [if_neg h0, if_neg h1, if_neg h2]
abbrev hearsK (code : Str) : Nat := (curBelow (curNew code) 3).1
abbrev hearsL (code : Str) : Link := (linkD (curBelow (curNew code) 3).2).1
abbrev hearsP0 (code : Str) : Packet := (packD (linkD (curBelow (curNew code) 3).2).2).1
def hearsP1 (code : Str) : Packet := if hearsK code > 0 then { hearsP0 code with epoch := (hearsL code).epoch } else hearsP0 code
def hearsD (code : Str) : Packet := if hearsK code > 1 then { hearsP1 code with seq := (hearsL code).want, ack := IntKind.i64.wrap ((hearsL code).next + 1) } else hearsP1 code
abbrev readK (code : Str) : Nat := (curBelow (curNew code) 3).1
abbrev readC (code : Str) : Cur := (packD (curBelow (curNew code) 3).2).2
abbrev readT (code : Str) : Str := (packetText (packD (curBelow (curNew code) 3).2).1).getD []
def readD (code : Str) : Str := if readK code = 0 ∧ (unsealed (readT code)).isSome = true then (sealed (spoilt (readC code) ((unsealed (readT code)).getD [])).1).getD [] else readT code
theorem readT_len (code : Str) : (readT code).length ≤ 20004 := packetText_len _
theorem readD_y {code : Str} (h : readK code = 0) (h2 : (unsealed (readT code)).isSome = true) : readD code = (sealed (spoilt (readC code) ((unsealed (readT code)).getD [])).1).getD [] := if_pos ⟨h, h2⟩
theorem readD_n {code : Str} (h : ¬ (readK code = 0 ∧ (unsealed (readT code)).isSome = true)) : readD code = readT code := if_neg h
abbrev putW : List Int := [0, 1, 400, 401]
def putT (code : Str) : Str := longT (pickI (curNew code) putW).1.toNat 97
abbrev putC (code : Str) : Cur := (linkD (pickI (curNew code) putW).2).2
def putL (code : Str) : Link := if ((curBelow (putC code) 8).1 : Int) = 0 then { (linkD (pickI (curNew code) putW).2).1 with way := List.replicate 60 [] } else (linkD (pickI (curNew code) putW).2).1
theorem put_pick (code : Str) : ∃ q : Nat, (pickI (curNew code) putW).1 = (q : Int) ∧ q ≤ 401 ∧ putT code = longT q 97 := by
  have h := pickI_mem (c := curNew code) (xs := putW) (by decide)
  have h1 : ∀ z ∈ putW, 0 ≤ z ∧ z ≤ 401 := by decide
  have := h1 _ h
  exact ⟨(pickI (curNew code) putW).1.toNat, by omega, by omega, rfl⟩
theorem putL_way (code : Str) : (putL code).way.length ≤ 60 := by
  unfold putL
  split
  · simp
  · exact Nat.le_trans (linkD_way _) (by decide)
def drops (l : Link) (p : Packet) : Bool := decide (l.way ≠ [] ∧ p.ack > 1 ∧ IntKind.i64.wrap (p.ack - 1) = l.next)
def wants (l : Link) (p : Packet) : Bool := !decide (p.seq = 0 ∨ p.seq ≠ l.want)
theorem drops_t {l : Link} {p : Packet} (h : drops l p = true) : l.way ≠ [] ∧ p.ack > 1 ∧ IntKind.i64.wrap (p.ack - 1) = l.next := of_decide_eq_true h
theorem hears_off {l : Link} {p : Packet} (h : p.epoch ≠ l.epoch) : hearsS l p = (l, [], false) := if_pos h
theorem hears_no {l : Link} {p : Packet} (h : p.epoch = l.epoch) (hd : drops l p = false) (hw : wants l p = false) : hearsS l p = (l, [], false) := by
  have h2 : ¬ (l.way ≠ [] ∧ p.ack > 1 ∧ IntKind.i64.wrap (p.ack - 1) = l.next) := of_decide_eq_false hd
  have h3 : p.seq = 0 ∨ p.seq ≠ l.want := by unfold wants at hw; rw [Bool.not_eq_false', decide_eq_true_eq] at hw; exact hw
  unfold hearsS
  rw [if_neg (by simp [h])]
  simp only [if_neg h2, if_pos h3]
theorem hears_want {l : Link} {p : Packet} (h : p.epoch = l.epoch) (hd : drops l p = false) (hw : wants l p = true) : hearsS l p = ({ l with want := IntKind.i64.wrap (l.want + 1) }, p.text, true) := by
  have h2 : ¬ (l.way ≠ [] ∧ p.ack > 1 ∧ IntKind.i64.wrap (p.ack - 1) = l.next) := of_decide_eq_false hd
  have h3 : ¬ (p.seq = 0 ∨ p.seq ≠ l.want) := by unfold wants at hw; rw [Bool.not_eq_true', decide_eq_false_iff_not] at hw; exact hw
  unfold hearsS
  rw [if_neg (by simp [h])]
  simp only [if_neg h2, if_neg h3]
end Go.Proofs.Ytckeandnnbnapaa.K

/- Walks: things picked in draws. Printed by w2.py. -/
namespace Go.Proofs.Ytckeandnnbnapaa.K
open Go Go.RowKit
set_option linter.unusedVariables false
set_option linter.unusedSimpArgs false
set_option maxHeartbeats 800000
set_option maxRecDepth 20000
theorem c_spec_l01Pick (c : Cur) (xs : List Str) (L M : Nat) (hb : c.b.length ≤ 4611686018427387904) (hx : 0 < xs.length) (hM : ¬ M = L + 1) {h : List V} {n : Nat}  : OkCall Try.prog 45 [.ptr (L + 1) 0 0 (cCur c), .sl M 1 0 (xs.map cS)] h n (fun r h1 n1 => r = .str (pickS c xs).1 ∧ h1 = V.updL (L + 1) 0 (cCur (pickS c xs).2) h ∧ n1 = n) := by
 refine OkCall.enter' tab_ok Try.func45 rfl (t := [.ptr (L + 1) 0 0 (cCur c), .sl M 1 0 (xs.map cS), .any, .any, .any, .any, .any, .any, .any, .any, .any, .any]) rfl ?_
 refine OQ ?_
 refine EV ?_
 refine ON ?_
 refine OQ ?_
 iterate 4 (refine EV ?_)
 refine OkOps.upd rfl rfl (by simp only [kE, kT, kL, kC] <;> rfl) (by simp only [kE, kT, kL, kC] <;> rfl) cl32 (fun h => c_spec_l01Below c xs.length L hb hx) (by simp only [eq_self, V.updL, V.travL, V.travLL, V.trav, updS, updP, and_self, true_and, and_true, false_and, and_false, Nat.reduceEqDiff, Nat.reduceSub, Nat.le_refl, Nat.zero_le, ↓reduceIte, if_true, if_false, kP, zz, hM] <;> rfl) (rfl) ?_
 refine OkOps.ev tab_ok rfl (ev_idx (by simp only [kE, kT, kL, kC] <;> rfl) (by simp only [kE, kT, kL, kC] <;> rfl) (by rw [List.getElem?_map, pickS_get hx]; rfl) (by simp only [kE, kT, kL, kC] <;> rfl)) (by simp only [kP] <;> rfl) ?_
 iterate 2 (refine EV ?_)
 refine ON ?_
 refine Ok.ret ?_
 with_reducible repeat (first | refine thenQ_ret ?_ | refine blockQ_ret ?_)
 refine RT ?_
 exact ⟨rfl, rfl, rfl⟩
theorem c_spec_l01PickInt (c : Cur) (xs : List Int) (L M : Nat) (hb : c.b.length ≤ 4611686018427387904) (hx : 0 < xs.length) (hM : ¬ M = L + 1) {h : List V} {n : Nat}  : OkCall Try.prog 42 [.ptr (L + 1) 0 0 (cCur c), .sl M 1 0 (xs.map cZ)] h n (fun r h1 n1 => r = .int .i64 (pickI c xs).1 ∧ h1 = V.updL (L + 1) 0 (cCur (pickI c xs).2) h ∧ n1 = n) := by
 refine OkCall.enter' tab_ok Try.func42 rfl (t := [.ptr (L + 1) 0 0 (cCur c), .sl M 1 0 (xs.map cZ), .any, .any, .any, .any, .any, .any, .any, .any, .any, .any]) rfl ?_
 refine OQ ?_
 refine EV ?_
 refine ON ?_
 refine OQ ?_
 iterate 4 (refine EV ?_)
 refine OkOps.upd rfl rfl (by simp only [kE, kT, kL, kC] <;> rfl) (by simp only [kE, kT, kL, kC] <;> rfl) cl32 (fun h => c_spec_l01Below c xs.length L hb hx) (by simp only [eq_self, V.updL, V.travL, V.travLL, V.trav, updS, updP, and_self, true_and, and_true, false_and, and_false, Nat.reduceEqDiff, Nat.reduceSub, Nat.le_refl, Nat.zero_le, ↓reduceIte, if_true, if_false, kP, zz, hM] <;> rfl) (rfl) ?_
 refine OkOps.ev tab_ok rfl (ev_idx (by simp only [kE, kT, kL, kC] <;> rfl) (by simp only [kE, kT, kL, kC] <;> rfl) (by rw [List.getElem?_map, pickI_get hx]; rfl) (by simp only [kE, kT, kL, kC] <;> rfl)) (by simp only [kP] <;> rfl) ?_
 iterate 2 (refine EV ?_)
 refine ON ?_
 refine Ok.ret ?_
 with_reducible repeat (first | refine thenQ_ret ?_ | refine blockQ_ret ?_)
 refine RT ?_
 exact ⟨rfl, rfl, rfl⟩
theorem c_spec_l01Once (c : Cur) (m : Nat) (L : Nat) (hb : c.b.length ≤ 4611686018427387904) (hm : 0 < m) {h : List V} {n : Nat}  : OkCall Try.prog 43 [.ptr (L + 1) 0 0 (cCur c), .int .i64 (m : Int)] h n (fun r h1 n1 => r = .bool (decide (((curBelow c m).1 : Int) = 0)) ∧ h1 = V.updL (L + 1) 0 (cCur (curBelow c m).2) h ∧ n1 = n) := by
 refine OkCall.enter' tab_ok Try.func43 rfl (t := [.ptr (L + 1) 0 0 (cCur c), .int .i64 (m : Int), .any, .any, .any, .any, .any, .any, .any]) rfl ?_
 refine OQ ?_
 refine EV ?_
 refine ON ?_
 refine OQ ?_
 iterate 2 (refine EV ?_)
 refine OkOps.upd rfl rfl (by simp only [kE, kT, kL, kC] <;> rfl) (by simp only [kE, kT, kL, kC] <;> rfl) cl32 (fun h => c_spec_l01Below c m L hb hm) (by simp only [eq_self, V.updL, V.travL, V.travLL, V.trav, updS, updP, and_self, true_and, and_true, false_and, and_false, Nat.reduceEqDiff, Nat.reduceSub, Nat.le_refl, Nat.zero_le, ↓reduceIte, if_true, if_false, kP, zz] <;> rfl) (rfl) ?_
 iterate 2 (refine EV ?_)
 refine ON ?_
 refine Ok.ret ?_
 with_reducible repeat (first | refine thenQ_ret ?_ | refine blockQ_ret ?_)
 refine RT ?_
 exact ⟨rfl, rfl, rfl⟩
theorem w_spec_l01Long (n : Nat) (b : UInt8) (hn : n ≤ 1000) : Weak Try.prog 41 [.int .i64 (n : Int), .int .u8 (b.toNat : Int)] (.str (longT n b)) := by
 refine Weak.enter tab_ok Try.func41 rfl (.inr (by simp [V.labelsL, V.labels, zz])) (t := [.int .i64 (n : Int), .int .u8 (b.toNat : Int), .any, .any, .any, .any, .any, .any, .any, .any, .any, .any, .any, .any, .any, .any, .any, .any, .any, .any]) rfl ?_
 refine OQ ?_
 refine EV ?_
 refine ON ?_
 refine OQ ?_
 refine EV ?_
 refine OkOps.S' rfl (ok_makeSlice (a := n) (b := n) tab_ok (by simp only [kT] <;> rfl) (by simp only [kT] <;> rfl) (by decide) rfl rfl (by simp only [kE, kL] <;> rfl) (by simp only [kE, kL] <;> rfl) (by omega) (by omega) (by omega) (by show ((1 : Nat) : Int) * _ ≤ _; omega)) (by simp only [Nat.reduceAdd] <;> rfl) (by simp only [kP, Int.toNat_natCast] <;> rfl) ?_
 refine EV ?_
 refine ON ?_
 refine Ok.seq ?_
 refine OQ ?_
 refine EV ?_
 refine ON ?_
 refine Ok.block ?_
 refine Ok.bump (n' := 2) (by omega) ?_
 refine Ok.loopWZ (τ := Nat) (fun x => [(5, .sl 1 1 0 ((List.replicate x b ++ List.replicate (n - x) 0).map cB)), (6, .int .i64 (x : Int)), (8, .any)]) [9, 10, 11, 12, 13, 14, 15, 16, 17] (fun x => by simp only [kover] <;> rfl) (fun x => x ≤ n) (fun x => n - x) 0 (by omega) (by refine ⟨?_, ?_, ?_, ?_, ?_, ?_, ?_, ?_, ?_, ?_, ?_, ?_, ?_, ?_, ?_, ?_, ?_, ?_, ?_, ?_, trivial⟩ <;> first | exact le_any _ | with_reducible exact le_rfl' _ | (first | exact le_rfl' _ | (refine le_eqm (congrArg (V.sl 1 1 0) ?_); rw [List.replicate_zero, List.nil_append, Nat.sub_zero, List.map_replicate]; rfl)) | exact le_rfl' _) (Nat.zero_le _) ?_
 rintro i h1
 refine Ok.seq ?_
 refine OQ ?_
 iterate 3 (refine EV ?_)
 refine ON ?_
 refine Ok.cond (b := _) (by simp only [kE, kT, kL, kC] <;> rfl) (fun hb3 => ?_) (fun hb3 => ?_)
 ·
  try simp only [bsimp] at hb3
  have hi : i < n := by omega
  have hs := set_rep (b := b) (d := 0) hi
  refine Ok.skip ?_
  refine Ok.seq ?_
  refine Ok.block ?_
  refine Ok.region ?_
  iterate 3 (refine EV ?_)
  refine OkOps.ev tab_ok rfl (ev_idx_map (by simp only [kE, kT, kL, kC] <;> rfl) (by simp only [kE, kT, kL, kC] <;> rfl) (by simp; omega) (by simp only [kE, kT, kL, kC] <;> rfl)) (by simp only [kP] <;> rfl) ?_
  refine OkOps.storeE tab_ok rfl rfl (by simp only [kE, kT, kL, kC] <;> rfl) ⟨_, _, by simp only [kE]; rfl⟩ (by first | (simp [V.labelsL, V.labelsLL, V.labels, zz]; done) | (simp [-List.map_map, -List.map_set, -List.map_drop, -List.map_take, -List.map_tail, -List.drop_one, V.labelsL, V.labelsLL, V.labels, zz]; done)) (by simp only [eq_self, V.updL, V.travL, V.travLL, V.trav, updS, updP, and_self, true_and, and_true, false_and, and_false, Nat.reduceEqDiff, Nat.reduceSub, Nat.le_refl, Nat.zero_le, ↓reduceIte, if_true, if_false, kP, zz, hs, Nat.sub_zero] <;> rfl) (rfl) ?_
  refine ON ?_
  refine Ok.region ?_
  iterate 3 (refine EV ?_)
  refine ON ?_
  refine ⟨i + 1, ?_, rfl, by omega, by omega⟩
  simp only [V.renL, V.travL, V.travLL, V.trav, frz, zz, Nat.reduceLeDiff, ↓reduceIte]
  refine ⟨?_, ?_, ?_, ?_, ?_, ?_, ?_, ?_, ?_, ?_, ?_, ?_, ?_, ?_, ?_, ?_, ?_, ?_, ?_, ?_, trivial⟩ <;> first | exact le_any _ | with_reducible exact le_rfl' _ | (first | (rw [wrap_succ (by omega)]; exact le_rfl' _) | exact le_rfl' _) | exact le_rfl' _
 ·
  try simp only [bsimp] at hb3
  obtain rfl : i = n := by omega
  rw [longT_end]
  have hll := longT_len i b
  refine Ok.exit ?_
  refine OQ ?_
  refine EV ?_
  refine OkOps.ev tab_ok rfl (ev_text' (by simp only [kE, kT, kL, kC] <;> rfl) rfl rfl rfl (by simp only [kby, Option.map_some, List.append_assoc, List.cons_append, List.nil_append] <;> rfl)) (by simp only [kP] <;> rfl) ?_
  refine EV ?_
  refine ON ?_
  refine Ok.ret ?_
  with_reducible repeat (first | refine thenQ_ret ?_ | refine blockQ_ret ?_)
  refine RT ?_
  rfl
theorem c_spec_l01Text (c : Cur) (L : Nat) (hb : c.b.length ≤ 4611686018427387904) {h : List V} {n : Nat} (hlt : Ahd n h) (hL : L + 1 < n) : OkCall Try.prog 56 [.ptr (L + 1) 0 0 (cCur c), .int .i64 1] h n (fun r h1 n1 => r = .str (byteD c).1 ∧ h1 = V.updL (L + 1) 0 (cCur (byteD c).2) h ∧ n1 = n + 2) := by
 have nq01 : ((L + 1 : Nat) = n) = False := eq_false (by omega)
 have nq02 : ((L + 1 : Nat) = n + 1) = False := eq_false (by omega)
 have nq03 : ((L + 1 : Nat) = 0) = False := eq_false (by omega)
 have nq10 : ((n : Nat) = L + 1) = False := eq_false (by omega)
 have nq12 : ((n : Nat) = n + 1) = False := eq_false (by omega)
 have nq13 : ((n : Nat) = 0) = False := eq_false (by omega)
 have nq20 : ((n + 1 : Nat) = L + 1) = False := eq_false (by omega)
 have nq21 : ((n + 1 : Nat) = n) = False := eq_false (by omega)
 have nq23 : ((n + 1 : Nat) = 0) = False := eq_false (by omega)
 have nq30 : ((0 : Nat) = L + 1) = False := eq_false (by omega)
 have nq31 : ((0 : Nat) = n) = False := eq_false (by omega)
 have nq32 : ((0 : Nat) = n + 1) = False := eq_false (by omega)
 refine OkCall.enter' tab_ok Try.func56 rfl (t := [.ptr (L + 1) 0 0 (cCur c), .int .i64 1, .any, .any, .any, .any, .any, .any, .any, .any, .any, .any, .any, .any, .any, .any, .any, .any, .any, .any, .any, .any, .any]) rfl ?_
 refine OQ ?_
 refine EV ?_
 refine ON ?_
 refine Ok.seq ?_
 refine OQ ?_
 iterate 2 (refine EV ?_)
 refine ON ?_
 refine Ok.cond (b := _) (by simp only [kE, kT, kL, kC] <;> rfl) (fun hb1 => ?_) (fun hb1 => ?_)
 ·
  try simp only [bsimp] at hb1
  exfalso; omega
 ·
  try simp only [bsimp] at hb1
  refine Ok.skip ?_
  refine OQ ?_
  iterate 2 (refine EV ?_)
  refine ON ?_
  refine Ok.seq ?_
  refine OQ ?_
  refine EV ?_
  refine ON ?_
  refine Ok.block ?_
  refine Ok.loopHN (τ := Nat) (fun x => [(0, .ptr (L + 1) 0 0 (cCur (if x = 0 then c else (byteD c).2))), (5, .sl n 1 0 ((if x = 0 then [] else (byteD c).1).map cB)), (6, .int .i64 (x : Int))]) [10, 11, 12, 13, 14, 15, 16, 17, 18, 19, 20] (fun x => by simp only [kover] <;> rfl) (fun x => (if x = 0 then h else V.updL (L + 1) 0 (cCur (byteD c).2) h)) (fun x => n + 1 + x) (fun x => x ≤ 1) (fun x => 1 - x) 0 (by refine ⟨?_, ?_, ?_, ?_, ?_, ?_, ?_, ?_, ?_, ?_, ?_, ?_, ?_, ?_, ?_, ?_, ?_, ?_, ?_, ?_, ?_, ?_, ?_, trivial⟩ <;> first | exact le_any _ | with_reducible exact le_rfl' _ | (first | exact le_rfl' _ | exact le_nil n 1) | exact le_rfl' _) (rfl) ((by omega)) (Nat.zero_le _) ?_
  rintro i h1
  refine Ok.seq ?_
  refine OQ ?_
  iterate 3 (refine EV ?_)
  refine ON ?_
  refine Ok.cond (b := _) (by simp only [kE, kT, kL, kC] <;> rfl) (fun hb5 => ?_) (fun hb5 => ?_)
  ·
   try simp only [bsimp] at hb5
   obtain rfl : i = 0 := by omega
   simp only [if_true, Nat.add_zero]
   refine Ok.skip ?_
   refine Ok.seq ?_
   refine Ok.block ?_
   refine Ok.region ?_
   iterate 2 (refine EV ?_)
   refine OkOps.upd rfl rfl (by simp only [kE, kT, kL, kC] <;> rfl) (by simp only [kE, kT, kL, kC] <;> rfl) cl55 (fun h => c_spec_l01Byte c L hb) (by simp only [eq_self, V.updL, V.travL, V.travLL, V.trav, updS, updP, and_self, true_and, and_true, false_and, and_false, Nat.reduceEqDiff, Nat.reduceSub, Nat.le_refl, Nat.zero_le, ↓reduceIte, if_true, if_false, kP, zz, nq01, nq02, nq03, nq10, nq12, nq13, nq20, nq21, nq23, nq30, nq31, nq32] <;> rfl) (rfl) ?_
   refine OkOps.ev tab_ok rfl (by simp only [kE, kT, kL, kC, wrap_u8_nat] <;> rfl) (by simp only [kP] <;> rfl) ?_
   refine OkOps.ev tab_ok rfl (ev_bs (by simp only [kT] <;> rfl) (by simp only [kT] <;> rfl) (by decide) (by decide) (by simp only [kE, kT, kL, kC, List.map_cons, List.map_nil] <;> rfl) (by simp only [kfe, beq_self_eq_true, Bool.and_true, Bool.true_and, decide_true, Nat.zero_add, Nat.lt_add_one, Nat.reduceLT, Nat.reduceAdd, Nat.zero_lt_succ, if_true, ↓reduceIte] <;> rfl)) (by simp only [kP] <;> rfl) ?_
   refine OkOps.append tab_ok rfl rfl (by simp only [kT] <;> rfl) (by simp only [kT] <;> rfl) (by decide) rfl (by simp only [kE, kT, kL, kC] <;> rfl) (.inl ⟨_, _, by simp only [kE, kT, kL, kC] <;> rfl⟩) (by omega) (by omega) (by simp only [List.map_nil, List.length_nil, List.length_cons]; omega) (by simp only [List.map_nil, List.length_nil, List.length_cons]; omega) (by simp [V.one]) (by simp only [V.killL, V.killLL, V.travL, V.travLL, V.trav, killS, killP, Nat.reduceEqDiff, ↓reduceIte, reduceCtorEq, if_true, if_false, List.append_nil, List.nil_append, List.cons_append, zz, nq01, nq02, nq03, nq10, nq12, nq13, nq20, nq21, nq23, nq30, nq31, nq32] <;> rfl) (by simp only [V.killL, V.killLL, V.travL, V.travLL, V.trav, killS, killP, Nat.reduceEqDiff, ↓reduceIte, reduceCtorEq, if_true, if_false, List.append_nil, List.nil_append, List.cons_append, zz, nq01, nq02, nq03, nq10, nq12, nq13, nq20, nq21, nq23, nq30, nq31, nq32, kP] <;> rfl) (Ahd.killL (by repeat (first | exact hlt | exact hlt.mono (by omega) | refine Ahd.upd ?_ (Ahd.cur (by omega) _)))) ?_
   refine EV ?_
   refine ON ?_
   refine Ok.region ?_
   iterate 3 (refine EV ?_)
   refine ON ?_
   refine ⟨1, ?_, rfl, (by omega), Nat.le_refl _, by omega⟩
   refine ⟨?_, ?_, ?_, ?_, ?_, ?_, ?_, ?_, ?_, ?_, ?_, ?_, ?_, ?_, ?_, ?_, ?_, ?_, ?_, ?_, ?_, ?_, ?_, trivial⟩ <;> first | exact le_any _ | with_reducible exact le_rfl' _ | (first | exact le_rfl' _ | (rw [wrap_succ (by omega)]; exact le_rfl' _)) | exact le_rfl' _
  ·
   try simp only [bsimp] at hb5
   obtain rfl : i = 1 := by omega
   simp only [Nat.one_ne_zero, if_false]
   refine Ok.exit ?_
   refine OQ ?_
   refine EV ?_
   refine OkOps.ev tab_ok rfl (ev_text' (by simp only [kE, kT, kL, kC] <;> rfl) rfl rfl rfl (by simp only [kby, Option.map_some, List.append_assoc, List.cons_append, List.nil_append] <;> rfl)) (by simp only [kP] <;> rfl) ?_
   refine EV ?_
   refine ON ?_
   refine Ok.ret ?_
   with_reducible repeat (first | refine thenQ_ret ?_ | refine blockQ_ret ?_)
   refine RT ?_
   exact ⟨rfl, rfl, rfl⟩
end Go.Proofs.Ytckeandnnbnapaa.K
