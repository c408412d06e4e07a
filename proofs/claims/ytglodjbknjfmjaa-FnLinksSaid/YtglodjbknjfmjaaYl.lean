/- Draws, links heard: plain functions; what goes over a link. -/
import Derived.Test.YtglodjbknjfmjaaY4
import Derived.Test.YtglodjbknjfmjaaY3
namespace Go.Proofs.Ytglodjbknjfmjaa.K
open Go Go.RowKit
set_option linter.unusedVariables false
set_option linter.unusedSimpArgs false
structure Cur where
  b : Str
  i : Nat
  h : Int
abbrev cCur (c : Cur) : List V := [.sl 0 1 0 (c.b.map cB), .int .i64 (c.i : Int), .int .i64 c.h]
def and255 (a : Int) : Nat := (BitVec.ofInt 64 a &&& BitVec.ofInt 64 255).toNat
theorem and255_le (a : Int) : and255 a ≤ 255 := by
  unfold and255
  rw [BitVec.toNat_and]
  exact Nat.le_trans Nat.and_le_right (by decide)
theorem and255_m (a : Int) : IntKind.i64.wrap ((BitVec.ofInt IntKind.i64.bits a &&& BitVec.ofInt IntKind.i64.bits 255).toNat : Int) = (and255 a : Int) := by
  show IntKind.i64.wrap ((and255 a : Nat) : Int) = _
  exact wrap_nat (by have := and255_le a; omega)
def stepH (h : Int) : Int := IntKind.i64.wrap (IntKind.i64.wrap (h * 6364136223846793005) + 1442695040888963407)
def mixH (h : Int) : Nat := and255 (IntKind.i64.wrap ((BitVec.ofInt IntKind.i64.bits (h.fdiv (2 ^ min (Int.toNat 33) IntKind.i64.bits)) ^^^ BitVec.ofInt IntKind.i64.bits (h.fdiv (2 ^ min (Int.toNat 45) IntKind.i64.bits))).toNat : Int))
/-- A drawn byte. -/
def curByte (c : Cur) : Nat × Cur := if h : c.i < c.b.length then (and255 (IntKind.i64.wrap ((mixH (stepH c.h) : Int) + (c.b[c.i].toNat : Int))), { c with i := c.i + 1, h := stepH c.h }) else (mixH (stepH c.h), { c with h := stepH c.h })
theorem curByte_in {c : Cur} (h : c.i < c.b.length) : curByte c = (and255 (IntKind.i64.wrap ((mixH (stepH c.h) : Int) + (c.b[c.i].toNat : Int))), { c with i := c.i + 1, h := stepH c.h }) := dif_pos h
theorem curByte_out {c : Cur} (h : ¬ c.i < c.b.length) : curByte c = (mixH (stepH c.h), { c with h := stepH c.h }) := dif_neg h
theorem curByte_le (c : Cur) : (curByte c).1 ≤ 255 := by
  unfold curByte
  split
  · exact and255_le _
  · exact and255_le _
theorem curByte_b (c : Cur) : (curByte c).2.b = c.b := by unfold curByte; split <;> rfl
/-- A number drawn below n. -/
def curBelow (c : Cur) (n : Nat) : Nat × Cur :=
  if n = 0 then (0, c)
  else if n ≤ 256 then ((curByte c).1 % n, (curByte c).2)
  else (((curByte c).1 * 16777216 + (curByte (curByte c).2).1 * 65536 + (curByte (curByte (curByte c).2).2).1 * 256 + (curByte (curByte (curByte (curByte c).2).2).2).1) % n, (curByte (curByte (curByte (curByte c).2).2).2).2)
theorem curBelow_lt {c : Cur} {n : Nat} (h : 0 < n) : (curBelow c n).1 < n := by
  unfold curBelow
  split
  · omega
  · split <;> exact Nat.mod_lt _ h
theorem curBelow_b (c : Cur) (n : Nat) : (curBelow c n).2.b = c.b := by
  unfold curBelow
  split
  · rfl
  · split
    · exact curByte_b c
    · simp only [curByte_b]
def hashC : Nat → Str → Int → Int
  | 0, _, h => h
  | _ + 1, [], h => h
  | f + 1, b :: l, h => hashC f l (IntKind.i64.wrap ((BitVec.ofInt IntKind.i64.bits (IntKind.i64.wrap (IntKind.i64.wrap (IntKind.i64.wrap (h * 131) + (b.toNat : Int)) + 7)) &&& BitVec.ofInt IntKind.i64.bits 1073741823).toNat : Int))
def curNew (code : Str) : Cur := ⟨code, 0, hashC 4000 code (IntKind.i64.wrap (77201 + (code.length : Int)))⟩
def drawN : Nat → Nat → Cur → List Nat × Cur
  | 0, _, c => ([], c)
  | k + 1, n, c => let r := drawN k n (curBelow c n).2; ((curBelow c n).1 :: r.1, r.2)
theorem drawN_len : ∀ (k n : Nat) (c : Cur), (drawN k n c).1.length = k
  | 0, _, _ => rfl
  | k + 1, n, c => by simp [drawN, drawN_len k n]
theorem drawN_lt {n : Nat} (hn : 0 < n) : ∀ (k : Nat) (c : Cur), ∀ x ∈ (drawN k n c).1, x < n
  | 0, _, x, h => by cases h
  | k + 1, c, x, h => by
    simp only [drawN, List.mem_cons] at h
    rcases h with rfl | h
    · exact curBelow_lt hn
    · exact drawN_lt hn k _ x h
def drawPlaces (code : Str) : List Nat := (drawN 12 10000 (curByte (curNew code)).2).1
theorem drawPlaces_len (code : Str) : (drawPlaces code).length = 12 := drawN_len 12 10000 _
theorem drawPlaces_lt (code : Str) {i : Nat} (h : i < (drawPlaces code).length) : (drawPlaces code)[i] < 10000 := drawN_lt (by decide) 12 _ _ (List.getElem_mem h)
/-- Decimal figures of a small number. -/
def decS (k : Nat) : Str := if k = 0 then [48] else decGo k []

def linkHears (l : Link) (p : Packet) : Link × Str × Bool :=
  if p.epoch ≠ l.epoch then (l, [], false) else
  let l1 := if l.way ≠ [] ∧ p.ack > l.next ∧ p.ack = IntKind.i64.wrap (l.next + 1) then { l with way := l.way.drop 1, next := IntKind.i64.wrap (l.next + 1) } else l
  if p.seq = 0 ∨ p.seq ≠ l.want then (l1, [], false) else ({ l1 with want := IntKind.i64.wrap (l.want + 1) }, p.text, true)
abbrev vH (r : Link × Str × Bool) : V := .tup [.agg (cLink r.1), .str r.2.1, .bool r.2.2]
theorem linkHears_off {l : Link} {p : Packet} (h : p.epoch ≠ l.epoch) : linkHears l p = (l, [], false) := if_pos h
def hearMid (l : Link) (p : Packet) : Link := if l.way ≠ [] ∧ p.ack > l.next ∧ p.ack = IntKind.i64.wrap (l.next + 1) then { l with way := l.way.drop 1, next := IntKind.i64.wrap (l.next + 1) } else l
theorem linkHears_on {l : Link} {p : Packet} (h : p.epoch = l.epoch) : linkHears l p = if p.seq = 0 ∨ p.seq ≠ l.want then (hearMid l p, [], false) else ({ hearMid l p with want := IntKind.i64.wrap (l.want + 1) }, p.text, true) := by
  unfold linkHears
  rw [if_neg (by simp [h])]
  rfl
theorem hearMid_len (l : Link) (p : Packet) : (hearMid l p).way.length ≤ l.way.length := by
  unfold hearMid
  split
  · simp
  · exact Nat.le_refl _
theorem hearMid_want (l : Link) (p : Packet) : (hearMid l p).want = l.want := by unfold hearMid; split <;> rfl

theorem tmod_nat (a m : Nat) : ((a : Nat) : Int).tmod (m : Int) = ((a % m : Nat) : Int) := by
  rw [Int.tmod_eq_emod_of_nonneg (by omega)]; rfl
theorem mul24 {a : Nat} (h : a ≤ 255) : IntKind.i64.wrap ((a : Int) * 16777216) = ((a * 16777216 : Nat) : Int) := by rw [IntKind.wrap_i64]; omega
theorem mul16 {a : Nat} (h : a ≤ 255) : IntKind.i64.wrap ((a : Int) * 65536) = ((a * 65536 : Nat) : Int) := by rw [IntKind.wrap_i64]; omega
theorem mul8 {a : Nat} (h : a ≤ 255) : IntKind.i64.wrap ((a : Int) * 256) = ((a * 256 : Nat) : Int) := by rw [IntKind.wrap_i64]; omega
theorem fig_byte {d : Nat} (h : d < 10) : IntKind.u8.wrap (IntKind.i64.wrap (48 + (d : Int))) = (((UInt8.ofNat (48 + d)).toNat : Nat) : Int) := by
  rw [show (48 : Int) + (d : Int) = ((48 + d : Nat) : Int) by omega, wrap_nat (by omega), wrap_u8_nat]
theorem rem10 {m : Nat} : ((m : Nat) : Int).tmod 10 = ((m % 10 : Nat) : Int) := by rw [Int.tmod_eq_emod_of_nonneg (by omega)]; rfl
/-- The one that says, the one that hears. -/
def sayL (said : List Str) (k : Nat) : Link := ⟨3, said.drop k, 1 + (k : Int), 1⟩
def hearL (m : Nat) : Link := ⟨3, [], 1, 1 + (m : Int)⟩
theorem hear_new {said : List Str} {k m : Nat} (hk : k < said.length) (hm : m = k) (hs : said.length ≤ 100) : linkHears (hearL m) (linkSays (sayL said k)) = (hearL (m + 1), said[k], true) := by
  subst hm
  have hd : said.drop m = said[m] :: said.drop (m + 1) := List.drop_eq_getElem_cons hk
  have hw : IntKind.i64.wrap (1 + (m : Int) + 1) = 1 + ((m + 1 : Nat) : Int) := by rw [IntKind.wrap_i64]; omega
  have hsays : linkSays (sayL said m) = ⟨3, 1 + (m : Int), 1, said[m]⟩ := by simp only [linkSays, sayL, hd]
  rw [hsays, linkHears_on rfl, if_neg (by simp only [hearL]; omega)]
  simp only [hearMid, hearL, ne_eq, not_true_eq_false, false_and, if_false, hw]
theorem hear_new' {said : List Str} {k m : Nat} (hk : m < said.length) (hm : m = k) (hs : said.length ≤ 100) : linkHears (hearL m) (linkSays (sayL said k)) = (hearL (m + 1), said[m], true) := by
  subst hm; exact hear_new hk rfl hs
theorem hear_old {said : List Str} {k m : Nat} (h : ¬ (k < said.length ∧ m = k)) : linkHears (hearL m) (linkSays (sayL said k)) = (hearL m, [], false) := by
  cases hd : said.drop k with
  | nil =>
    have hsays : linkSays (sayL said k) = ⟨3, 0, 1, []⟩ := by simp only [linkSays, sayL, hd]
    rw [hsays, linkHears_on rfl, if_pos (.inl rfl)]
    simp only [hearMid, hearL, ne_eq, not_true_eq_false, false_and, if_false]
  | cons s r =>
    have hk : k < said.length := by
      have := congrArg List.length hd
      simp only [List.length_drop, List.length_cons] at this
      omega
    have hsays : linkSays (sayL said k) = ⟨3, 1 + (k : Int), 1, s⟩ := by simp only [linkSays, sayL, hd]
    rw [hsays, linkHears_on rfl, if_pos (.inr (by simp only [hearL]; intro h2; exact h ⟨hk, by omega⟩))]
    simp only [hearMid, hearL, ne_eq, not_true_eq_false, false_and, if_false]
theorem hear_back {said : List Str} {k m : Nat} (h1 : k ≤ m) (h2 : m ≤ k + 1) (h3 : m ≤ said.length) (hs : said.length ≤ 100) : linkHears (sayL said k) (linkSays (hearL m)) = (sayL said m, [], false) := by
  have hsays : linkSays (hearL m) = ⟨3, 0, 1 + (m : Int), []⟩ := rfl
  have hw : IntKind.i64.wrap (1 + (k : Int) + 1) = 1 + (k : Int) + 1 := by rw [IntKind.wrap_i64]; omega
  rw [hsays, linkHears_on rfl, if_pos (.inl rfl)]
  have : hearMid (sayL said k) ⟨3, 0, 1 + (m : Int), []⟩ = sayL said m := by
    unfold hearMid
    by_cases hm : m = k
    · subst hm
      rw [if_neg (fun h => by have := h.2.1; simp only [sayL] at this; omega)]
    · have hm1 : m = k + 1 := by omega
      subst hm1
      have hlt : k < said.length := by omega
      have hd : said.drop k = said[k] :: said.drop (k + 1) := List.drop_eq_getElem_cons hlt
      rw [if_pos ⟨by simp only [sayL]; rw [hd]; exact List.cons_ne_nil _ _, by simp only [sayL]; omega, by simp only [sayL, hw]; omega⟩]
      simp only [sayL, hw, List.drop_drop]
      rw [show (1 : Int) + (k : Int) + 1 = 1 + ((k + 1 : Nat) : Int) by omega]
  rw [this]
def saidT (k : Nat) : Str := [116, 101, 120, 116] ++ decS k
theorem decGo_len : ∀ (d m : Nat) (acc : Str), m < 10 ^ d → (decGo m acc).length ≤ d + acc.length
  | 0, m, acc, h => by rw [decGo_zero (by simp at h; omega)]; omega
  | d + 1, m, acc, h => by
    by_cases hm : 0 < m
    · rw [decGo_pos hm]
      have := decGo_len d (m / 10) (UInt8.ofNat (48 + m % 10) :: acc) (by rw [Nat.pow_succ] at h; omega)
      simp only [List.length_cons] at this
      omega
    · rw [decGo_zero hm]; omega
theorem decS_len {k : Nat} (h : k < 10000) : (decS k).length ≤ 4 := by
  unfold decS
  split
  · simp
  · exact decGo_len 4 k [] h
theorem saidT_len {k : Nat} (h : k < 10000) : 4 ≤ (saidT k).length ∧ (saidT k).length ≤ 8 := by
  have := decS_len h
  simp only [saidT, List.length_append, List.length_cons, List.length_nil]
  omega
theorem put_said {a : List Str} {t : Str} (ha : a.length ≤ 8) (ht : 4 ≤ t.length ∧ t.length ≤ 8) : linkPut ⟨3, a, 1, 1⟩ t = (⟨3, a ++ [t], 1, 1⟩, true) := by
  refine linkPut_f ?_
  simp only [linkFull]
  rw [inR_t.2 (by omega), decide_eq_false (by omega)]
  rfl
theorem take_map_next {α β : Type} {f : α → β} {a : List α} {i : Nat} (h : i < a.length) : (a.take (i + 1)).map f = (a.take i).map f ++ [f a[i]] := by
  rw [List.take_succ_eq_append_getElem h, List.map_append]; rfl
theorem rem_lit {a : Nat} : ((a : Nat) : Int).tmod 2 = ((a % 2 : Nat) : Int) ∧ ((a : Nat) : Int).tmod 3 = ((a % 3 : Nat) : Int) ∧ ((a : Nat) : Int).tmod 4 = ((a % 4 : Nat) : Int) := by
  refine ⟨?_, ?_, ?_⟩ <;> (rw [Int.tmod_eq_emod_of_nonneg (by omega)]; rfl)
theorem one_add {a : Nat} (h : a ≤ 1000) : IntKind.i64.wrap (1 + ((a : Nat) : Int)) = ((1 + a : Nat) : Int) := by rw [IntKind.wrap_i64]; omega
end Go.Proofs.Ytglodjbknjfmjaa.K
