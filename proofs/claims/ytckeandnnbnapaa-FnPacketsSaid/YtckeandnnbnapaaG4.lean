/- Links put, syncs ended, marks: plain functions. -/
import Derived.Test.YtckeandnnbnapaaG2
import Derived.Test.YtckeandnnbnapaaG3
import Derived.Test.YtckeandnnbnapaaG1
namespace Go.Proofs.Ytckeandnnbnapaa.K
open Go Go.RowKit
set_option linter.unusedVariables false
set_option linter.unusedSimpArgs false
def linkFull (l : Link) (t : Str) : Bool := decide ((l.way.length : Int) ≥ 60) || !inR (t.length : Int) 1 400
def linkPut (l : Link) (t : Str) : Link × Bool := if linkFull l t = true then (l, false) else ({ l with way := l.way ++ [t] }, true)
theorem linkPut_t {l : Link} {t : Str} (h : linkFull l t = true) : linkPut l t = (l, false) := if_pos h
theorem linkPut_f {l : Link} {t : Str} (h : linkFull l t = false) : linkPut l t = ({ l with way := l.way ++ [t] }, true) := if_neg (by simp [h])
theorem linkPut_len (l : Link) (t : Str) : (linkPut l t).1.way.length ≤ l.way.length + 1 := by
  unfold linkPut
  split
  · exact Nat.le_succ _
  · simp
abbrev vLB (r : Link × Bool) : V := .tup [.agg (cLink r.1), .bool r.2]
def syncEnds (y : Sync) (b : Bool) : Sync := if b = true then { y with done := true } else { y with failed := true }
def decGo (m : Nat) (acc : Str) : Str := if h : 0 < m then decGo (m / 10) (UInt8.ofNat (48 + m % 10) :: acc) else acc
termination_by m
decreasing_by omega
def markT (k : Nat) : Str := if k = 0 then [109, 48] else 109 :: decGo k []
def marks (k n : Nat) : List Str := (List.range' k n).map markT
end Go.Proofs.Ytckeandnnbnapaa.K

/- Numbers and texts read: plain functions; and that both readers of packets tell the same. -/
namespace Go.Proofs.Ytckeandnnbnapaa.K
open Go Go.RowKit
set_option linter.unusedVariables false
set_option linter.unusedSimpArgs false

def rdV (s : Str) (p : Nat) : Nat → Nat → Nat → Option (Nat × Nat)
  | 0, _, _ => none
  | f + 1, i, n => if h : p + i < s.length then
      (if s[p + i].toNat < 128 then (if n + s[p + i].toNat % 128 * 128 ^ i ≤ 1000000000 ∧ varT (n + s[p + i].toNat % 128 * 128 ^ i) = (s.take (p + i + 1)).drop p then some (n + s[p + i].toNat % 128 * 128 ^ i, p + i + 1) else none)
        else rdV s p f (i + 1) (n + s[p + i].toNat % 128 * 128 ^ i)) else none
def readVar (s : Str) (z : Int) : Option (Nat × Nat) := if inR z 0 s.length = true then rdV s z.toNat 5 0 0 else none
abbrev vR (r : Option (Nat × Nat)) : V := .tup [.int .i64 ((r.getD (0, 0)).1 : Int), .int .i64 ((r.getD (0, 0)).2 : Int), .bool r.isSome]
theorem rdV_lo {s : Str} {p f i n : Nat} (h : p + i < s.length) (hb : s[p + i].toNat < 128) : rdV s p (f + 1) i n = if n + s[p + i].toNat % 128 * 128 ^ i ≤ 1000000000 ∧ varT (n + s[p + i].toNat % 128 * 128 ^ i) = (s.take (p + i + 1)).drop p then some (n + s[p + i].toNat % 128 * 128 ^ i, p + i + 1) else none := by
  rw [rdV, dif_pos h, if_pos hb]
theorem rdV_hi {s : Str} {p f i n : Nat} (h : p + i < s.length) (hb : ¬ s[p + i].toNat < 128) : rdV s p (f + 1) i n = rdV s p f (i + 1) (n + s[p + i].toNat % 128 * 128 ^ i) := by
  rw [rdV, dif_pos h, if_neg hb]
theorem rdV_end {s : Str} {p f i n : Nat} (h : ¬ p + i < s.length) : rdV s p f i n = none := by
  cases f with
  | zero => rfl
  | succ f => rw [rdV, dif_neg h]
theorem rdV_some {s : Str} {p : Nat} : ∀ {f i n : Nat} {m e : Nat}, rdV s p f i n = some (m, e) → m ≤ 1000000000 ∧ varT m = (s.take e).drop p ∧ e ≤ s.length ∧ p < e
  | 0, _, _, _, _, h => by simp [rdV] at h
  | f + 1, i, n, m, e, h => by
    rw [rdV] at h
    split at h
    · split at h
      · split at h
        · rename_i h1 h2 h3
          simp only [Option.some.injEq, Prod.mk.injEq] at h
          obtain ⟨rfl, rfl⟩ := h
          exact ⟨h3.1, h3.2, by omega, by omega⟩
        · cases h
      · exact rdV_some h
    · cases h
theorem readVar_some {s : Str} {z : Int} {m e : Nat} (h : readVar s z = some (m, e)) : 0 ≤ z ∧ z ≤ s.length ∧ m ≤ 1000000000 ∧ varT m = (s.take e).drop z.toNat ∧ e ≤ s.length ∧ z.toNat < e := by
  unfold readVar at h
  split at h
  · rename_i hz
    have := inR_t.1 hz
    have := rdV_some h
    exact ⟨by omega, by omega, this⟩
  · cases h
theorem pow128 {i : Nat} (h : i ≤ 5) : 128 ^ i ≤ 34359738368 ∧ 1 ≤ 128 ^ i := by
  have : i = 0 ∨ i = 1 ∨ i = 2 ∨ i = 3 ∨ i = 4 ∨ i = 5 := by omega
  rcases this with rfl | rfl | rfl | rfl | rfl | rfl <;> decide
theorem grp_lt {b i n : Nat} (hi : i < 5) (hn : n < 128 ^ i) : n + b % 128 * 128 ^ i < 128 ^ (i + 1) ∧ b % 128 * 128 ^ i ≤ 34359738368 := by
  have h1 := pow128 (i := i) (by omega)
  have h2 : b % 128 ≤ 127 := by omega
  have h3 : b % 128 * 128 ^ i ≤ 127 * 128 ^ i := Nat.mul_le_mul_right _ h2
  have h4 : i = 0 ∨ i = 1 ∨ i = 2 ∨ i = 3 ∨ i = 4 := by omega
  rw [Nat.pow_succ]
  rcases h4 with rfl | rfl | rfl | rfl | rfl <;> simp at * <;> omega
theorem rem_byte (b : UInt8) : (IntKind.i64.wrap (b.toNat : Int)).tmod 128 = ((b.toNat % 128 : Nat) : Int) := by
  have := b.toNat_lt
  rw [wrap_nat (by omega), rem128]
theorem mul_grp {b i : Nat} (hi : i < 5) : IntKind.i64.wrap (((b % 128 : Nat) : Int) * ((128 ^ i : Nat) : Int)) = ((b % 128 * 128 ^ i : Nat) : Int) := by
  have h1 := (grp_lt (b := b) hi (n := 0) (by have := pow128 (i := i) (by omega); omega)).2
  rw [show ((b % 128 : Nat) : Int) * ((128 ^ i : Nat) : Int) = ((b % 128 * 128 ^ i : Nat) : Int) by simp, wrap_nat (by omega)]
theorem add_grp {b i n : Nat} (hi : i < 5) (hn : n < 128 ^ i) : IntKind.i64.wrap ((n : Int) + ((b % 128 * 128 ^ i : Nat) : Int)) = ((n + b % 128 * 128 ^ i : Nat) : Int) := by
  have h1 := (grp_lt (b := b) hi hn).2
  have h2 := pow128 (i := i) (by omega)
  rw [show (n : Int) + ((b % 128 * 128 ^ i : Nat) : Int) = ((n + b % 128 * 128 ^ i : Nat) : Int) by simp, wrap_nat (by omega)]
theorem next_scale {i : Nat} (hi : i < 5) : IntKind.i64.wrap (((128 ^ i : Nat) : Int) * 128) = ((128 ^ (i + 1) : Nat) : Int) := by
  have h2 := pow128 (i := i + 1) (by omega)
  rw [show ((128 ^ i : Nat) : Int) * 128 = ((128 ^ (i + 1) : Nat) : Int) by rw [Nat.pow_succ]; simp, wrap_nat (by omega)]
theorem and_byte (b : UInt8) : IntKind.u8.wrap ((BitVec.ofInt IntKind.u8.bits (b.toNat : Int) &&& BitVec.ofInt IntKind.u8.bits 127).toNat : Int) = ((b.toNat % 128 : Nat) : Int) := by
  have hb := b.toNat_lt
  have h1 : (BitVec.ofInt 8 (b.toNat : Int) &&& BitVec.ofInt 8 127).toNat = b.toNat % 128 := by
    rw [BitVec.toNat_and]
    have e1 : (BitVec.ofInt 8 (b.toNat : Int)).toNat = b.toNat := by simp only [BitVec.ofInt_natCast, BitVec.toNat_ofNat]; omega
    have e2 : (BitVec.ofInt 8 127).toNat = 127 := rfl
    rw [e1, e2, and127]
  show IntKind.u8.wrap ((BitVec.ofInt 8 (b.toNat : Int) &&& BitVec.ofInt 8 127).toNat : Int) = _
  rw [h1, IntKind.wrap_u8]; omega
theorem mul7 {i : Nat} (hi : i < 5) : IntKind.i64.wrap (7 * (i : Int)) = ((7 * i : Nat) : Int) := by rw [show 7 * (i : Int) = ((7 * i : Nat) : Int) by simp, wrap_nat (by omega)]
theorem shl_grp {b i : Nat} (hi : i < 5) : IntKind.i64.wrap (((b % 128 : Nat) : Int) * 2 ^ min ((7 * i : Nat) : Int).toNat IntKind.i64.bits) = ((b % 128 * 128 ^ i : Nat) : Int) := by
  rw [Int.toNat_natCast, show min (7 * i) IntKind.i64.bits = 7 * i from Nat.min_eq_left (by show 7 * i ≤ 64; omega), show (2 : Int) ^ (7 * i) = ((128 ^ i : Nat) : Int) by rw [Int.pow_mul]; simp]
  exact mul_grp hi
theorem or_grp {b i n : Nat} (hi : i < 5) (hn : n < 128 ^ i) : IntKind.i64.wrap ((BitVec.ofInt IntKind.i64.bits (n : Int) ||| BitVec.ofInt IntKind.i64.bits ((b % 128 * 128 ^ i : Nat) : Int)).toNat : Int) = ((n + b % 128 * 128 ^ i : Nat) : Int) := by
  have h1 := grp_lt (b := b) hi hn
  have h2 := pow128 (i := i) (by omega)
  have h3 := pow128 (i := i + 1) (by omega)
  have h4 : (BitVec.ofInt 64 (n : Int) ||| BitVec.ofInt 64 ((b % 128 * 128 ^ i : Nat) : Int)).toNat = n + b % 128 * 128 ^ i := by
    refine (or_nat n (b % 128 * 128 ^ i) (by omega) (by omega)).trans ?_
    have h5 : (128 : Nat) ^ i = 2 ^ (7 * i) := by rw [Nat.pow_mul]
    have := Nat.two_pow_add_eq_or_of_lt (i := 7 * i) (b := n) (by rw [← h5]; exact hn) (b % 128)
    rw [← h5, Nat.mul_comm] at this
    rw [Nat.or_comm, ← this, Nat.add_comm]
  show IntKind.i64.wrap ((BitVec.ofInt 64 (n : Int) ||| BitVec.ofInt 64 ((b % 128 * 128 ^ i : Nat) : Int)).toNat : Int) = _
  rw [h4, wrap_nat (by omega)]
theorem wrap_add_nat {a b : Nat} (h : a + b ≤ 9223372036854775807) : IntKind.i64.wrap ((a : Int) + (b : Int)) = ((a + b : Nat) : Int) := by rw [IntKind.wrap_i64]; omega
theorem wrap_add_one {a : Nat} (h : a + 1 ≤ 9223372036854775807) : IntKind.i64.wrap ((a : Int) + 1) = ((a + 1 : Nat) : Int) := by rw [IntKind.wrap_i64]; omega
theorem wrap_add_five {a : Nat} (h : a + 5 ≤ 9223372036854775807) : IntKind.i64.wrap ((a : Int) + 5) = ((a + 5 : Nat) : Int) := by rw [IntKind.wrap_i64]; omega

def readShort (s : Str) (z : Int) : Option (Str × Nat) := match readVar s z with
  | some (n, e) => if n ≤ 20000 ∧ n + e ≤ s.length then some ((s.take (e + n)).drop e, e + n) else none
  | none => none
abbrev vS (r : Option (Str × Nat)) : V := .tup [.str (r.getD ([], 0)).1, .int .i64 ((r.getD ([], 0)).2 : Int), .bool r.isSome]
theorem readShort_some {s : Str} {z : Int} {t : Str} {e : Nat} (h : readShort s z = some (t, e)) : 0 ≤ z ∧ z ≤ s.length ∧ t.length ≤ 20000 ∧ varT t.length ++ t = (s.take e).drop z.toNat ∧ e ≤ s.length ∧ z.toNat < e := by
  unfold readShort at h
  split at h
  · rename_i n e1 hv
    split at h
    · rename_i hn
      simp only [Option.some.injEq, Prod.mk.injEq] at h
      obtain ⟨rfl, rfl⟩ := h
      have h1 := readVar_some hv
      have hl : ((s.take (e1 + n)).drop e1).length = n := by rw [List.length_drop, List.length_take]; omega
      refine ⟨h1.1, h1.2.1, by omega, ?_, by omega, by omega⟩
      rw [hl, h1.2.2.2.1]
      have e2 : s.take (e1 + n) = s.take e1 ++ (s.drop e1).take n := by rw [List.take_add]
      rw [e2, List.drop_append, List.drop_append]
      have l1 : (s.take e1).length = e1 := by rw [List.length_take]; omega
      rw [l1, Nat.sub_self, List.drop_zero, List.drop_eq_nil_of_le (by omega : (s.take e1).length ≤ e1), show z.toNat - e1 = 0 by omega, List.drop_zero, List.nil_append]
    · cases h
  · cases h
theorem short_cond {s : Str} {z : Int} (hs : s.length ≤ 4611686018427387904) : (!(readShort s z).isSome) = (!(readVar s z).isSome || decide ((((readVar s z).getD (0, 0)).1 : Int) > 20000) || decide ((((readVar s z).getD (0, 0)).1 : Int) > IntKind.i64.wrap ((s.length : Int) - (((readVar s z).getD (0, 0)).2 : Int)))) := by
  unfold readShort
  cases hv : readVar s z with
  | none => rfl
  | some q =>
    obtain ⟨m, e⟩ := q
    have h := readVar_some hv
    have hw : IntKind.i64.wrap ((s.length : Int) - (e : Int)) = (s.length : Int) - e := by rw [IntKind.wrap_i64]; omega
    simp only [Option.getD_some, Option.isSome_some, Bool.not_true, Bool.false_or, hw]
    by_cases hc : m ≤ 20000 ∧ m + e ≤ s.length
    · rw [if_pos hc, decide_eq_false (by omega), decide_eq_false (by omega)]; rfl
    · rw [if_neg hc]
      by_cases h1 : (m : Int) > 20000
      · rw [decide_eq_true h1]; rfl
      · rw [decide_eq_false h1, decide_eq_true (by omega)]; rfl
def unsealed (t : Str) : Option Str := if 4 ≤ t.length ∧ t.length ≤ 20004 ∧ t.drop (t.length - 4) = fourT (sumOf (t.take (t.length - 4))) then some (t.take (t.length - 4)) else none
theorem unsealed_some {t s : Str} (h : unsealed t = some s) : t = sealT s ∧ s.length ≤ 20000 := by
  unfold unsealed at h
  split at h
  · rename_i hc
    obtain rfl := Option.some.inj h
    refine ⟨?_, by rw [List.length_take]; omega⟩
    unfold sealT
    rw [← hc.2.2, List.take_append_drop]
  · cases h
structure Scan where
  text : Str
  pos : Int
  bad : Bool
abbrev cScan (c : Scan) : List V := [.str c.text, .int .i64 c.pos, .bool c.bad]
def scanNum (c : Scan) : Nat × Scan := match readVar c.text c.pos with
  | some (n, e) => if c.bad = true then (0, { c with bad := true }) else (n, { c with pos := (e : Int) })
  | none => (0, { c with bad := true })
def scanShort (c : Scan) : Str × Scan := match readShort c.text c.pos with
  | some (n, e) => if c.bad = true then ([], { c with bad := true }) else (n, { c with pos := (e : Int) })
  | none => ([], { c with bad := true })
theorem scanNum_text (c : Scan) : (scanNum c).2.text = c.text := by
  unfold scanNum
  split
  · split <;> rfl
  · rfl
theorem scanNum_good {c : Scan} (h : (scanNum c).2.bad = false) : c.bad = false ∧ 0 ≤ c.pos ∧ c.pos.toNat ≤ (scanNum c).2.pos.toNat ∧ (scanNum c).2.pos.toNat ≤ c.text.length ∧ 0 ≤ (scanNum c).2.pos ∧ (scanNum c).1 ≤ 1000000000 ∧ c.text.take (scanNum c).2.pos.toNat = c.text.take c.pos.toNat ++ varT (scanNum c).1 := by
  revert h
  unfold scanNum
  split
  · rename_i n e hv
    have := readVar_some hv
    split
    · intro h; cases h
    · rename_i hb
      intro h
      refine ⟨by simpa using hb, this.1, by simp; omega, by simp; omega, by simp, this.2.2.1, ?_⟩
      simp only [Int.toNat_natCast]
      rw [this.2.2.2.1]
      have e2 : c.text.take c.pos.toNat = (c.text.take e).take c.pos.toNat := by rw [List.take_take]; congr 1; omega
      rw [e2, List.take_append_drop]
  · intro h; cases h
theorem scanShort_good {c : Scan} (h : (scanShort c).2.bad = false) : c.bad = false ∧ 0 ≤ c.pos ∧ c.pos.toNat ≤ (scanShort c).2.pos.toNat ∧ (scanShort c).2.pos.toNat ≤ c.text.length ∧ 0 ≤ (scanShort c).2.pos ∧ (scanShort c).1.length ≤ 20000 ∧ c.text.take (scanShort c).2.pos.toNat = c.text.take c.pos.toNat ++ (varT (scanShort c).1.length ++ (scanShort c).1) := by
  revert h
  unfold scanShort
  split
  · rename_i n e hv
    have := readShort_some hv
    split
    · intro h; cases h
    · rename_i hb
      intro h
      refine ⟨by simpa using hb, this.1, by simp; omega, by simp; omega, by simp, this.2.2.1, ?_⟩
      simp only [Int.toNat_natCast]
      rw [this.2.2.2.1]
      have e2 : c.text.take c.pos.toNat = (c.text.take e).take c.pos.toNat := by rw [List.take_take]; congr 1; omega
      rw [e2, List.take_append_drop]
  · intro h; cases h
def scan1 (b : Str) (bad : Bool) : Nat × Scan := scanNum ⟨b, 0, bad⟩
def scan2 (b : Str) (bad : Bool) : Nat × Scan := scanNum (scan1 b bad).2
def scan3 (b : Str) (bad : Bool) : Nat × Scan := scanNum (scan2 b bad).2
def scan4 (b : Str) (bad : Bool) : Str × Scan := scanShort (scan3 b bad).2
def scanP (b : Str) (bad : Bool) : Packet := ⟨((scan1 b bad).1 : Int), ((scan2 b bad).1 : Int), ((scan3 b bad).1 : Int), (scan4 b bad).1⟩
theorem scan1_text (b : Str) (bad : Bool) : (scan1 b bad).2.text = b := scanNum_text _
theorem scan2_text (b : Str) (bad : Bool) : (scan2 b bad).2.text = b := (scanNum_text _).trans (scan1_text b bad)
theorem scan3_text (b : Str) (bad : Bool) : (scan3 b bad).2.text = b := (scanNum_text _).trans (scan2_text b bad)
def readI (t : Str) : Option Packet :=
  if (unsealed t).isSome = true ∧ (scan4 ((unsealed t).getD []) false).2.bad = false ∧ (scan4 ((unsealed t).getD []) false).2.pos = (((unsealed t).getD []).length : Int) ∧ (scan4 ((unsealed t).getD []) false).1.length ≤ 400 then some (scanP ((unsealed t).getD []) false) else none
def readS (t : Str) : Option Packet :=
  if (scan4 ((unsealed t).getD []) (unsealed t).isNone).2.bad = false ∧ packetText (scanP ((unsealed t).getD []) (unsealed t).isNone) = some t then some (scanP ((unsealed t).getD []) (unsealed t).isNone) else none
theorem scan_good {b : Str} {bad : Bool} (h : (scan4 b bad).2.bad = false) : bad = false ∧ 0 ≤ (scan4 b bad).2.pos ∧ (scan4 b bad).2.pos.toNat ≤ b.length ∧ (scan1 b bad).1 ≤ 1000000000 ∧ (scan2 b bad).1 ≤ 1000000000 ∧ (scan3 b bad).1 ≤ 1000000000 ∧ b.take (scan4 b bad).2.pos.toNat = packetBody (scanP b bad) := by
  have h4 := scanShort_good h
  have h3 := scanNum_good h4.1
  have h2 := scanNum_good h3.1
  have h1 := scanNum_good h2.1
  have t1 : (scan1 b bad).2.text = b := scanNum_text _
  have t2 : (scan2 b bad).2.text = b := (scanNum_text _).trans t1
  have t3 : (scan3 b bad).2.text = b := (scanNum_text _).trans t2
  have g4 := h4.2.2.2.2.2.2
  have g3 := h3.2.2.2.2.2.2
  have g2 := h2.2.2.2.2.2.2
  have g1 := h1.2.2.2.2.2.2
  rw [t3] at g4
  rw [t2] at g3
  rw [t1] at g2
  refine ⟨h1.1, h4.2.2.2.2.1, ?_, h1.2.2.2.2.2.1, h2.2.2.2.2.2.1, h3.2.2.2.2.2.1, ?_⟩
  · have := h4.2.2.2.1; rw [t3] at this; exact this
  · refine g4.trans ?_
    rw [show List.take (scan3 b bad).2.pos.toNat b = _ from g3, show List.take (scan2 b bad).2.pos.toNat b = _ from g2, show List.take (scan1 b bad).2.pos.toNat b = _ from g1]
    simp [packetBody, scanP, scan1, scan2, scan3, scan4]
theorem seal_inj {a b : Str} (h : sealT a = sealT b) : a.length = b.length := by
  have := congrArg List.length h
  simp only [sealT, List.length_append, fourT_len] at this
  omega
theorem read_same (t : Str) : readI t = readS t := by
  unfold readI readS
  cases hu : unsealed t with
  | none =>
    have : ¬ (scan4 [] true).2.bad = false := fun h => by have := (scan_good h).1; cases this
    simp only [Option.isSome_none, Bool.false_eq_true, false_and, if_false, Option.getD_none, Option.isNone_none]
    rw [if_neg (fun h => this h.1)]
  | some b =>
    obtain ⟨rfl, hl⟩ := unsealed_some hu
    simp only [Option.isSome_some, true_and, Option.getD_some, Option.isNone_some]
    by_cases hb : (scan4 b false).2.bad = false
    · obtain ⟨-, h0, h1, h2, h3, h4, h5⟩ := scan_good hb
      have key : (scan4 b false).2.pos = (b.length : Int) ∧ (scan4 b false).1.length ≤ 400 ↔ packetText (scanP b false) = some (sealT b) := by
        unfold packetText
        constructor
        · rintro ⟨hp, ht⟩
          have hok : packetOk (scanP b false) = true := by
            simp only [packetOk, scanP, Bool.and_eq_true, inR_t, decide_eq_true_eq]
            exact ⟨by omega, decide_eq_true (by omega)⟩
          rw [if_pos hok, ← h5, hp, Int.toNat_natCast, List.take_length]
        · intro h
          split at h
          · rename_i hok
            have e := Option.some.inj h
            have hlen := seal_inj e
            rw [← h5, List.length_take] at hlen
            refine ⟨by omega, ?_⟩
            simp only [packetOk, Bool.and_eq_true, scanP] at hok
            have := of_decide_eq_true hok.2
            omega
          · cases h
      by_cases hk : packetText (scanP b false) = some (sealT b)
      · have := key.2 hk
        rw [if_pos ⟨hb, this⟩, if_pos ⟨hb, hk⟩]
      · rw [if_neg (fun h => hk (key.1 h.2)), if_neg (fun h => hk h.2)]
    · rw [if_neg (fun h => hb h.1), if_neg (fun h => hb h.1)]
abbrev vP (r : Option Packet) : V := .tup [.agg (cPacket (r.getD ⟨0, 0, 0, []⟩)), .bool r.isSome]
def fourN (l : Str) : Nat := match l with | a :: b :: c :: d :: _ => a.toNat * 16777216 + b.toNat * 65536 + c.toNat * 256 + d.toNat | _ => 0
theorem fourN_at {t : Str} {p : Nat} (h : p + 4 ≤ t.length) : fourN (t.drop p) = t[p].toNat * 16777216 + t[p + 1].toNat * 65536 + t[p + 2].toNat * 256 + t[p + 3].toNat := by
  rw [List.drop_eq_getElem_cons (by omega), List.drop_eq_getElem_cons (by omega), List.drop_eq_getElem_cons (by omega), List.drop_eq_getElem_cons (by omega)]
  rfl
theorem fourN_iff (x : BitVec 32) {l : Str} (h : l.length = 4) : x.toNat = fourN l ↔ l = fourT x := by
  match l, h with
  | [a, b, c, d], _ =>
    have ha := a.toNat_lt; have hb := b.toNat_lt; have hc := c.toNat_lt; have hd := d.toNat_lt
    have hx := x.isLt
    simp only [fourN, fourT, List.cons.injEq, and_true]
    constructor
    · intro h
      refine ⟨?_, ?_, ?_, ?_⟩ <;> (apply UInt8.toNat_inj.1; rw [UInt8.toNat_ofNat']; omega)
    · rintro ⟨h1, h2, h3, h4⟩
      have g1 := congrArg UInt8.toNat h1
      have g2 := congrArg UInt8.toNat h2
      have g3 := congrArg UInt8.toNat h3
      have g4 := congrArg UInt8.toNat h4
      rw [UInt8.toNat_ofNat'] at g1 g2 g3 g4
      omega
theorem unsealed_len {t s : Str} (h : unsealed t = some s) : 4 ≤ t.length ∧ t.length ≤ 20004 ∧ s = t.take (t.length - 4) := by
  unfold unsealed at h
  split at h
  · rename_i hc
    exact ⟨hc.1, hc.2.1, (Option.some.inj h).symm⟩
  · cases h
theorem wrap_sub4 {t : Str} (h : 4 ≤ t.length) (ht : t.length ≤ 4611686018427387904) : IntKind.i64.wrap ((t.length : Int) - 4) = ((t.length - 4 : Nat) : Int) := by rw [IntKind.wrap_i64]; omega
theorem wrap_lt4 {t : Str} (ht : t.length ≤ 4611686018427387904) : IntKind.i64.wrap ((t.length : Int) - 4) = (t.length : Int) - 4 := by rw [IntKind.wrap_i64]; omega
theorem unsealed_condS {t : Str} (ht : t.length ≤ 4611686018427387904) : (!(unsealed t).isSome) = (decide (IntKind.i64.wrap ((t.length : Int) - 4) < 0) || decide (IntKind.i64.wrap ((t.length : Int) - 4) > 20000) || !decide (t.drop (t.length - 4) = fourT (sumOf (t.take (t.length - 4))))) := by
  unfold unsealed
  rw [wrap_lt4 ht]
  by_cases h1 : t.length < 4
  · rw [if_neg (by omega), decide_eq_true (show (t.length : Int) - 4 < 0 by omega)]; rfl
  · rw [decide_eq_false (show ¬ (t.length : Int) - 4 < 0 by omega)]
    by_cases h2 : t.length ≤ 20004
    · rw [decide_eq_false (show ¬ (t.length : Int) - 4 > 20000 by omega)]
      by_cases h3 : t.drop (t.length - 4) = fourT (sumOf (t.take (t.length - 4)))
      · rw [if_pos ⟨by omega, h2, h3⟩, decide_eq_true h3]; rfl
      · rw [if_neg (fun h => h3 h.2.2), decide_eq_false h3]; rfl
    · rw [if_neg (by omega), decide_eq_true (show (t.length : Int) - 4 > 20000 by omega)]; rfl
theorem unsealed_condI {t : Str} (ht : t.length ≤ 4611686018427387904) : (!(unsealed t).isSome) = (!inR (IntKind.i64.wrap ((t.length : Int) - 4)) 0 20000 || !decide (((sumOf (t.take (t.length - 4))).toNat : Int) = ((fourN (t.drop (t.length - 4)) : Nat) : Int))) := by
  rw [unsealed_condS ht, wrap_lt4 ht]
  by_cases h1 : t.length < 4
  · rw [decide_eq_true (show (t.length : Int) - 4 < 0 by omega), inR_f.2 (by omega)]; rfl
  · rw [decide_eq_false (show ¬ (t.length : Int) - 4 < 0 by omega)]
    by_cases h2 : t.length ≤ 20004
    · rw [decide_eq_false (show ¬ (t.length : Int) - 4 > 20000 by omega), inR_t.2 (by omega)]
      have h4 : (t.drop (t.length - 4)).length = 4 := by rw [List.length_drop]; omega
      have h5 := fourN_iff (sumOf (t.take (t.length - 4))) h4
      by_cases h3 : t.drop (t.length - 4) = fourT (sumOf (t.take (t.length - 4)))
      · rw [decide_eq_true h3, decide_eq_true (by have := h5.2 h3; omega)]; rfl
      · rw [decide_eq_false h3, decide_eq_false (fun h => h3 (h5.1 (by omega)))]; rfl
    · rw [decide_eq_true (show (t.length : Int) - 4 > 20000 by omega), inR_f.2 (by omega)]; rfl
theorem wrap_add_two {a : Nat} (h : a + 2 ≤ 9223372036854775807) : IntKind.i64.wrap ((a : Int) + 2) = ((a + 2 : Nat) : Int) := by rw [IntKind.wrap_i64]; omega
theorem wrap_add_three {a : Nat} (h : a + 3 ≤ 9223372036854775807) : IntKind.i64.wrap ((a : Int) + 3) = ((a + 3 : Nat) : Int) := by rw [IntKind.wrap_i64]; omega
theorem four_b {b : UInt8} : IntKind.i64.wrap (b.toNat : Int) = (b.toNat : Int) := by have := b.toNat_lt; rw [IntKind.wrap_i64]; omega
theorem four_s1 {b : UInt8} : IntKind.i64.wrap ((b.toNat : Int) * 2 ^ min (Int.toNat 24) IntKind.i64.bits) = ((b.toNat * 16777216 : Nat) : Int) := by
  have := b.toNat_lt
  rw [show (2 : Int) ^ min (Int.toNat 24) IntKind.i64.bits = 16777216 from rfl, IntKind.wrap_i64]; omega
theorem four_s2 {b : UInt8} : IntKind.i64.wrap ((b.toNat : Int) * 2 ^ min (Int.toNat 16) IntKind.i64.bits) = ((b.toNat * 65536 : Nat) : Int) := by
  have := b.toNat_lt
  rw [show (2 : Int) ^ min (Int.toNat 16) IntKind.i64.bits = 65536 from rfl, IntKind.wrap_i64]; omega
theorem four_s3 {b : UInt8} : IntKind.i64.wrap ((b.toNat : Int) * 2 ^ min (Int.toNat 8) IntKind.i64.bits) = ((b.toNat * 256 : Nat) : Int) := by
  have := b.toNat_lt
  rw [show (2 : Int) ^ min (Int.toNat 8) IntKind.i64.bits = 256 from rfl, IntKind.wrap_i64]; omega
theorem or_add {a b k : Nat} (hb : b < 2 ^ k) (ha : a * 2 ^ k < 9223372036854775808) (hb' : b < 9223372036854775808) (hs : a * 2 ^ k + b ≤ 9223372036854775807) : IntKind.i64.wrap ((BitVec.ofInt IntKind.i64.bits ((a * 2 ^ k : Nat) : Int) ||| BitVec.ofInt IntKind.i64.bits (b : Int)).toNat : Int) = ((a * 2 ^ k + b : Nat) : Int) := by
  have h4 : (BitVec.ofInt 64 ((a * 2 ^ k : Nat) : Int) ||| BitVec.ofInt 64 (b : Int)).toNat = a * 2 ^ k + b := by
    refine (or_nat (a * 2 ^ k) b ha hb').trans ?_
    have := Nat.two_pow_add_eq_or_of_lt hb a
    rw [Nat.mul_comm] at this
    exact this.symm
  show IntKind.i64.wrap ((BitVec.ofInt 64 ((a * 2 ^ k : Nat) : Int) ||| BitVec.ofInt 64 (b : Int)).toNat : Int) = _
  rw [h4, wrap_nat hs]
theorem four_or1 {a b : UInt8} : IntKind.i64.wrap ((BitVec.ofInt IntKind.i64.bits ((a.toNat * 16777216 : Nat) : Int) ||| BitVec.ofInt IntKind.i64.bits ((b.toNat * 65536 : Nat) : Int)).toNat : Int) = ((a.toNat * 16777216 + b.toNat * 65536 : Nat) : Int) := by
  have ha := a.toNat_lt
  have hb := b.toNat_lt
  exact or_add (k := 24) (by omega) (by omega) (by omega) (by omega)
theorem four_or2 {a b c : UInt8} : IntKind.i64.wrap ((BitVec.ofInt IntKind.i64.bits ((a.toNat * 16777216 + b.toNat * 65536 : Nat) : Int) ||| BitVec.ofInt IntKind.i64.bits ((c.toNat * 256 : Nat) : Int)).toNat : Int) = ((a.toNat * 16777216 + b.toNat * 65536 + c.toNat * 256 : Nat) : Int) := by
  have ha := a.toNat_lt
  have hb := b.toNat_lt
  have hc := c.toNat_lt
  have := or_add (a := a.toNat * 256 + b.toNat) (b := c.toNat * 256) (k := 16) (by omega) (by omega) (by omega) (by omega)
  rwa [show (a.toNat * 256 + b.toNat) * 2 ^ 16 = a.toNat * 16777216 + b.toNat * 65536 by omega] at this
theorem four_or3 {a b c d : UInt8} : IntKind.i64.wrap ((BitVec.ofInt IntKind.i64.bits ((a.toNat * 16777216 + b.toNat * 65536 + c.toNat * 256 : Nat) : Int) ||| BitVec.ofInt IntKind.i64.bits (d.toNat : Int)).toNat : Int) = ((a.toNat * 16777216 + b.toNat * 65536 + c.toNat * 256 + d.toNat : Nat) : Int) := by
  have ha := a.toNat_lt
  have hb := b.toNat_lt
  have hc := c.toNat_lt
  have hd := d.toNat_lt
  have := or_add (a := a.toNat * 65536 + b.toNat * 256 + c.toNat) (b := d.toNat) (k := 8) (by omega) (by omega) (by omega) (by omega)
  rwa [show (a.toNat * 65536 + b.toNat * 256 + c.toNat) * 2 ^ 8 = a.toNat * 16777216 + b.toNat * 65536 + c.toNat * 256 by omega] at this
theorem scanNum_t {c : Scan} (h : (c.bad || !(readVar c.text c.pos).isSome) = true) : scanNum c = (0, { c with bad := true }) := by
  unfold scanNum
  cases hv : readVar c.text c.pos with
  | none => rfl
  | some q => rw [hv] at h; simp only [Option.isSome_some, Bool.not_true, Bool.or_false] at h; simp [h]
theorem scanNum_f {c : Scan} (h : (c.bad || !(readVar c.text c.pos).isSome) = false) : ∃ m e, readVar c.text c.pos = some (m, e) ∧ scanNum c = (m, { c with pos := (e : Int) }) := by
  cases hv : readVar c.text c.pos with
  | none => rw [hv] at h; simp at h
  | some q =>
    obtain ⟨m, e⟩ := q
    rw [hv] at h
    simp only [Option.isSome_some, Bool.not_true, Bool.or_false] at h
    exact ⟨m, e, rfl, by unfold scanNum; rw [hv]; simp [h]⟩
theorem scanShort_t {c : Scan} (h : (c.bad || !(readShort c.text c.pos).isSome) = true) : scanShort c = ([], { c with bad := true }) := by
  unfold scanShort
  cases hv : readShort c.text c.pos with
  | none => rfl
  | some q => rw [hv] at h; simp only [Option.isSome_some, Bool.not_true, Bool.or_false] at h; simp [h]
theorem scanShort_f {c : Scan} (h : (c.bad || !(readShort c.text c.pos).isSome) = false) : ∃ m e, readShort c.text c.pos = some (m, e) ∧ scanShort c = (m, { c with pos := (e : Int) }) := by
  cases hv : readShort c.text c.pos with
  | none => rw [hv] at h; simp at h
  | some q =>
    obtain ⟨m, e⟩ := q
    rw [hv] at h
    simp only [Option.isSome_some, Bool.not_true, Bool.or_false] at h
    exact ⟨m, e, rfl, by unfold scanShort; rw [hv]; simp [h]⟩
theorem body_len {t : Str} : ((unsealed t).getD []).length ≤ 20000 := by
  cases h : unsealed t with
  | none => simp
  | some b => have := (unsealed_some h).2; simpa using this
theorem readI_cond (t : Str) : (!(readI t).isSome) = (!(unsealed t).isSome || (scan4 ((unsealed t).getD []) false).2.bad || !decide ((scan4 ((unsealed t).getD []) false).2.pos = (((unsealed t).getD []).length : Int)) || decide (((scan4 ((unsealed t).getD []) false).1.length : Int) > 400)) := by
  unfold readI
  generalize (scan4 ((unsealed t).getD []) false).2.pos = a
  generalize (scan4 ((unsealed t).getD []) false).2.bad = b
  generalize (scan4 ((unsealed t).getD []) false).1.length = c
  generalize (unsealed t).isSome = d
  generalize scanP ((unsealed t).getD []) false = e
  generalize (((unsealed t).getD []).length : Int) = f
  cases b <;> cases d <;> simp
  by_cases h1 : a = f <;> by_cases h2 : c ≤ 400 <;> simp [h1, h2] <;> omega
theorem readI_some {t : Str} (h : (!(readI t).isSome) = false) : readI t = some (scanP ((unsealed t).getD []) false) := by
  unfold readI at *
  split at h
  · rename_i hc; rw [if_pos hc]
  · simp at h
theorem readS_cond (t : Str) : (!(readS t).isSome) = ((scan4 ((unsealed t).getD []) (unsealed t).isNone).2.bad || !(packetText (scanP ((unsealed t).getD []) (unsealed t).isNone)).isSome || !decide ((packetText (scanP ((unsealed t).getD []) (unsealed t).isNone)).getD [] = t)) := by
  unfold readS
  generalize (scan4 ((unsealed t).getD []) (unsealed t).isNone).2.bad = a
  generalize scanP ((unsealed t).getD []) (unsealed t).isNone = b
  cases h : packetText b with
  | none => cases a <;> simp
  | some c => cases a <;> by_cases h1 : c = t <;> simp [h1]
theorem readS_some {t : Str} (h : (!(readS t).isSome) = false) : readS t = some (scanP ((unsealed t).getD []) (unsealed t).isNone) := by
  unfold readS at *
  split at h
  · rename_i hc; rw [if_pos hc]
  · simp at h
end Go.Proofs.Ytckeandnnbnapaa.K

/- Draws, links heard: plain functions; what goes over a link. -/
namespace Go.Proofs.Ytckeandnnbnapaa.K
open Go Go.RowKit
set_option linter.unusedVariables false
set_option linter.unusedSimpArgs false
structure Cur where
  b : Str
  i : Nat
  h : Int
abbrev cCur (c : Cur) : List V := [.sl 0 1 0 (c.b.map cB), .int .i64 (c.i : Int), .int .i64 c.h]
def and255 (a : Int) : Nat := (BitVec.ofInt 64 a &&& BitVec.ofInt 64 255).toNat
theorem and255_le (a : Int) : and255 a ≤ 255 := by
  unfold and255
  rw [BitVec.toNat_and]
  exact Nat.le_trans Nat.and_le_right (by decide)
theorem and255_m (a : Int) : IntKind.i64.wrap ((BitVec.ofInt IntKind.i64.bits a &&& BitVec.ofInt IntKind.i64.bits 255).toNat : Int) = (and255 a : Int) := by
  show IntKind.i64.wrap ((and255 a : Nat) : Int) = _
  exact wrap_nat (by have := and255_le a; omega)
def stepH (h : Int) : Int := IntKind.i64.wrap (IntKind.i64.wrap (h * 6364136223846793005) + 1442695040888963407)
def mixH (h : Int) : Nat := and255 (IntKind.i64.wrap ((BitVec.ofInt IntKind.i64.bits (h.fdiv (2 ^ min (Int.toNat 33) IntKind.i64.bits)) ^^^ BitVec.ofInt IntKind.i64.bits (h.fdiv (2 ^ min (Int.toNat 45) IntKind.i64.bits))).toNat : Int))
def curByte (c : Cur) : Nat × Cur := if h : c.i < c.b.length then (and255 (IntKind.i64.wrap ((mixH (stepH c.h) : Int) + (c.b[c.i].toNat : Int))), { c with i := c.i + 1, h := stepH c.h }) else (mixH (stepH c.h), { c with h := stepH c.h })
theorem curByte_in {c : Cur} (h : c.i < c.b.length) : curByte c = (and255 (IntKind.i64.wrap ((mixH (stepH c.h) : Int) + (c.b[c.i].toNat : Int))), { c with i := c.i + 1, h := stepH c.h }) := dif_pos h
theorem curByte_out {c : Cur} (h : ¬ c.i < c.b.length) : curByte c = (mixH (stepH c.h), { c with h := stepH c.h }) := dif_neg h
theorem curByte_le (c : Cur) : (curByte c).1 ≤ 255 := by
  unfold curByte
  split
  · exact and255_le _
  · exact and255_le _
theorem curByte_b (c : Cur) : (curByte c).2.b = c.b := by unfold curByte; split <;> rfl
def curBelow (c : Cur) (n : Nat) : Nat × Cur :=
  if n = 0 then (0, c)
  else if n ≤ 256 then ((curByte c).1 % n, (curByte c).2)
  else (((curByte c).1 * 16777216 + (curByte (curByte c).2).1 * 65536 + (curByte (curByte (curByte c).2).2).1 * 256 + (curByte (curByte (curByte (curByte c).2).2).2).1) % n, (curByte (curByte (curByte (curByte c).2).2).2).2)
theorem curBelow_lt {c : Cur} {n : Nat} (h : 0 < n) : (curBelow c n).1 < n := by
  unfold curBelow
  split
  · omega
  · split <;> exact Nat.mod_lt _ h
theorem curBelow_b (c : Cur) (n : Nat) : (curBelow c n).2.b = c.b := by
  unfold curBelow
  split
  · rfl
  · split
    · exact curByte_b c
    · simp only [curByte_b]
def hashC : Nat → Str → Int → Int
  | 0, _, h => h
  | _ + 1, [], h => h
  | f + 1, b :: l, h => hashC f l (IntKind.i64.wrap ((BitVec.ofInt IntKind.i64.bits (IntKind.i64.wrap (IntKind.i64.wrap (IntKind.i64.wrap (h * 131) + (b.toNat : Int)) + 7)) &&& BitVec.ofInt IntKind.i64.bits 1073741823).toNat : Int))
def curNew (code : Str) : Cur := ⟨code, 0, hashC 4000 code (IntKind.i64.wrap (77201 + (code.length : Int)))⟩
def drawN : Nat → Nat → Cur → List Nat × Cur
  | 0, _, c => ([], c)
  | k + 1, n, c => let r := drawN k n (curBelow c n).2; ((curBelow c n).1 :: r.1, r.2)
def drawPlaces (code : Str) : List Nat := (drawN 12 10000 (curByte (curNew code)).2).1
def decS (k : Nat) : Str := if k = 0 then [48] else decGo k []

def linkHears (l : Link) (p : Packet) : Link × Str × Bool :=
  if p.epoch ≠ l.epoch then (l, [], false) else
  let l1 := if l.way ≠ [] ∧ p.ack > l.next ∧ p.ack = IntKind.i64.wrap (l.next + 1) then { l with way := l.way.drop 1, next := IntKind.i64.wrap (l.next + 1) } else l
  if p.seq = 0 ∨ p.seq ≠ l.want then (l1, [], false) else ({ l1 with want := IntKind.i64.wrap (l.want + 1) }, p.text, true)
abbrev vH (r : Link × Str × Bool) : V := .tup [.agg (cLink r.1), .str r.2.1, .bool r.2.2]
theorem linkHears_off {l : Link} {p : Packet} (h : p.epoch ≠ l.epoch) : linkHears l p = (l, [], false) := if_pos h
def hearMid (l : Link) (p : Packet) : Link := if l.way ≠ [] ∧ p.ack > l.next ∧ p.ack = IntKind.i64.wrap (l.next + 1) then { l with way := l.way.drop 1, next := IntKind.i64.wrap (l.next + 1) } else l
theorem linkHears_on {l : Link} {p : Packet} (h : p.epoch = l.epoch) : linkHears l p = if p.seq = 0 ∨ p.seq ≠ l.want then (hearMid l p, [], false) else ({ hearMid l p with want := IntKind.i64.wrap (l.want + 1) }, p.text, true) := by
  unfold linkHears
  rw [if_neg (by simp [h])]
  rfl
theorem hearMid_len (l : Link) (p : Packet) : (hearMid l p).way.length ≤ l.way.length := by
  unfold hearMid
  split
  · simp
  · exact Nat.le_refl _
theorem tmod_nat (a m : Nat) : ((a : Nat) : Int).tmod (m : Int) = ((a % m : Nat) : Int) := by
  rw [Int.tmod_eq_emod_of_nonneg (by omega)]; rfl
theorem mul24 {a : Nat} (h : a ≤ 255) : IntKind.i64.wrap ((a : Int) * 16777216) = ((a * 16777216 : Nat) : Int) := by rw [IntKind.wrap_i64]; omega
theorem mul16 {a : Nat} (h : a ≤ 255) : IntKind.i64.wrap ((a : Int) * 65536) = ((a * 65536 : Nat) : Int) := by rw [IntKind.wrap_i64]; omega
theorem mul8 {a : Nat} (h : a ≤ 255) : IntKind.i64.wrap ((a : Int) * 256) = ((a * 256 : Nat) : Int) := by rw [IntKind.wrap_i64]; omega
def sayL (said : List Str) (k : Nat) : Link := ⟨3, said.drop k, 1 + (k : Int), 1⟩
def hearL (m : Nat) : Link := ⟨3, [], 1, 1 + (m : Int)⟩
def saidT (k : Nat) : Str := [116, 101, 120, 116] ++ decS k
end Go.Proofs.Ytckeandnnbnapaa.K

/- Arguments that are bytes. -/
namespace Go.Proofs.Ytckeandnnbnapaa.K
open Go Go.RowKit
set_option linter.unusedVariables false
set_option linter.unusedSimpArgs false
theorem shp_bytes {m : Nat} {xs : List V} (h : Shp tab BB (m + 2) 22 xs) : ∃ a : Str, xs = [.sl 0 1 0 (a.map cB)] ∧ a.length ≤ BB := by
  simp only [Shp, kT, Option.map_some, Option.getD_some] at h
  obtain ⟨es, rfl, hl, hc⟩ := h
  obtain ⟨a, rfl, ha⟩ := map_of (f := cB) (p := fun _ => True) (es := es) fun c hcm => by
    obtain ⟨n, rfl, hw⟩ := hc c hcm
    have hr : 0 ≤ n ∧ n ≤ 255 := by simp only [Lit.wf, Bool.and_eq_true, decide_eq_true_eq] at hw; exact hw
    refine ⟨UInt8.ofNat n.toNat, ?_, trivial⟩
    show [V.int IntKind.u8 n] = [V.int IntKind.u8 _]
    rw [UInt8.toNat_ofNat', show ((n.toNat % 2 ^ 8 : Nat) : Int) = n by omega]
  exact ⟨a, rfl, by rw [List.length_map] at hl; omega⟩
end Go.Proofs.Ytckeandnnbnapaa.K

/- Walks: events. Printed by w2.py. -/
namespace Go.Proofs.Ytckeandnnbnapaa.K
open Go Go.RowKit
set_option linter.unusedVariables false
set_option linter.unusedSimpArgs false
set_option maxHeartbeats 4000000
set_option maxRecDepth 20000
theorem w_impl_within (x lo hi : Int) : Weak Try.prog 22 [.int .i64 x, .int .i64 lo, .int .i64 hi] (.bool (inR x lo hi)) := by
 refine Weak.enter tab_ok Try.func22 rfl (.inr (by simp [V.labelsL, V.labels, zz])) (t := [.int .i64 x, .int .i64 lo, .int .i64 hi, .any, .any, .any, .any, .any, .any, .any, .any, .any, .any, .any, .any]) rfl ?_
 refine OQ ?_
 refine EV ?_
 refine ON ?_
 refine OQ ?_
 iterate 4 (refine EV ?_)
 refine OkOps.split (d := 10) (by simp only [kE, kT, kL, kC] <;> rfl) (by simp only [kP] <;> rfl) (by simp only [kP] <;> rfl) (fun hg1_3 => ?_) (fun hg1_3 => ?_)
 ·
  try simp only [bsimp] at hg1_3
  refine OO ?_
  refine EV ?_
  refine OO ?_
  refine EV ?_
  refine OO ?_
  iterate 3 (refine EV ?_)
  refine ON ?_
  refine Ok.ret ?_
  with_reducible repeat (first | refine thenQ_ret ?_ | refine blockQ_ret ?_)
  refine RT ?_
  first | (simp_all [inR, V.erase, V.trav, packV]; done) | (simp_all [inR, V.erase, V.trav, packV] <;> omega)
 ·
  try simp only [bsimp] at hg1_3
  refine OkOps.offU rfl rfl (.inl (by simp only [kE, kT, kL, kC, Bool.not_true, Bool.not_false])) (by simp only [kP] <;> rfl) ?_
  refine OkOps.offU rfl rfl (.inl (by simp only [kE, kT, kL, kC, Bool.not_true, Bool.not_false])) (by simp only [kP] <;> rfl) ?_
  refine OkOps.offU rfl rfl (.inl (by simp only [kE, kT, kL, kC, Bool.not_true, Bool.not_false])) (by simp only [kP] <;> rfl) ?_
  iterate 2 (refine EV ?_)
  refine ON ?_
  refine Ok.ret ?_
  with_reducible repeat (first | refine thenQ_ret ?_ | refine blockQ_ret ?_)
  refine RT ?_
  first | (simp_all [inR, V.erase, V.trav, packV]; done) | (simp_all [inR, V.erase, V.trav, packV] <;> omega)
theorem w_spec_l01In (x lo hi : Int) : Weak Try.prog 26 [.int .i64 x, .int .i64 lo, .int .i64 hi] (.bool (inR x lo hi)) := by
 refine Weak.enter tab_ok Try.func26 rfl (.inr (by simp [V.labelsL, V.labels, zz])) (t := [.int .i64 x, .int .i64 lo, .int .i64 hi, .any, .any, .any, .any, .any, .any, .any, .any, .any, .any, .any, .any]) rfl ?_
 refine OQ ?_
 refine EV ?_
 refine ON ?_
 refine OQ ?_
 iterate 4 (refine EV ?_)
 refine OkOps.split (d := 10) (by simp only [kE, kT, kL, kC] <;> rfl) (by simp only [kP] <;> rfl) (by simp only [kP] <;> rfl) (fun hg1_3 => ?_) (fun hg1_3 => ?_)
 ·
  try simp only [bsimp] at hg1_3
  refine OO ?_
  refine EV ?_
  refine OO ?_
  refine EV ?_
  refine OO ?_
  iterate 3 (refine EV ?_)
  refine ON ?_
  refine Ok.ret ?_
  with_reducible repeat (first | refine thenQ_ret ?_ | refine blockQ_ret ?_)
  refine RT ?_
  first | (simp_all [inR, V.erase, V.trav, packV]; done) | (simp_all [inR, V.erase, V.trav, packV] <;> omega)
 ·
  try simp only [bsimp] at hg1_3
  refine OkOps.offU rfl rfl (.inl (by simp only [kE, kT, kL, kC, Bool.not_true, Bool.not_false])) (by simp only [kP] <;> rfl) ?_
  refine OkOps.offU rfl rfl (.inl (by simp only [kE, kT, kL, kC, Bool.not_true, Bool.not_false])) (by simp only [kP] <;> rfl) ?_
  refine OkOps.offU rfl rfl (.inl (by simp only [kE, kT, kL, kC, Bool.not_true, Bool.not_false])) (by simp only [kP] <;> rfl) ?_
  iterate 2 (refine EV ?_)
  refine ON ?_
  refine Ok.ret ?_
  with_reducible repeat (first | refine thenQ_ret ?_ | refine blockQ_ret ?_)
  refine RT ?_
  first | (simp_all [inR, V.erase, V.trav, packV]; done) | (simp_all [inR, V.erase, V.trav, packV] <;> omega)
end Go.Proofs.Ytckeandnnbnapaa.K

/- Walks: numbers as bytes, sums, packets' texts. Printed by w2.py. -/
namespace Go.Proofs.Ytckeandnnbnapaa.K
open Go Go.RowKit
set_option linter.unusedVariables false
set_option linter.unusedSimpArgs false
set_option maxHeartbeats 800000
set_option maxRecDepth 20000
theorem w_spec_l01Var (z : Int) (hz : 0 ≤ z ∧ z ≤ 34359738367) : Weak Try.prog 28 [.int .i64 z] (.str (varT z.toNat)) := by
 obtain ⟨n, rfl⟩ : ∃ n : Nat, z = n := ⟨z.toNat, by omega⟩
 rw [Int.toNat_natCast]
 have h : n ≤ 34359738367 := by omega
 refine Weak.enter tab_ok Try.func28 rfl (.inr (by simp [V.labelsL, V.labels, zz])) (t := [.int .i64 (n : Int), .any, .any, .any, .any, .any, .any, .any, .any, .any, .any, .any, .any, .any, .any, .any, .any, .any, .any, .any, .any, .any]) rfl ?_
 refine OQ ?_
 refine EV ?_
 refine ON ?_
 refine OQ ?_
 iterate 2 (refine EV ?_)
 refine ON ?_
 refine Ok.seq ?_
 refine Ok.block ?_
 refine Ok.bump (n' := 2) (by omega) ?_
 refine Ok.loopWZ (τ := Str × Nat) (fun x => [(0, .int .i64 (x.2 : Int)), (3, .sl 1 1 0 (x.1.map cB))]) [5, 6, 7, 8, 9, 10, 11, 12, 13, 14, 15] (fun x => by simp only [kover] <;> rfl) (fun x => x.1 ++ varT x.2 = varT n ∧ x.2 ≤ 34359738367 ∧ x.1.length ≤ 5) (fun x => x.2) ([], n) (by omega) (by refine ⟨?_, ?_, ?_, ?_, ?_, ?_, ?_, ?_, ?_, ?_, ?_, ?_, ?_, ?_, ?_, ?_, ?_, ?_, ?_, ?_, ?_, ?_, trivial⟩ <;> first | exact le_any _ | with_reducible exact le_rfl' _ | (exact le_nil 1 1) | exact le_rfl' _) (⟨rfl, h, Nat.zero_le _⟩) ?_
 rintro ⟨xs, m⟩ ⟨h1, h2, h3⟩
 have hx : xs.length + (varT m).length ≤ 5 := by have := congrArg List.length h1; have := varT_len5 h; simp only [List.length_append] at *; omega
 refine Ok.seq ?_
 refine OQ ?_
 iterate 2 (refine EV ?_)
 refine ON ?_
 refine Ok.cond (b := _) (by simp only [kE, kT, kL, kC] <;> rfl) (fun hb2 => ?_) (fun hb2 => ?_)
 ·
  try simp only [bsimp] at hb2
  have hm : 127 < m := by omega
  refine Ok.skip ?_
  refine Ok.block ?_
  refine OQ ?_
  iterate 4 (refine EV ?_)
  refine OkOps.ev tab_ok rfl (by simp only [kE, kT, kL, kC, byte_hi] <;> rfl) (by simp only [kP] <;> rfl) ?_
  refine OkOps.ev tab_ok rfl (ev_bs (by simp only [kT] <;> rfl) (by simp only [kT] <;> rfl) (by decide) (by decide) (by simp only [kE, kT, kL, kC, List.map_cons, List.map_nil] <;> rfl) (by simp only [kfe, beq_self_eq_true, Bool.and_true, Bool.true_and, decide_true, Nat.zero_add, Nat.lt_add_one, Nat.reduceLT, Nat.reduceAdd, Nat.zero_lt_succ, if_true, ↓reduceIte] <;> rfl)) (by simp only [kP] <;> rfl) ?_
  refine OkOps.append tab_ok rfl rfl (by simp only [kT] <;> rfl) (by simp only [kT] <;> rfl) (by decide) rfl (by simp only [kE, kT, kL, kC] <;> rfl) (.inl ⟨_, _, by simp only [kE, kT, kL, kC] <;> rfl⟩) (by omega) (by omega) (by simp; omega) (by simp; omega) (by simp [V.one]) (by simp only [V.killL, V.killLL, V.travL, V.travLL, V.trav, killS, killP, Nat.reduceEqDiff, ↓reduceIte, reduceCtorEq, if_true, if_false, List.append_nil, List.nil_append, List.cons_append, zz] <;> rfl) (by simp only [V.killL, V.killLL, V.travL, V.travLL, V.trav, killS, killP, Nat.reduceEqDiff, ↓reduceIte, reduceCtorEq, if_true, if_false, List.append_nil, List.nil_append, List.cons_append, zz, kP] <;> rfl) (rfl) ?_
  refine EV ?_
  refine ON ?_
  refine Ok.region ?_
  refine EV ?_
  refine OkOps.ev tab_ok rfl (by simp only [kE, kT, kL, kC, quo128 (show m ≤ 9223372036854775807 by omega)] <;> rfl) (by simp only [kP] <;> rfl) ?_
  refine EV ?_
  refine ON ?_
  refine ⟨(xs ++ [UInt8.ofNat (m % 128 + 128)], m / 128), ?_, rfl, ⟨by rw [← h1, varT_hi hm]; simp, by omega, by rw [varT_hi hm] at hx; simp only [List.length_append, List.length_cons, List.length_nil] at *; omega⟩, by show m / 128 < m; omega⟩
  simp only [V.renL, V.travL, V.travLL, V.trav, frz, zz, Nat.reduceLeDiff, ↓reduceIte]
  refine ⟨?_, ?_, ?_, ?_, ?_, ?_, ?_, ?_, ?_, ?_, ?_, ?_, ?_, ?_, ?_, ?_, ?_, ?_, ?_, ?_, ?_, ?_, trivial⟩ <;> first | exact le_any _ | with_reducible exact le_rfl' _ | (simp only [List.map_append, List.map_cons, List.map_nil]; exact le_rfl' _) | exact le_rfl' _
 ·
  try simp only [bsimp] at hb2
  have hm : m ≤ 127 := by omega
  refine Ok.exit ?_
  refine OQ ?_
  iterate 2 (refine EV ?_)
  refine OkOps.ev tab_ok rfl (by simp only [kE, kT, kL, kC, wrap_u8_nat] <;> rfl) (by simp only [kP] <;> rfl) ?_
  refine OkOps.ev tab_ok rfl (ev_bs (by simp only [kT] <;> rfl) (by simp only [kT] <;> rfl) (by decide) (by decide) (by simp only [kE, kT, kL, kC, List.map_cons, List.map_nil] <;> rfl) (by simp only [kfe, beq_self_eq_true, Bool.and_true, Bool.true_and, decide_true, Nat.zero_add, Nat.lt_add_one, Nat.reduceLT, Nat.reduceAdd, Nat.zero_lt_succ, if_true, ↓reduceIte] <;> rfl)) (by simp only [kP] <;> rfl) ?_
  refine OkOps.append tab_ok rfl rfl (by simp only [kT] <;> rfl) (by simp only [kT] <;> rfl) (by decide) rfl (by simp only [kE, kT, kL, kC] <;> rfl) (.inl ⟨_, _, by simp only [kE, kT, kL, kC] <;> rfl⟩) (by omega) (by omega) (by simp; omega) (by simp; omega) (by simp [V.one]) (by simp only [V.killL, V.killLL, V.travL, V.travLL, V.trav, killS, killP, Nat.reduceEqDiff, ↓reduceIte, reduceCtorEq, if_true, if_false, List.append_nil, List.nil_append, List.cons_append, zz] <;> rfl) (by simp only [V.killL, V.killLL, V.travL, V.travLL, V.trav, killS, killP, Nat.reduceEqDiff, ↓reduceIte, reduceCtorEq, if_true, if_false, List.append_nil, List.nil_append, List.cons_append, zz, kP] <;> rfl) (rfl) ?_
  refine OkOps.ev tab_ok rfl (ev_text' (by simp only [kE, kT, kL, kC] <;> rfl) rfl rfl rfl (by simp only [kby, Option.map_some, List.append_assoc, List.cons_append, List.nil_append] <;> rfl)) (by simp only [kP] <;> rfl) ?_
  refine EV ?_
  refine ON ?_
  refine Ok.ret ?_
  with_reducible repeat (first | refine thenQ_ret ?_ | refine blockQ_ret ?_)
  refine RT ?_
  rw [← h1, varT_lo hm]; rfl
theorem w_impl_VarText (z : Int) : Weak Try.prog 48 [.int .i64 z] (vO (varText z)) := by
 refine Weak.enter tab_ok Try.func48 rfl (.inr (by simp [V.labelsL, V.labels, zz])) (t := [.int .i64 z, .any, .any, .any, .any, .any, .any, .any, .any, .any, .any, .any, .any, .any, .any, .any, .any, .any, .any, .any, .any, .any, .any, .any, .any, .any]) rfl ?_
 refine OQ ?_
 iterate 2 (refine EV ?_)
 refine ON ?_
 refine Ok.seq ?_
 refine OQ ?_
 refine EV ?_
 refine OkOps.S0 rfl (OpS.weak' rfl (by simp only [kE, kT, kL, kC] <;> rfl) (by simp only [kE, kT, kL, kC] <;> rfl) cl22 (w_impl_within _ _ _)) (by simp only [kP] <;> rfl) ?_
 refine EV ?_
 refine ON ?_
 refine Ok.cond (b := _) (by simp only [kE, kT, kL, kC] <;> rfl) (fun hb1 => ?_) (fun hb1 => ?_)
 ·
  try simp only [bsimp] at hb1
  rw [varText_f hb1]
  refine OQ ?_
  iterate 2 (refine EV ?_)
  refine ON ?_
  refine Ok.ret ?_
  with_reducible repeat (first | refine thenQ_ret ?_ | refine blockQ_ret ?_)
  refine RT ?_
  rfl
 ·
  try simp only [bsimp] at hb1
  rw [varText_t hb1]
  obtain ⟨n, rfl⟩ : ∃ n : Nat, z = n := ⟨z.toNat, by have := inR_t.1 hb1; omega⟩
  have h : n ≤ 34359738367 := by have := inR_t.1 hb1; omega
  rw [Int.toNat_natCast]
  refine Ok.skip ?_
  refine OQ ?_
  iterate 2 (refine EV ?_)
  refine ON ?_
  refine Ok.seq ?_
  refine Ok.block ?_
  refine Ok.bump (n' := 2) (by omega) ?_
  refine Ok.loopWZ (τ := Str × Nat) (fun x => [(0, .int .i64 (x.2 : Int)), (4, .sl 1 1 0 (x.1.map cB))]) [9, 10, 11, 12, 13, 14, 15, 16, 17, 18, 19] (fun x => by simp only [kover] <;> rfl) (fun x => x.1 ++ varT x.2 = varT n ∧ x.2 ≤ 34359738367 ∧ x.1.length ≤ 5) (fun x => x.2) ([], n) (by omega) (by refine ⟨?_, ?_, ?_, ?_, ?_, ?_, ?_, ?_, ?_, ?_, ?_, ?_, ?_, ?_, ?_, ?_, ?_, ?_, ?_, ?_, ?_, ?_, ?_, ?_, ?_, ?_, trivial⟩ <;> first | exact le_any _ | with_reducible exact le_rfl' _ | (exact le_nil 1 1) | exact le_rfl' _) (⟨rfl, h, Nat.zero_le _⟩) ?_
  rintro ⟨xs, m⟩ ⟨h1, h2, h3⟩
  have hx : xs.length + (varT m).length ≤ 5 := by have := congrArg List.length h1; have := varT_len5 h; simp only [List.length_append] at *; omega
  refine Ok.seq ?_
  refine OQ ?_
  iterate 2 (refine EV ?_)
  refine ON ?_
  refine Ok.cond (b := _) (by simp only [kE, kT, kL, kC] <;> rfl) (fun hb4 => ?_) (fun hb4 => ?_)
  ·
   try simp only [bsimp] at hb4
   have hm : 127 < m := by omega
   refine Ok.skip ?_
   refine Ok.block ?_
   refine OQ ?_
   iterate 2 (refine EV ?_)
   refine OkOps.ev tab_ok rfl (by simp only [kE, kT, kL, kC, bits_and127 (show m < 9223372036854775808 by omega)] <;> rfl) (by simp only [kP] <;> rfl) ?_
   refine OkOps.ev tab_ok rfl (by simp only [kE, kT, kL, kC, bits_or128 (show m % 128 < 128 by omega)] <;> rfl) (by simp only [kP] <;> rfl) ?_
   refine OkOps.ev tab_ok rfl (by simp only [kE, kT, kL, kC, wrap_u8_nat] <;> rfl) (by simp only [kP] <;> rfl) ?_
   refine OkOps.ev tab_ok rfl (ev_bs (by simp only [kT] <;> rfl) (by simp only [kT] <;> rfl) (by decide) (by decide) (by simp only [kE, kT, kL, kC, List.map_cons, List.map_nil] <;> rfl) (by simp only [kfe, beq_self_eq_true, Bool.and_true, Bool.true_and, decide_true, Nat.zero_add, Nat.lt_add_one, Nat.reduceLT, Nat.reduceAdd, Nat.zero_lt_succ, if_true, ↓reduceIte] <;> rfl)) (by simp only [kP] <;> rfl) ?_
   refine OkOps.append tab_ok rfl rfl (by simp only [kT] <;> rfl) (by simp only [kT] <;> rfl) (by decide) rfl (by simp only [kE, kT, kL, kC] <;> rfl) (.inl ⟨_, _, by simp only [kE, kT, kL, kC] <;> rfl⟩) (by omega) (by omega) (by simp; omega) (by simp; omega) (by simp [V.one]) (by simp only [V.killL, V.killLL, V.travL, V.travLL, V.trav, killS, killP, Nat.reduceEqDiff, ↓reduceIte, reduceCtorEq, if_true, if_false, List.append_nil, List.nil_append, List.cons_append, zz] <;> rfl) (by simp only [V.killL, V.killLL, V.travL, V.travLL, V.trav, killS, killP, Nat.reduceEqDiff, ↓reduceIte, reduceCtorEq, if_true, if_false, List.append_nil, List.nil_append, List.cons_append, zz, kP] <;> rfl) (rfl) ?_
   refine EV ?_
   refine ON ?_
   refine Ok.region ?_
   refine EV ?_
   refine OkOps.ev tab_ok rfl (by simp only [kE, kT, kL, kC, shr7] <;> rfl) (by simp only [kP] <;> rfl) ?_
   refine EV ?_
   refine ON ?_
   refine ⟨(xs ++ [UInt8.ofNat (m % 128 + 128)], m / 128), ?_, rfl, ⟨by rw [← h1, varT_hi hm]; simp, by omega, by rw [varT_hi hm] at hx; simp only [List.length_append, List.length_cons, List.length_nil] at *; omega⟩, by show m / 128 < m; omega⟩
   simp only [V.renL, V.travL, V.travLL, V.trav, frz, zz, Nat.reduceLeDiff, ↓reduceIte]
   refine ⟨?_, ?_, ?_, ?_, ?_, ?_, ?_, ?_, ?_, ?_, ?_, ?_, ?_, ?_, ?_, ?_, ?_, ?_, ?_, ?_, ?_, ?_, ?_, ?_, ?_, ?_, trivial⟩ <;> first | exact le_any _ | with_reducible exact le_rfl' _ | (simp only [List.map_append, List.map_cons, List.map_nil]; exact le_rfl' _) | exact le_rfl' _
  ·
   try simp only [bsimp] at hb4
   have hm : m ≤ 127 := by omega
   refine Ok.exit ?_
   refine OQ ?_
   iterate 2 (refine EV ?_)
   refine OkOps.ev tab_ok rfl (by simp only [kE, kT, kL, kC, wrap_u8_nat] <;> rfl) (by simp only [kP] <;> rfl) ?_
   refine OkOps.ev tab_ok rfl (ev_bs (by simp only [kT] <;> rfl) (by simp only [kT] <;> rfl) (by decide) (by decide) (by simp only [kE, kT, kL, kC, List.map_cons, List.map_nil] <;> rfl) (by simp only [kfe, beq_self_eq_true, Bool.and_true, Bool.true_and, decide_true, Nat.zero_add, Nat.lt_add_one, Nat.reduceLT, Nat.reduceAdd, Nat.zero_lt_succ, if_true, ↓reduceIte] <;> rfl)) (by simp only [kP] <;> rfl) ?_
   refine OkOps.append tab_ok rfl rfl (by simp only [kT] <;> rfl) (by simp only [kT] <;> rfl) (by decide) rfl (by simp only [kE, kT, kL, kC] <;> rfl) (.inl ⟨_, _, by simp only [kE, kT, kL, kC] <;> rfl⟩) (by omega) (by omega) (by simp; omega) (by simp; omega) (by simp [V.one]) (by simp only [V.killL, V.killLL, V.travL, V.travLL, V.trav, killS, killP, Nat.reduceEqDiff, ↓reduceIte, reduceCtorEq, if_true, if_false, List.append_nil, List.nil_append, List.cons_append, zz] <;> rfl) (by simp only [V.killL, V.killLL, V.travL, V.travLL, V.trav, killS, killP, Nat.reduceEqDiff, ↓reduceIte, reduceCtorEq, if_true, if_false, List.append_nil, List.nil_append, List.cons_append, zz, kP] <;> rfl) (rfl) ?_
   refine OkOps.ev tab_ok rfl (ev_text' (by simp only [kE, kT, kL, kC] <;> rfl) rfl rfl rfl (by simp only [kby, Option.map_some, List.append_assoc, List.cons_append, List.nil_append] <;> rfl)) (by simp only [kP] <;> rfl) ?_
   iterate 2 (refine EV ?_)
   refine ON ?_
   refine Ok.ret ?_
   with_reducible repeat (first | refine thenQ_ret ?_ | refine blockQ_ret ?_)
   refine RT ?_
   rw [← h1, varT_lo hm]; rfl
theorem w_impl_ShortText (s : Str) : Weak Try.prog 49 [.str s] (vO (shortText s)) := by
 refine Weak.enter tab_ok Try.func49 rfl (.inr (by simp [V.labelsL, V.labels, zz])) (t := [.str s, .any, .any, .any, .any, .any, .any, .any, .any, .any, .any, .any, .any, .any, .any, .any, .any, .any]) rfl ?_
 refine OQ ?_
 iterate 2 (refine EV ?_)
 refine ON ?_
 refine Ok.seq ?_
 refine OQ ?_
 iterate 3 (refine EV ?_)
 refine ON ?_
 refine Ok.cond (b := _) (by simp only [kE, kT, kL, kC] <;> rfl) (fun hb1 => ?_) (fun hb1 => ?_)
 ·
  try simp only [bsimp] at hb1
  rw [shortText, if_pos (by omega)]
  refine OQ ?_
  iterate 2 (refine EV ?_)
  refine ON ?_
  refine Ok.ret ?_
  with_reducible repeat (first | refine thenQ_ret ?_ | refine blockQ_ret ?_)
  refine RT ?_
  rfl
 ·
  try simp only [bsimp] at hb1
  rw [shortText, if_neg (by omega)]
  have hv := varText_t (z := (s.length : Int)) (inR_t.2 (by omega))
  have hl := varT_len5 (n := s.length) (by omega)
  refine Ok.skip ?_
  refine OQ ?_
  iterate 2 (refine EV ?_)
  refine OkOps.S0 rfl (OpS.weak' rfl (by simp only [kE, kT, kL, kC] <;> rfl) (by simp only [kE, kT, kL, kC] <;> rfl) cl48 (w_impl_VarText _)) (by simp only [kP] <;> rfl) ?_
  refine EV ?_
  refine OkOps.ev tab_ok rfl (by simp only [kE, kT, kL, kC, hv, Option.getD_some, Int.toNat_natCast] <;> rfl) (by simp only [kP] <;> rfl) ?_
  refine OkOps.ev tab_ok rfl (by simp only [kE, kT, kL, kC, hv, Option.isSome_some] <;> rfl) (by simp only [kP] <;> rfl) ?_
  iterate 2 (refine EV ?_)
  refine ON ?_
  refine OQ ?_
  iterate 2 (refine EV ?_)
  refine OkOps.ev tab_ok rfl (ev_cat (by simp only [kE, kT, kL, kC] <;> rfl) (by simp only [kE, kT, kL, kC] <;> rfl) (by first | omega | (simp only [List.length_append, List.length_cons, List.length_nil] at *; omega))) (by simp only [kP] <;> rfl) ?_
  iterate 2 (refine EV ?_)
  refine ON ?_
  refine Ok.ret ?_
  with_reducible repeat (first | refine thenQ_ret ?_ | refine blockQ_ret ?_)
  refine RT ?_
  rfl
theorem w_impl_short (s : Str) (h : s.length ≤ 20000) : Weak Try.prog 25 [.str s] (.str (varT s.length ++ s)) := by
 have hv : shortText s = some (varT s.length ++ s) := if_neg (by omega)
 refine Weak.enter tab_ok Try.func25 rfl (.inr (by simp [V.labelsL, V.labels, zz])) (t := [.str s, .any, .any, .any, .any, .any, .any, .any, .any, .any, .any]) rfl ?_
 refine OQ ?_
 refine EV ?_
 refine ON ?_
 refine OQ ?_
 refine EV ?_
 refine OkOps.S0 rfl (OpS.weak' rfl (by simp only [kE, kT, kL, kC] <;> rfl) (by simp only [kE, kT, kL, kC] <;> rfl) cl49 (w_impl_ShortText _)) (by simp only [kP] <;> rfl) ?_
 refine EV ?_
 refine OkOps.ev tab_ok rfl (by simp only [kE, kT, kL, kC, hv, Option.getD_some] <;> rfl) (by simp only [kP] <;> rfl) ?_
 refine OkOps.ev tab_ok rfl (by simp only [kE, kT, kL, kC, hv, Option.isSome_some] <;> rfl) (by simp only [kP] <;> rfl) ?_
 iterate 2 (refine EV ?_)
 refine ON ?_
 refine OQ ?_
 iterate 2 (refine EV ?_)
 refine ON ?_
 refine Ok.ret ?_
 with_reducible repeat (first | refine thenQ_ret ?_ | refine blockQ_ret ?_)
 refine RT ?_
 rfl
theorem w_impl_vars (zs : List Int) (h : ∀ z ∈ zs, inR z 0 1000000000 = true) (hl : zs.length ≤ 1000000000) : Weak Try.prog 24 [.sl 0 1 0 (zs.map cZ)] (.str (varsZ zs)) := by
 refine Weak.enter tab_ok Try.func24 rfl (.inr (by simp [V.labelsL, V.labels, zz])) (t := [.sl 0 1 0 (zs.map cZ), .any, .any, .any, .any, .any, .any, .any, .any, .any, .any, .any, .any, .any, .any, .any, .any, .any, .any, .any, .any, .any, .any, .any]) rfl ?_
 refine OQ ?_
 refine EV ?_
 refine ON ?_
 refine OQ ?_
 refine EV ?_
 refine ON ?_
 refine Ok.seq ?_
 refine OQ ?_
 iterate 3 (refine EV ?_)
 refine ON ?_
 refine Ok.block ?_
 refine Ok.loopW (τ := Nat) (fun x => [(3, .str (varsZ (zs.take x))), (10, .int .i64 (x : Int))]) [5, 6, 7, 11, 12, 13, 14, 15, 16, 17, 18, 19, 20, 21, 22] (fun x => by simp only [kover] <;> rfl) (fun x => x ≤ zs.length) (fun x => zs.length - x) 0 (by refine ⟨?_, ?_, ?_, ?_, ?_, ?_, ?_, ?_, ?_, ?_, ?_, ?_, ?_, ?_, ?_, ?_, ?_, ?_, ?_, ?_, ?_, ?_, ?_, ?_, trivial⟩ <;> first | exact le_any _ | with_reducible exact le_rfl' _ | (first | exact le_rfl' _ | (rw [List.take_zero]; exact le_rfl' _)) | exact le_rfl' _) (Nat.zero_le _) ?_
 rintro i h1
 have hv := varsZ_len (a := zs.take i) fun z hz => h z (List.mem_of_mem_take hz)
 rw [List.length_take] at hv
 refine OQ ?_
 refine EV ?_
 refine ON ?_
 refine Ok.seq ?_
 refine Ok.cond (b := _) (by simp only [kE, kT, kL, kC] <;> rfl) (fun hb3 => ?_) (fun hb3 => ?_)
 ·
  try simp only [bsimp] at hb3
  have hi : i < zs.length := by omega
  have hz := h _ (List.getElem_mem hi)
  have hz2 := inR_t.1 hz
  have hz3 := varText_t hz
  have hz4 := varT_len5 (n := zs[i].toNat) (by omega)
  refine Ok.skip ?_
  refine Ok.seq ?_
  refine Ok.block ?_
  refine OQ ?_
  refine OkOps.ev tab_ok rfl (ev_idx_map (by simp only [kE, kT, kL, kC] <;> rfl) (by simp only [kE, kT, kL, kC] <;> rfl) (by omega) (by simp only [kE, kT, kL, kC] <;> rfl)) (by simp only [kP] <;> rfl) ?_
  iterate 2 (refine EV ?_)
  refine ON ?_
  refine OQ ?_
  refine EV ?_
  refine OkOps.S0 rfl (OpS.weak' rfl (by simp only [kE, kT, kL, kC] <;> rfl) (by simp only [kE, kT, kL, kC] <;> rfl) cl48 (w_impl_VarText _)) (by simp only [kP] <;> rfl) ?_
  refine EV ?_
  refine OkOps.ev tab_ok rfl (by simp only [kE, kT, kL, kC, hz3, Option.getD_some] <;> rfl) (by simp only [kP] <;> rfl) ?_
  refine OkOps.ev tab_ok rfl (by simp only [kE, kT, kL, kC, hz3, Option.isSome_some] <;> rfl) (by simp only [kP] <;> rfl) ?_
  iterate 2 (refine EV ?_)
  refine ON ?_
  refine Ok.region ?_
  iterate 2 (refine EV ?_)
  refine OkOps.ev tab_ok rfl (ev_cat (by simp only [kE, kT, kL, kC] <;> rfl) (by simp only [kE, kT, kL, kC] <;> rfl) (by omega)) (by simp only [kP] <;> rfl) ?_
  refine EV ?_
  refine ON ?_
  refine Ok.region ?_
  iterate 2 (refine EV ?_)
  refine ON ?_
  refine ⟨i + 1, ?_, rfl, rfl, hi, by omega⟩
  refine ⟨?_, ?_, ?_, ?_, ?_, ?_, ?_, ?_, ?_, ?_, ?_, ?_, ?_, ?_, ?_, ?_, ?_, ?_, ?_, ?_, ?_, ?_, ?_, ?_, trivial⟩ <;> first | exact le_any _ | with_reducible exact le_rfl' _ | (first | (rw [wrap_succ (by omega)]; exact le_rfl' _) | (rw [varsZ_next hi]; exact le_rfl' _)) | exact le_rfl' _
 ·
  try simp only [bsimp] at hb3
  have hi : i = zs.length := by omega
  refine Ok.exit ?_
  refine OQ ?_
  iterate 2 (refine EV ?_)
  refine ON ?_
  refine Ok.ret ?_
  with_reducible repeat (first | refine thenQ_ret ?_ | refine blockQ_ret ?_)
  refine RT ?_
  rw [hi, List.take_length]; rfl
theorem w_spec_SumMore (y : BitVec 32) (s : Str) (hs : s.length ≤ 4611686018427387904) : Weak Try.prog 61 [.int .u32 (y.toNat : Int), .str s] (.int .u32 ((sumS y s).toNat : Int)) := by
 refine Weak.enter tab_ok Try.func61 rfl (.inr (by simp [V.labelsL, V.labels, zz])) (t := [.int .u32 (y.toNat : Int), .str s, .any, .any, .any, .any, .any, .any, .any, .any, .any, .any, .any, .any, .any, .any, .any, .any, .any, .any, .any, .any, .any, .any, .any, .any, .any, .any, .any, .any, .any, .any, .any]) rfl ?_
 refine OQ ?_
 refine EV ?_
 refine ON ?_
 refine Ok.seq ?_
 refine OQ ?_
 refine EV ?_
 refine ON ?_
 refine Ok.block ?_
 refine Ok.loopW (τ := BitVec 32 × Nat) (fun x => [(0, .int .u32 (x.1.toNat : Int)), (5, .int .i64 (x.2 : Int))]) [6, 7, 8, 9, 10, 11, 12, 13, 14, 15, 16, 17, 18, 19, 20, 21, 22, 23, 24, 25, 26, 27, 28, 29, 30, 31] (fun x => by simp only [kover] <;> rfl) (fun x => sumS x.1 (s.drop x.2) = sumS y s ∧ x.2 ≤ s.length) (fun x => s.length - x.2) (y, 0) (by refine ⟨?_, ?_, ?_, ?_, ?_, ?_, ?_, ?_, ?_, ?_, ?_, ?_, ?_, ?_, ?_, ?_, ?_, ?_, ?_, ?_, ?_, ?_, ?_, ?_, ?_, ?_, ?_, ?_, ?_, ?_, ?_, ?_, ?_, trivial⟩ <;> first | exact le_any _ | with_reducible exact le_rfl' _ | (fail) | exact le_rfl' _) (⟨rfl, Nat.zero_le _⟩) ?_
 rintro ⟨a, i⟩ ⟨h1, h2⟩
 refine Ok.seq ?_
 refine OQ ?_
 iterate 4 (refine EV ?_)
 refine ON ?_
 refine Ok.cond (b := _) (by simp only [kE, kT, kL, kC] <;> rfl) (fun hb2 => ?_) (fun hb2 => ?_)
 ·
  try simp only [bsimp] at hb2
  have hi : i < s.length := by omega
  refine Ok.skip ?_
  refine Ok.seq ?_
  refine Ok.block ?_
  refine OQ ?_
  iterate 3 (refine EV ?_)
  refine OkOps.ev tab_ok rfl (ev_byte_lt (by simp only [kE, kT, kL, kC] <;> rfl) (by simp only [kE, kT, kL, kC] <;> rfl) (hi) rfl) (by simp only [kP] <;> rfl) ?_
  refine EV ?_
  refine OkOps.ev tab_ok rfl (by simp only [kE, kT, kL, kC, xor_byte] <;> rfl) (by simp only [kP] <;> rfl) ?_
  refine EV ?_
  refine ON ?_
  refine OQ ?_
  refine EV ?_
  refine ON ?_
  refine Ok.block ?_
  refine Ok.loopW (τ := BitVec 32 × Nat) (fun x => [(0, .int .u32 (x.1.toNat : Int)), (6, .int .i64 (x.2 : Int))]) [7, 20, 21, 22, 23, 24, 25, 26, 27, 28, 29, 30, 31] (fun x => by simp only [kover] <;> rfl) (fun x => bitsS (8 - x.2) x.1 = bitsS 8 (a ^^^ BitVec.ofNat 32 s[i].toNat) ∧ x.2 ≤ 8) (fun x => 8 - x.2) (a ^^^ BitVec.ofNat 32 s[i].toNat, 0) (by refine ⟨?_, ?_, ?_, ?_, ?_, ?_, ?_, ?_, ?_, ?_, ?_, ?_, ?_, ?_, ?_, ?_, ?_, ?_, ?_, ?_, ?_, ?_, ?_, ?_, ?_, ?_, ?_, ?_, ?_, ?_, ?_, ?_, ?_, trivial⟩ <;> first | exact le_any _ | with_reducible exact le_rfl' _ | (fail) | exact le_rfl' _) (⟨rfl, Nat.zero_le _⟩) ?_
  rintro ⟨b, j⟩ ⟨h3, h4⟩
  refine Ok.seq ?_
  refine OQ ?_
  iterate 2 (refine EV ?_)
  refine ON ?_
  refine Ok.cond (b := _) (by simp only [kE, kT, kL, kC] <;> rfl) (fun hb6 => ?_) (fun hb6 => ?_)
  ·
   try simp only [bsimp] at hb6
   have hj : j < 8 := by omega
   refine Ok.skip ?_
   refine Ok.seq ?_
   refine Ok.block ?_
   refine OQ ?_
   refine EV ?_
   refine OkOps.ev tab_ok rfl (by simp only [kE, kT, kL, kC, rem2_u32] <;> rfl) (by simp only [kP] <;> rfl) ?_
   refine OkOps.ev tab_ok rfl (by simp only [kE, kT, kL, kC, nat_one] <;> rfl) (by simp only [kP] <;> rfl) ?_
   refine EV ?_
   refine ON ?_
   refine OQ ?_
   refine EV ?_
   refine OkOps.ev tab_ok rfl (by simp only [kE, kT, kL, kC, half_u32] <;> rfl) (by simp only [kP] <;> rfl) ?_
   refine EV ?_
   refine ON ?_
   refine OQ ?_
   refine EV ?_
   refine ON ?_
   refine Ok.cond (b := _) (by simp only [kE, kT, kL, kC] <;> rfl) (fun hb10 => ?_) (fun hb10 => ?_)
   ·
    try simp only [bsimp] at hb10
    have hbs := bitS_t hb10
    refine Ok.region ?_
    refine EV ?_
    refine OkOps.ev tab_ok rfl (by simp only [kE, kT, kL, kC, xor_key] <;> rfl) (by simp only [kP] <;> rfl) ?_
    refine EV ?_
    refine ON ?_
    refine Ok.region ?_
    iterate 3 (refine EV ?_)
    refine ON ?_
    refine ⟨(bitS b, j + 1), ?_, rfl, rfl, ⟨by rw [← h3, ← bitsS_next hj], hj⟩, by show 8 - (j + 1) < 8 - j; omega⟩
    refine ⟨?_, ?_, ?_, ?_, ?_, ?_, ?_, ?_, ?_, ?_, ?_, ?_, ?_, ?_, ?_, ?_, ?_, ?_, ?_, ?_, ?_, ?_, ?_, ?_, ?_, ?_, ?_, ?_, ?_, ?_, ?_, ?_, ?_, trivial⟩ <;> first | exact le_any _ | with_reducible exact le_rfl' _ | (first | (rw [wrap_succ (by omega)]; exact le_rfl' _) | (rw [hbs]; exact le_rfl' _)) | exact le_rfl' _
   ·
    try simp only [bsimp] at hb10
    have hbs := bitS_f hb10
    refine Ok.skip ?_
    refine Ok.region ?_
    iterate 3 (refine EV ?_)
    refine ON ?_
    refine ⟨(bitS b, j + 1), ?_, rfl, rfl, ⟨by rw [← h3, ← bitsS_next hj], hj⟩, by show 8 - (j + 1) < 8 - j; omega⟩
    refine ⟨?_, ?_, ?_, ?_, ?_, ?_, ?_, ?_, ?_, ?_, ?_, ?_, ?_, ?_, ?_, ?_, ?_, ?_, ?_, ?_, ?_, ?_, ?_, ?_, ?_, ?_, ?_, ?_, ?_, ?_, ?_, ?_, ?_, trivial⟩ <;> first | exact le_any _ | with_reducible exact le_rfl' _ | (first | (rw [wrap_succ (by omega)]; exact le_rfl' _) | (rw [hbs]; exact le_rfl' _)) | exact le_rfl' _
  ·
   try simp only [bsimp] at hb6
   have hj : j = 8 := by omega
   subst hj
   have h3 : b = bitsS 8 (a ^^^ BitVec.ofNat 32 s[i].toNat) := h3
   subst h3
   refine Ok.exit ?_
   refine Ok.region ?_
   iterate 3 (refine EV ?_)
   refine ON ?_
   refine ⟨(bitsS 8 (a ^^^ BitVec.ofNat 32 s[i].toNat), i + 1), ?_, rfl, rfl, ⟨by rw [← h1, sumS_next hi], hi⟩, by show s.length - (i + 1) < s.length - i; omega⟩
   refine ⟨?_, ?_, ?_, ?_, ?_, ?_, ?_, ?_, ?_, ?_, ?_, ?_, ?_, ?_, ?_, ?_, ?_, ?_, ?_, ?_, ?_, ?_, ?_, ?_, ?_, ?_, ?_, ?_, ?_, ?_, ?_, ?_, ?_, trivial⟩ <;> first | exact le_any _ | with_reducible exact le_rfl' _ | (rw [wrap_succ (by omega)]; exact le_rfl' _) | exact le_rfl' _
 ·
  try simp only [bsimp] at hb2
  have hi : i = s.length := by omega
  refine Ok.exit ?_
  refine OQ ?_
  iterate 2 (refine EV ?_)
  refine ON ?_
  refine Ok.ret ?_
  with_reducible repeat (first | refine thenQ_ret ?_ | refine blockQ_ret ?_)
  refine RT ?_
  rw [← h1, hi, List.drop_length]; rfl
theorem w_impl_SumMore (y : BitVec 32) (s : Str) (hs : s.length ≤ 4611686018427387904) : Weak Try.prog 60 [.int .u32 (y.toNat : Int), .str s] (.int .u32 ((sumS y s).toNat : Int)) := by
 refine Weak.enter tab_ok Try.func60 rfl (.inr (by simp [V.labelsL, V.labels, zz])) (t := [.int .u32 (y.toNat : Int), .str s, .any, .any, .any, .any, .any, .any, .any, .any, .any, .any, .any, .any, .any, .any, .any, .any, .any, .any, .any, .any, .any, .any, .any, .any, .any, .any, .any, .any, .any]) rfl ?_
 refine OQ ?_
 refine EV ?_
 refine ON ?_
 refine Ok.seq ?_
 refine OQ ?_
 refine EV ?_
 refine ON ?_
 refine Ok.block ?_
 refine Ok.loopW (τ := BitVec 32 × Nat) (fun x => [(0, .int .u32 (x.1.toNat : Int)), (5, .int .i64 (x.2 : Int))]) [6, 7, 8, 9, 10, 11, 12, 13, 14, 15, 16, 17, 18, 19, 20, 21, 22, 23, 24, 25, 26, 27, 28, 29] (fun x => by simp only [kover] <;> rfl) (fun x => sumS x.1 (s.drop x.2) = sumS y s ∧ x.2 ≤ s.length) (fun x => s.length - x.2) (y, 0) (by refine ⟨?_, ?_, ?_, ?_, ?_, ?_, ?_, ?_, ?_, ?_, ?_, ?_, ?_, ?_, ?_, ?_, ?_, ?_, ?_, ?_, ?_, ?_, ?_, ?_, ?_, ?_, ?_, ?_, ?_, ?_, ?_, trivial⟩ <;> first | exact le_any _ | with_reducible exact le_rfl' _ | (fail) | exact le_rfl' _) (⟨rfl, Nat.zero_le _⟩) ?_
 rintro ⟨a, i⟩ ⟨h1, h2⟩
 refine Ok.seq ?_
 refine OQ ?_
 iterate 4 (refine EV ?_)
 refine ON ?_
 refine Ok.cond (b := _) (by simp only [kE, kT, kL, kC] <;> rfl) (fun hb2 => ?_) (fun hb2 => ?_)
 ·
  try simp only [bsimp] at hb2
  have hi : i < s.length := by omega
  refine Ok.skip ?_
  refine Ok.seq ?_
  refine Ok.block ?_
  refine OQ ?_
  iterate 3 (refine EV ?_)
  refine OkOps.ev tab_ok rfl (ev_byte_lt (by simp only [kE, kT, kL, kC] <;> rfl) (by simp only [kE, kT, kL, kC] <;> rfl) (hi) rfl) (by simp only [kP] <;> rfl) ?_
  refine EV ?_
  refine OkOps.ev tab_ok rfl (by simp only [kE, kT, kL, kC, xor_byte] <;> rfl) (by simp only [kP] <;> rfl) ?_
  refine EV ?_
  refine ON ?_
  refine OQ ?_
  refine EV ?_
  refine ON ?_
  refine Ok.block ?_
  refine Ok.loopW (τ := BitVec 32 × Nat) (fun x => [(0, .int .u32 (x.1.toNat : Int)), (19, .int .i64 (x.2 : Int))]) [6, 20, 21, 22, 23, 24, 25, 26, 27, 28, 29] (fun x => by simp only [kover] <;> rfl) (fun x => bitsS (8 - x.2) x.1 = bitsS 8 (a ^^^ BitVec.ofNat 32 s[i].toNat) ∧ x.2 ≤ 8) (fun x => 8 - x.2) (a ^^^ BitVec.ofNat 32 s[i].toNat, 0) (by refine ⟨?_, ?_, ?_, ?_, ?_, ?_, ?_, ?_, ?_, ?_, ?_, ?_, ?_, ?_, ?_, ?_, ?_, ?_, ?_, ?_, ?_, ?_, ?_, ?_, ?_, ?_, ?_, ?_, ?_, ?_, ?_, trivial⟩ <;> first | exact le_any _ | with_reducible exact le_rfl' _ | (fail) | exact le_rfl' _) (⟨rfl, Nat.zero_le _⟩) ?_
  rintro ⟨b, j⟩ ⟨h3, h4⟩
  refine OQ ?_
  refine EV ?_
  refine ON ?_
  refine Ok.seq ?_
  refine Ok.cond (b := _) (by simp only [kE, kT, kL, kC] <;> rfl) (fun hb6 => ?_) (fun hb6 => ?_)
  ·
   try simp only [bsimp] at hb6
   have hj : j < 8 := by omega
   refine Ok.skip ?_
   refine Ok.seq ?_
   refine Ok.block ?_
   refine OQ ?_
   refine EV ?_
   refine OkOps.ev tab_ok rfl (by simp only [kE, kT, kL, kC, and1_u32] <;> rfl) (by simp only [kP] <;> rfl) ?_
   refine EV ?_
   refine ON ?_
   refine OQ ?_
   refine EV ?_
   refine OkOps.ev tab_ok rfl (by simp only [kE, kT, kL, kC, shr1_u32] <;> rfl) (by simp only [kP] <;> rfl) ?_
   refine EV ?_
   refine ON ?_
   refine OQ ?_
   refine EV ?_
   refine OkOps.ev tab_ok rfl (by simp only [kE, kT, kL, kC, nat_one] <;> rfl) (by simp only [kP] <;> rfl) ?_
   refine ON ?_
   refine Ok.cond (b := _) (by simp only [kE, kT, kL, kC] <;> rfl) (fun hb9 => ?_) (fun hb9 => ?_)
   ·
    try simp only [bsimp] at hb9
    have hbs := bitS_t hb9
    refine Ok.region ?_
    refine EV ?_
    refine OkOps.ev tab_ok rfl (by simp only [kE, kT, kL, kC, xor_key] <;> rfl) (by simp only [kP] <;> rfl) ?_
    refine EV ?_
    refine ON ?_
    refine Ok.region ?_
    iterate 2 (refine EV ?_)
    refine ON ?_
    refine ⟨(bitS b, j + 1), ?_, rfl, rfl, ⟨by rw [← h3, ← bitsS_next hj], hj⟩, by show 8 - (j + 1) < 8 - j; omega⟩
    refine ⟨?_, ?_, ?_, ?_, ?_, ?_, ?_, ?_, ?_, ?_, ?_, ?_, ?_, ?_, ?_, ?_, ?_, ?_, ?_, ?_, ?_, ?_, ?_, ?_, ?_, ?_, ?_, ?_, ?_, ?_, ?_, trivial⟩ <;> first | exact le_any _ | with_reducible exact le_rfl' _ | (first | (rw [wrap_succ (by omega)]; exact le_rfl' _) | (rw [hbs]; exact le_rfl' _)) | exact le_rfl' _
   ·
    try simp only [bsimp] at hb9
    have hbs := bitS_f hb9
    refine Ok.skip ?_
    refine Ok.region ?_
    iterate 2 (refine EV ?_)
    refine ON ?_
    refine ⟨(bitS b, j + 1), ?_, rfl, rfl, ⟨by rw [← h3, ← bitsS_next hj], hj⟩, by show 8 - (j + 1) < 8 - j; omega⟩
    refine ⟨?_, ?_, ?_, ?_, ?_, ?_, ?_, ?_, ?_, ?_, ?_, ?_, ?_, ?_, ?_, ?_, ?_, ?_, ?_, ?_, ?_, ?_, ?_, ?_, ?_, ?_, ?_, ?_, ?_, ?_, ?_, trivial⟩ <;> first | exact le_any _ | with_reducible exact le_rfl' _ | (first | (rw [wrap_succ (by omega)]; exact le_rfl' _) | (rw [hbs]; exact le_rfl' _)) | exact le_rfl' _
  ·
   try simp only [bsimp] at hb6
   have hj : j = 8 := by omega
   subst hj
   have h3 : b = bitsS 8 (a ^^^ BitVec.ofNat 32 s[i].toNat) := h3
   subst h3
   refine Ok.exit ?_
   refine Ok.region ?_
   iterate 3 (refine EV ?_)
   refine ON ?_
   refine ⟨(bitsS 8 (a ^^^ BitVec.ofNat 32 s[i].toNat), i + 1), ?_, rfl, rfl, ⟨by rw [← h1, sumS_next hi], hi⟩, by show s.length - (i + 1) < s.length - i; omega⟩
   refine ⟨?_, ?_, ?_, ?_, ?_, ?_, ?_, ?_, ?_, ?_, ?_, ?_, ?_, ?_, ?_, ?_, ?_, ?_, ?_, ?_, ?_, ?_, ?_, ?_, ?_, ?_, ?_, ?_, ?_, ?_, ?_, trivial⟩ <;> first | exact le_any _ | with_reducible exact le_rfl' _ | (rw [wrap_succ (by omega)]; exact le_rfl' _) | exact le_rfl' _
 ·
  try simp only [bsimp] at hb2
  have hi : i = s.length := by omega
  refine Ok.exit ?_
  refine OQ ?_
  iterate 2 (refine EV ?_)
  refine ON ?_
  refine Ok.ret ?_
  with_reducible repeat (first | refine thenQ_ret ?_ | refine blockQ_ret ?_)
  refine RT ?_
  rw [← h1, hi, List.drop_length]; rfl
theorem w_spec_SumOf (s : Str) (hs : s.length ≤ 4611686018427387904) : Weak Try.prog 51 [.str s] (.int .u32 ((sumOf s).toNat : Int)) := by
 refine Weak.enter tab_ok Try.func51 rfl (.inr (by simp [V.labelsL, V.labels, zz])) (t := [.str s, .any, .any, .any, .any]) rfl ?_
 refine OQ ?_
 refine EV ?_
 refine ON ?_
 refine OQ ?_
 refine EV ?_
 refine OkOps.S0 rfl (OpS.weak' rfl (by simp only [kE, kT, kL, kC] <;> rfl) (by simp only [kE, kT, kL, kC] <;> rfl) cl61 (w_spec_SumMore 4294967295#32 s hs)) (by simp only [kP] <;> rfl) ?_
 refine EV ?_
 refine ON ?_
 refine Ok.ret ?_
 with_reducible repeat (first | refine thenQ_ret ?_ | refine blockQ_ret ?_)
 refine RT ?_
 rfl
theorem w_impl_SumOf (s : Str) (hs : s.length ≤ 4611686018427387904) : Weak Try.prog 47 [.str s] (.int .u32 ((sumOf s).toNat : Int)) := by
 refine Weak.enter tab_ok Try.func47 rfl (.inr (by simp [V.labelsL, V.labels, zz])) (t := [.str s, .any, .any, .any, .any]) rfl ?_
 refine OQ ?_
 refine EV ?_
 refine ON ?_
 refine OQ ?_
 refine EV ?_
 refine OkOps.S0 rfl (OpS.weak' rfl (by simp only [kE, kT, kL, kC] <;> rfl) (by simp only [kE, kT, kL, kC] <;> rfl) cl60 (w_impl_SumMore 4294967295#32 s hs)) (by simp only [kP] <;> rfl) ?_
 refine EV ?_
 refine ON ?_
 refine Ok.ret ?_
 with_reducible repeat (first | refine thenQ_ret ?_ | refine blockQ_ret ?_)
 refine RT ?_
 rfl
theorem w_spec_l02Four (x : BitVec 32) : Weak Try.prog 50 [.int .u32 (x.toNat : Int)] (.str (fourT x)) := by
 refine Weak.enter tab_ok Try.func50 rfl (.inr (by simp [V.labelsL, V.labels, zz])) (t := [.int .u32 (x.toNat : Int), .any, .any, .any, .any, .any, .any, .any, .any, .any, .any, .any, .any, .any, .any, .any]) rfl ?_
 refine OQ ?_
 refine EV ?_
 refine ON ?_
 refine OQ ?_
 iterate 2 (refine EV ?_)
 refine OkOps.ev tab_ok rfl (by simp only [kE, kT, kL, kC, by_shr x, wrap_u8_nat] <;> rfl) (by simp only [kP] <;> rfl) ?_
 iterate 2 (refine EV ?_)
 refine OkOps.ev tab_ok rfl (by simp only [kE, kT, kL, kC, by_shr x, wrap_u8_nat] <;> rfl) (by simp only [kP] <;> rfl) ?_
 iterate 2 (refine EV ?_)
 refine OkOps.ev tab_ok rfl (by simp only [kE, kT, kL, kC, by_shr x, wrap_u8_nat] <;> rfl) (by simp only [kP] <;> rfl) ?_
 refine EV ?_
 refine OkOps.ev tab_ok rfl (by simp only [kE, kT, kL, kC, by_shr x, wrap_u8_nat] <;> rfl) (by simp only [kP] <;> rfl) ?_
 refine OkOps.ev tab_ok rfl (ev_bs (by simp only [kT] <;> rfl) (by simp only [kT] <;> rfl) (by decide) (by decide) (by simp only [kE, kT, kL, kC, List.map_cons, List.map_nil] <;> rfl) (by simp only [kfe, beq_self_eq_true, Bool.and_true, Bool.true_and, decide_true, Nat.zero_add, Nat.lt_add_one, Nat.reduceLT, Nat.reduceAdd, Nat.zero_lt_succ, if_true, ↓reduceIte] <;> rfl)) (by simp only [kP] <;> rfl) ?_
 refine OkOps.ev tab_ok rfl (ev_text' (by simp only [kE, kT, kL, kC] <;> rfl) rfl rfl rfl (by simp only [kby, Option.map_some, List.append_assoc, List.cons_append, List.nil_append] <;> rfl)) (by simp only [kP] <;> rfl) ?_
 refine EV ?_
 refine ON ?_
 refine Ok.ret ?_
 with_reducible repeat (first | refine thenQ_ret ?_ | refine blockQ_ret ?_)
 refine RT ?_
 rfl
theorem w_impl_four (x : BitVec 32) : Weak Try.prog 46 [.int .i64 (x.toNat : Int)] (.str (fourT x)) := by
 refine Weak.enter tab_ok Try.func46 rfl (.inr (by simp [V.labelsL, V.labels, zz])) (t := [.int .i64 (x.toNat : Int), .any, .any, .any, .any, .any, .any, .any, .any, .any, .any, .any, .any, .any, .any, .any]) rfl ?_
 refine OQ ?_
 refine EV ?_
 refine ON ?_
 refine OQ ?_
 iterate 2 (refine EV ?_)
 refine OkOps.ev tab_ok rfl (by simp only [kE, kT, kL, kC, by_shr64 x, wrap_u8_nat] <;> rfl) (by simp only [kP] <;> rfl) ?_
 iterate 2 (refine EV ?_)
 refine OkOps.ev tab_ok rfl (by simp only [kE, kT, kL, kC, by_shr64 x, wrap_u8_nat] <;> rfl) (by simp only [kP] <;> rfl) ?_
 iterate 2 (refine EV ?_)
 refine OkOps.ev tab_ok rfl (by simp only [kE, kT, kL, kC, by_shr64 x, wrap_u8_nat] <;> rfl) (by simp only [kP] <;> rfl) ?_
 refine EV ?_
 refine OkOps.ev tab_ok rfl (by simp only [kE, kT, kL, kC, by_shr64 x, wrap_u8_nat] <;> rfl) (by simp only [kP] <;> rfl) ?_
 refine OkOps.ev tab_ok rfl (ev_bs (by simp only [kT] <;> rfl) (by simp only [kT] <;> rfl) (by decide) (by decide) (by simp only [kE, kT, kL, kC, List.map_cons, List.map_nil] <;> rfl) (by simp only [kfe, beq_self_eq_true, Bool.and_true, Bool.true_and, decide_true, Nat.zero_add, Nat.lt_add_one, Nat.reduceLT, Nat.reduceAdd, Nat.zero_lt_succ, if_true, ↓reduceIte] <;> rfl)) (by simp only [kP] <;> rfl) ?_
 refine OkOps.ev tab_ok rfl (ev_text' (by simp only [kE, kT, kL, kC] <;> rfl) rfl rfl rfl (by simp only [kby, Option.map_some, List.append_assoc, List.cons_append, List.nil_append] <;> rfl)) (by simp only [kP] <;> rfl) ?_
 refine EV ?_
 refine ON ?_
 refine Ok.ret ?_
 with_reducible repeat (first | refine thenQ_ret ?_ | refine blockQ_ret ?_)
 refine RT ?_
 rfl
theorem w_spec_Sealed (s : Str) : Weak Try.prog 27 [.str s] (vO (sealed s)) := by
 refine Weak.enter tab_ok Try.func27 rfl (.inr (by simp [V.labelsL, V.labels, zz])) (t := [.str s, .any, .any, .any, .any, .any, .any, .any, .any, .any, .any, .any]) rfl ?_
 refine OQ ?_
 iterate 2 (refine EV ?_)
 refine ON ?_
 refine Ok.seq ?_
 refine OQ ?_
 iterate 3 (refine EV ?_)
 refine ON ?_
 refine Ok.cond (b := _) (by simp only [kE, kT, kL, kC] <;> rfl) (fun hb1 => ?_) (fun hb1 => ?_)
 ·
  try simp only [bsimp] at hb1
  rw [sealed, if_pos (by omega)]
  refine OQ ?_
  iterate 2 (refine EV ?_)
  refine ON ?_
  refine Ok.ret ?_
  with_reducible repeat (first | refine thenQ_ret ?_ | refine blockQ_ret ?_)
  refine RT ?_
  rfl
 ·
  try simp only [bsimp] at hb1
  rw [sealed, if_neg (by omega)]
  refine Ok.skip ?_
  refine OQ ?_
  iterate 2 (refine EV ?_)
  refine OkOps.S0 rfl (OpS.weak' rfl (by simp only [kE, kT, kL, kC] <;> rfl) (by simp only [kE, kT, kL, kC] <;> rfl) cl51 (w_spec_SumOf s (by omega))) (by simp only [kP] <;> rfl) ?_
  refine OkOps.S0 rfl (OpS.weak' rfl (by simp only [kE, kT, kL, kC] <;> rfl) (by simp only [kE, kT, kL, kC] <;> rfl) cl50 (w_spec_l02Four (sumOf s))) (by simp only [kP] <;> rfl) ?_
  refine OkOps.ev tab_ok rfl (ev_cat (by simp only [kE, kT, kL, kC] <;> rfl) (by simp only [kE, kT, kL, kC] <;> rfl) (by have := fourT_len (sumOf s); omega)) (by simp only [kP] <;> rfl) ?_
  iterate 2 (refine EV ?_)
  refine ON ?_
  refine Ok.ret ?_
  with_reducible repeat (first | refine thenQ_ret ?_ | refine blockQ_ret ?_)
  refine RT ?_
  rfl
theorem w_impl_Sealed (s : Str) : Weak Try.prog 23 [.str s] (vO (sealed s)) := by
 refine Weak.enter tab_ok Try.func23 rfl (.inr (by simp [V.labelsL, V.labels, zz])) (t := [.str s, .any, .any, .any, .any, .any, .any, .any, .any, .any, .any, .any, .any]) rfl ?_
 refine OQ ?_
 iterate 2 (refine EV ?_)
 refine ON ?_
 refine Ok.seq ?_
 refine OQ ?_
 iterate 3 (refine EV ?_)
 refine ON ?_
 refine Ok.cond (b := _) (by simp only [kE, kT, kL, kC] <;> rfl) (fun hb1 => ?_) (fun hb1 => ?_)
 ·
  try simp only [bsimp] at hb1
  rw [sealed, if_pos (by omega)]
  refine OQ ?_
  iterate 2 (refine EV ?_)
  refine ON ?_
  refine Ok.ret ?_
  with_reducible repeat (first | refine thenQ_ret ?_ | refine blockQ_ret ?_)
  refine RT ?_
  rfl
 ·
  try simp only [bsimp] at hb1
  rw [sealed, if_neg (by omega)]
  refine Ok.skip ?_
  refine OQ ?_
  iterate 2 (refine EV ?_)
  refine OkOps.S0 rfl (OpS.weak' rfl (by simp only [kE, kT, kL, kC] <;> rfl) (by simp only [kE, kT, kL, kC] <;> rfl) cl47 (w_impl_SumOf s (by omega))) (by simp only [kP] <;> rfl) ?_
  refine OkOps.ev tab_ok rfl (by simp only [kE, kT, kL, kC, wrap_sum] <;> rfl) (by simp only [kP] <;> rfl) ?_
  refine OkOps.S0 rfl (OpS.weak' rfl (by simp only [kE, kT, kL, kC] <;> rfl) (by simp only [kE, kT, kL, kC] <;> rfl) cl46 (w_impl_four (sumOf s))) (by simp only [kP] <;> rfl) ?_
  refine OkOps.ev tab_ok rfl (ev_cat (by simp only [kE, kT, kL, kC] <;> rfl) (by simp only [kE, kT, kL, kC] <;> rfl) (by have := fourT_len (sumOf s); omega)) (by simp only [kP] <;> rfl) ?_
  iterate 2 (refine EV ?_)
  refine ON ?_
  refine Ok.ret ?_
  with_reducible repeat (first | refine thenQ_ret ?_ | refine blockQ_ret ?_)
  refine RT ?_
  rfl
end Go.Proofs.Ytckeandnnbnapaa.K

/- Walks: packets' texts. Printed by w2.py. -/
namespace Go.Proofs.Ytckeandnnbnapaa.K
open Go Go.RowKit
set_option linter.unusedVariables false
set_option linter.unusedSimpArgs false
set_option maxHeartbeats 4000000
set_option maxRecDepth 20000
theorem w_spec_PacketText (p : Packet) : Weak Try.prog 7 [.agg (cPacket p)] (vO (packetText p)) := by
 refine Weak.enter tab_ok Try.func7 rfl (.inr (by simp [V.labelsL, V.labels, zz])) (t := [.agg (cPacket p), .any, .any, .any, .any, .any, .any, .any, .any, .any, .any, .any, .any, .any, .any, .any, .any, .any, .any, .any, .any, .any, .any, .any, .any, .any, .any, .any, .any, .any, .any, .any, .any, .any, .any, .any, .any, .any, .any, .any, .any, .any, .any, .any, .any, .any, .any, .any]) rfl ?_
 refine OQ ?_
 iterate 3 (refine EV ?_)
 refine ON ?_
 refine Ok.seq ?_
 refine Ok.seqC [(25, .bool (!packetOk p))] [4, 5, 6, 7, 8, 9, 10, 11, 12, 13, 14, 15, 16, 17, 18, 19, 20, 21, 22, 23, 24] (by simp only [kover] <;> rfl) ?_ ?_
 ·
  refine Ok.region ?_
  iterate 2 (refine EV ?_)
  refine OkOps.S0 rfl (OpS.weak' rfl (by simp only [kE, kT, kL, kC] <;> rfl) (by simp only [kE, kT, kL, kC] <;> rfl) cl26 (w_spec_l01In _ _ _)) (by simp only [kP] <;> rfl) ?_
  iterate 2 (refine EV ?_)
  refine OkOps.split (d := 8) (by simp only [kE, kT, kL, kC] <;> rfl) (by simp only [kP] <;> rfl) (by simp only [kP] <;> rfl) (fun hg1_4 => ?_) (fun hg1_4 => ?_)
  ·
   try simp only [bsimp] at hg1_4
   refine OkOps.offU rfl rfl (.inl (by simp only [kE, kT, kL, kC, Bool.not_true, Bool.not_false])) (by simp only [kP] <;> rfl) ?_
   refine OkOps.offU rfl rfl (.inl (by simp only [kE, kT, kL, kC, Bool.not_true, Bool.not_false])) (by simp only [kP] <;> rfl) ?_
   refine OkOps.offU rfl rfl (.inl (by simp only [kE, kT, kL, kC, Bool.not_true, Bool.not_false])) (by simp only [kP] <;> rfl) ?_
   refine OkOps.offU rfl rfl (.inl (by simp only [kE, kT, kL, kC, Bool.not_true, Bool.not_false])) (by simp only [kP] <;> rfl) ?_
   iterate 2 (refine EV ?_)
   refine OkOps.offU rfl rfl (.inl (by simp only [kE, kT, kL, kC, Bool.not_true, Bool.not_false])) (by simp only [kP] <;> rfl) ?_
   refine OkOps.offU rfl rfl (.inl (by simp only [kE, kT, kL, kC, Bool.not_true, Bool.not_false])) (by simp only [kP] <;> rfl) ?_
   refine OkOps.offU rfl rfl (.inl (by simp only [kE, kT, kL, kC, Bool.not_true, Bool.not_false])) (by simp only [kP] <;> rfl) ?_
   refine OkOps.offU rfl rfl (.inl (by simp only [kE, kT, kL, kC, Bool.not_true, Bool.not_false])) (by simp only [kP] <;> rfl) ?_
   iterate 2 (refine EV ?_)
   refine OkOps.offU rfl rfl (.inl (by simp only [kE, kT, kL, kC, Bool.not_true, Bool.not_false])) (by simp only [kP] <;> rfl) ?_
   refine OkOps.offU rfl rfl (.inl (by simp only [kE, kT, kL, kC, Bool.not_true, Bool.not_false])) (by simp only [kP] <;> rfl) ?_
   refine OkOps.offU rfl rfl (.inl (by simp only [kE, kT, kL, kC, Bool.not_true, Bool.not_false])) (by simp only [kP] <;> rfl) ?_
   refine OkOps.offU rfl rfl (.inl (by simp only [kE, kT, kL, kC, Bool.not_true, Bool.not_false])) (by simp only [kP] <;> rfl) ?_
   refine EV ?_
   refine ON ?_
   refine ⟨rfl, ?_, rfl, rfl⟩
   refine ⟨?_, ?_, ?_, ?_, ?_, ?_, ?_, ?_, ?_, ?_, ?_, ?_, ?_, ?_, ?_, ?_, ?_, ?_, ?_, ?_, ?_, ?_, ?_, ?_, ?_, ?_, ?_, ?_, ?_, ?_, ?_, ?_, ?_, ?_, ?_, ?_, ?_, ?_, ?_, ?_, ?_, ?_, ?_, ?_, ?_, ?_, ?_, ?_, trivial⟩ <;> first | exact le_any _ | with_reducible exact le_rfl' _ | (refine .inl (congrArg V.bool ?_); (first | (simp [packetOk, *]; done) | (simp [packetOk, *] <;> omega) | (rw [Bool.eq_iff_iff]; simp [packetOk, *] <;> omega) | (simp_all [packetOk]; done))) | exact le_rfl' _
  ·
   try simp only [bsimp] at hg1_4
   refine OO ?_
   refine EV ?_
   refine OO ?_
   refine EV ?_
   refine OO ?_
   refine OkOps.S0 rfl (OpS.weak' rfl (by simp only [kE, kT, kL, kC] <;> rfl) (by simp only [kE, kT, kL, kC] <;> rfl) cl26 (w_spec_l01In _ _ _)) (by simp only [kP] <;> rfl) ?_
   refine OO ?_
   iterate 3 (refine EV ?_)
   refine OkOps.split (d := 14) (by simp only [kE, kT, kL, kC] <;> rfl) (by simp only [kP] <;> rfl) (by simp only [kP] <;> rfl) (fun hg1_10 => ?_) (fun hg1_10 => ?_)
   ·
    try simp only [bsimp] at hg1_10
    refine OkOps.offU rfl rfl (.inl (by simp only [kE, kT, kL, kC, Bool.not_true, Bool.not_false])) (by simp only [kP] <;> rfl) ?_
    refine OkOps.offU rfl rfl (.inl (by simp only [kE, kT, kL, kC, Bool.not_true, Bool.not_false])) (by simp only [kP] <;> rfl) ?_
    refine OkOps.offU rfl rfl (.inl (by simp only [kE, kT, kL, kC, Bool.not_true, Bool.not_false])) (by simp only [kP] <;> rfl) ?_
    refine OkOps.offU rfl rfl (.inl (by simp only [kE, kT, kL, kC, Bool.not_true, Bool.not_false])) (by simp only [kP] <;> rfl) ?_
    iterate 2 (refine EV ?_)
    refine OkOps.offU rfl rfl (.inl (by simp only [kE, kT, kL, kC, Bool.not_true, Bool.not_false])) (by simp only [kP] <;> rfl) ?_
    refine OkOps.offU rfl rfl (.inl (by simp only [kE, kT, kL, kC, Bool.not_true, Bool.not_false])) (by simp only [kP] <;> rfl) ?_
    refine OkOps.offU rfl rfl (.inl (by simp only [kE, kT, kL, kC, Bool.not_true, Bool.not_false])) (by simp only [kP] <;> rfl) ?_
    refine OkOps.offU rfl rfl (.inl (by simp only [kE, kT, kL, kC, Bool.not_true, Bool.not_false])) (by simp only [kP] <;> rfl) ?_
    refine EV ?_
    refine ON ?_
    refine ⟨rfl, ?_, rfl, rfl⟩
    refine ⟨?_, ?_, ?_, ?_, ?_, ?_, ?_, ?_, ?_, ?_, ?_, ?_, ?_, ?_, ?_, ?_, ?_, ?_, ?_, ?_, ?_, ?_, ?_, ?_, ?_, ?_, ?_, ?_, ?_, ?_, ?_, ?_, ?_, ?_, ?_, ?_, ?_, ?_, ?_, ?_, ?_, ?_, ?_, ?_, ?_, ?_, ?_, ?_, trivial⟩ <;> first | exact le_any _ | with_reducible exact le_rfl' _ | (refine .inl (congrArg V.bool ?_); (first | (simp [packetOk, *]; done) | (simp [packetOk, *] <;> omega) | (rw [Bool.eq_iff_iff]; simp [packetOk, *] <;> omega) | (simp_all [packetOk]; done))) | exact le_rfl' _
   ·
    try simp only [bsimp] at hg1_10
    refine OO ?_
    refine EV ?_
    refine OO ?_
    refine EV ?_
    refine OO ?_
    refine OkOps.S0 rfl (OpS.weak' rfl (by simp only [kE, kT, kL, kC] <;> rfl) (by simp only [kE, kT, kL, kC] <;> rfl) cl26 (w_spec_l01In _ _ _)) (by simp only [kP] <;> rfl) ?_
    refine OO ?_
    iterate 3 (refine EV ?_)
    refine OkOps.split (d := 20) (by simp only [kE, kT, kL, kC] <;> rfl) (by simp only [kP] <;> rfl) (by simp only [kP] <;> rfl) (fun hg1_16 => ?_) (fun hg1_16 => ?_)
    ·
     try simp only [bsimp] at hg1_16
     refine OkOps.offU rfl rfl (.inl (by simp only [kE, kT, kL, kC, Bool.not_true, Bool.not_false])) (by simp only [kP] <;> rfl) ?_
     refine OkOps.offU rfl rfl (.inl (by simp only [kE, kT, kL, kC, Bool.not_true, Bool.not_false])) (by simp only [kP] <;> rfl) ?_
     refine OkOps.offU rfl rfl (.inl (by simp only [kE, kT, kL, kC, Bool.not_true, Bool.not_false])) (by simp only [kP] <;> rfl) ?_
     refine OkOps.offU rfl rfl (.inl (by simp only [kE, kT, kL, kC, Bool.not_true, Bool.not_false])) (by simp only [kP] <;> rfl) ?_
     refine EV ?_
     refine ON ?_
     refine ⟨rfl, ?_, rfl, rfl⟩
     refine ⟨?_, ?_, ?_, ?_, ?_, ?_, ?_, ?_, ?_, ?_, ?_, ?_, ?_, ?_, ?_, ?_, ?_, ?_, ?_, ?_, ?_, ?_, ?_, ?_, ?_, ?_, ?_, ?_, ?_, ?_, ?_, ?_, ?_, ?_, ?_, ?_, ?_, ?_, ?_, ?_, ?_, ?_, ?_, ?_, ?_, ?_, ?_, ?_, trivial⟩ <;> first | exact le_any _ | with_reducible exact le_rfl' _ | (refine .inl (congrArg V.bool ?_); (first | (simp [packetOk, *]; done) | (simp [packetOk, *] <;> omega) | (rw [Bool.eq_iff_iff]; simp [packetOk, *] <;> omega) | (simp_all [packetOk]; done))) | exact le_rfl' _
    ·
     try simp only [bsimp] at hg1_16
     refine OO ?_
     refine EV ?_
     refine OO ?_
     refine EV ?_
     refine OO ?_
     refine EV ?_
     refine OO ?_
     iterate 2 (refine EV ?_)
     refine ON ?_
     refine ⟨rfl, ?_, rfl, rfl⟩
     refine ⟨?_, ?_, ?_, ?_, ?_, ?_, ?_, ?_, ?_, ?_, ?_, ?_, ?_, ?_, ?_, ?_, ?_, ?_, ?_, ?_, ?_, ?_, ?_, ?_, ?_, ?_, ?_, ?_, ?_, ?_, ?_, ?_, ?_, ?_, ?_, ?_, ?_, ?_, ?_, ?_, ?_, ?_, ?_, ?_, ?_, ?_, ?_, ?_, trivial⟩ <;> first | exact le_any _ | with_reducible exact le_rfl' _ | (refine .inl (congrArg V.bool ?_); (first | (simp [packetOk, *]; done) | (simp [packetOk, *] <;> omega) | (rw [Bool.eq_iff_iff]; simp [packetOk, *] <;> omega) | (simp_all [packetOk]; done))) | exact le_rfl' _
 ·
  refine Ok.cond (b := _) (by simp only [kE, kT, kL, kC] <;> rfl) (fun hb1 => ?_) (fun hb1 => ?_)
  ·
   try simp only [bsimp] at hb1
   have hp : packetOk p = false := by simpa using hb1
   rw [packetText, if_neg (by simp [hp])]
   refine OQ ?_
   iterate 2 (refine EV ?_)
   refine ON ?_
   refine Ok.ret ?_
   with_reducible repeat (first | refine thenQ_ret ?_ | refine blockQ_ret ?_)
   refine RT ?_
   rfl
  ·
   try simp only [bsimp] at hb1
   have hp : packetOk p = true := by simpa using hb1
   rw [packetText, if_pos hp]
   simp only [packetOk, Bool.and_eq_true, inR_t, decide_eq_true_eq] at hp
   obtain ⟨⟨⟨q1, q2⟩, q3⟩, q4⟩ := hp
   have l1 := varT_len5 (n := p.epoch.toNat) (by omega)
   have l2 := varT_len5 (n := p.seq.toNat) (by omega)
   have l3 := varT_len5 (n := p.ack.toNat) (by omega)
   have l4 := varT_len5 (n := p.text.length) (by omega)
   have hbl : (packetBody p).length ≤ 20000 := by simp only [packetBody, List.length_append]; omega
   have hse : sealed (varT p.epoch.toNat ++ varT p.seq.toNat ++ varT p.ack.toNat ++ varT (p.text.length : Int).toNat ++ p.text) = some (sealT (packetBody p)) := by rw [Int.toNat_natCast, sealed, if_neg (by simp only [List.length_append]; omega)]; simp [packetBody]
   have l5 : (varT (p.text.length : Int).toNat).length ≤ 5 := by rw [Int.toNat_natCast]; exact l4
   refine Ok.skip ?_
   refine Ok.seq ?_
   refine Ok.drawn 24 48 [] (by kernel_rfl) (by kernel_rfl) rfl ?_
   iterate 2 (refine SV ?_)
   refine SOps.S0 rfl (OpS.weakM rfl (by simp only [kE, kT, kL, kC] <;> rfl) (by simp only [kE, kT, kL, kC] <;> rfl) cl28 (w_spec_l01Var p.epoch (by omega))) (by simp only [kP] <;> rfl) ?_
   iterate 2 (refine SV ?_)
   refine SOps.S0 rfl (OpS.weakM rfl (by simp only [kE, kT, kL, kC] <;> rfl) (by simp only [kE, kT, kL, kC] <;> rfl) cl28 (w_spec_l01Var p.seq (by omega))) (by simp only [kP] <;> rfl) ?_
   refine SOps.ev tab_ok rfl (ev_cat (by simp only [kE, kT, kL, kC] <;> rfl) (by simp only [kE, kT, kL, kC] <;> rfl) (by first | omega | (simp only [List.length_append] at *; omega))) (by simp only [kP] <;> rfl) ?_
   iterate 2 (refine SV ?_)
   refine SOps.S0 rfl (OpS.weakM rfl (by simp only [kE, kT, kL, kC] <;> rfl) (by simp only [kE, kT, kL, kC] <;> rfl) cl28 (w_spec_l01Var p.ack (by omega))) (by simp only [kP] <;> rfl) ?_
   refine SOps.ev tab_ok rfl (ev_cat (by simp only [kE, kT, kL, kC] <;> rfl) (by simp only [kE, kT, kL, kC] <;> rfl) (by first | omega | (simp only [List.length_append] at *; omega))) (by simp only [kP] <;> rfl) ?_
   iterate 3 (refine SV ?_)
   refine SOps.S0 rfl (OpS.weakM rfl (by simp only [kE, kT, kL, kC] <;> rfl) (by simp only [kE, kT, kL, kC] <;> rfl) cl28 (w_spec_l01Var (p.text.length : Int) (by omega))) (by simp only [kP] <;> rfl) ?_
   refine SOps.ev tab_ok rfl (ev_cat (by simp only [kE, kT, kL, kC] <;> rfl) (by simp only [kE, kT, kL, kC] <;> rfl) (by first | omega | (simp only [List.length_append] at *; omega))) (by simp only [kP] <;> rfl) ?_
   iterate 2 (refine SV ?_)
   refine SOps.ev tab_ok rfl (ev_cat (by simp only [kE, kT, kL, kC] <;> rfl) (by simp only [kE, kT, kL, kC] <;> rfl) (by first | omega | (simp only [List.length_append] at *; omega))) (by simp only [kP] <;> rfl) ?_
   refine SOps.S0 rfl (OpS.weakM rfl (by simp only [kE, kT, kL, kC] <;> rfl) (by simp only [kE, kT, kL, kC] <;> rfl) cl27 (w_spec_Sealed _)) (by simp only [kP] <;> rfl) ?_
   refine SOps.ev tab_ok rfl (by simp only [kE, kT, kL, kC, hse, Option.getD_some] <;> rfl) (by simp only [kP] <;> rfl) ?_
   refine SOps.ev tab_ok rfl (by simp only [kE, kT, kL, kC, hse, Option.isSome_some] <;> rfl) (by simp only [kP] <;> rfl) ?_
   iterate 2 (refine SV ?_)
   refine SOps.nil ?_
   refine TOps.nil ?_
   refine Ok.ret ?_
   with_reducible repeat (first | refine thenQ_ret ?_ | refine blockQ_ret ?_)
   refine RT ?_
   rfl
theorem w_impl_PacketText (p : Packet) : Weak Try.prog 6 [.agg (cPacket p)] (vO (packetText p)) := by
 refine Weak.enter tab_ok Try.func6 rfl (.inr (by simp [V.labelsL, V.labels, zz])) (t := [.agg (cPacket p), .any, .any, .any, .any, .any, .any, .any, .any, .any, .any, .any, .any, .any, .any, .any, .any, .any, .any, .any, .any, .any, .any, .any, .any, .any, .any, .any, .any, .any, .any, .any, .any, .any, .any, .any, .any, .any, .any, .any, .any]) rfl ?_
 refine OQ ?_
 iterate 3 (refine EV ?_)
 refine ON ?_
 refine Ok.seq ?_
 refine OQ ?_
 iterate 6 (refine EV ?_)
 refine OkOps.ev tab_ok rfl (ev_bs (by simp only [kT] <;> rfl) (by simp only [kT] <;> rfl) (by decide) (by decide) (by simp only [kE, kT, kL, kC, List.map_cons, List.map_nil] <;> rfl) (by simp only [kfe, beq_self_eq_true, Bool.and_true, Bool.true_and, decide_true, Nat.zero_add, Nat.lt_add_one, Nat.reduceLT, Nat.reduceAdd, Nat.zero_lt_succ, if_true, ↓reduceIte] <;> rfl)) (by simp only [kP] <;> rfl) ?_
 iterate 2 (refine EV ?_)
 refine ON ?_
 refine Ok.block ?_
 refine Ok.loopW (τ := Nat) (fun x => [(12, .sl 2 1 0 ([p.epoch, p.seq, p.ack].map cZ)), (14, .int .i64 (x : Int))]) [2, 3, 5, 15, 16, 17, 18, 19, 20, 21] (fun x => by simp only [kover] <;> rfl) (fun x => x ≤ 3 ∧ ∀ z ∈ [p.epoch, p.seq, p.ack].take x, inR z 0 1000000000 = true) (fun x => 3 - x) 0 (by refine ⟨?_, ?_, ?_, ?_, ?_, ?_, ?_, ?_, ?_, ?_, ?_, ?_, ?_, ?_, ?_, ?_, ?_, ?_, ?_, ?_, ?_, ?_, ?_, ?_, ?_, ?_, ?_, ?_, ?_, ?_, ?_, ?_, ?_, ?_, ?_, ?_, ?_, ?_, ?_, ?_, ?_, trivial⟩ <;> first | exact le_any _ | with_reducible exact le_rfl' _ | (exact le_rfl' _) | exact le_rfl' _) (⟨Nat.zero_le _, by simp⟩) ?_
 rintro i ⟨h1, h2⟩
 refine OQ ?_
 refine EV ?_
 refine ON ?_
 refine Ok.seq ?_
 refine Ok.cond (b := _) (by simp only [kE, kT, kL, kC] <;> rfl) (fun hb2 => ?_) (fun hb2 => ?_)
 ·
  try simp only [bsimp] at hb2
  simp only [List.length_cons, List.length_nil] at hb2
  have hi3 : i < 3 := by omega
  have hi : i < [p.epoch, p.seq, p.ack].length := hi3
  refine Ok.skip ?_
  refine Ok.seq ?_
  refine Ok.block ?_
  refine OQ ?_
  refine OkOps.ev tab_ok rfl (ev_idx_map (by simp only [kE, kT, kL, kC] <;> rfl) (by simp only [kE, kT, kL, kC] <;> rfl) (hi) (by simp only [kE, kT, kL, kC] <;> rfl)) (by simp only [kP] <;> rfl) ?_
  iterate 2 (refine EV ?_)
  refine ON ?_
  refine OQ ?_
  refine EV ?_
  refine OkOps.S0 rfl (OpS.weak' rfl (by simp only [kE, kT, kL, kC] <;> rfl) (by simp only [kE, kT, kL, kC] <;> rfl) cl22 (w_impl_within _ _ _)) (by simp only [kP] <;> rfl) ?_
  refine EV ?_
  refine ON ?_
  refine Ok.cond (b := _) (by simp only [kE, kT, kL, kC] <;> rfl) (fun hb4 => ?_) (fun hb4 => ?_)
  ·
   try simp only [bsimp] at hb4
   have hp : packetOk p = false := by
     have hm := List.getElem_mem hi
     simp only [List.mem_cons, List.not_mem_nil, or_false] at hm
     rcases hm with hm | hm | hm <;> (rw [hm] at hb4; simp [packetOk, hb4])
   rw [packetText, if_neg (by simp [hp])]
   refine OQ ?_
   iterate 2 (refine EV ?_)
   refine ON ?_
   refine Ok.ret ?_
   with_reducible repeat (first | refine thenQ_ret ?_ | refine blockQ_ret ?_)
   refine RT ?_
   rfl
  ·
   try simp only [bsimp] at hb4
   refine Ok.skip ?_
   refine Ok.region ?_
   iterate 2 (refine EV ?_)
   refine ON ?_
   refine ⟨i + 1, ?_, rfl, rfl, ⟨by omega, fun z hz => by rw [List.take_succ_eq_append_getElem hi] at hz; rcases List.mem_append.1 hz with hz | hz; exact h2 z hz; obtain rfl := List.mem_singleton.1 hz; exact hb4⟩, by omega⟩
   refine ⟨?_, ?_, ?_, ?_, ?_, ?_, ?_, ?_, ?_, ?_, ?_, ?_, ?_, ?_, ?_, ?_, ?_, ?_, ?_, ?_, ?_, ?_, ?_, ?_, ?_, ?_, ?_, ?_, ?_, ?_, ?_, ?_, ?_, ?_, ?_, ?_, ?_, ?_, ?_, ?_, ?_, trivial⟩ <;> first | exact le_any _ | with_reducible exact le_rfl' _ | (rw [wrap_succ (by omega)]; exact le_rfl' _) | exact le_rfl' _
 ·
  try simp only [bsimp] at hb2
  have hi : i = 3 := by simp only [List.length_cons, List.length_nil] at hb2; omega
  subst hi
  have q0 := h2 p.epoch (by simp)
  have q00 := h2 p.seq (by simp)
  have q000 := h2 p.ack (by simp)
  refine Ok.exit ?_
  refine Ok.seq ?_
  refine OQ ?_
  iterate 4 (refine EV ?_)
  refine ON ?_
  refine Ok.cond (b := _) (by simp only [kE, kT, kL, kC] <;> rfl) (fun hb7 => ?_) (fun hb7 => ?_)
  ·
   try simp only [bsimp] at hb7
   have hp : packetOk p = false := by simp [packetOk]; intros; omega
   rw [packetText, if_neg (by simp [hp])]
   refine OQ ?_
   iterate 2 (refine EV ?_)
   refine ON ?_
   refine Ok.ret ?_
   with_reducible repeat (first | refine thenQ_ret ?_ | refine blockQ_ret ?_)
   refine RT ?_
   rfl
  ·
   try simp only [bsimp] at hb7
   have hp : packetOk p = true := by simp only [packetOk, q0, q00, q000, Bool.true_and, decide_eq_true_eq]; omega
   rw [packetText, if_pos hp]
   simp only [packetOk, Bool.and_eq_true, inR_t, decide_eq_true_eq] at hp
   obtain ⟨⟨⟨q1, q2⟩, q3⟩, q4⟩ := hp
   have l1 := varT_len5 (n := p.epoch.toNat) (by omega)
   have l2 := varT_len5 (n := p.seq.toNat) (by omega)
   have l3 := varT_len5 (n := p.ack.toNat) (by omega)
   have l4 := varT_len5 (n := p.text.length) (by omega)
   have hbl : (packetBody p).length ≤ 20000 := by simp only [packetBody, List.length_append]; omega
   have hse : sealed (varsZ [p.epoch, p.seq, p.ack] ++ (varT p.text.length ++ p.text)) = some (sealT (packetBody p)) := by rw [sealed, if_neg (by simp only [varsZ, List.length_append, List.length_nil]; omega)]; simp [packetBody, varsZ]
   refine Ok.skip ?_
   refine Ok.seq ?_
   refine Ok.drawn 17 41 [] (by kernel_rfl) (by kernel_rfl) rfl ?_
   iterate 6 (refine SV ?_)
   refine SOps.ev tab_ok rfl (ev_bs (by simp only [kT] <;> rfl) (by simp only [kT] <;> rfl) (by decide) (by decide) (by simp only [kE, kT, kL, kC, List.map_cons, List.map_nil] <;> rfl) (by simp only [kfe, beq_self_eq_true, Bool.and_true, Bool.true_and, decide_true, Nat.zero_add, Nat.lt_add_one, Nat.reduceLT, Nat.reduceAdd, Nat.zero_lt_succ, if_true, ↓reduceIte] <;> rfl)) (by simp only [kP] <;> rfl) ?_
   refine SOps.S0 rfl (OpS.weakEM rfl (by simp only [kE, kT, kL, kC] <;> rfl) (by simp only [kE, kT, kL, kC, V.eraseL, V.erase, V.travL, V.trav, zz] <;> rfl) cl24 (by simp [V.labels, V.labelsL, V.labelsLL, zz]) (w_impl_vars [p.epoch, p.seq, p.ack] (fun z hz => h2 z (by simpa using hz)) (by simp))) (by simp only [kP] <;> rfl) ?_
   iterate 2 (refine SV ?_)
   refine SOps.S0 rfl (OpS.weakM rfl (by simp only [kE, kT, kL, kC] <;> rfl) (by simp only [kE, kT, kL, kC] <;> rfl) cl25 (w_impl_short p.text (by omega))) (by simp only [kP] <;> rfl) ?_
   refine SOps.ev tab_ok rfl (ev_cat (by simp only [kE, kT, kL, kC] <;> rfl) (by simp only [kE, kT, kL, kC] <;> rfl) (by simp only [varsZ, List.length_append, List.length_nil]; omega)) (by simp only [kP] <;> rfl) ?_
   refine SOps.S0 rfl (OpS.weakM rfl (by simp only [kE, kT, kL, kC] <;> rfl) (by simp only [kE, kT, kL, kC] <;> rfl) cl23 (w_impl_Sealed _)) (by simp only [kP] <;> rfl) ?_
   refine SOps.ev tab_ok rfl (by simp only [kE, kT, kL, kC, hse, Option.getD_some] <;> rfl) (by simp only [kP] <;> rfl) ?_
   refine SOps.ev tab_ok rfl (by simp only [kE, kT, kL, kC, hse, Option.isSome_some] <;> rfl) (by simp only [kP] <;> rfl) ?_
   iterate 2 (refine SV ?_)
   refine SOps.nil ?_
   refine TOps.nil ?_
   refine Ok.ret ?_
   with_reducible repeat (first | refine thenQ_ret ?_ | refine blockQ_ret ?_)
   refine RT ?_
   rfl
end Go.Proofs.Ytckeandnnbnapaa.K

/- Walks: copies, comparisons, marks. Printed by w2.py. -/
namespace Go.Proofs.Ytckeandnnbnapaa.K
open Go Go.RowKit
set_option linter.unusedVariables false
set_option linter.unusedSimpArgs false
set_option maxHeartbeats 4000000
set_option maxRecDepth 20000
theorem p_impl_copyLink (l : Link) (h : l.way.length ≤ 2097152) : Pure Try.prog 38 [.agg (cLink l)] (.agg (cLink l)) := by
 refine Pure.of (by simp [V.dat, V.datL, V.datLL, zz]) (OkCall.enter' tab_ok Try.func38 rfl (t := [.agg (cLink l), .any, .any, .any, .any, .any, .any, .any, .any]) rfl ?_)
 refine OQ ?_
 iterate 2 (refine EV ?_)
 refine ON ?_
 refine OQ ?_
 iterate 3 (refine EV ?_)
 refine OkOps.S rfl (ok_append_nil tab_ok (by simp only [kT] <;> rfl) (by simp only [kT] <;> rfl) (by decide) rfl rfl (by simp only [kE, kT, kL, kC] <;> rfl) (.inl ⟨_, _, by simp only [kE, kT, kL, kC] <;> rfl⟩) (by simp only [List.length_map]; omega) (by simp only [List.length_map]; omega)) (by simp only [kP, kL] <;> rfl) ?_
 refine EV ?_
 refine OkOps.storeE tab_ok rfl rfl (by simp only [kE, kT, kL, kC] <;> rfl) ⟨_, _, by simp only [kE]; rfl⟩ (by first | (simp [V.labelsL, V.labelsLL, V.labels, zz]; done) | (simp [-List.map_map, -List.map_set, -List.map_drop, -List.map_take, -List.map_tail, -List.drop_one, V.labelsL, V.labelsLL, V.labels, zz]; done)) (by simp only [eq_self, V.updL, V.travL, V.travLL, V.trav, updS, updP, and_self, true_and, and_true, false_and, and_false, Nat.reduceEqDiff, Nat.reduceSub, Nat.le_refl, Nat.zero_le, ↓reduceIte, if_true, if_false, kP, zz] <;> rfl) (rfl) ?_
 refine ON ?_
 refine OQ ?_
 refine EV ?_
 refine OkOps.storeE tab_ok rfl rfl (by simp only [kE, kT, kL, kC] <;> rfl) ⟨_, _, by simp only [kE]; rfl⟩ (by first | (simp [V.labelsL, V.labelsLL, V.labels, zz]; done) | (simp [-List.map_map, -List.map_set, -List.map_drop, -List.map_take, -List.map_tail, -List.drop_one, V.labelsL, V.labelsLL, V.labels, zz]; done)) (by simp only [eq_self, V.updL, V.travL, V.travLL, V.trav, updS, updP, and_self, true_and, and_true, false_and, and_false, Nat.reduceEqDiff, Nat.reduceSub, Nat.le_refl, Nat.zero_le, ↓reduceIte, if_true, if_false, kP, zz] <;> rfl) (rfl) ?_
 refine ON ?_
 refine Ok.ret ?_
 with_reducible repeat (first | refine thenQ_ret ?_ | refine blockQ_ret ?_)
 refine RT ?_
 exact ⟨by simp [V.erase, V.trav, V.travL, packV, zz], by simp [V.labels, V.labelsL, V.labelsLL, packV, zz], by simp [V.labels, V.labelsL, V.labelsLL, packV, zz]⟩
theorem p_spec_l17Copy (l : Link) (h : l.way.length ≤ 2097152) : Pure Try.prog 39 [.agg (cLink l)] (.agg (cLink l)) := by
 refine Pure.of (by simp [V.dat, V.datL, V.datLL, zz]) (OkCall.enter' tab_ok Try.func39 rfl (t := [.agg (cLink l), .any, .any, .any, .any, .any, .any, .any, .any, .any, .any, .any, .any, .any]) rfl ?_)
 refine OQ ?_
 iterate 2 (refine EV ?_)
 refine ON ?_
 refine Ok.seq ?_
 refine Ok.drawn 11 14 [] (by kernel_rfl) (by kernel_rfl) rfl ?_
 iterate 5 (refine SV ?_)
 refine SOps.S rfl (ok_append_nil tab_ok (by simp only [kT] <;> rfl) (by simp only [kT] <;> rfl) (by decide) rfl rfl (by simp only [kE, kT, kL, kC] <;> rfl) (.inl ⟨_, _, by simp only [kE, kT, kL, kC] <;> rfl⟩) (by simp only [List.length_map]; omega) (by simp only [List.length_map]; omega)) (by simp only [kP, kL] <;> rfl) ?_
 iterate 4 (refine SV ?_)
 refine SOps.ev tab_ok rfl (by simp [ev1, fillV, kE, kT, kL] <;> first | rfl | exact ⟨rfl, rfl⟩) (by simp only [kP] <;> rfl) ?_
 refine SOps.nil ?_
 refine TOps.storeE tab_ok rfl rfl (by simp only [kE, kT, kL, kC] <;> rfl) ⟨_, _, by simp only [kE]; rfl⟩ (by first | (simp [V.labelsL, V.labelsLL, V.labels, zz]; done) | (simp [-List.map_map, -List.map_set, -List.map_drop, -List.map_take, -List.map_tail, -List.drop_one, V.labelsL, V.labelsLL, V.labels, zz]; done)) (by simp only [eq_self, V.updL, V.travL, V.travLL, V.trav, updS, updP, and_self, true_and, and_true, false_and, and_false, Nat.reduceEqDiff, Nat.reduceSub, Nat.le_refl, Nat.zero_le, ↓reduceIte, if_true, if_false, kP, zz] <;> rfl) (rfl) ?_
 refine TOps.nil ?_
 refine Ok.ret ?_
 with_reducible repeat (first | refine thenQ_ret ?_ | refine blockQ_ret ?_)
 refine RT ?_
 exact ⟨by simp [V.erase, V.trav, V.travL, packV, zz], by simp [V.labels, V.labelsL, V.labelsLL, packV, zz], by simp [V.labels, V.labelsL, V.labelsLL, packV, zz]⟩
theorem w_spec_l17Copy (l : Link) (h : l.way.length ≤ 2097152) : Weak Try.prog 39 [.agg (cLink l)] (.agg (cLink l)) := by
  have h := Pure.weak (by simp [V.dat, V.datL, V.datLL, zz]) (p_spec_l17Copy l h) (by simp [V.eraseL, V.erase, V.trav, V.travL, zz])
  simpa [V.erase, V.trav, V.travL, zz] using h
theorem p_impl_LinkPut (l : Link) (t : Str) (h : l.way.length ≤ 2097152) : Pure Try.prog 15 [.agg (cLink l), .str t] (vLB (linkPut l t)) := by
 refine Pure.of (by simp [V.dat, V.datL, V.datLL, zz]) (OkCall.enter' tab_ok Try.func15 rfl (t := [.agg (cLink l), .str t, .any, .any, .any, .any, .any, .any, .any, .any, .any, .any, .any, .any, .any, .any, .any, .any, .any, .any, .any, .any, .any, .any, .any, .any, .any]) rfl ?_)
 refine OQ ?_
 iterate 3 (refine EV ?_)
 refine ON ?_
 refine OQ ?_
 refine EV ?_
 refine OkOps.S' rfl (OpS.pure' rfl (by simp only [kE, kT, kL, kC] <;> rfl) (by simp only [kE, kT, kL, kC, V.eraseL, V.erase, V.travL, V.trav, zz] <;> rfl) cl38 (by simp [V.dat, V.datL, V.datLL, zz]) (p_impl_copyLink l h)) (by simp only [V.cnt, V.cntL, zz, Nat.add_zero, Nat.reduceAdd] <;> rfl) (by simp only [kP, V.tag, V.tagL, V.cnt, V.cntL, zz, Nat.add_zero, Nat.reduceAdd] <;> rfl) ?_
 refine EV ?_
 refine OkOps.storeE tab_ok rfl rfl (by simp only [kE, kT, kL, kC] <;> rfl) ⟨_, _, by simp only [kE]; rfl⟩ (by first | (simp [V.labelsL, V.labelsLL, V.labels, zz]; done) | (simp [-List.map_map, -List.map_set, -List.map_drop, -List.map_take, -List.map_tail, -List.drop_one, V.labelsL, V.labelsLL, V.labels, zz]; done)) (by simp only [eq_self, V.updL, V.travL, V.travLL, V.trav, updS, updP, and_self, true_and, and_true, false_and, and_false, Nat.reduceEqDiff, Nat.reduceSub, Nat.le_refl, Nat.zero_le, ↓reduceIte, if_true, if_false, kP, zz] <;> rfl) (rfl) ?_
 refine ON ?_
 refine Ok.seq ?_
 refine Ok.seqC [(18, .bool (linkFull l t))] [9, 10, 11, 12, 13, 14, 15, 16, 17] (by simp only [kover] <;> rfl) ?_ ?_
 ·
  refine Ok.region ?_
  iterate 5 (refine EV ?_)
  refine OkOps.split (d := 13) (by simp only [kE, kT, kL, kC] <;> rfl) (by simp only [kP] <;> rfl) (by simp only [kP] <;> rfl) (fun hg2_4 => ?_) (fun hg2_4 => ?_)
  ·
   try simp only [bsimp] at hg2_4
   refine OkOps.offU rfl rfl (.inl (by simp only [kE, kT, kL, kC, Bool.not_true, Bool.not_false])) (by simp only [kP] <;> rfl) ?_
   refine OkOps.offU rfl rfl (.inl (by simp only [kE, kT, kL, kC, Bool.not_true, Bool.not_false])) (by simp only [kP] <;> rfl) ?_
   refine OkOps.offU rfl rfl (.inl (by simp only [kE, kT, kL, kC, Bool.not_true, Bool.not_false])) (by simp only [kP] <;> rfl) ?_
   refine OkOps.offU rfl rfl (.inl (by simp only [kE, kT, kL, kC, Bool.not_true, Bool.not_false])) (by simp only [kP] <;> rfl) ?_
   refine EV ?_
   refine ON ?_
   refine ⟨rfl, ?_, rfl, rfl⟩
   refine ⟨?_, ?_, ?_, ?_, ?_, ?_, ?_, ?_, ?_, ?_, ?_, ?_, ?_, ?_, ?_, ?_, ?_, ?_, ?_, ?_, ?_, ?_, ?_, ?_, ?_, ?_, ?_, trivial⟩ <;> first | exact le_any _ | with_reducible exact le_rfl' _ | (refine .inl (congrArg V.bool ?_); (first | (simp [linkFull, *]; done) | (simp [linkFull, *] <;> omega) | (rw [Bool.eq_iff_iff]; simp [linkFull, *] <;> omega) | (simp_all [linkFull]; done))) | exact le_rfl' _
  ·
   try simp only [bsimp] at hg2_4
   refine OO ?_
   refine EV ?_
   refine OO ?_
   refine EV ?_
   refine OO ?_
   refine OkOps.S0 rfl (OpS.weak' rfl (by simp only [kE, kT, kL, kC] <;> rfl) (by simp only [kE, kT, kL, kC] <;> rfl) cl22 (w_impl_within _ _ _)) (by simp only [kP] <;> rfl) ?_
   refine OO ?_
   iterate 2 (refine EV ?_)
   refine ON ?_
   refine ⟨rfl, ?_, rfl, rfl⟩
   refine ⟨?_, ?_, ?_, ?_, ?_, ?_, ?_, ?_, ?_, ?_, ?_, ?_, ?_, ?_, ?_, ?_, ?_, ?_, ?_, ?_, ?_, ?_, ?_, ?_, ?_, ?_, ?_, trivial⟩ <;> first | exact le_any _ | with_reducible exact le_rfl' _ | (refine .inl (congrArg V.bool ?_); (first | (simp [linkFull, *]; done) | (simp [linkFull, *] <;> omega) | (rw [Bool.eq_iff_iff]; simp [linkFull, *] <;> omega) | (simp_all [linkFull]; done))) | exact le_rfl' _
 ·
  refine Ok.cond (b := _) (by simp only [kE, kT, kL, kC] <;> rfl) (fun hb2 => ?_) (fun hb2 => ?_)
  ·
   try simp only [bsimp] at hb2
   rw [linkPut_t hb2]
   refine OQ ?_
   refine EV ?_
   refine OkOps.storeE tab_ok rfl rfl (by simp only [kE, kT, kL, kC] <;> rfl) ⟨_, _, by simp only [kE]; rfl⟩ (by first | (simp [V.labelsL, V.labelsLL, V.labels, zz]; done) | (simp [-List.map_map, -List.map_set, -List.map_drop, -List.map_take, -List.map_tail, -List.drop_one, V.labelsL, V.labelsLL, V.labels, zz]; done)) (by simp only [eq_self, V.updL, V.travL, V.travLL, V.trav, updS, updP, and_self, true_and, and_true, false_and, and_false, Nat.reduceEqDiff, Nat.reduceSub, Nat.le_refl, Nat.zero_le, ↓reduceIte, if_true, if_false, kP, zz] <;> rfl) (rfl) ?_
   refine EV ?_
   refine ON ?_
   refine Ok.ret ?_
   with_reducible repeat (first | refine thenQ_ret ?_ | refine blockQ_ret ?_)
   refine RT ?_
   exact ⟨by simp [V.erase, V.trav, V.travL, packV, zz], by simp [V.labels, V.labelsL, V.labelsLL, packV, zz], by simp [V.labels, V.labelsL, V.labelsLL, packV, zz]⟩
  ·
   try simp only [bsimp] at hb2
   rw [linkPut_f hb2]
   refine Ok.skip ?_
   refine OQ ?_
   iterate 3 (refine EV ?_)
   refine OkOps.ev tab_ok rfl (ev_bs (by simp only [kT] <;> rfl) (by simp only [kT] <;> rfl) (by decide) (by decide) (by simp only [kE, kT, kL, kC, List.map_cons, List.map_nil] <;> rfl) (by simp only [kfe, beq_self_eq_true, Bool.and_true, Bool.true_and, decide_true, Nat.zero_add, Nat.lt_add_one, Nat.reduceLT, Nat.reduceAdd, Nat.zero_lt_succ, if_true, ↓reduceIte] <;> rfl)) (by simp only [kP] <;> rfl) ?_
   refine OkOps.append tab_ok rfl rfl (by simp only [kT] <;> rfl) (by simp only [kT] <;> rfl) (by decide) rfl (by simp only [kE, kT, kL, kC] <;> rfl) (.inl ⟨_, _, by simp only [kE, kT, kL, kC] <;> rfl⟩) (by omega) (by omega) (by simp only [List.length_map, List.length_cons, List.length_nil]; omega) (by simp only [List.length_map, List.length_cons, List.length_nil]; omega) (by simp [V.one]) (by simp only [V.killL, V.killLL, V.travL, V.travLL, V.trav, killS, killP, Nat.reduceEqDiff, ↓reduceIte, reduceCtorEq, if_true, if_false, List.append_nil, List.nil_append, List.cons_append, zz] <;> rfl) (by simp only [V.killL, V.killLL, V.travL, V.travLL, V.trav, killS, killP, Nat.reduceEqDiff, ↓reduceIte, reduceCtorEq, if_true, if_false, List.append_nil, List.nil_append, List.cons_append, zz, kP] <;> rfl) (rfl) ?_
   refine EV ?_
   refine OkOps.storeE tab_ok rfl rfl (by simp only [kE, kT, kL, kC] <;> rfl) ⟨_, _, by simp only [kE]; rfl⟩ (by first | (simp [V.labelsL, V.labelsLL, V.labels, zz]; done) | (simp [-List.map_map, -List.map_set, -List.map_drop, -List.map_take, -List.map_tail, -List.drop_one, V.labelsL, V.labelsLL, V.labels, zz]; done)) (by simp only [eq_self, V.updL, V.travL, V.travLL, V.trav, updS, updP, and_self, true_and, and_true, false_and, and_false, Nat.reduceEqDiff, Nat.reduceSub, Nat.le_refl, Nat.zero_le, ↓reduceIte, if_true, if_false, kP, zz] <;> rfl) (rfl) ?_
   refine ON ?_
   refine OQ ?_
   refine EV ?_
   refine OkOps.storeE tab_ok rfl rfl (by simp only [kE, kT, kL, kC] <;> rfl) ⟨_, _, by simp only [kE]; rfl⟩ (by first | (simp [V.labelsL, V.labelsLL, V.labels, zz]; done) | (simp [-List.map_map, -List.map_set, -List.map_drop, -List.map_take, -List.map_tail, -List.drop_one, V.labelsL, V.labelsLL, V.labels, zz]; done)) (by simp only [eq_self, V.updL, V.travL, V.travLL, V.trav, updS, updP, and_self, true_and, and_true, false_and, and_false, Nat.reduceEqDiff, Nat.reduceSub, Nat.le_refl, Nat.zero_le, ↓reduceIte, if_true, if_false, kP, zz] <;> rfl) (rfl) ?_
   refine EV ?_
   refine ON ?_
   refine Ok.ret ?_
   with_reducible repeat (first | refine thenQ_ret ?_ | refine blockQ_ret ?_)
   refine RT ?_
   exact ⟨by simp [V.erase, V.trav, V.travL, packV, zz], by simp [V.labels, V.labelsL, V.labelsLL, packV, zz], by simp [V.labels, V.labelsL, V.labelsLL, packV, zz]⟩
theorem w_impl_LinkPut (l : Link) (t : Str) (h : l.way.length ≤ 2097152) : Weak Try.prog 15 [.agg (cLink l), .str t] (vLB (linkPut l t)) := by
  have h := Pure.weak (by simp [V.dat, V.datL, V.datLL, zz]) (p_impl_LinkPut l t h) (by simp [V.eraseL, V.erase, V.trav, V.travL, zz])
  simpa [V.erase, V.trav, V.travL, zz] using h
theorem p_spec_LinkPut (l : Link) (t : Str) (h : l.way.length ≤ 2097152) : Pure Try.prog 16 [.agg (cLink l), .str t] (vLB (linkPut l t)) := by
 refine Pure.of (by simp [V.dat, V.datL, V.datLL, zz]) (OkCall.enter' tab_ok Try.func16 rfl (t := [.agg (cLink l), .str t, .any, .any, .any, .any, .any, .any, .any, .any, .any, .any, .any, .any, .any, .any, .any, .any, .any, .any, .any, .any, .any, .any, .any, .any, .any]) rfl ?_)
 refine OQ ?_
 iterate 3 (refine EV ?_)
 refine ON ?_
 refine OQ ?_
 refine EV ?_
 refine OkOps.S' rfl (OpS.pure' rfl (by simp only [kE, kT, kL, kC] <;> rfl) (by simp only [kE, kT, kL, kC, V.eraseL, V.erase, V.travL, V.trav, zz] <;> rfl) cl39 (by simp [V.dat, V.datL, V.datLL, zz]) (p_spec_l17Copy l h)) (by simp only [V.cnt, V.cntL, zz, Nat.add_zero, Nat.reduceAdd] <;> rfl) (by simp only [kP, V.tag, V.tagL, V.cnt, V.cntL, zz, Nat.add_zero, Nat.reduceAdd] <;> rfl) ?_
 refine EV ?_
 refine OkOps.storeE tab_ok rfl rfl (by simp only [kE, kT, kL, kC] <;> rfl) ⟨_, _, by simp only [kE]; rfl⟩ (by first | (simp [V.labelsL, V.labelsLL, V.labels, zz]; done) | (simp [-List.map_map, -List.map_set, -List.map_drop, -List.map_take, -List.map_tail, -List.drop_one, V.labelsL, V.labelsLL, V.labels, zz]; done)) (by simp only [eq_self, V.updL, V.travL, V.travLL, V.trav, updS, updP, and_self, true_and, and_true, false_and, and_false, Nat.reduceEqDiff, Nat.reduceSub, Nat.le_refl, Nat.zero_le, ↓reduceIte, if_true, if_false, kP, zz] <;> rfl) (rfl) ?_
 refine ON ?_
 refine Ok.seq ?_
 refine Ok.seqC [(18, .bool (linkFull l t))] [9, 10, 11, 12, 13, 14, 15, 16, 17] (by simp only [kover] <;> rfl) ?_ ?_
 ·
  refine Ok.region ?_
  iterate 5 (refine EV ?_)
  refine OkOps.split (d := 13) (by simp only [kE, kT, kL, kC] <;> rfl) (by simp only [kP] <;> rfl) (by simp only [kP] <;> rfl) (fun hg2_4 => ?_) (fun hg2_4 => ?_)
  ·
   try simp only [bsimp] at hg2_4
   refine OkOps.offU rfl rfl (.inl (by simp only [kE, kT, kL, kC, Bool.not_true, Bool.not_false])) (by simp only [kP] <;> rfl) ?_
   refine OkOps.offU rfl rfl (.inl (by simp only [kE, kT, kL, kC, Bool.not_true, Bool.not_false])) (by simp only [kP] <;> rfl) ?_
   refine OkOps.offU rfl rfl (.inl (by simp only [kE, kT, kL, kC, Bool.not_true, Bool.not_false])) (by simp only [kP] <;> rfl) ?_
   refine OkOps.offU rfl rfl (.inl (by simp only [kE, kT, kL, kC, Bool.not_true, Bool.not_false])) (by simp only [kP] <;> rfl) ?_
   refine EV ?_
   refine ON ?_
   refine ⟨rfl, ?_, rfl, rfl⟩
   refine ⟨?_, ?_, ?_, ?_, ?_, ?_, ?_, ?_, ?_, ?_, ?_, ?_, ?_, ?_, ?_, ?_, ?_, ?_, ?_, ?_, ?_, ?_, ?_, ?_, ?_, ?_, ?_, trivial⟩ <;> first | exact le_any _ | with_reducible exact le_rfl' _ | (refine .inl (congrArg V.bool ?_); (first | (simp [linkFull, *]; done) | (simp [linkFull, *] <;> omega) | (rw [Bool.eq_iff_iff]; simp [linkFull, *] <;> omega) | (simp_all [linkFull]; done))) | exact le_rfl' _
  ·
   try simp only [bsimp] at hg2_4
   refine OO ?_
   refine EV ?_
   refine OO ?_
   refine EV ?_
   refine OO ?_
   refine OkOps.S0 rfl (OpS.weak' rfl (by simp only [kE, kT, kL, kC] <;> rfl) (by simp only [kE, kT, kL, kC] <;> rfl) cl26 (w_spec_l01In _ _ _)) (by simp only [kP] <;> rfl) ?_
   refine OO ?_
   iterate 2 (refine EV ?_)
   refine ON ?_
   refine ⟨rfl, ?_, rfl, rfl⟩
   refine ⟨?_, ?_, ?_, ?_, ?_, ?_, ?_, ?_, ?_, ?_, ?_, ?_, ?_, ?_, ?_, ?_, ?_, ?_, ?_, ?_, ?_, ?_, ?_, ?_, ?_, ?_, ?_, trivial⟩ <;> first | exact le_any _ | with_reducible exact le_rfl' _ | (refine .inl (congrArg V.bool ?_); (first | (simp [linkFull, *]; done) | (simp [linkFull, *] <;> omega) | (rw [Bool.eq_iff_iff]; simp [linkFull, *] <;> omega) | (simp_all [linkFull]; done))) | exact le_rfl' _
 ·
  refine Ok.cond (b := _) (by simp only [kE, kT, kL, kC] <;> rfl) (fun hb2 => ?_) (fun hb2 => ?_)
  ·
   try simp only [bsimp] at hb2
   rw [linkPut_t hb2]
   refine OQ ?_
   refine EV ?_
   refine OkOps.storeE tab_ok rfl rfl (by simp only [kE, kT, kL, kC] <;> rfl) ⟨_, _, by simp only [kE]; rfl⟩ (by first | (simp [V.labelsL, V.labelsLL, V.labels, zz]; done) | (simp [-List.map_map, -List.map_set, -List.map_drop, -List.map_take, -List.map_tail, -List.drop_one, V.labelsL, V.labelsLL, V.labels, zz]; done)) (by simp only [eq_self, V.updL, V.travL, V.travLL, V.trav, updS, updP, and_self, true_and, and_true, false_and, and_false, Nat.reduceEqDiff, Nat.reduceSub, Nat.le_refl, Nat.zero_le, ↓reduceIte, if_true, if_false, kP, zz] <;> rfl) (rfl) ?_
   refine EV ?_
   refine ON ?_
   refine Ok.ret ?_
   with_reducible repeat (first | refine thenQ_ret ?_ | refine blockQ_ret ?_)
   refine RT ?_
   exact ⟨by simp [V.erase, V.trav, V.travL, packV, zz], by simp [V.labels, V.labelsL, V.labelsLL, packV, zz], by simp [V.labels, V.labelsL, V.labelsLL, packV, zz]⟩
  ·
   try simp only [bsimp] at hb2
   rw [linkPut_f hb2]
   refine Ok.skip ?_
   refine OQ ?_
   iterate 3 (refine EV ?_)
   refine OkOps.ev tab_ok rfl (ev_bs (by simp only [kT] <;> rfl) (by simp only [kT] <;> rfl) (by decide) (by decide) (by simp only [kE, kT, kL, kC, List.map_cons, List.map_nil] <;> rfl) (by simp only [kfe, beq_self_eq_true, Bool.and_true, Bool.true_and, decide_true, Nat.zero_add, Nat.lt_add_one, Nat.reduceLT, Nat.reduceAdd, Nat.zero_lt_succ, if_true, ↓reduceIte] <;> rfl)) (by simp only [kP] <;> rfl) ?_
   refine OkOps.append tab_ok rfl rfl (by simp only [kT] <;> rfl) (by simp only [kT] <;> rfl) (by decide) rfl (by simp only [kE, kT, kL, kC] <;> rfl) (.inl ⟨_, _, by simp only [kE, kT, kL, kC] <;> rfl⟩) (by omega) (by omega) (by simp only [List.length_map, List.length_cons, List.length_nil]; omega) (by simp only [List.length_map, List.length_cons, List.length_nil]; omega) (by simp [V.one]) (by simp only [V.killL, V.killLL, V.travL, V.travLL, V.trav, killS, killP, Nat.reduceEqDiff, ↓reduceIte, reduceCtorEq, if_true, if_false, List.append_nil, List.nil_append, List.cons_append, zz] <;> rfl) (by simp only [V.killL, V.killLL, V.travL, V.travLL, V.trav, killS, killP, Nat.reduceEqDiff, ↓reduceIte, reduceCtorEq, if_true, if_false, List.append_nil, List.nil_append, List.cons_append, zz, kP] <;> rfl) (rfl) ?_
   refine EV ?_
   refine OkOps.storeE tab_ok rfl rfl (by simp only [kE, kT, kL, kC] <;> rfl) ⟨_, _, by simp only [kE]; rfl⟩ (by first | (simp [V.labelsL, V.labelsLL, V.labels, zz]; done) | (simp [-List.map_map, -List.map_set, -List.map_drop, -List.map_take, -List.map_tail, -List.drop_one, V.labelsL, V.labelsLL, V.labels, zz]; done)) (by simp only [eq_self, V.updL, V.travL, V.travLL, V.trav, updS, updP, and_self, true_and, and_true, false_and, and_false, Nat.reduceEqDiff, Nat.reduceSub, Nat.le_refl, Nat.zero_le, ↓reduceIte, if_true, if_false, kP, zz] <;> rfl) (rfl) ?_
   refine ON ?_
   refine OQ ?_
   refine EV ?_
   refine OkOps.storeE tab_ok rfl rfl (by simp only [kE, kT, kL, kC] <;> rfl) ⟨_, _, by simp only [kE]; rfl⟩ (by first | (simp [V.labelsL, V.labelsLL, V.labels, zz]; done) | (simp [-List.map_map, -List.map_set, -List.map_drop, -List.map_take, -List.map_tail, -List.drop_one, V.labelsL, V.labelsLL, V.labels, zz]; done)) (by simp only [eq_self, V.updL, V.travL, V.travLL, V.trav, updS, updP, and_self, true_and, and_true, false_and, and_false, Nat.reduceEqDiff, Nat.reduceSub, Nat.le_refl, Nat.zero_le, ↓reduceIte, if_true, if_false, kP, zz] <;> rfl) (rfl) ?_
   refine EV ?_
   refine ON ?_
   refine Ok.ret ?_
   with_reducible repeat (first | refine thenQ_ret ?_ | refine blockQ_ret ?_)
   refine RT ?_
   exact ⟨by simp [V.erase, V.trav, V.travL, packV, zz], by simp [V.labels, V.labelsL, V.labelsLL, packV, zz], by simp [V.labels, V.labelsL, V.labelsLL, packV, zz]⟩
theorem w_spec_LinkPut (l : Link) (t : Str) (h : l.way.length ≤ 2097152) : Weak Try.prog 16 [.agg (cLink l), .str t] (vLB (linkPut l t)) := by
  have h := Pure.weak (by simp [V.dat, V.datL, V.datLL, zz]) (p_spec_LinkPut l t h) (by simp [V.eraseL, V.erase, V.trav, V.travL, zz])
  simpa [V.erase, V.trav, V.travL, zz] using h
end Go.Proofs.Ytckeandnnbnapaa.K

/- Walks: draws, links heard. Printed by w2.py. -/
namespace Go.Proofs.Ytckeandnnbnapaa.K
open Go Go.RowKit
set_option linter.unusedVariables false
set_option linter.unusedSimpArgs false
set_option maxHeartbeats 4000000
set_option maxRecDepth 20000
theorem w_laws_big (code : Str) : Weak Try.prog 4 [.sl 0 1 0 (code.map cB)] (.bool (decide ((code.length : Int) > 1048576))) := by
 refine Weak.enter tab_ok Try.func4 rfl (.inr (by simp [V.labelsL, V.labels, zz])) (t := [.sl 0 1 0 (code.map cB), .any, .any, .any, .any, .any]) rfl ?_
 refine OQ ?_
 refine EV ?_
 refine ON ?_
 refine OQ ?_
 iterate 4 (refine EV ?_)
 refine ON ?_
 refine Ok.ret ?_
 with_reducible repeat (first | refine thenQ_ret ?_ | refine blockQ_ret ?_)
 refine RT ?_
 rfl
theorem c_spec_l01New (code : Str) (hc : code.length ≤ 4611686018427387904) {h : List V} {n : Nat}  : OkCall Try.prog 21 [.sl 0 1 0 (code.map cB)] h n (fun r h1 n1 => r = .ptr n 0 0 (cCur (curNew code)) ∧ h1 = h.map id ∧ n1 = n + 1) := by
 refine OkCall.enter' tab_ok Try.func21 rfl (t := [.sl 0 1 0 (code.map cB), .any, .any, .any, .any, .any, .any, .any, .any, .any, .any, .any, .any, .any, .any, .any, .any, .any, .any, .any, .any, .any, .any, .any, .any, .any, .any, .any, .any, .any, .any, .any]) rfl ?_
 refine OQ ?_
 refine EV ?_
 refine ON ?_
 refine OQ ?_
 iterate 4 (refine EV ?_)
 refine ON ?_
 refine Ok.seq ?_
 refine OQ ?_
 refine EV ?_
 refine ON ?_
 refine Ok.block ?_
 refine Ok.loopW (τ := Nat × Int) (fun x => [(3, .int .i64 x.2), (4, .int .i64 (x.1 : Int))]) [8, 9, 10, 11, 12, 13, 14, 15, 16, 17, 18, 19, 20, 21, 22, 23, 24, 25, 26, 27] (fun x => by simp only [kover] <;> rfl) (fun x => x.1 ≤ code.length ∧ x.1 ≤ 4000 ∧ hashC (4000 - x.1) (code.drop x.1) x.2 = hashC 4000 code (IntKind.i64.wrap (77201 + (code.length : Int)))) (fun x => 4000 - x.1) (0, IntKind.i64.wrap (77201 + (code.length : Int))) (by refine ⟨?_, ?_, ?_, ?_, ?_, ?_, ?_, ?_, ?_, ?_, ?_, ?_, ?_, ?_, ?_, ?_, ?_, ?_, ?_, ?_, ?_, ?_, ?_, ?_, ?_, ?_, ?_, ?_, ?_, ?_, ?_, ?_, trivial⟩ <;> first | exact le_any _ | with_reducible exact le_rfl' _ | (exact le_rfl' _) | exact le_rfl' _) (⟨Nat.zero_le _, Nat.zero_le _, rfl⟩) ?_
 rintro ⟨i, v⟩ ⟨h1, h2, h3⟩
 have h1 : i ≤ code.length := h1
 have h2 : i ≤ 4000 := h2
 have h3 : hashC (4000 - i) (code.drop i) v = hashC 4000 code (IntKind.i64.wrap (77201 + (code.length : Int))) := h3
 refine Ok.seq ?_
 refine Ok.seqC [(15, .bool (decide (i < code.length ∧ i < 4000)))] [8, 9, 10, 11, 12, 13, 14] (by simp only [kover] <;> rfl) ?_ ?_
 ·
  refine Ok.region ?_
  iterate 5 (refine EV ?_)
  refine OkOps.split (d := 12) (by simp only [kE, kT, kL, kC] <;> rfl) (by simp only [kP] <;> rfl) (by simp only [kP] <;> rfl) (fun hg3_4 => ?_) (fun hg3_4 => ?_)
  ·
   try simp only [bsimp] at hg3_4
   refine OO ?_
   refine EV ?_
   refine OO ?_
   iterate 2 (refine EV ?_)
   refine ON ?_
   refine ⟨rfl, ?_, rfl, rfl⟩
   refine ⟨?_, ?_, ?_, ?_, ?_, ?_, ?_, ?_, ?_, ?_, ?_, ?_, ?_, ?_, ?_, ?_, ?_, ?_, ?_, ?_, ?_, ?_, ?_, ?_, ?_, ?_, ?_, ?_, ?_, ?_, ?_, ?_, trivial⟩ <;> first | exact le_any _ | with_reducible exact le_rfl' _ | (refine .inl (congrArg V.bool ?_); first | exact decide_eq_decide.2 (by clear h3; omega) | exact (decide_eq_false (by clear h3; omega)).symm) | exact le_rfl' _
  ·
   try simp only [bsimp] at hg3_4
   refine OkOps.offU rfl rfl (.inl (by simp only [kE, kT, kL, kC, Bool.not_true, Bool.not_false])) (by simp only [kP] <;> rfl) ?_
   refine OkOps.offU rfl rfl (.inl (by simp only [kE, kT, kL, kC, Bool.not_true, Bool.not_false])) (by simp only [kP] <;> rfl) ?_
   refine EV ?_
   refine ON ?_
   refine ⟨rfl, ?_, rfl, rfl⟩
   refine ⟨?_, ?_, ?_, ?_, ?_, ?_, ?_, ?_, ?_, ?_, ?_, ?_, ?_, ?_, ?_, ?_, ?_, ?_, ?_, ?_, ?_, ?_, ?_, ?_, ?_, ?_, ?_, ?_, ?_, ?_, ?_, ?_, trivial⟩ <;> first | exact le_any _ | with_reducible exact le_rfl' _ | (refine .inl (congrArg V.bool ?_); first | exact decide_eq_decide.2 (by clear h3; omega) | exact (decide_eq_false (by clear h3; omega)).symm) | exact le_rfl' _
 ·
  refine Ok.cond (b := _) (by simp only [kE, kT, kL, kC] <;> rfl) (fun hb3 => ?_) (fun hb3 => ?_)
  ·
   try simp only [bsimp] at hb3
   obtain ⟨hi, hi4⟩ : i < code.length ∧ i < 4000 := hb3
   have hd : code.drop i = code[i] :: code.drop (i + 1) := List.drop_eq_getElem_cons hi
   rw [hd, show 4000 - i = (4000 - (i + 1)) + 1 by omega] at h3
   refine Ok.skip ?_
   refine Ok.seq ?_
   refine Ok.block ?_
   refine Ok.region ?_
   iterate 4 (refine EV ?_)
   refine OkOps.ev tab_ok rfl (ev_idx_map (by simp only [kE, kT, kL, kC] <;> rfl) (by simp only [kE, kT, kL, kC] <;> rfl) (by omega) (by simp only [kE, kT, kL, kC] <;> rfl)) (by simp only [kP] <;> rfl) ?_
   refine EV ?_
   refine OkOps.ev tab_ok rfl (by simp only [kE, kT, kL, kC, four_b] <;> rfl) (by simp only [kP] <;> rfl) ?_
   iterate 4 (refine EV ?_)
   refine ON ?_
   refine Ok.region ?_
   iterate 3 (refine EV ?_)
   refine ON ?_
   refine ⟨(i + 1, _), ?_, rfl, rfl, ⟨hi, by omega, h3⟩, by show 4000 - (i + 1) < 4000 - i; omega⟩
   refine ⟨?_, ?_, ?_, ?_, ?_, ?_, ?_, ?_, ?_, ?_, ?_, ?_, ?_, ?_, ?_, ?_, ?_, ?_, ?_, ?_, ?_, ?_, ?_, ?_, ?_, ?_, ?_, ?_, ?_, ?_, ?_, ?_, trivial⟩ <;> first | exact le_any _ | with_reducible exact le_rfl' _ | (first | exact le_rfl' _ | (rw [wrap_add_one (by omega)]; exact le_rfl' _)) | exact le_rfl' _
  ·
   try simp only [bsimp] at hb3
   have hn : ¬ (i < code.length ∧ i < 4000) := hb3
   have hv : v = hashC 4000 code (IntKind.i64.wrap (77201 + (code.length : Int))) := by rw [← h3]; by_cases hz : i = 4000; (subst hz; rfl); (rw [List.drop_eq_nil_of_le (by omega)]; cases 4000 - i <;> rfl)
   subst hv
   refine Ok.exit ?_
   refine OQ ?_
   iterate 2 (refine EV ?_)
   refine OkOps.ev tab_ok rfl (by simp [ev1, fillV, kE, kT, kL] <;> first | rfl | exact ⟨rfl, rfl⟩) (by simp only [kP] <;> rfl) ?_
   iterate 2 (refine EV ?_)
   refine ON ?_
   refine Ok.ret ?_
   with_reducible repeat (first | refine thenQ_ret ?_ | refine blockQ_ret ?_)
   refine RT ?_
   exact ⟨rfl, (List.map_id h).symm, rfl⟩
theorem c_spec_l01Byte (c : Cur) (L : Nat) (hb : c.b.length ≤ 4611686018427387904) {h : List V} {n : Nat}  : OkCall Try.prog 55 [.ptr (L + 1) 0 0 (cCur c)] h n (fun r h1 n1 => r = .int .i64 ((curByte c).1 : Int) ∧ h1 = V.updL (L + 1) 0 (cCur (curByte c).2) h ∧ n1 = n) := by
 refine OkCall.enter' tab_ok Try.func55 rfl (t := [.ptr (L + 1) 0 0 (cCur c), .any, .any, .any, .any, .any, .any, .any, .any, .any, .any, .any, .any, .any, .any, .any, .any, .any, .any, .any, .any, .any, .any, .any, .any, .any, .any, .any, .any, .any, .any, .any, .any, .any, .any, .any, .any, .any, .any, .any, .any, .any, .any, .any, .any, .any, .any, .any, .any, .any, .any, .any, .any, .any, .any, .any, .any, .any]) rfl ?_
 refine OQ ?_
 refine EV ?_
 refine ON ?_
 refine OQ ?_
 iterate 9 (refine EV ?_)
 refine OkOps.storeE tab_ok rfl rfl (by simp only [kE, kT, kL, kC] <;> rfl) ⟨_, _, by simp only [kE]; rfl⟩ (by first | (simp [V.labelsL, V.labelsLL, V.labels, zz]; done) | (simp [-List.map_map, -List.map_set, -List.map_drop, -List.map_take, -List.map_tail, -List.drop_one, V.labelsL, V.labelsLL, V.labels, zz]; done)) (by simp only [eq_self, V.updL, V.travL, V.travLL, V.trav, updS, updP, and_self, true_and, and_true, false_and, and_false, Nat.reduceEqDiff, Nat.reduceSub, Nat.le_refl, Nat.zero_le, ↓reduceIte, if_true, if_false, kP, zz] <;> rfl) (rfl) ?_
 refine ON ?_
 refine Ok.seq ?_
 refine Ok.drawn 13 58 [] (by kernel_rfl) (by kernel_rfl) rfl ?_
 iterate 11 (refine SV ?_)
 refine SOps.ev tab_ok rfl (by simp only [kE, kT, kL, kC, and255_m] <;> rfl) (by simp only [kP] <;> rfl) ?_
 refine SV ?_
 refine SOps.nil ?_
 refine TOps.nil ?_
 refine Ok.seq ?_
 refine Ok.seq ?_
 refine Ok.drawn 10 58 [] (by kernel_rfl) (by kernel_rfl) rfl ?_
 iterate 10 (refine SV ?_)
 refine SOps.nil ?_
 refine TOps.nil ?_
 refine Ok.cond (b := _) (by simp only [kE, kT, kL, kC] <;> rfl) (fun hb3 => ?_) (fun hb3 => ?_)
 ·
  try simp only [bsimp] at hb3
  have hi : c.i < c.b.length := by omega
  rw [curByte_in hi]
  refine Ok.seq ?_
  refine Ok.drawn 14 58 [] (by kernel_rfl) (by kernel_rfl) rfl ?_
  iterate 9 (refine SV ?_)
  refine SOps.ev tab_ok rfl (ev_idx_map (by simp only [kE, kT, kL, kC] <;> rfl) (by simp only [kE, kT, kL, kC] <;> rfl) (hi) (by simp only [kE, kT, kL, kC] <;> rfl)) (by simp only [kP] <;> rfl) ?_
  refine SV ?_
  refine SOps.ev tab_ok rfl (by simp only [kE, kT, kL, kC, four_b] <;> rfl) (by simp only [kP] <;> rfl) ?_
  refine SV ?_
  refine SOps.ev tab_ok rfl (by simp only [kE, kT, kL, kC, and255_m] <;> rfl) (by simp only [kP] <;> rfl) ?_
  refine SOps.nil ?_
  refine TV ?_
  refine TOps.nil ?_
  refine Ok.region ?_
  iterate 5 (refine EV ?_)
  refine OkOps.ev tab_ok rfl (by simp only [kE, kT, kL, kC, wrap_add_one (show c.i + 1 ≤ 9223372036854775807 by omega)] <;> rfl) (by simp only [kP] <;> rfl) ?_
  iterate 2 (refine EV ?_)
  refine OkOps.storeE tab_ok rfl rfl (by simp only [kE, kT, kL, kC] <;> rfl) ⟨_, _, by simp only [kE]; rfl⟩ (by first | (simp [V.labelsL, V.labelsLL, V.labels, zz]; done) | (simp [-List.map_map, -List.map_set, -List.map_drop, -List.map_take, -List.map_tail, -List.drop_one, V.labelsL, V.labelsLL, V.labels, zz]; done)) (by simp only [eq_self, V.updL, V.travL, V.travLL, V.trav, updS, updP, and_self, true_and, and_true, false_and, and_false, Nat.reduceEqDiff, Nat.reduceSub, Nat.le_refl, Nat.zero_le, ↓reduceIte, if_true, if_false, kP, zz] <;> rfl) (rfl) ?_
  refine ON ?_
  refine OQ ?_
  iterate 2 (refine EV ?_)
  refine ON ?_
  refine Ok.ret ?_
  with_reducible repeat (first | refine thenQ_ret ?_ | refine blockQ_ret ?_)
  refine RT ?_
  exact ⟨rfl, by first | rfl | (rw [upd_twice (by simp [V.travL, V.trav, updS, zz])]; rfl), rfl⟩
 ·
  try simp only [bsimp] at hb3
  have hi : ¬ c.i < c.b.length := by omega
  rw [curByte_out hi]
  refine Ok.skip ?_
  refine OQ ?_
  iterate 2 (refine EV ?_)
  refine ON ?_
  refine Ok.ret ?_
  with_reducible repeat (first | refine thenQ_ret ?_ | refine blockQ_ret ?_)
  refine RT ?_
  exact ⟨rfl, by first | rfl | (rw [upd_twice (by simp [V.travL, V.trav, updS, zz])]; rfl), rfl⟩
theorem c_spec_l01Below (c : Cur) (m : Nat) (L : Nat) (hb : c.b.length ≤ 4611686018427387904) (hm : 0 < m) {h : List V} {n : Nat}  : OkCall Try.prog 32 [.ptr (L + 1) 0 0 (cCur c), .int .i64 (m : Int)] h n (fun r h1 n1 => r = .int .i64 ((curBelow c m).1 : Int) ∧ h1 = V.updL (L + 1) 0 (cCur (curBelow c m).2) h ∧ n1 = n) := by
 refine OkCall.enter' tab_ok Try.func32 rfl (t := [.ptr (L + 1) 0 0 (cCur c), .int .i64 (m : Int), .any, .any, .any, .any, .any, .any, .any, .any, .any, .any, .any, .any, .any, .any, .any, .any, .any, .any, .any, .any, .any, .any, .any, .any, .any, .any, .any, .any, .any, .any, .any, .any, .any, .any, .any]) rfl ?_
 refine OQ ?_
 refine EV ?_
 refine ON ?_
 refine Ok.seq ?_
 refine OQ ?_
 iterate 2 (refine EV ?_)
 refine ON ?_
 refine Ok.cond (b := _) (by simp only [kE, kT, kL, kC] <;> rfl) (fun hb1 => ?_) (fun hb1 => ?_)
 ·
  try simp only [bsimp] at hb1
  exfalso; omega
 ·
  try simp only [bsimp] at hb1
  have h0 : ¬ m = 0 := by omega
  have hm0 : (((m : Nat) : Int) = 0) = False := eq_false (by omega)
  refine Ok.skip ?_
  refine Ok.seq ?_
  refine OQ ?_
  iterate 2 (refine EV ?_)
  refine ON ?_
  refine Ok.cond (b := _) (by simp only [kE, kT, kL, kC] <;> rfl) (fun hb3 => ?_) (fun hb3 => ?_)
  ·
   try simp only [bsimp] at hb3
   have h2 : m ≤ 256 := by omega
   rw [show curBelow c m = ((curByte c).1 % m, (curByte c).2) from (if_neg h0).trans (if_pos h2)]
   refine OQ ?_
   refine EV ?_
   refine OkOps.upd rfl rfl (by simp only [kE, kT, kL, kC] <;> rfl) (by simp only [kE, kT, kL, kC] <;> rfl) cl55 (fun h => c_spec_l01Byte c L hb) (by simp only [eq_self, V.updL, V.travL, V.travLL, V.trav, updS, updP, and_self, true_and, and_true, false_and, and_false, Nat.reduceEqDiff, Nat.reduceSub, Nat.le_refl, Nat.zero_le, ↓reduceIte, if_true, if_false, kP, zz] <;> rfl) (rfl) ?_
   refine EV ?_
   refine OkOps.ev tab_ok rfl (by simp only [kE, kT, kL, kC, hm0, if_false, tmod_nat] <;> rfl) (by simp only [kP] <;> rfl) ?_
   refine EV ?_
   refine ON ?_
   refine Ok.ret ?_
   with_reducible repeat (first | refine thenQ_ret ?_ | refine blockQ_ret ?_)
   refine RT ?_
   exact ⟨rfl, rfl, rfl⟩
  ·
   try simp only [bsimp] at hb3
   have h2 : ¬ m ≤ 256 := by omega
   rw [show curBelow c m = _ from (if_neg h0).trans (if_neg h2)]
   have q1 := curByte_le c
   have q2 := curByte_le (curByte c).2
   have q3 := curByte_le (curByte (curByte c).2).2
   have q4 := curByte_le (curByte (curByte (curByte c).2).2).2
   refine Ok.skip ?_
   refine OQ ?_
   refine EV ?_
   refine OkOps.upd rfl rfl (by simp only [kE, kT, kL, kC] <;> rfl) (by simp only [kE, kT, kL, kC] <;> rfl) cl55 (fun h => c_spec_l01Byte c L hb) (by simp only [eq_self, V.updL, V.travL, V.travLL, V.trav, updS, updP, and_self, true_and, and_true, false_and, and_false, Nat.reduceEqDiff, Nat.reduceSub, Nat.le_refl, Nat.zero_le, ↓reduceIte, if_true, if_false, kP, zz] <;> rfl) (rfl) ?_
   refine EV ?_
   refine ON ?_
   refine OQ ?_
   refine EV ?_
   refine OkOps.upd rfl rfl (by simp only [kE, kT, kL, kC] <;> rfl) (by simp only [kE, kT, kL, kC] <;> rfl) cl55 (fun h => c_spec_l01Byte (curByte c).2 L (by rw [curByte_b]; exact hb)) (by simp only [eq_self, V.updL, V.travL, V.travLL, V.trav, updS, updP, and_self, true_and, and_true, false_and, and_false, Nat.reduceEqDiff, Nat.reduceSub, Nat.le_refl, Nat.zero_le, ↓reduceIte, if_true, if_false, kP, zz] <;> rfl) (rfl) ?_
   refine EV ?_
   refine ON ?_
   refine OQ ?_
   refine EV ?_
   refine OkOps.upd rfl rfl (by simp only [kE, kT, kL, kC] <;> rfl) (by simp only [kE, kT, kL, kC] <;> rfl) cl55 (fun h => c_spec_l01Byte (curByte (curByte c).2).2 L (by simp only [curByte_b]; exact hb)) (by simp only [eq_self, V.updL, V.travL, V.travLL, V.trav, updS, updP, and_self, true_and, and_true, false_and, and_false, Nat.reduceEqDiff, Nat.reduceSub, Nat.le_refl, Nat.zero_le, ↓reduceIte, if_true, if_false, kP, zz] <;> rfl) (rfl) ?_
   refine EV ?_
   refine ON ?_
   refine OQ ?_
   refine EV ?_
   refine OkOps.upd rfl rfl (by simp only [kE, kT, kL, kC] <;> rfl) (by simp only [kE, kT, kL, kC] <;> rfl) cl55 (fun h => c_spec_l01Byte (curByte (curByte (curByte c).2).2).2 L (by simp only [curByte_b]; exact hb)) (by simp only [eq_self, V.updL, V.travL, V.travLL, V.trav, updS, updP, and_self, true_and, and_true, false_and, and_false, Nat.reduceEqDiff, Nat.reduceSub, Nat.le_refl, Nat.zero_le, ↓reduceIte, if_true, if_false, kP, zz] <;> rfl) (rfl) ?_
   refine EV ?_
   refine ON ?_
   refine OQ ?_
   refine EV ?_
   refine OkOps.ev tab_ok rfl (by simp only [kE, kT, kL, kC, mul24 q1] <;> rfl) (by simp only [kP] <;> rfl) ?_
   refine EV ?_
   refine OkOps.ev tab_ok rfl (by simp only [kE, kT, kL, kC, mul16 q2] <;> rfl) (by simp only [kP] <;> rfl) ?_
   refine OkOps.ev tab_ok rfl (by simp only [kE, kT, kL, kC, wrap_add_nat (show (curByte c).1 * 16777216 + (curByte (curByte c).2).1 * 65536 ≤ 9223372036854775807 by omega)] <;> rfl) (by simp only [kP] <;> rfl) ?_
   refine EV ?_
   refine OkOps.ev tab_ok rfl (by simp only [kE, kT, kL, kC, mul8 q3] <;> rfl) (by simp only [kP] <;> rfl) ?_
   refine OkOps.ev tab_ok rfl (by simp only [kE, kT, kL, kC, wrap_add_nat (show (curByte c).1 * 16777216 + (curByte (curByte c).2).1 * 65536 + (curByte (curByte (curByte c).2).2).1 * 256 ≤ 9223372036854775807 by omega)] <;> rfl) (by simp only [kP] <;> rfl) ?_
   refine EV ?_
   refine OkOps.ev tab_ok rfl (by simp only [kE, kT, kL, kC, wrap_add_nat (show (curByte c).1 * 16777216 + (curByte (curByte c).2).1 * 65536 + (curByte (curByte (curByte c).2).2).1 * 256 + (curByte (curByte (curByte (curByte c).2).2).2).1 ≤ 9223372036854775807 by omega)] <;> rfl) (by simp only [kP] <;> rfl) ?_
   refine EV ?_
   refine OkOps.ev tab_ok rfl (by simp only [kE, kT, kL, kC, hm0, if_false, tmod_nat] <;> rfl) (by simp only [kP] <;> rfl) ?_
   refine EV ?_
   refine ON ?_
   refine Ok.ret ?_
   with_reducible repeat (first | refine thenQ_ret ?_ | refine blockQ_ret ?_)
   refine RT ?_
   exact ⟨rfl, by rw [upd_twice (by simp [V.travL, V.trav, updS, zz]), upd_twice (by simp [V.travL, V.trav, updS, zz]), upd_twice (by simp [V.travL, V.trav, updS, zz])], rfl⟩
theorem w_laws_sameTexts (a b : List Str) : Weak Try.prog 44 [.sl 0 1 0 (a.map cS), .sl 0 1 0 (b.map cS)] (.bool (decide (a = b))) := by
 refine Weak.len 0 rfl fun ha => ?_
 refine Weak.enter tab_ok Try.func44 rfl (.inr (by simp [V.labelsL, V.labels, zz])) (t := [.sl 0 1 0 (a.map cS), .sl 0 1 0 (b.map cS), .any, .any, .any, .any, .any, .any, .any, .any, .any, .any, .any, .any, .any, .any, .any, .any, .any, .any, .any, .any, .any, .any, .any, .any]) rfl ?_
 refine OQ ?_
 refine EV ?_
 refine ON ?_
 refine Ok.seq ?_
 refine OQ ?_
 iterate 5 (refine EV ?_)
 refine ON ?_
 refine Ok.cond (b := _) (by simp only [kE, kT, kL, kC] <;> rfl) (fun hb1 => ?_) (fun hb1 => ?_)
 ·
  try simp only [bsimp] at hb1
  refine OQ ?_
  refine EV ?_
  refine ON ?_
  refine Ok.ret ?_
  with_reducible repeat (first | refine thenQ_ret ?_ | refine blockQ_ret ?_)
  refine RT ?_
  rw [decide_eq_false (fun h => hb1 (by rw [h]))]; rfl
 ·
  try simp only [bsimp] at hb1
  have hb1 : (a.length : Int) = b.length := by simpa using hb1
  refine Ok.skip ?_
  refine Ok.seq ?_
  refine OQ ?_
  refine EV ?_
  refine ON ?_
  refine Ok.block ?_
  refine Ok.loopW (τ := Nat) (fun x => [(5, .int .i64 (x : Int))]) [4, 11, 12, 13, 14, 15, 16, 17, 18, 19, 20, 21, 22, 23, 24, 25] (fun x => by simp only [kover] <;> rfl) (fun x => x ≤ a.length ∧ a.take x = b.take x) (fun x => a.length - x) 0 (by refine ⟨?_, ?_, ?_, ?_, ?_, ?_, ?_, ?_, ?_, ?_, ?_, ?_, ?_, ?_, ?_, ?_, ?_, ?_, ?_, ?_, ?_, ?_, ?_, ?_, ?_, ?_, trivial⟩ <;> first | exact le_any _ | with_reducible exact le_rfl' _ | (exact le_rfl' _) | exact le_rfl' _) (⟨Nat.zero_le _, rfl⟩) ?_
  rintro i ⟨h1, h2⟩
  refine Ok.seq ?_
  refine OQ ?_
  iterate 4 (refine EV ?_)
  refine ON ?_
  refine Ok.cond (b := _) (by simp only [kE, kT, kL, kC] <;> rfl) (fun hb4 => ?_) (fun hb4 => ?_)
  ·
   try simp only [bsimp] at hb4
   have hi : i < a.length := by omega
   have hj : i < b.length := by omega
   refine Ok.skip ?_
   refine Ok.seq ?_
   refine Ok.block ?_
   refine Ok.seq ?_
   refine Ok.drawn 9 26 [] (by kernel_rfl) (by kernel_rfl) rfl ?_
   iterate 2 (refine SV ?_)
   refine SOps.ev tab_ok rfl (ev_idx_map (by simp only [kE, kT, kL, kC] <;> rfl) (by simp only [kE, kT, kL, kC] <;> rfl) (by omega) (by simp only [kE, kT, kL, kC] <;> rfl)) (by simp only [kP] <;> rfl) ?_
   iterate 3 (refine SV ?_)
   refine SOps.ev tab_ok rfl (ev_idx_map (by simp only [kE, kT, kL, kC] <;> rfl) (by simp only [kE, kT, kL, kC] <;> rfl) (by omega) (by simp only [kE, kT, kL, kC] <;> rfl)) (by simp only [kP] <;> rfl) ?_
   iterate 2 (refine SV ?_)
   refine SOps.nil ?_
   refine TOps.nil ?_
   refine Ok.cond (b := _) (by simp only [kE, kT, kL, kC] <;> rfl) (fun hb6 => ?_) (fun hb6 => ?_)
   ·
    try simp only [bsimp] at hb6
    refine OQ ?_
    refine EV ?_
    refine ON ?_
    refine Ok.ret ?_
    with_reducible repeat (first | refine thenQ_ret ?_ | refine blockQ_ret ?_)
    refine RT ?_
    rw [decide_eq_false (fun h => hb6 (by subst h; rfl))]; rfl
   ·
    try simp only [bsimp] at hb6
    refine Ok.skip ?_
    refine Ok.region ?_
    iterate 3 (refine EV ?_)
    refine ON ?_
    refine ⟨i + 1, ?_, rfl, rfl, ⟨by omega, take_next h2 hi hj hb6⟩, by omega⟩
    refine ⟨?_, ?_, ?_, ?_, ?_, ?_, ?_, ?_, ?_, ?_, ?_, ?_, ?_, ?_, ?_, ?_, ?_, ?_, ?_, ?_, ?_, ?_, ?_, ?_, ?_, ?_, trivial⟩ <;> first | exact le_any _ | with_reducible exact le_rfl' _ | ((rw [wrap_succ (by simp only [List.length_map] at ha; unfold maxLen at ha; omega)]; exact le_rfl' _)) | exact le_rfl' _
  ·
   try simp only [bsimp] at hb4
   refine Ok.exit ?_
   refine OQ ?_
   refine EV ?_
   refine ON ?_
   refine Ok.ret ?_
   with_reducible repeat (first | refine thenQ_ret ?_ | refine blockQ_ret ?_)
   refine RT ?_
   rw [decide_eq_true (eq_of_take (by omega) (by omega) h2)]; rfl
theorem p_impl_LinkHears (l : Link) (p : Packet) (h : l.way.length ≤ 2097152) : Pure Try.prog 12 [.agg (cLink l), .agg (cPacket p)] (vH (linkHears l p)) := by
 refine Pure.of (by simp [V.dat, V.datL, V.datLL, zz]) (OkCall.enter' tab_ok Try.func12 rfl (t := [.agg (cLink l), .agg (cPacket p), .any, .any, .any, .any, .any, .any, .any, .any, .any, .any, .any, .any, .any, .any, .any, .any, .any, .any, .any, .any, .any, .any, .any, .any, .any, .any, .any, .any, .any, .any, .any, .any, .any, .any, .any, .any, .any, .any, .any, .any, .any, .any, .any, .any, .any, .any, .any, .any, .any, .any, .any, .any, .any, .any, .any, .any, .any, .any, .any, .any, .any]) rfl ?_)
 refine OQ ?_
 iterate 5 (refine EV ?_)
 refine ON ?_
 refine OQ ?_
 refine EV ?_
 refine OkOps.S' rfl (OpS.pure' rfl (by simp only [kE, kT, kL, kC] <;> rfl) (by simp only [kE, kT, kL, kC, V.eraseL, V.erase, V.travL, V.trav, zz] <;> rfl) cl38 (by simp [V.dat, V.datL, V.datLL, zz]) (p_impl_copyLink l h)) (by simp only [V.cnt, V.cntL, zz, Nat.add_zero, Nat.reduceAdd] <;> rfl) (by simp only [kP, V.tag, V.tagL, V.cnt, V.cntL, zz, Nat.add_zero, Nat.reduceAdd] <;> rfl) ?_
 refine EV ?_
 refine OkOps.storeE tab_ok rfl rfl (by simp only [kE, kT, kL, kC] <;> rfl) ⟨_, _, by simp only [kE]; rfl⟩ (by first | (simp [V.labelsL, V.labelsLL, V.labels, zz]; done) | (simp [-List.map_map, -List.map_set, -List.map_drop, -List.map_take, -List.map_tail, -List.drop_one, V.labelsL, V.labelsLL, V.labels, zz]; done)) (by simp only [eq_self, V.updL, V.travL, V.travLL, V.trav, updS, updP, and_self, true_and, and_true, false_and, and_false, Nat.reduceEqDiff, Nat.reduceSub, Nat.le_refl, Nat.zero_le, ↓reduceIte, if_true, if_false, kP, zz] <;> rfl) (rfl) ?_
 refine ON ?_
 refine Ok.seq ?_
 refine OQ ?_
 iterate 5 (refine EV ?_)
 refine ON ?_
 refine Ok.cond (b := _) (by simp only [kE, kT, kL, kC] <;> rfl) (fun hb2 => ?_) (fun hb2 => ?_)
 ·
  try simp only [bsimp] at hb2
  rw [linkHears_off (by simpa using hb2)]
  refine OQ ?_
  refine EV ?_
  refine OkOps.storeE tab_ok rfl rfl (by simp only [kE, kT, kL, kC] <;> rfl) ⟨_, _, by simp only [kE]; rfl⟩ (by first | (simp [V.labelsL, V.labelsLL, V.labels, zz]; done) | (simp [-List.map_map, -List.map_set, -List.map_drop, -List.map_take, -List.map_tail, -List.drop_one, V.labelsL, V.labelsLL, V.labels, zz]; done)) (by simp only [eq_self, V.updL, V.travL, V.travLL, V.trav, updS, updP, and_self, true_and, and_true, false_and, and_false, Nat.reduceEqDiff, Nat.reduceSub, Nat.le_refl, Nat.zero_le, ↓reduceIte, if_true, if_false, kP, zz] <;> rfl) (rfl) ?_
  iterate 2 (refine EV ?_)
  refine ON ?_
  refine Ok.ret ?_
  with_reducible repeat (first | refine thenQ_ret ?_ | refine blockQ_ret ?_)
  refine retQ.end (by show resVs tab _ [.cell 4 34, .tmp 5, .tmp 6] = _; simp only [kE, kT, kL, kC] <;> rfl) rfl ?_
  exact ⟨by simp [V.erase, V.trav, V.travL, packV, zz], by simp [V.labels, V.labelsL, V.labelsLL, packV, zz], by simp [V.labels, V.labelsL, V.labelsLL, packV, zz]⟩
 ·
  try simp only [bsimp] at hb2
  rw [linkHears_on (by simpa using hb2)]
  refine Ok.skip ?_
  refine Ok.seq ?_
  refine Ok.seqC [(34, .bool (decide (l.way ≠ [] ∧ p.ack > l.next ∧ p.ack = IntKind.i64.wrap (l.next + 1))))] [16, 17, 18, 19, 20, 21, 22, 23, 24, 25, 26, 27, 28, 29, 30, 31, 32, 33] (by simp only [kover] <;> rfl) ?_ ?_
  ·
   refine Ok.region ?_
   iterate 5 (refine EV ?_)
   refine OkOps.split (d := 20) (by simp only [kE, kT, kL, kC] <;> rfl) (by simp only [kP] <;> rfl) (by simp only [kP] <;> rfl) (fun hg4_4 => ?_) (fun hg4_4 => ?_)
   ·
    try simp only [bsimp] at hg4_4
    refine OO ?_
    refine EV ?_
    refine OO ?_
    refine EV ?_
    refine OO ?_
    refine EV ?_
    refine OO ?_
    refine EV ?_
    refine OO ?_
    iterate 3 (refine EV ?_)
    refine OkOps.split (d := 27) (by simp only [kE, kT, kL, kC] <;> rfl) (by simp only [kP] <;> rfl) (by simp only [kP] <;> rfl) (fun hg4_11 => ?_) (fun hg4_11 => ?_)
    ·
     try simp only [bsimp] at hg4_11
     refine OO ?_
     refine EV ?_
     refine OO ?_
     refine EV ?_
     refine OO ?_
     refine EV ?_
     refine OO ?_
     refine EV ?_
     refine OO ?_
     refine EV ?_
     refine OO ?_
     iterate 2 (refine EV ?_)
     refine ON ?_
     refine ⟨rfl, ?_, rfl, rfl⟩
     refine ⟨?_, ?_, ?_, ?_, ?_, ?_, ?_, ?_, ?_, ?_, ?_, ?_, ?_, ?_, ?_, ?_, ?_, ?_, ?_, ?_, ?_, ?_, ?_, ?_, ?_, ?_, ?_, ?_, ?_, ?_, ?_, ?_, ?_, ?_, ?_, ?_, ?_, ?_, ?_, ?_, ?_, ?_, ?_, ?_, ?_, ?_, ?_, ?_, ?_, ?_, ?_, ?_, ?_, ?_, ?_, ?_, ?_, ?_, ?_, ?_, ?_, ?_, ?_, trivial⟩ <;> first | exact le_any _ | with_reducible exact le_rfl' _ | (refine .inl (congrArg V.bool ?_); simp only [← List.length_pos_iff, ne_eq]; first | (simp [*]; done) | (simp_all; done)) | exact le_rfl' _
    ·
     try simp only [bsimp] at hg4_11
     refine OkOps.offU rfl rfl (.inl (by simp only [kE, kT, kL, kC, Bool.not_true, Bool.not_false])) (by simp only [kP] <;> rfl) ?_
     refine OkOps.offU rfl rfl (.inl (by simp only [kE, kT, kL, kC, Bool.not_true, Bool.not_false])) (by simp only [kP] <;> rfl) ?_
     refine OkOps.offU rfl rfl (.inl (by simp only [kE, kT, kL, kC, Bool.not_true, Bool.not_false])) (by simp only [kP] <;> rfl) ?_
     refine OkOps.offU rfl rfl (.inl (by simp only [kE, kT, kL, kC, Bool.not_true, Bool.not_false])) (by simp only [kP] <;> rfl) ?_
     refine OkOps.offU rfl rfl (.inl (by simp only [kE, kT, kL, kC, Bool.not_true, Bool.not_false])) (by simp only [kP] <;> rfl) ?_
     refine OkOps.offU rfl rfl (.inl (by simp only [kE, kT, kL, kC, Bool.not_true, Bool.not_false])) (by simp only [kP] <;> rfl) ?_
     refine EV ?_
     refine ON ?_
     refine ⟨rfl, ?_, rfl, rfl⟩
     refine ⟨?_, ?_, ?_, ?_, ?_, ?_, ?_, ?_, ?_, ?_, ?_, ?_, ?_, ?_, ?_, ?_, ?_, ?_, ?_, ?_, ?_, ?_, ?_, ?_, ?_, ?_, ?_, ?_, ?_, ?_, ?_, ?_, ?_, ?_, ?_, ?_, ?_, ?_, ?_, ?_, ?_, ?_, ?_, ?_, ?_, ?_, ?_, ?_, ?_, ?_, ?_, ?_, ?_, ?_, ?_, ?_, ?_, ?_, ?_, ?_, ?_, ?_, ?_, trivial⟩ <;> first | exact le_any _ | with_reducible exact le_rfl' _ | (refine .inl (congrArg V.bool ?_); simp only [← List.length_pos_iff, ne_eq]; first | (simp [*]; done) | (simp_all; done)) | exact le_rfl' _
   ·
    try simp only [bsimp] at hg4_4
    refine OkOps.offU rfl rfl (.inl (by simp only [kE, kT, kL, kC, Bool.not_true, Bool.not_false])) (by simp only [kP] <;> rfl) ?_
    refine OkOps.offU rfl rfl (.inl (by simp only [kE, kT, kL, kC, Bool.not_true, Bool.not_false])) (by simp only [kP] <;> rfl) ?_
    refine OkOps.offU rfl rfl (.inl (by simp only [kE, kT, kL, kC, Bool.not_true, Bool.not_false])) (by simp only [kP] <;> rfl) ?_
    refine OkOps.offU rfl rfl (.inl (by simp only [kE, kT, kL, kC, Bool.not_true, Bool.not_false])) (by simp only [kP] <;> rfl) ?_
    refine OkOps.offU rfl rfl (.inl (by simp only [kE, kT, kL, kC, Bool.not_true, Bool.not_false])) (by simp only [kP] <;> rfl) ?_
    iterate 2 (refine EV ?_)
    refine OkOps.offU rfl rfl (.inl (by simp only [kE, kT, kL, kC, Bool.not_true, Bool.not_false])) (by simp only [kP] <;> rfl) ?_
    refine OkOps.offU rfl rfl (.inl (by simp only [kE, kT, kL, kC, Bool.not_true, Bool.not_false])) (by simp only [kP] <;> rfl) ?_
    refine OkOps.offU rfl rfl (.inl (by simp only [kE, kT, kL, kC, Bool.not_true, Bool.not_false])) (by simp only [kP] <;> rfl) ?_
    refine OkOps.offU rfl rfl (.inl (by simp only [kE, kT, kL, kC, Bool.not_true, Bool.not_false])) (by simp only [kP] <;> rfl) ?_
    refine OkOps.offU rfl rfl (.inl (by simp only [kE, kT, kL, kC, Bool.not_true, Bool.not_false])) (by simp only [kP] <;> rfl) ?_
    refine OkOps.offU rfl rfl (.inl (by simp only [kE, kT, kL, kC, Bool.not_true, Bool.not_false])) (by simp only [kP] <;> rfl) ?_
    refine EV ?_
    refine ON ?_
    refine ⟨rfl, ?_, rfl, rfl⟩
    refine ⟨?_, ?_, ?_, ?_, ?_, ?_, ?_, ?_, ?_, ?_, ?_, ?_, ?_, ?_, ?_, ?_, ?_, ?_, ?_, ?_, ?_, ?_, ?_, ?_, ?_, ?_, ?_, ?_, ?_, ?_, ?_, ?_, ?_, ?_, ?_, ?_, ?_, ?_, ?_, ?_, ?_, ?_, ?_, ?_, ?_, ?_, ?_, ?_, ?_, ?_, ?_, ?_, ?_, ?_, ?_, ?_, ?_, ?_, ?_, ?_, ?_, ?_, ?_, trivial⟩ <;> first | exact le_any _ | with_reducible exact le_rfl' _ | (refine .inl (congrArg V.bool ?_); simp only [← List.length_pos_iff, ne_eq]; first | (simp [*]; done) | (simp_all; done)) | exact le_rfl' _
  ·
   refine Ok.cond (b := _) (by simp only [kE, kT, kL, kC] <;> rfl) (fun hb4 => ?_) (fun hb4 => ?_)
   ·
    try simp only [bsimp] at hb4
    have hc : l.way ≠ [] ∧ p.ack > l.next ∧ p.ack = IntKind.i64.wrap (l.next + 1) := hb4
    have hm : hearMid l p = { l with way := l.way.drop 1, next := IntKind.i64.wrap (l.next + 1) } := if_pos hc
    have h1 : 1 ≤ l.way.length := by have := hc.1; cases hw : l.way with | nil => exact absurd hw this | cons a b => simp
    refine OQ ?_
    iterate 2 (refine EV ?_)
    refine OkOps.ev tab_ok rfl (ev_partLo_map (a := 1) (by simp only [kE, kT, kL, kC] <;> rfl) (by simp only [kE, kT, kL, kC] <;> rfl) (by simp only [kT] <;> rfl) (by simp only [kT, Option.map_some] <;> rfl) (by omega)) (by simp only [kP] <;> rfl) ?_
    refine EV ?_
    refine OkOps.storeE tab_ok rfl rfl (by simp only [kE, kT, kL, kC] <;> rfl) ⟨_, _, by simp only [kE]; rfl⟩ (by first | (simp [V.labelsL, V.labelsLL, V.labels, zz]; done) | (simp [-List.map_map, -List.map_set, -List.map_drop, -List.map_take, -List.map_tail, -List.drop_one, V.labelsL, V.labelsLL, V.labels, zz]; done)) (by simp only [eq_self, V.updL, V.travL, V.travLL, V.trav, updS, updP, and_self, true_and, and_true, false_and, and_false, Nat.reduceEqDiff, Nat.reduceSub, Nat.le_refl, Nat.zero_le, ↓reduceIte, if_true, if_false, kP, zz] <;> rfl) (rfl) ?_
    refine ON ?_
    refine Ok.region ?_
    iterate 4 (refine EV ?_)
    refine OkOps.storeE tab_ok rfl rfl (by simp only [kE, kT, kL, kC] <;> rfl) ⟨_, _, by simp only [kE]; rfl⟩ (by first | (simp [V.labelsL, V.labelsLL, V.labels, zz]; done) | (simp [-List.map_map, -List.map_set, -List.map_drop, -List.map_take, -List.map_tail, -List.drop_one, V.labelsL, V.labelsLL, V.labels, zz]; done)) (by simp only [eq_self, V.updL, V.travL, V.travLL, V.trav, updS, updP, and_self, true_and, and_true, false_and, and_false, Nat.reduceEqDiff, Nat.reduceSub, Nat.le_refl, Nat.zero_le, ↓reduceIte, if_true, if_false, kP, zz] <;> rfl) (rfl) ?_
    refine ON ?_
    refine Ok.seq ?_
    refine Ok.seqC [(52, .bool (decide (p.seq = 0 ∨ p.seq ≠ l.want)))] [43, 44, 45, 46, 47, 48, 49, 50, 51] (by simp only [kover] <;> rfl) ?_ ?_
    ·
     refine Ok.region ?_
     iterate 4 (refine EV ?_)
     refine OkOps.split (d := 46) (by simp only [kE, kT, kL, kC] <;> rfl) (by simp only [kP] <;> rfl) (by simp only [kP] <;> rfl) (fun hg7_3 => ?_) (fun hg7_3 => ?_)
     ·
      try simp only [bsimp] at hg7_3
      refine OkOps.offU rfl rfl (.inl (by simp only [kE, kT, kL, kC, Bool.not_true, Bool.not_false])) (by simp only [kP] <;> rfl) ?_
      refine OkOps.offU rfl rfl (.inl (by simp only [kE, kT, kL, kC, Bool.not_true, Bool.not_false])) (by simp only [kP] <;> rfl) ?_
      refine OkOps.offU rfl rfl (.inl (by simp only [kE, kT, kL, kC, Bool.not_true, Bool.not_false])) (by simp only [kP] <;> rfl) ?_
      refine OkOps.offU rfl rfl (.inl (by simp only [kE, kT, kL, kC, Bool.not_true, Bool.not_false])) (by simp only [kP] <;> rfl) ?_
      refine OkOps.offU rfl rfl (.inl (by simp only [kE, kT, kL, kC, Bool.not_true, Bool.not_false])) (by simp only [kP] <;> rfl) ?_
      refine EV ?_
      refine ON ?_
      refine ⟨rfl, ?_, rfl, rfl⟩
      refine ⟨?_, ?_, ?_, ?_, ?_, ?_, ?_, ?_, ?_, ?_, ?_, ?_, ?_, ?_, ?_, ?_, ?_, ?_, ?_, ?_, ?_, ?_, ?_, ?_, ?_, ?_, ?_, ?_, ?_, ?_, ?_, ?_, ?_, ?_, ?_, ?_, ?_, ?_, ?_, ?_, ?_, ?_, ?_, ?_, ?_, ?_, ?_, ?_, ?_, ?_, ?_, ?_, ?_, ?_, ?_, ?_, ?_, ?_, ?_, ?_, ?_, ?_, ?_, trivial⟩ <;> first | exact le_any _ | with_reducible exact le_rfl' _ | (refine .inl (congrArg V.bool ?_); first | (simp [*]; done) | (simp_all; done)) | exact le_rfl' _
     ·
      try simp only [bsimp] at hg7_3
      refine OO ?_
      refine EV ?_
      refine OO ?_
      refine EV ?_
      refine OO ?_
      refine EV ?_
      refine OO ?_
      refine EV ?_
      refine OO ?_
      iterate 2 (refine EV ?_)
      refine ON ?_
      refine ⟨rfl, ?_, rfl, rfl⟩
      refine ⟨?_, ?_, ?_, ?_, ?_, ?_, ?_, ?_, ?_, ?_, ?_, ?_, ?_, ?_, ?_, ?_, ?_, ?_, ?_, ?_, ?_, ?_, ?_, ?_, ?_, ?_, ?_, ?_, ?_, ?_, ?_, ?_, ?_, ?_, ?_, ?_, ?_, ?_, ?_, ?_, ?_, ?_, ?_, ?_, ?_, ?_, ?_, ?_, ?_, ?_, ?_, ?_, ?_, ?_, ?_, ?_, ?_, ?_, ?_, ?_, ?_, ?_, ?_, trivial⟩ <;> first | exact le_any _ | with_reducible exact le_rfl' _ | (refine .inl (congrArg V.bool ?_); first | (simp [*]; done) | (simp_all; done)) | exact le_rfl' _
    ·
     refine Ok.cond (b := _) (by simp only [kE, kT, kL, kC] <;> rfl) (fun hb7 => ?_) (fun hb7 => ?_)
     ·
      try simp only [bsimp] at hb7
      rw [if_pos hb7, hm]
      refine OQ ?_
      refine EV ?_
      refine OkOps.S' rfl (OpS.pure' rfl (by simp only [kE, kT, kL, kC, hm] <;> rfl) (by simp only [kE, kT, kL, kC, hm, V.eraseL, V.erase, V.travL, V.trav, zz] <;> rfl) cl38 (by simp [V.dat, V.datL, V.datLL, zz]) (p_impl_copyLink (hearMid l p) (Nat.le_trans (hearMid_len l p) h))) (by simp only [V.cnt, V.cntL, zz, Nat.add_zero, Nat.reduceAdd] <;> rfl) (by simp only [kP, V.tag, V.tagL, V.cnt, V.cntL, zz, Nat.add_zero, Nat.reduceAdd] <;> rfl) ?_
      refine OkOps.storeE tab_ok rfl rfl (by simp only [kE, kT, kL, kC] <;> rfl) ⟨_, _, by simp only [kE]; rfl⟩ (by first | (simp [V.labelsL, V.labelsLL, V.labels, zz]; done) | (simp [-List.map_map, -List.map_set, -List.map_drop, -List.map_take, -List.map_tail, -List.drop_one, V.labelsL, V.labelsLL, V.labels, zz]; done)) (by simp only [eq_self, V.updL, V.travL, V.travLL, V.trav, updS, updP, and_self, true_and, and_true, false_and, and_false, Nat.reduceEqDiff, Nat.reduceSub, Nat.le_refl, Nat.zero_le, ↓reduceIte, if_true, if_false, kP, zz] <;> rfl) (rfl) ?_
      iterate 2 (refine EV ?_)
      refine ON ?_
      refine Ok.ret ?_
      with_reducible repeat (first | refine thenQ_ret ?_ | refine blockQ_ret ?_)
      refine retQ.end (by show resVs tab _ [.cell 4 34, .tmp 5, .tmp 6] = _; simp only [kE, kT, kL, kC] <;> rfl) rfl ?_
      exact ⟨by simp [V.erase, V.trav, V.travL, packV, zz, hm], by simp [V.labels, V.labelsL, V.labelsLL, packV, zz], by simp [V.labels, V.labelsL, V.labelsLL, packV, zz]⟩
     ·
      try simp only [bsimp] at hb7
      rw [if_neg hb7, hm]
      refine Ok.skip ?_
      refine OQ ?_
      iterate 4 (refine EV ?_)
      refine OkOps.storeE tab_ok rfl rfl (by simp only [kE, kT, kL, kC] <;> rfl) ⟨_, _, by simp only [kE]; rfl⟩ (by first | (simp [V.labelsL, V.labelsLL, V.labels, zz]; done) | (simp [-List.map_map, -List.map_set, -List.map_drop, -List.map_take, -List.map_tail, -List.drop_one, V.labelsL, V.labelsLL, V.labels, zz]; done)) (by simp only [eq_self, V.updL, V.travL, V.travLL, V.trav, updS, updP, and_self, true_and, and_true, false_and, and_false, Nat.reduceEqDiff, Nat.reduceSub, Nat.le_refl, Nat.zero_le, ↓reduceIte, if_true, if_false, kP, zz] <;> rfl) (rfl) ?_
      refine ON ?_
      refine Ok.seq ?_
      refine Ok.drawn 4 63 [2, 3] (by kernel_rfl) (by kernel_rfl) rfl ?_
      refine SV ?_
      refine SOps.S' rfl (OpS.pureM rfl (by simp only [kE, kT, kL, kC, hm] <;> rfl) (by simp only [kE, kT, kL, kC, hm, V.eraseL, V.erase, V.travL, V.trav, zz] <;> rfl) cl38 (by simp [V.dat, V.datL, V.datLL, zz]) (p_impl_copyLink { hearMid l p with want := IntKind.i64.wrap (l.want + 1) } (Nat.le_trans (hearMid_len l p) h))) (by simp only [V.cnt, V.cntL, zz, Nat.add_zero, Nat.reduceAdd] <;> rfl) (by simp only [kP, V.tag, V.tagL, V.cnt, V.cntL, zz, Nat.add_zero, Nat.reduceAdd] <;> rfl) ?_
      iterate 2 (refine SV ?_)
      refine SOps.nil ?_
      refine TOps.storeL tab_ok rfl rfl rfl (by simp only [kE, kT, kL, kC] <;> rfl) ⟨_, _, by simp only [kE]; rfl⟩ (by first | (simp [V.labelsL, V.labelsLL, V.labels, zz]; done) | (simp [-List.map_map, -List.map_set, -List.map_drop, -List.map_take, -List.map_tail, -List.drop_one, V.labelsL, V.labelsLL, V.labels, zz]; done)) (by simp only [eq_self, V.updL, V.travL, V.travLL, V.trav, updS, updP, and_self, true_and, and_true, false_and, and_false, Nat.reduceEqDiff, Nat.reduceSub, Nat.le_refl, Nat.zero_le, ↓reduceIte, if_true, if_false, kP, zz] <;> rfl) (rfl) (LateOk.cons (i := 2) tab_ok (by rfl) (by rfl) (by simp only [List.getElem_toArray, List.getElem_cons_succ, List.getElem_cons_zero]; exact (by simp only [kE, kT, kL, kC] <;> rfl)) (by show nth _ 61 = _; simp only [kE, kT, kL, kC] <;> rfl) (LateOk.cons (i := 3) tab_ok (by rfl) (by rfl) (by simp only [List.getElem_toArray, List.getElem_cons_succ, List.getElem_cons_zero]; exact (by simp only [kE, kT, kL, kC] <;> rfl)) (by show nth _ 62 = _; simp only [kE, kT, kL, kC] <;> rfl) LateOk.nil)) ?_
      refine TOps.evL tab_ok rfl (by simp only [kE, kT, kL, kC] <;> rfl) (by simp only [kP] <;> rfl) (LateOk.cons (i := 2) tab_ok (by rfl) (by rfl) (by simp only [List.getElem_toArray, List.getElem_cons_succ, List.getElem_cons_zero]; exact (by simp only [kE, kT, kL, kC] <;> rfl)) (by show nth _ 61 = _; simp only [kE, kT, kL, kC] <;> rfl) (LateOk.cons (i := 3) tab_ok (by rfl) (by rfl) (by simp only [List.getElem_toArray, List.getElem_cons_succ, List.getElem_cons_zero]; exact (by simp only [kE, kT, kL, kC] <;> rfl)) (by show nth _ 62 = _; simp only [kE, kT, kL, kC] <;> rfl) LateOk.nil)) ?_
      refine TOps.evL tab_ok rfl (by simp only [kE, kT, kL, kC] <;> rfl) (by simp only [kP] <;> rfl) (LateOk.cons (i := 2) tab_ok (by rfl) (by rfl) (by simp only [List.getElem_toArray, List.getElem_cons_succ, List.getElem_cons_zero]; exact (by simp only [kE, kT, kL, kC] <;> rfl)) (by show nth _ 61 = _; simp only [kE, kT, kL, kC] <;> rfl) (LateOk.cons (i := 3) tab_ok (by rfl) (by rfl) (by simp only [List.getElem_toArray, List.getElem_cons_succ, List.getElem_cons_zero]; exact (by simp only [kE, kT, kL, kC] <;> rfl)) (by show nth _ 62 = _; simp only [kE, kT, kL, kC] <;> rfl) LateOk.nil)) ?_
      refine TOps.nil ?_
      refine Ok.ret ?_
      with_reducible repeat (first | refine thenQ_ret ?_ | refine blockQ_ret ?_)
      refine retQ.end (by show resVs tab _ [.cell 4 34, .tmp 5, .tmp 6] = _; simp only [kE, kT, kL, kC] <;> rfl) rfl ?_
      exact ⟨by simp [V.erase, V.trav, V.travL, packV, zz, hm], by simp [V.labels, V.labelsL, V.labelsLL, packV, zz], by simp [V.labels, V.labelsL, V.labelsLL, packV, zz]⟩
   ·
    try simp only [bsimp] at hb4
    have hc : ¬ (l.way ≠ [] ∧ p.ack > l.next ∧ p.ack = IntKind.i64.wrap (l.next + 1)) := hb4
    have hm : hearMid l p = l := if_neg hc
    refine Ok.skip ?_
    refine Ok.seq ?_
    refine Ok.seqC [(52, .bool (decide (p.seq = 0 ∨ p.seq ≠ l.want)))] [43, 44, 45, 46, 47, 48, 49, 50, 51] (by simp only [kover] <;> rfl) ?_ ?_
    ·
     refine Ok.region ?_
     iterate 4 (refine EV ?_)
     refine OkOps.split (d := 46) (by simp only [kE, kT, kL, kC] <;> rfl) (by simp only [kP] <;> rfl) (by simp only [kP] <;> rfl) (fun hg7_3 => ?_) (fun hg7_3 => ?_)
     ·
      try simp only [bsimp] at hg7_3
      refine OkOps.offU rfl rfl (.inl (by simp only [kE, kT, kL, kC, Bool.not_true, Bool.not_false])) (by simp only [kP] <;> rfl) ?_
      refine OkOps.offU rfl rfl (.inl (by simp only [kE, kT, kL, kC, Bool.not_true, Bool.not_false])) (by simp only [kP] <;> rfl) ?_
      refine OkOps.offU rfl rfl (.inl (by simp only [kE, kT, kL, kC, Bool.not_true, Bool.not_false])) (by simp only [kP] <;> rfl) ?_
      refine OkOps.offU rfl rfl (.inl (by simp only [kE, kT, kL, kC, Bool.not_true, Bool.not_false])) (by simp only [kP] <;> rfl) ?_
      refine OkOps.offU rfl rfl (.inl (by simp only [kE, kT, kL, kC, Bool.not_true, Bool.not_false])) (by simp only [kP] <;> rfl) ?_
      refine EV ?_
      refine ON ?_
      refine ⟨rfl, ?_, rfl, rfl⟩
      refine ⟨?_, ?_, ?_, ?_, ?_, ?_, ?_, ?_, ?_, ?_, ?_, ?_, ?_, ?_, ?_, ?_, ?_, ?_, ?_, ?_, ?_, ?_, ?_, ?_, ?_, ?_, ?_, ?_, ?_, ?_, ?_, ?_, ?_, ?_, ?_, ?_, ?_, ?_, ?_, ?_, ?_, ?_, ?_, ?_, ?_, ?_, ?_, ?_, ?_, ?_, ?_, ?_, ?_, ?_, ?_, ?_, ?_, ?_, ?_, ?_, ?_, ?_, ?_, trivial⟩ <;> first | exact le_any _ | with_reducible exact le_rfl' _ | (refine .inl (congrArg V.bool ?_); first | (simp [*]; done) | (simp_all; done)) | exact le_rfl' _
     ·
      try simp only [bsimp] at hg7_3
      refine OO ?_
      refine EV ?_
      refine OO ?_
      refine EV ?_
      refine OO ?_
      refine EV ?_
      refine OO ?_
      refine EV ?_
      refine OO ?_
      iterate 2 (refine EV ?_)
      refine ON ?_
      refine ⟨rfl, ?_, rfl, rfl⟩
      refine ⟨?_, ?_, ?_, ?_, ?_, ?_, ?_, ?_, ?_, ?_, ?_, ?_, ?_, ?_, ?_, ?_, ?_, ?_, ?_, ?_, ?_, ?_, ?_, ?_, ?_, ?_, ?_, ?_, ?_, ?_, ?_, ?_, ?_, ?_, ?_, ?_, ?_, ?_, ?_, ?_, ?_, ?_, ?_, ?_, ?_, ?_, ?_, ?_, ?_, ?_, ?_, ?_, ?_, ?_, ?_, ?_, ?_, ?_, ?_, ?_, ?_, ?_, ?_, trivial⟩ <;> first | exact le_any _ | with_reducible exact le_rfl' _ | (refine .inl (congrArg V.bool ?_); first | (simp [*]; done) | (simp_all; done)) | exact le_rfl' _
    ·
     refine Ok.cond (b := _) (by simp only [kE, kT, kL, kC] <;> rfl) (fun hb7 => ?_) (fun hb7 => ?_)
     ·
      try simp only [bsimp] at hb7
      rw [if_pos hb7, hm]
      refine OQ ?_
      refine EV ?_
      refine OkOps.S' rfl (OpS.pure' rfl (by simp only [kE, kT, kL, kC, hm] <;> rfl) (by simp only [kE, kT, kL, kC, hm, V.eraseL, V.erase, V.travL, V.trav, zz] <;> rfl) cl38 (by simp [V.dat, V.datL, V.datLL, zz]) (p_impl_copyLink (hearMid l p) (Nat.le_trans (hearMid_len l p) h))) (by simp only [V.cnt, V.cntL, zz, Nat.add_zero, Nat.reduceAdd] <;> rfl) (by simp only [kP, V.tag, V.tagL, V.cnt, V.cntL, zz, Nat.add_zero, Nat.reduceAdd] <;> rfl) ?_
      refine OkOps.storeE tab_ok rfl rfl (by simp only [kE, kT, kL, kC] <;> rfl) ⟨_, _, by simp only [kE]; rfl⟩ (by first | (simp [V.labelsL, V.labelsLL, V.labels, zz]; done) | (simp [-List.map_map, -List.map_set, -List.map_drop, -List.map_take, -List.map_tail, -List.drop_one, V.labelsL, V.labelsLL, V.labels, zz]; done)) (by simp only [eq_self, V.updL, V.travL, V.travLL, V.trav, updS, updP, and_self, true_and, and_true, false_and, and_false, Nat.reduceEqDiff, Nat.reduceSub, Nat.le_refl, Nat.zero_le, ↓reduceIte, if_true, if_false, kP, zz] <;> rfl) (rfl) ?_
      iterate 2 (refine EV ?_)
      refine ON ?_
      refine Ok.ret ?_
      with_reducible repeat (first | refine thenQ_ret ?_ | refine blockQ_ret ?_)
      refine retQ.end (by show resVs tab _ [.cell 4 34, .tmp 5, .tmp 6] = _; simp only [kE, kT, kL, kC] <;> rfl) rfl ?_
      exact ⟨by simp [V.erase, V.trav, V.travL, packV, zz, hm], by simp [V.labels, V.labelsL, V.labelsLL, packV, zz], by simp [V.labels, V.labelsL, V.labelsLL, packV, zz]⟩
     ·
      try simp only [bsimp] at hb7
      rw [if_neg hb7, hm]
      refine Ok.skip ?_
      refine OQ ?_
      iterate 4 (refine EV ?_)
      refine OkOps.storeE tab_ok rfl rfl (by simp only [kE, kT, kL, kC] <;> rfl) ⟨_, _, by simp only [kE]; rfl⟩ (by first | (simp [V.labelsL, V.labelsLL, V.labels, zz]; done) | (simp [-List.map_map, -List.map_set, -List.map_drop, -List.map_take, -List.map_tail, -List.drop_one, V.labelsL, V.labelsLL, V.labels, zz]; done)) (by simp only [eq_self, V.updL, V.travL, V.travLL, V.trav, updS, updP, and_self, true_and, and_true, false_and, and_false, Nat.reduceEqDiff, Nat.reduceSub, Nat.le_refl, Nat.zero_le, ↓reduceIte, if_true, if_false, kP, zz] <;> rfl) (rfl) ?_
      refine ON ?_
      refine Ok.seq ?_
      refine Ok.drawn 4 63 [2, 3] (by kernel_rfl) (by kernel_rfl) rfl ?_
      refine SV ?_
      refine SOps.S' rfl (OpS.pureM rfl (by simp only [kE, kT, kL, kC, hm] <;> rfl) (by simp only [kE, kT, kL, kC, hm, V.eraseL, V.erase, V.travL, V.trav, zz] <;> rfl) cl38 (by simp [V.dat, V.datL, V.datLL, zz]) (p_impl_copyLink { hearMid l p with want := IntKind.i64.wrap (l.want + 1) } (Nat.le_trans (hearMid_len l p) h))) (by simp only [V.cnt, V.cntL, zz, Nat.add_zero, Nat.reduceAdd] <;> rfl) (by simp only [kP, V.tag, V.tagL, V.cnt, V.cntL, zz, Nat.add_zero, Nat.reduceAdd] <;> rfl) ?_
      iterate 2 (refine SV ?_)
      refine SOps.nil ?_
      refine TOps.storeL tab_ok rfl rfl rfl (by simp only [kE, kT, kL, kC] <;> rfl) ⟨_, _, by simp only [kE]; rfl⟩ (by first | (simp [V.labelsL, V.labelsLL, V.labels, zz]; done) | (simp [-List.map_map, -List.map_set, -List.map_drop, -List.map_take, -List.map_tail, -List.drop_one, V.labelsL, V.labelsLL, V.labels, zz]; done)) (by simp only [eq_self, V.updL, V.travL, V.travLL, V.trav, updS, updP, and_self, true_and, and_true, false_and, and_false, Nat.reduceEqDiff, Nat.reduceSub, Nat.le_refl, Nat.zero_le, ↓reduceIte, if_true, if_false, kP, zz] <;> rfl) (rfl) (LateOk.cons (i := 2) tab_ok (by rfl) (by rfl) (by simp only [List.getElem_toArray, List.getElem_cons_succ, List.getElem_cons_zero]; exact (by simp only [kE, kT, kL, kC] <;> rfl)) (by show nth _ 61 = _; simp only [kE, kT, kL, kC] <;> rfl) (LateOk.cons (i := 3) tab_ok (by rfl) (by rfl) (by simp only [List.getElem_toArray, List.getElem_cons_succ, List.getElem_cons_zero]; exact (by simp only [kE, kT, kL, kC] <;> rfl)) (by show nth _ 62 = _; simp only [kE, kT, kL, kC] <;> rfl) LateOk.nil)) ?_
      refine TOps.evL tab_ok rfl (by simp only [kE, kT, kL, kC] <;> rfl) (by simp only [kP] <;> rfl) (LateOk.cons (i := 2) tab_ok (by rfl) (by rfl) (by simp only [List.getElem_toArray, List.getElem_cons_succ, List.getElem_cons_zero]; exact (by simp only [kE, kT, kL, kC] <;> rfl)) (by show nth _ 61 = _; simp only [kE, kT, kL, kC] <;> rfl) (LateOk.cons (i := 3) tab_ok (by rfl) (by rfl) (by simp only [List.getElem_toArray, List.getElem_cons_succ, List.getElem_cons_zero]; exact (by simp only [kE, kT, kL, kC] <;> rfl)) (by show nth _ 62 = _; simp only [kE, kT, kL, kC] <;> rfl) LateOk.nil)) ?_
      refine TOps.evL tab_ok rfl (by simp only [kE, kT, kL, kC] <;> rfl) (by simp only [kP] <;> rfl) (LateOk.cons (i := 2) tab_ok (by rfl) (by rfl) (by simp only [List.getElem_toArray, List.getElem_cons_succ, List.getElem_cons_zero]; exact (by simp only [kE, kT, kL, kC] <;> rfl)) (by show nth _ 61 = _; simp only [kE, kT, kL, kC] <;> rfl) (LateOk.cons (i := 3) tab_ok (by rfl) (by rfl) (by simp only [List.getElem_toArray, List.getElem_cons_succ, List.getElem_cons_zero]; exact (by simp only [kE, kT, kL, kC] <;> rfl)) (by show nth _ 62 = _; simp only [kE, kT, kL, kC] <;> rfl) LateOk.nil)) ?_
      refine TOps.nil ?_
      refine Ok.ret ?_
      with_reducible repeat (first | refine thenQ_ret ?_ | refine blockQ_ret ?_)
      refine retQ.end (by show resVs tab _ [.cell 4 34, .tmp 5, .tmp 6] = _; simp only [kE, kT, kL, kC] <;> rfl) rfl ?_
      exact ⟨by simp [V.erase, V.trav, V.travL, packV, zz, hm], by simp [V.labels, V.labelsL, V.labelsLL, packV, zz], by simp [V.labels, V.labelsL, V.labelsLL, packV, zz]⟩
theorem w_impl_LinkHears (l : Link) (p : Packet) (h : l.way.length ≤ 2097152) : Weak Try.prog 12 [.agg (cLink l), .agg (cPacket p)] (vH (linkHears l p)) := by
  have h := Pure.weak (by simp [V.dat, V.datL, V.datLL, zz]) (p_impl_LinkHears l p h) (by simp [V.eraseL, V.erase, V.trav, V.travL, zz])
  simpa [V.erase, V.trav, V.travL, zz] using h
end Go.Proofs.Ytckeandnnbnapaa.K
