/- Numbers and texts read: plain functions; and that both readers of packets tell the same. -/
import Derived.Test.YtjhfabimacljhaaY1
namespace Go.Proofs.Ytjhfabimacljhaa.K
open Go Go.RowKit
set_option linter.unusedVariables false
set_option linter.unusedSimpArgs false

/-- A number read from a place on: f groups at most, i groups behind, n so far. -/
def rdV (s : Str) (p : Nat) : Nat → Nat → Nat → Option (Nat × Nat)
  | 0, _, _ => none
  | f + 1, i, n => if h : p + i < s.length then
      (if s[p + i].toNat < 128 then (if n + s[p + i].toNat % 128 * 128 ^ i ≤ 1000000000 ∧ varT (n + s[p + i].toNat % 128 * 128 ^ i) = (s.take (p + i + 1)).drop p then some (n + s[p + i].toNat % 128 * 128 ^ i, p + i + 1) else none)
        else rdV s p f (i + 1) (n + s[p + i].toNat % 128 * 128 ^ i)) else none
def readVar (s : Str) (z : Int) : Option (Nat × Nat) := if inR z 0 s.length = true then rdV s z.toNat 5 0 0 else none
abbrev vR (r : Option (Nat × Nat)) : V := .tup [.int .i64 ((r.getD (0, 0)).1 : Int), .int .i64 ((r.getD (0, 0)).2 : Int), .bool r.isSome]
theorem rdV_lo {s : Str} {p f i n : Nat} (h : p + i < s.length) (hb : s[p + i].toNat < 128) : rdV s p (f + 1) i n = if n + s[p + i].toNat % 128 * 128 ^ i ≤ 1000000000 ∧ varT (n + s[p + i].toNat % 128 * 128 ^ i) = (s.take (p + i + 1)).drop p then some (n + s[p + i].toNat % 128 * 128 ^ i, p + i + 1) else none := by
  rw [rdV, dif_pos h, if_pos hb]
theorem rdV_hi {s : Str} {p f i n : Nat} (h : p + i < s.length) (hb : ¬ s[p + i].toNat < 128) : rdV s p (f + 1) i n = rdV s p f (i + 1) (n + s[p + i].toNat % 128 * 128 ^ i) := by
  rw [rdV, dif_pos h, if_neg hb]
theorem rdV_end {s : Str} {p f i n : Nat} (h : ¬ p + i < s.length) : rdV s p f i n = none := by
  cases f with
  | zero => rfl
  | succ f => rw [rdV, dif_neg h]
theorem rdV_some {s : Str} {p : Nat} : ∀ {f i n : Nat} {m e : Nat}, rdV s p f i n = some (m, e) → m ≤ 1000000000 ∧ varT m = (s.take e).drop p ∧ e ≤ s.length ∧ p < e
  | 0, _, _, _, _, h => by simp [rdV] at h
  | f + 1, i, n, m, e, h => by
    rw [rdV] at h
    split at h
    · split at h
      · split at h
        · rename_i h1 h2 h3
          simp only [Option.some.injEq, Prod.mk.injEq] at h
          obtain ⟨rfl, rfl⟩ := h
          exact ⟨h3.1, h3.2, by omega, by omega⟩
        · cases h
      · exact rdV_some h
    · cases h
theorem readVar_some {s : Str} {z : Int} {m e : Nat} (h : readVar s z = some (m, e)) : 0 ≤ z ∧ z ≤ s.length ∧ m ≤ 1000000000 ∧ varT m = (s.take e).drop z.toNat ∧ e ≤ s.length ∧ z.toNat < e := by
  unfold readVar at h
  split at h
  · rename_i hz
    have := inR_t.1 hz
    have := rdV_some h
    exact ⟨by omega, by omega, this⟩
  · cases h
/-- What the machine's arithmetic makes of a group. -/
theorem pow128 {i : Nat} (h : i ≤ 5) : 128 ^ i ≤ 34359738368 ∧ 1 ≤ 128 ^ i := by
  have : i = 0 ∨ i = 1 ∨ i = 2 ∨ i = 3 ∨ i = 4 ∨ i = 5 := by omega
  rcases this with rfl | rfl | rfl | rfl | rfl | rfl <;> decide
theorem grp_lt {b i n : Nat} (hi : i < 5) (hn : n < 128 ^ i) : n + b % 128 * 128 ^ i < 128 ^ (i + 1) ∧ b % 128 * 128 ^ i ≤ 34359738368 := by
  have h1 := pow128 (i := i) (by omega)
  have h2 : b % 128 ≤ 127 := by omega
  have h3 : b % 128 * 128 ^ i ≤ 127 * 128 ^ i := Nat.mul_le_mul_right _ h2
  have h4 : i = 0 ∨ i = 1 ∨ i = 2 ∨ i = 3 ∨ i = 4 := by omega
  rw [Nat.pow_succ]
  rcases h4 with rfl | rfl | rfl | rfl | rfl <;> simp at * <;> omega
theorem rem_byte (b : UInt8) : (IntKind.i64.wrap (b.toNat : Int)).tmod 128 = ((b.toNat % 128 : Nat) : Int) := by
  have := b.toNat_lt
  rw [wrap_nat (by omega), rem128]
theorem mul_grp {b i : Nat} (hi : i < 5) : IntKind.i64.wrap (((b % 128 : Nat) : Int) * ((128 ^ i : Nat) : Int)) = ((b % 128 * 128 ^ i : Nat) : Int) := by
  have h1 := (grp_lt (b := b) hi (n := 0) (by have := pow128 (i := i) (by omega); omega)).2
  rw [show ((b % 128 : Nat) : Int) * ((128 ^ i : Nat) : Int) = ((b % 128 * 128 ^ i : Nat) : Int) by simp, wrap_nat (by omega)]
theorem add_grp {b i n : Nat} (hi : i < 5) (hn : n < 128 ^ i) : IntKind.i64.wrap ((n : Int) + ((b % 128 * 128 ^ i : Nat) : Int)) = ((n + b % 128 * 128 ^ i : Nat) : Int) := by
  have h1 := (grp_lt (b := b) hi hn).2
  have h2 := pow128 (i := i) (by omega)
  rw [show (n : Int) + ((b % 128 * 128 ^ i : Nat) : Int) = ((n + b % 128 * 128 ^ i : Nat) : Int) by simp, wrap_nat (by omega)]
theorem next_scale {i : Nat} (hi : i < 5) : IntKind.i64.wrap (((128 ^ i : Nat) : Int) * 128) = ((128 ^ (i + 1) : Nat) : Int) := by
  have h2 := pow128 (i := i + 1) (by omega)
  rw [show ((128 ^ i : Nat) : Int) * 128 = ((128 ^ (i + 1) : Nat) : Int) by rw [Nat.pow_succ]; simp, wrap_nat (by omega)]
theorem and_byte (b : UInt8) : IntKind.u8.wrap ((BitVec.ofInt IntKind.u8.bits (b.toNat : Int) &&& BitVec.ofInt IntKind.u8.bits 127).toNat : Int) = ((b.toNat % 128 : Nat) : Int) := by
  have hb := b.toNat_lt
  have h1 : (BitVec.ofInt 8 (b.toNat : Int) &&& BitVec.ofInt 8 127).toNat = b.toNat % 128 := by
    rw [BitVec.toNat_and]
    have e1 : (BitVec.ofInt 8 (b.toNat : Int)).toNat = b.toNat := by simp only [BitVec.ofInt_natCast, BitVec.toNat_ofNat]; omega
    have e2 : (BitVec.ofInt 8 127).toNat = 127 := rfl
    rw [e1, e2, and127]
  show IntKind.u8.wrap ((BitVec.ofInt 8 (b.toNat : Int) &&& BitVec.ofInt 8 127).toNat : Int) = _
  rw [h1, IntKind.wrap_u8]; omega
theorem mul7 {i : Nat} (hi : i < 5) : IntKind.i64.wrap (7 * (i : Int)) = ((7 * i : Nat) : Int) := by rw [show 7 * (i : Int) = ((7 * i : Nat) : Int) by simp, wrap_nat (by omega)]
theorem shl_grp {b i : Nat} (hi : i < 5) : IntKind.i64.wrap (((b % 128 : Nat) : Int) * 2 ^ min ((7 * i : Nat) : Int).toNat IntKind.i64.bits) = ((b % 128 * 128 ^ i : Nat) : Int) := by
  rw [Int.toNat_natCast, show min (7 * i) IntKind.i64.bits = 7 * i from Nat.min_eq_left (by show 7 * i ≤ 64; omega), show (2 : Int) ^ (7 * i) = ((128 ^ i : Nat) : Int) by rw [Int.pow_mul]; simp]
  exact mul_grp hi
theorem or_grp {b i n : Nat} (hi : i < 5) (hn : n < 128 ^ i) : IntKind.i64.wrap ((BitVec.ofInt IntKind.i64.bits (n : Int) ||| BitVec.ofInt IntKind.i64.bits ((b % 128 * 128 ^ i : Nat) : Int)).toNat : Int) = ((n + b % 128 * 128 ^ i : Nat) : Int) := by
  have h1 := grp_lt (b := b) hi hn
  have h2 := pow128 (i := i) (by omega)
  have h3 := pow128 (i := i + 1) (by omega)
  have h4 : (BitVec.ofInt 64 (n : Int) ||| BitVec.ofInt 64 ((b % 128 * 128 ^ i : Nat) : Int)).toNat = n + b % 128 * 128 ^ i := by
    refine (or_nat n (b % 128 * 128 ^ i) (by omega) (by omega)).trans ?_
    have h5 : (128 : Nat) ^ i = 2 ^ (7 * i) := by rw [Nat.pow_mul]
    have := Nat.two_pow_add_eq_or_of_lt (i := 7 * i) (b := n) (by rw [← h5]; exact hn) (b % 128)
    rw [← h5, Nat.mul_comm] at this
    rw [Nat.or_comm, ← this, Nat.add_comm]
  show IntKind.i64.wrap ((BitVec.ofInt 64 (n : Int) ||| BitVec.ofInt 64 ((b % 128 * 128 ^ i : Nat) : Int)).toNat : Int) = _
  rw [h4, wrap_nat (by omega)]
theorem wrap_add_nat {a b : Nat} (h : a + b ≤ 9223372036854775807) : IntKind.i64.wrap ((a : Int) + (b : Int)) = ((a + b : Nat) : Int) := by rw [IntKind.wrap_i64]; omega
theorem wrap_add_one {a : Nat} (h : a + 1 ≤ 9223372036854775807) : IntKind.i64.wrap ((a : Int) + 1) = ((a + 1 : Nat) : Int) := by rw [IntKind.wrap_i64]; omega
theorem wrap_add_five {a : Nat} (h : a + 5 ≤ 9223372036854775807) : IntKind.i64.wrap ((a : Int) + 5) = ((a + 5 : Nat) : Int) := by rw [IntKind.wrap_i64]; omega

def readShort (s : Str) (z : Int) : Option (Str × Nat) := match readVar s z with
  | some (n, e) => if n ≤ 20000 ∧ n + e ≤ s.length then some ((s.take (e + n)).drop e, e + n) else none
  | none => none
abbrev vS (r : Option (Str × Nat)) : V := .tup [.str (r.getD ([], 0)).1, .int .i64 ((r.getD ([], 0)).2 : Int), .bool r.isSome]
theorem readShort_some {s : Str} {z : Int} {t : Str} {e : Nat} (h : readShort s z = some (t, e)) : 0 ≤ z ∧ z ≤ s.length ∧ t.length ≤ 20000 ∧ varT t.length ++ t = (s.take e).drop z.toNat ∧ e ≤ s.length ∧ z.toNat < e := by
  unfold readShort at h
  split at h
  · rename_i n e1 hv
    split at h
    · rename_i hn
      simp only [Option.some.injEq, Prod.mk.injEq] at h
      obtain ⟨rfl, rfl⟩ := h
      have h1 := readVar_some hv
      have hl : ((s.take (e1 + n)).drop e1).length = n := by rw [List.length_drop, List.length_take]; omega
      refine ⟨h1.1, h1.2.1, by omega, ?_, by omega, by omega⟩
      rw [hl, h1.2.2.2.1]
      have e2 : s.take (e1 + n) = s.take e1 ++ (s.drop e1).take n := by rw [List.take_add]
      rw [e2, List.drop_append, List.drop_append]
      have l1 : (s.take e1).length = e1 := by rw [List.length_take]; omega
      rw [l1, Nat.sub_self, List.drop_zero, List.drop_eq_nil_of_le (by omega : (s.take e1).length ≤ e1), show z.toNat - e1 = 0 by omega, List.drop_zero, List.nil_append]
    · cases h
  · cases h
theorem short_cond {s : Str} {z : Int} (hs : s.length ≤ 4611686018427387904) : (!(readShort s z).isSome) = (!(readVar s z).isSome || decide ((((readVar s z).getD (0, 0)).1 : Int) > 20000) || decide ((((readVar s z).getD (0, 0)).1 : Int) > IntKind.i64.wrap ((s.length : Int) - (((readVar s z).getD (0, 0)).2 : Int)))) := by
  unfold readShort
  cases hv : readVar s z with
  | none => rfl
  | some q =>
    obtain ⟨m, e⟩ := q
    have h := readVar_some hv
    have hw : IntKind.i64.wrap ((s.length : Int) - (e : Int)) = (s.length : Int) - e := by rw [IntKind.wrap_i64]; omega
    simp only [Option.getD_some, Option.isSome_some, Bool.not_true, Bool.false_or, hw]
    by_cases hc : m ≤ 20000 ∧ m + e ≤ s.length
    · rw [if_pos hc, decide_eq_false (by omega), decide_eq_false (by omega)]; rfl
    · rw [if_neg hc]
      by_cases h1 : (m : Int) > 20000
      · rw [decide_eq_true h1]; rfl
      · rw [decide_eq_false h1, decide_eq_true (by omega)]; rfl
def unsealed (t : Str) : Option Str := if 4 ≤ t.length ∧ t.length ≤ 20004 ∧ t.drop (t.length - 4) = fourT (sumOf (t.take (t.length - 4))) then some (t.take (t.length - 4)) else none
theorem unsealed_some {t s : Str} (h : unsealed t = some s) : t = sealT s ∧ s.length ≤ 20000 := by
  unfold unsealed at h
  split at h
  · rename_i hc
    obtain rfl := Option.some.inj h
    refine ⟨?_, by rw [List.length_take]; omega⟩
    unfold sealT
    rw [← hc.2.2, List.take_append_drop]
  · cases h
structure Scan where
  text : Str
  pos : Int
  bad : Bool
abbrev cScan (c : Scan) : List V := [.str c.text, .int .i64 c.pos, .bool c.bad]
def scanNum (c : Scan) : Nat × Scan := match readVar c.text c.pos with
  | some (n, e) => if c.bad = true then (0, { c with bad := true }) else (n, { c with pos := (e : Int) })
  | none => (0, { c with bad := true })
def scanShort (c : Scan) : Str × Scan := match readShort c.text c.pos with
  | some (n, e) => if c.bad = true then ([], { c with bad := true }) else (n, { c with pos := (e : Int) })
  | none => ([], { c with bad := true })
theorem scanNum_text (c : Scan) : (scanNum c).2.text = c.text := by
  unfold scanNum
  split
  · split <;> rfl
  · rfl
theorem scanShort_text (c : Scan) : (scanShort c).2.text = c.text := by
  unfold scanShort
  split
  · split <;> rfl
  · rfl
theorem scanNum_good {c : Scan} (h : (scanNum c).2.bad = false) : c.bad = false ∧ 0 ≤ c.pos ∧ c.pos.toNat ≤ (scanNum c).2.pos.toNat ∧ (scanNum c).2.pos.toNat ≤ c.text.length ∧ 0 ≤ (scanNum c).2.pos ∧ (scanNum c).1 ≤ 1000000000 ∧ c.text.take (scanNum c).2.pos.toNat = c.text.take c.pos.toNat ++ varT (scanNum c).1 := by
  revert h
  unfold scanNum
  split
  · rename_i n e hv
    have := readVar_some hv
    split
    · intro h; cases h
    · rename_i hb
      intro h
      refine ⟨by simpa using hb, this.1, by simp; omega, by simp; omega, by simp, this.2.2.1, ?_⟩
      simp only [Int.toNat_natCast]
      rw [this.2.2.2.1]
      have e2 : c.text.take c.pos.toNat = (c.text.take e).take c.pos.toNat := by rw [List.take_take]; congr 1; omega
      rw [e2, List.take_append_drop]
  · intro h; cases h
theorem scanShort_good {c : Scan} (h : (scanShort c).2.bad = false) : c.bad = false ∧ 0 ≤ c.pos ∧ c.pos.toNat ≤ (scanShort c).2.pos.toNat ∧ (scanShort c).2.pos.toNat ≤ c.text.length ∧ 0 ≤ (scanShort c).2.pos ∧ (scanShort c).1.length ≤ 20000 ∧ c.text.take (scanShort c).2.pos.toNat = c.text.take c.pos.toNat ++ (varT (scanShort c).1.length ++ (scanShort c).1) := by
  revert h
  unfold scanShort
  split
  · rename_i n e hv
    have := readShort_some hv
    split
    · intro h; cases h
    · rename_i hb
      intro h
      refine ⟨by simpa using hb, this.1, by simp; omega, by simp; omega, by simp, this.2.2.1, ?_⟩
      simp only [Int.toNat_natCast]
      rw [this.2.2.2.1]
      have e2 : c.text.take c.pos.toNat = (c.text.take e).take c.pos.toNat := by rw [List.take_take]; congr 1; omega
      rw [e2, List.take_append_drop]
  · intro h; cases h
/-- What is scanned of a packet's text. -/
def scan1 (b : Str) (bad : Bool) : Nat × Scan := scanNum ⟨b, 0, bad⟩
def scan2 (b : Str) (bad : Bool) : Nat × Scan := scanNum (scan1 b bad).2
def scan3 (b : Str) (bad : Bool) : Nat × Scan := scanNum (scan2 b bad).2
def scan4 (b : Str) (bad : Bool) : Str × Scan := scanShort (scan3 b bad).2
def scanP (b : Str) (bad : Bool) : Packet := ⟨((scan1 b bad).1 : Int), ((scan2 b bad).1 : Int), ((scan3 b bad).1 : Int), (scan4 b bad).1⟩
theorem scan1_text (b : Str) (bad : Bool) : (scan1 b bad).2.text = b := scanNum_text _
theorem scan2_text (b : Str) (bad : Bool) : (scan2 b bad).2.text = b := (scanNum_text _).trans (scan1_text b bad)
theorem scan3_text (b : Str) (bad : Bool) : (scan3 b bad).2.text = b := (scanNum_text _).trans (scan2_text b bad)
def readI (t : Str) : Option Packet :=
  if (unsealed t).isSome = true ∧ (scan4 ((unsealed t).getD []) false).2.bad = false ∧ (scan4 ((unsealed t).getD []) false).2.pos = (((unsealed t).getD []).length : Int) ∧ (scan4 ((unsealed t).getD []) false).1.length ≤ 400 then some (scanP ((unsealed t).getD []) false) else none
def readS (t : Str) : Option Packet :=
  if (scan4 ((unsealed t).getD []) (unsealed t).isNone).2.bad = false ∧ packetText (scanP ((unsealed t).getD []) (unsealed t).isNone) = some t then some (scanP ((unsealed t).getD []) (unsealed t).isNone) else none
theorem scan_good {b : Str} {bad : Bool} (h : (scan4 b bad).2.bad = false) : bad = false ∧ 0 ≤ (scan4 b bad).2.pos ∧ (scan4 b bad).2.pos.toNat ≤ b.length ∧ (scan1 b bad).1 ≤ 1000000000 ∧ (scan2 b bad).1 ≤ 1000000000 ∧ (scan3 b bad).1 ≤ 1000000000 ∧ b.take (scan4 b bad).2.pos.toNat = packetBody (scanP b bad) := by
  have h4 := scanShort_good h
  have h3 := scanNum_good h4.1
  have h2 := scanNum_good h3.1
  have h1 := scanNum_good h2.1
  have t1 : (scan1 b bad).2.text = b := scanNum_text _
  have t2 : (scan2 b bad).2.text = b := (scanNum_text _).trans t1
  have t3 : (scan3 b bad).2.text = b := (scanNum_text _).trans t2
  have g4 := h4.2.2.2.2.2.2
  have g3 := h3.2.2.2.2.2.2
  have g2 := h2.2.2.2.2.2.2
  have g1 := h1.2.2.2.2.2.2
  rw [t3] at g4
  rw [t2] at g3
  rw [t1] at g2
  refine ⟨h1.1, h4.2.2.2.2.1, ?_, h1.2.2.2.2.2.1, h2.2.2.2.2.2.1, h3.2.2.2.2.2.1, ?_⟩
  · have := h4.2.2.2.1; rw [t3] at this; exact this
  · refine g4.trans ?_
    rw [show List.take (scan3 b bad).2.pos.toNat b = _ from g3, show List.take (scan2 b bad).2.pos.toNat b = _ from g2, show List.take (scan1 b bad).2.pos.toNat b = _ from g1]
    simp [packetBody, scanP, scan1, scan2, scan3, scan4]
theorem seal_inj {a b : Str} (h : sealT a = sealT b) : a.length = b.length := by
  have := congrArg List.length h
  simp only [sealT, List.length_append, fourT_len] at this
  omega
theorem read_same (t : Str) : readI t = readS t := by
  unfold readI readS
  cases hu : unsealed t with
  | none =>
    have : ¬ (scan4 [] true).2.bad = false := fun h => by have := (scan_good h).1; cases this
    simp only [Option.isSome_none, Bool.false_eq_true, false_and, if_false, Option.getD_none, Option.isNone_none]
    rw [if_neg (fun h => this h.1)]
  | some b =>
    obtain ⟨rfl, hl⟩ := unsealed_some hu
    simp only [Option.isSome_some, true_and, Option.getD_some, Option.isNone_some]
    by_cases hb : (scan4 b false).2.bad = false
    · obtain ⟨-, h0, h1, h2, h3, h4, h5⟩ := scan_good hb
      have key : (scan4 b false).2.pos = (b.length : Int) ∧ (scan4 b false).1.length ≤ 400 ↔ packetText (scanP b false) = some (sealT b) := by
        unfold packetText
        constructor
        · rintro ⟨hp, ht⟩
          have hok : packetOk (scanP b false) = true := by
            simp only [packetOk, scanP, Bool.and_eq_true, inR_t, decide_eq_true_eq]
            exact ⟨by omega, decide_eq_true (by omega)⟩
          rw [if_pos hok, ← h5, hp, Int.toNat_natCast, List.take_length]
        · intro h
          split at h
          · rename_i hok
            have e := Option.some.inj h
            have hlen := seal_inj e
            rw [← h5, List.length_take] at hlen
            refine ⟨by omega, ?_⟩
            simp only [packetOk, Bool.and_eq_true, scanP] at hok
            have := of_decide_eq_true hok.2
            omega
          · cases h
      by_cases hk : packetText (scanP b false) = some (sealT b)
      · have := key.2 hk
        rw [if_pos ⟨hb, this⟩, if_pos ⟨hb, hk⟩]
      · rw [if_neg (fun h => hk (key.1 h.2)), if_neg (fun h => hk h.2)]
    · rw [if_neg (fun h => hb h.1), if_neg (fun h => hb h.1)]
abbrev vP (r : Option Packet) : V := .tup [.agg (cPacket (r.getD ⟨0, 0, 0, []⟩)), .bool r.isSome]
/-- Four bytes as a number. -/
def fourN (l : Str) : Nat := match l with | a :: b :: c :: d :: _ => a.toNat * 16777216 + b.toNat * 65536 + c.toNat * 256 + d.toNat | _ => 0
theorem fourN_at {t : Str} {p : Nat} (h : p + 4 ≤ t.length) : fourN (t.drop p) = t[p].toNat * 16777216 + t[p + 1].toNat * 65536 + t[p + 2].toNat * 256 + t[p + 3].toNat := by
  rw [List.drop_eq_getElem_cons (by omega), List.drop_eq_getElem_cons (by omega), List.drop_eq_getElem_cons (by omega), List.drop_eq_getElem_cons (by omega)]
  rfl
theorem fourN_iff (x : BitVec 32) {l : Str} (h : l.length = 4) : x.toNat = fourN l ↔ l = fourT x := by
  match l, h with
  | [a, b, c, d], _ =>
    have ha := a.toNat_lt; have hb := b.toNat_lt; have hc := c.toNat_lt; have hd := d.toNat_lt
    have hx := x.isLt
    simp only [fourN, fourT, List.cons.injEq, and_true]
    constructor
    · intro h
      refine ⟨?_, ?_, ?_, ?_⟩ <;> (apply UInt8.toNat_inj.1; rw [UInt8.toNat_ofNat']; omega)
    · rintro ⟨h1, h2, h3, h4⟩
      have g1 := congrArg UInt8.toNat h1
      have g2 := congrArg UInt8.toNat h2
      have g3 := congrArg UInt8.toNat h3
      have g4 := congrArg UInt8.toNat h4
      rw [UInt8.toNat_ofNat'] at g1 g2 g3 g4
      omega
theorem unsealed_len {t s : Str} (h : unsealed t = some s) : 4 ≤ t.length ∧ t.length ≤ 20004 ∧ s = t.take (t.length - 4) := by
  unfold unsealed at h
  split at h
  · rename_i hc
    exact ⟨hc.1, hc.2.1, (Option.some.inj h).symm⟩
  · cases h
theorem wrap_sub4 {t : Str} (h : 4 ≤ t.length) (ht : t.length ≤ 4611686018427387904) : IntKind.i64.wrap ((t.length : Int) - 4) = ((t.length - 4 : Nat) : Int) := by rw [IntKind.wrap_i64]; omega
theorem wrap_lt4 {t : Str} (ht : t.length ≤ 4611686018427387904) : IntKind.i64.wrap ((t.length : Int) - 4) = (t.length : Int) - 4 := by rw [IntKind.wrap_i64]; omega
theorem unsealed_condS {t : Str} (ht : t.length ≤ 4611686018427387904) : (!(unsealed t).isSome) = (decide (IntKind.i64.wrap ((t.length : Int) - 4) < 0) || decide (IntKind.i64.wrap ((t.length : Int) - 4) > 20000) || !decide (t.drop (t.length - 4) = fourT (sumOf (t.take (t.length - 4))))) := by
  unfold unsealed
  rw [wrap_lt4 ht]
  by_cases h1 : t.length < 4
  · rw [if_neg (by omega), decide_eq_true (show (t.length : Int) - 4 < 0 by omega)]; rfl
  · rw [decide_eq_false (show ¬ (t.length : Int) - 4 < 0 by omega)]
    by_cases h2 : t.length ≤ 20004
    · rw [decide_eq_false (show ¬ (t.length : Int) - 4 > 20000 by omega)]
      by_cases h3 : t.drop (t.length - 4) = fourT (sumOf (t.take (t.length - 4)))
      · rw [if_pos ⟨by omega, h2, h3⟩, decide_eq_true h3]; rfl
      · rw [if_neg (fun h => h3 h.2.2), decide_eq_false h3]; rfl
    · rw [if_neg (by omega), decide_eq_true (show (t.length : Int) - 4 > 20000 by omega)]; rfl
theorem unsealed_condI {t : Str} (ht : t.length ≤ 4611686018427387904) : (!(unsealed t).isSome) = (!inR (IntKind.i64.wrap ((t.length : Int) - 4)) 0 20000 || !decide (((sumOf (t.take (t.length - 4))).toNat : Int) = ((fourN (t.drop (t.length - 4)) : Nat) : Int))) := by
  rw [unsealed_condS ht, wrap_lt4 ht]
  by_cases h1 : t.length < 4
  · rw [decide_eq_true (show (t.length : Int) - 4 < 0 by omega), inR_f.2 (by omega)]; rfl
  · rw [decide_eq_false (show ¬ (t.length : Int) - 4 < 0 by omega)]
    by_cases h2 : t.length ≤ 20004
    · rw [decide_eq_false (show ¬ (t.length : Int) - 4 > 20000 by omega), inR_t.2 (by omega)]
      have h4 : (t.drop (t.length - 4)).length = 4 := by rw [List.length_drop]; omega
      have h5 := fourN_iff (sumOf (t.take (t.length - 4))) h4
      by_cases h3 : t.drop (t.length - 4) = fourT (sumOf (t.take (t.length - 4)))
      · rw [decide_eq_true h3, decide_eq_true (by have := h5.2 h3; omega)]; rfl
      · rw [decide_eq_false h3, decide_eq_false (fun h => h3 (h5.1 (by omega)))]; rfl
    · rw [decide_eq_true (show (t.length : Int) - 4 > 20000 by omega), inR_f.2 (by omega)]; rfl
theorem wrap_add_two {a : Nat} (h : a + 2 ≤ 9223372036854775807) : IntKind.i64.wrap ((a : Int) + 2) = ((a + 2 : Nat) : Int) := by rw [IntKind.wrap_i64]; omega
theorem wrap_add_three {a : Nat} (h : a + 3 ≤ 9223372036854775807) : IntKind.i64.wrap ((a : Int) + 3) = ((a + 3 : Nat) : Int) := by rw [IntKind.wrap_i64]; omega
theorem four_b {b : UInt8} : IntKind.i64.wrap (b.toNat : Int) = (b.toNat : Int) := by have := b.toNat_lt; rw [IntKind.wrap_i64]; omega
theorem four_s1 {b : UInt8} : IntKind.i64.wrap ((b.toNat : Int) * 2 ^ min (Int.toNat 24) IntKind.i64.bits) = ((b.toNat * 16777216 : Nat) : Int) := by
  have := b.toNat_lt
  rw [show (2 : Int) ^ min (Int.toNat 24) IntKind.i64.bits = 16777216 from rfl, IntKind.wrap_i64]; omega
theorem four_s2 {b : UInt8} : IntKind.i64.wrap ((b.toNat : Int) * 2 ^ min (Int.toNat 16) IntKind.i64.bits) = ((b.toNat * 65536 : Nat) : Int) := by
  have := b.toNat_lt
  rw [show (2 : Int) ^ min (Int.toNat 16) IntKind.i64.bits = 65536 from rfl, IntKind.wrap_i64]; omega
theorem four_s3 {b : UInt8} : IntKind.i64.wrap ((b.toNat : Int) * 2 ^ min (Int.toNat 8) IntKind.i64.bits) = ((b.toNat * 256 : Nat) : Int) := by
  have := b.toNat_lt
  rw [show (2 : Int) ^ min (Int.toNat 8) IntKind.i64.bits = 256 from rfl, IntKind.wrap_i64]; omega
theorem or_add {a b k : Nat} (hb : b < 2 ^ k) (ha : a * 2 ^ k < 9223372036854775808) (hb' : b < 9223372036854775808) (hs : a * 2 ^ k + b ≤ 9223372036854775807) : IntKind.i64.wrap ((BitVec.ofInt IntKind.i64.bits ((a * 2 ^ k : Nat) : Int) ||| BitVec.ofInt IntKind.i64.bits (b : Int)).toNat : Int) = ((a * 2 ^ k + b : Nat) : Int) := by
  have h4 : (BitVec.ofInt 64 ((a * 2 ^ k : Nat) : Int) ||| BitVec.ofInt 64 (b : Int)).toNat = a * 2 ^ k + b := by
    refine (or_nat (a * 2 ^ k) b ha hb').trans ?_
    have := Nat.two_pow_add_eq_or_of_lt hb a
    rw [Nat.mul_comm] at this
    exact this.symm
  show IntKind.i64.wrap ((BitVec.ofInt 64 ((a * 2 ^ k : Nat) : Int) ||| BitVec.ofInt 64 (b : Int)).toNat : Int) = _
  rw [h4, wrap_nat hs]
theorem four_or1 {a b : UInt8} : IntKind.i64.wrap ((BitVec.ofInt IntKind.i64.bits ((a.toNat * 16777216 : Nat) : Int) ||| BitVec.ofInt IntKind.i64.bits ((b.toNat * 65536 : Nat) : Int)).toNat : Int) = ((a.toNat * 16777216 + b.toNat * 65536 : Nat) : Int) := by
  have ha := a.toNat_lt
  have hb := b.toNat_lt
  exact or_add (k := 24) (by omega) (by omega) (by omega) (by omega)
theorem four_or2 {a b c : UInt8} : IntKind.i64.wrap ((BitVec.ofInt IntKind.i64.bits ((a.toNat * 16777216 + b.toNat * 65536 : Nat) : Int) ||| BitVec.ofInt IntKind.i64.bits ((c.toNat * 256 : Nat) : Int)).toNat : Int) = ((a.toNat * 16777216 + b.toNat * 65536 + c.toNat * 256 : Nat) : Int) := by
  have ha := a.toNat_lt
  have hb := b.toNat_lt
  have hc := c.toNat_lt
  have := or_add (a := a.toNat * 256 + b.toNat) (b := c.toNat * 256) (k := 16) (by omega) (by omega) (by omega) (by omega)
  rwa [show (a.toNat * 256 + b.toNat) * 2 ^ 16 = a.toNat * 16777216 + b.toNat * 65536 by omega] at this
theorem four_or3 {a b c d : UInt8} : IntKind.i64.wrap ((BitVec.ofInt IntKind.i64.bits ((a.toNat * 16777216 + b.toNat * 65536 + c.toNat * 256 : Nat) : Int) ||| BitVec.ofInt IntKind.i64.bits (d.toNat : Int)).toNat : Int) = ((a.toNat * 16777216 + b.toNat * 65536 + c.toNat * 256 + d.toNat : Nat) : Int) := by
  have ha := a.toNat_lt
  have hb := b.toNat_lt
  have hc := c.toNat_lt
  have hd := d.toNat_lt
  have := or_add (a := a.toNat * 65536 + b.toNat * 256 + c.toNat) (b := d.toNat) (k := 8) (by omega) (by omega) (by omega) (by omega)
  rwa [show (a.toNat * 65536 + b.toNat * 256 + c.toNat) * 2 ^ 8 = a.toNat * 16777216 + b.toNat * 65536 + c.toNat * 256 by omega] at this
theorem scanNum_t {c : Scan} (h : (c.bad || !(readVar c.text c.pos).isSome) = true) : scanNum c = (0, { c with bad := true }) := by
  unfold scanNum
  cases hv : readVar c.text c.pos with
  | none => rfl
  | some q => rw [hv] at h; simp only [Option.isSome_some, Bool.not_true, Bool.or_false] at h; simp [h]
theorem scanNum_f {c : Scan} (h : (c.bad || !(readVar c.text c.pos).isSome) = false) : ∃ m e, readVar c.text c.pos = some (m, e) ∧ scanNum c = (m, { c with pos := (e : Int) }) := by
  cases hv : readVar c.text c.pos with
  | none => rw [hv] at h; simp at h
  | some q =>
    obtain ⟨m, e⟩ := q
    rw [hv] at h
    simp only [Option.isSome_some, Bool.not_true, Bool.or_false] at h
    exact ⟨m, e, rfl, by unfold scanNum; rw [hv]; simp [h]⟩
theorem scanShort_t {c : Scan} (h : (c.bad || !(readShort c.text c.pos).isSome) = true) : scanShort c = ([], { c with bad := true }) := by
  unfold scanShort
  cases hv : readShort c.text c.pos with
  | none => rfl
  | some q => rw [hv] at h; simp only [Option.isSome_some, Bool.not_true, Bool.or_false] at h; simp [h]
theorem scanShort_f {c : Scan} (h : (c.bad || !(readShort c.text c.pos).isSome) = false) : ∃ m e, readShort c.text c.pos = some (m, e) ∧ scanShort c = (m, { c with pos := (e : Int) }) := by
  cases hv : readShort c.text c.pos with
  | none => rw [hv] at h; simp at h
  | some q =>
    obtain ⟨m, e⟩ := q
    rw [hv] at h
    simp only [Option.isSome_some, Bool.not_true, Bool.or_false] at h
    exact ⟨m, e, rfl, by unfold scanShort; rw [hv]; simp [h]⟩
theorem body_len {t : Str} : ((unsealed t).getD []).length ≤ 20000 := by
  cases h : unsealed t with
  | none => simp
  | some b => have := (unsealed_some h).2; simpa using this
theorem readI_cond (t : Str) : (!(readI t).isSome) = (!(unsealed t).isSome || (scan4 ((unsealed t).getD []) false).2.bad || !decide ((scan4 ((unsealed t).getD []) false).2.pos = (((unsealed t).getD []).length : Int)) || decide (((scan4 ((unsealed t).getD []) false).1.length : Int) > 400)) := by
  unfold readI
  generalize (scan4 ((unsealed t).getD []) false).2.pos = a
  generalize (scan4 ((unsealed t).getD []) false).2.bad = b
  generalize (scan4 ((unsealed t).getD []) false).1.length = c
  generalize (unsealed t).isSome = d
  generalize scanP ((unsealed t).getD []) false = e
  generalize (((unsealed t).getD []).length : Int) = f
  cases b <;> cases d <;> simp
  by_cases h1 : a = f <;> by_cases h2 : c ≤ 400 <;> simp [h1, h2] <;> omega
theorem readI_some {t : Str} (h : (!(readI t).isSome) = false) : readI t = some (scanP ((unsealed t).getD []) false) := by
  unfold readI at *
  split at h
  · rename_i hc; rw [if_pos hc]
  · simp at h
theorem readS_cond (t : Str) : (!(readS t).isSome) = ((scan4 ((unsealed t).getD []) (unsealed t).isNone).2.bad || !(packetText (scanP ((unsealed t).getD []) (unsealed t).isNone)).isSome || !decide ((packetText (scanP ((unsealed t).getD []) (unsealed t).isNone)).getD [] = t)) := by
  unfold readS
  generalize (scan4 ((unsealed t).getD []) (unsealed t).isNone).2.bad = a
  generalize scanP ((unsealed t).getD []) (unsealed t).isNone = b
  cases h : packetText b with
  | none => cases a <;> simp
  | some c => cases a <;> by_cases h1 : c = t <;> simp [h1]
theorem readS_some {t : Str} (h : (!(readS t).isSome) = false) : readS t = some (scanP ((unsealed t).getD []) (unsealed t).isNone) := by
  unfold readS at *
  split at h
  · rename_i hc; rw [if_pos hc]
  · simp at h
end Go.Proofs.Ytjhfabimacljhaa.K
