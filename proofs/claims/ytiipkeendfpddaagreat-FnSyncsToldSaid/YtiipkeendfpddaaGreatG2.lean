/- Numbers as bytes, sums, packets: plain functions, and what the machine's arithmetic makes of them. -/
import Derived.Test.YtiipkeendfpddaaGreatPM
import Derived.Test.YtiipkeendfpddaaGreatG1
namespace Go.Proofs.YtiipkeendfpddaaGreat.K
open Go Go.RowKit
set_option linter.unusedVariables false
set_option linter.unusedSimpArgs false

def inR (x lo hi : Int) : Bool := decide (lo ≤ x) && decide (x ≤ hi)
theorem inR_t {x lo hi : Int} : inR x lo hi = true ↔ lo ≤ x ∧ x ≤ hi := by simp [inR]
structure Event where
  kind : Int
  place : Int
  num : Int
  text : Str
  deriving DecidableEq
abbrev cEvent (e : Event) : List V := [.int .i64 e.kind, .int .i64 e.place, .int .i64 e.num, .str e.text]
def eventOk (e : Event) : Bool := inR e.kind 1 10 && decide (0 ≤ e.place) && decide (0 ≤ e.num) && (decide (e.text = []) || decide (e.kind = 1) && decide ((e.text.length : Int) ≤ 100))

def szText (s : Str) (left : Int) : Int := if IntKind.i64.wrap (left - s.length) < 0 then -1 else IntKind.i64.wrap (left - s.length)
def varT (n : Nat) : Str := if h : n ≤ 127 then [UInt8.ofNat n] else UInt8.ofNat (n % 128 + 128) :: varT (n / 128)
termination_by n
decreasing_by omega
theorem varT_lo {n : Nat} (h : n ≤ 127) : varT n = [UInt8.ofNat n] := by rw [varT, dif_pos h]
theorem varT_hi {n : Nat} (h : 127 < n) : varT n = UInt8.ofNat (n % 128 + 128) :: varT (n / 128) := by rw [varT, dif_neg M58]
theorem varT_len5 {n : Nat} (h : n ≤ 34359738367) : (varT n).length ≤ 5 := by
  have e : ∀ m, m ≤ 127 → (varT m).length = 1 := fun m hm => by rw [varT_lo hm]; rfl
  have s : ∀ m k, 127 < m → (varT (m / 128)).length ≤ k → (varT m).length ≤ k + 1 := fun m k hm hk => by rw [varT_hi hm]; simpa using hk
  rcases Nat.lt_or_ge 127 n with h1 | h1
  · refine s n 4 h1 ?_
    rcases Nat.lt_or_ge 127 (n / 128) with h2 | h2
    · refine s _ 3 h2 ?_
      rcases Nat.lt_or_ge 127 (n / 128 / 128) with h3 | h3
      · refine s _ 2 h3 ?_
        rcases Nat.lt_or_ge 127 (n / 128 / 128 / 128) with h4 | h4
        · refine s _ 1 h4 ?_
          rw [e _ M58]
          exact Nat.le_refl 1
        · rw [e _ h4]; omega
      · rw [e _ h3]; omega
    · rw [e _ h2]; omega
  · rw [e _ h1]; omega
theorem wrap_u8_nat (n : Nat) : IntKind.u8.wrap (n : Int) = (((UInt8.ofNat n).toNat : Nat) : Int) := by
  rw [IntKind.wrap_u8]
  simp
theorem wrap_nat {n : Nat} (h : n ≤ 9223372036854775807) : IntKind.i64.wrap (n : Int) = n := by rw [IntKind.wrap_i64]; omega
theorem and_nat (a b : Nat) (ha : a < 9223372036854775808) (hb : b < 9223372036854775808) : (BitVec.ofInt 64 (a : Int) &&& BitVec.ofInt 64 (b : Int)).toNat = a &&& b := by
  rw [BitVec.toNat_and]
  simp only [BitVec.ofInt_natCast, BitVec.toNat_ofNat]
  rw [Nat.mod_eq_of_lt M58, Nat.mod_eq_of_lt M58]
theorem or_nat (a b : Nat) (ha : a < 9223372036854775808) (hb : b < 9223372036854775808) : (BitVec.ofInt 64 (a : Int) ||| BitVec.ofInt 64 (b : Int)).toNat = a ||| b := by
  rw [BitVec.toNat_or]
  simp only [BitVec.ofInt_natCast, BitVec.toNat_ofNat]
  rw [Nat.mod_eq_of_lt M58, Nat.mod_eq_of_lt M58]
theorem and127 (n : Nat) : n &&& 127 = n % 128 := Nat.and_two_pow_sub_one_eq_mod n 7
theorem or128 {n : Nat} (h : n < 128) : n ||| 128 = n + 128 := by
  have := Nat.two_pow_add_eq_or_of_lt (i := 7) (b := n) M58 1
  rw [show (2 : Nat) ^ 7 * 1 = 128 from rfl] at this
  rw [Nat.or_comm]
  omega
theorem bits_and127 {n : Nat} (h : n < 9223372036854775808) : IntKind.i64.wrap ((BitVec.ofInt IntKind.i64.bits (n : Int) &&& BitVec.ofInt IntKind.i64.bits 127).toNat : Int) = ((n % 128 : Nat) : Int) := by
  show IntKind.i64.wrap ((BitVec.ofInt 64 (n : Int) &&& BitVec.ofInt 64 127).toNat : Int) = _
  have : (BitVec.ofInt 64 (n : Int) &&& BitVec.ofInt 64 127).toNat = n % 128 := (and_nat n 127 h M58).trans (and127 n)
  rw [this, wrap_nat M58]
theorem bits_or128 {n : Nat} (h : n < 128) : IntKind.i64.wrap ((BitVec.ofInt IntKind.i64.bits (n : Int) ||| BitVec.ofInt IntKind.i64.bits 128).toNat : Int) = ((n + 128 : Nat) : Int) := by
  show IntKind.i64.wrap ((BitVec.ofInt 64 (n : Int) ||| BitVec.ofInt 64 128).toNat : Int) = _
  have : (BitVec.ofInt 64 (n : Int) ||| BitVec.ofInt 64 128).toNat = n + 128 := (or_nat n 128 M58 M58).trans (or128 h)
  rw [this, wrap_nat M58]

theorem rem128 (n : Nat) : ((n : Int)).tmod 128 = ((n % 128 : Nat) : Int) := by rw [Int.tmod_eq_emod_of_nonneg M58]; omega
theorem quo128 {n : Nat} (h : n ≤ 9223372036854775807) : IntKind.i64.wrap (((n : Int)).tdiv 128) = ((n / 128 : Nat) : Int) := by
  rw [Int.tdiv_eq_ediv_of_nonneg M58, IntKind.wrap_i64]; omega
theorem shr7 {n : Nat} : ((n : Int)).fdiv (2 ^ min (Int.toNat 7) IntKind.i64.bits) = ((n / 128 : Nat) : Int) := by
  rw [show (2 : Int) ^ min (Int.toNat 7) IntKind.i64.bits = ((128 : Nat) : Int) from rfl, Int.fdiv_eq_ediv_of_nonneg _ (Int.natCast_nonneg _)]; omega
theorem byte_hi {n : Nat} : IntKind.u8.wrap (IntKind.i64.wrap (((n : Int)).tmod 128 + 128)) = (((UInt8.ofNat (n % 128 + 128)).toNat : Nat) : Int) := by
  rw [rem128, show ((n % 128 : Nat) : Int) + 128 = ((n % 128 + 128 : Nat) : Int) by omega, wrap_nat M58, wrap_u8_nat]
theorem bytesV_app (xs : List UInt8) (es : List (List V)) : bytesV (xs.map cB ++ es) = (bytesV es).map (xs ++ ·) := by
  induction xs with
  | nil => simp
  | cons x xs ih => simp only [List.map_cons, List.cons_append, bytesV, ih, Int.toNat_natCast, UInt8.ofNat_toNat, Option.map_map]; rfl
theorem bytesV_cons (x : UInt8) (es : List (List V)) : bytesV ([.int .u8 (x.toNat : Int)] :: es) = (bytesV es).map (x :: ·) := by
  simp only [bytesV, Int.toNat_natCast, UInt8.ofNat_toNat]
theorem kby : (∀ (xs : List UInt8) (es : List (List V)), bytesV (xs.map cB ++ es) = (bytesV es).map (xs ++ ·)) ∧ (∀ (x : UInt8) (es : List (List V)), bytesV ([.int .u8 (x.toNat : Int)] :: es) = (bytesV es).map (x :: ·)) ∧ bytesV [] = some [] ∧ (∀ xs : List UInt8, bytesV (xs.map cB) = some xs) := ⟨bytesV_app, bytesV_cons, rfl, bytesV_map⟩
theorem ev_text' {ti : Tab} {t : List V} {n : Nat} {ty s d e : TypeId} {x : Operand} {L sz off : Nat} {es : List (List V)} {xs : List UInt8} {s1 b1 s2 b2 s3 b3 : Nat} {z1 z2 z3 : List V} (hx : opnd t x = .sl L sz off es) (hs : ti s = some ⟨.slice e, s1, b1, z1⟩) (hd : ti d = some ⟨.str, s2, b2, z2⟩)
    (he : ti e = some ⟨.int .u8, s3, b3, z3⟩) (hb : bytesV es = some xs) : ev1 ti t n ty (.convert s d x) = some (.str xs, n) := by
  simp only [ev1, hx, convV, hs, hd, he, Option.bind_some, hb, Option.map_some]
def bitS (x : BitVec 32) : BitVec 32 := if x.toNat % 2 = 1 then (x >>> 1) ^^^ 3558460437#32 else x >>> 1
def bitsS : Nat → BitVec 32 → BitVec 32
  | 0, x => x
  | k + 1, x => bitsS k (bitS x)
def sumS : BitVec 32 → Str → BitVec 32
  | x, [] => x
  | x, b :: l => sumS (bitsS 8 (x ^^^ BitVec.ofNat 32 b.toNat)) l
def sumOf (s : Str) : BitVec 32 := sumS 4294967295#32 s
theorem xor_nat32 (a b : BitVec 32) : IntKind.u32.wrap ((BitVec.ofInt 32 (a.toNat : Int) ^^^ BitVec.ofInt 32 (b.toNat : Int)).toNat : Int) = ((a ^^^ b).toNat : Int) := by
  have : BitVec.ofInt 32 (a.toNat : Int) ^^^ BitVec.ofInt 32 (b.toNat : Int) = a ^^^ b := by simp [BitVec.ofInt_natCast]
  rw [this, IntKind.wrap_u32]
  have := (a ^^^ b).isLt
  omega
theorem wrap_u32_nat {n : Nat} (h : n < 4294967296) : IntKind.u32.wrap (n : Int) = n := by rw [IntKind.wrap_u32]; omega
theorem xor_byte (a : BitVec 32) (b : UInt8) : IntKind.u32.wrap ((BitVec.ofInt IntKind.u32.bits (a.toNat : Int) ^^^ BitVec.ofInt IntKind.u32.bits (IntKind.u32.wrap (b.toNat : Int))).toNat : Int) = ((a ^^^ BitVec.ofNat 32 b.toNat).toNat : Int) := by
  show IntKind.u32.wrap ((BitVec.ofInt 32 (a.toNat : Int) ^^^ BitVec.ofInt 32 (IntKind.u32.wrap (b.toNat : Int))).toNat : Int) = _
  have hb := b.toNat_lt
  have h0 : IntKind.u32.wrap (b.toNat : Int) = (b.toNat : Int) := wrap_u32_nat M58
  rw [h0]
  have := xor_nat32 a (BitVec.ofNat 32 b.toNat)
  rwa [BitVec.toNat_ofNat, Nat.mod_eq_of_lt M58] at this
theorem xor_key (a : BitVec 32) : IntKind.u32.wrap ((BitVec.ofInt IntKind.u32.bits (a.toNat : Int) ^^^ BitVec.ofInt IntKind.u32.bits 3558460437).toNat : Int) = ((a ^^^ 3558460437#32).toNat : Int) := xor_nat32 a 3558460437#32
theorem half_u32 (a : BitVec 32) : IntKind.u32.wrap (((a.toNat : Int)).tdiv 2) = ((a >>> 1).toNat : Int) := by
  have := a.isLt
  rw [Int.tdiv_eq_ediv_of_nonneg M58, IntKind.wrap_u32, BitVec.toNat_ushiftRight, Nat.shiftRight_eq_div_pow]; omega
theorem shr1_u32 (a : BitVec 32) : ((a.toNat : Int)).fdiv (2 ^ min (Int.toNat 1) IntKind.u32.bits) = ((a >>> 1).toNat : Int) := by
  rw [show (2 : Int) ^ min (Int.toNat 1) IntKind.u32.bits = ((2 : Nat) : Int) from rfl, Int.fdiv_eq_ediv_of_nonneg _ (Int.natCast_nonneg _), BitVec.toNat_ushiftRight, Nat.shiftRight_eq_div_pow]; omega
theorem rem2_u32 (a : BitVec 32) : ((a.toNat : Int)).tmod 2 = ((a.toNat % 2 : Nat) : Int) := by rw [Int.tmod_eq_emod_of_nonneg M58]; omega
theorem and1_u32 (a : BitVec 32) : IntKind.u32.wrap ((BitVec.ofInt IntKind.u32.bits (a.toNat : Int) &&& BitVec.ofInt IntKind.u32.bits 1).toNat : Int) = ((a.toNat % 2 : Nat) : Int) := by
  show IntKind.u32.wrap ((BitVec.ofInt 32 (a.toNat : Int) &&& BitVec.ofInt 32 1).toNat : Int) = _
  have h1 : (BitVec.ofInt 32 (a.toNat : Int) &&& BitVec.ofInt 32 1).toNat = a.toNat % 2 := by
    rw [BitVec.toNat_and]
    have e1 : (BitVec.ofInt 32 (a.toNat : Int)).toNat = a.toNat := by simp [BitVec.ofInt_natCast]
    have e2 : (BitVec.ofInt 32 1).toNat = 1 := rfl
    rw [e1, e2, Nat.and_one_is_mod]
  rw [h1, wrap_u32_nat M58]
theorem nat_one (n : Nat) : (((n : Nat) : Int) = 1) = (n = 1) := propext ⟨fun h => by omega, fun h => by omega⟩
theorem bitS_t {x : BitVec 32} (h : x.toNat % 2 = 1) : bitS x = (x >>> 1) ^^^ 3558460437#32 := if_pos h
theorem bitS_f {x : BitVec 32} (h : ¬ x.toNat % 2 = 1) : bitS x = x >>> 1 := if_neg h
theorem bitsS_next {k : Nat} {x : BitVec 32} (h : k < 8) : bitsS (8 - k) x = bitsS (8 - (k + 1)) (bitS x) := by
  rw [show 8 - k = (8 - (k + 1)) + 1 by omega]; rfl
theorem sumS_next {x : BitVec 32} {s : Str} {i : Nat} (h : i < s.length) : sumS x (s.drop i) = sumS (bitsS 8 (x ^^^ BitVec.ofNat 32 s[i].toNat)) (s.drop (i + 1)) := by
  rw [List.drop_eq_getElem_cons h]; rfl
theorem by_shr (a : BitVec 32) : (IntKind.u8.wrap (((a.toNat : Int)).fdiv (2 ^ min (Int.toNat 24) IntKind.u32.bits)) = (((UInt8.ofNat (a.toNat / 16777216)).toNat : Nat) : Int)) ∧ (IntKind.u8.wrap (((a.toNat : Int)).fdiv (2 ^ min (Int.toNat 16) IntKind.u32.bits)) = (((UInt8.ofNat (a.toNat / 65536)).toNat : Nat) : Int)) ∧
    (IntKind.u8.wrap (((a.toNat : Int)).fdiv (2 ^ min (Int.toNat 8) IntKind.u32.bits)) = (((UInt8.ofNat (a.toNat / 256)).toNat : Nat) : Int)) := by
  refine ⟨?_, ?_, ?_⟩
  · rw [show (2 : Int) ^ min (Int.toNat 24) IntKind.u32.bits = ((16777216 : Nat) : Int) from rfl, Int.fdiv_eq_ediv_of_nonneg _ (Int.natCast_nonneg _), ← wrap_u8_nat]; rfl
  · rw [show (2 : Int) ^ min (Int.toNat 16) IntKind.u32.bits = ((65536 : Nat) : Int) from rfl, Int.fdiv_eq_ediv_of_nonneg _ (Int.natCast_nonneg _), ← wrap_u8_nat]; rfl
  · rw [show (2 : Int) ^ min (Int.toNat 8) IntKind.u32.bits = ((256 : Nat) : Int) from rfl, Int.fdiv_eq_ediv_of_nonneg _ (Int.natCast_nonneg _), ← wrap_u8_nat]; rfl
theorem by_shr64 (a : BitVec 32) : (IntKind.u8.wrap (((a.toNat : Int)).fdiv (2 ^ min (Int.toNat 24) IntKind.i64.bits)) = (((UInt8.ofNat (a.toNat / 16777216)).toNat : Nat) : Int)) ∧ (IntKind.u8.wrap (((a.toNat : Int)).fdiv (2 ^ min (Int.toNat 16) IntKind.i64.bits)) = (((UInt8.ofNat (a.toNat / 65536)).toNat : Nat) : Int)) ∧
    (IntKind.u8.wrap (((a.toNat : Int)).fdiv (2 ^ min (Int.toNat 8) IntKind.i64.bits)) = (((UInt8.ofNat (a.toNat / 256)).toNat : Nat) : Int)) := by_shr a
theorem wrap_sum (a : BitVec 32) : IntKind.i64.wrap (a.toNat : Int) = (a.toNat : Int) := by have := a.isLt; rw [IntKind.wrap_i64]; omega
def fourT (x : BitVec 32) : Str := [UInt8.ofNat (x.toNat / 16777216), UInt8.ofNat (x.toNat / 65536), UInt8.ofNat (x.toNat / 256), UInt8.ofNat x.toNat]
theorem fourT_len (x : BitVec 32) : (fourT x).length = 4 := rfl
def sealT (s : Str) : Str := s ++ fourT (sumOf s)
def sealed (s : Str) : Option Str := if 20000 < s.length then none else some (sealT s)
abbrev vO (r : Option Str) : V := .tup [.str (r.getD []), .bool r.isSome]
def packetOk (p : Packet) : Bool := inR p.epoch 0 1000000000 && inR p.seq 0 1000000000 && inR p.ack 0 1000000000 && decide ((p.text.length : Int) ≤ 400)
def packetBody (p : Packet) : Str := varT p.epoch.toNat ++ varT p.seq.toNat ++ varT p.ack.toNat ++ (varT p.text.length ++ p.text)
def packetText (p : Packet) : Option Str := if packetOk p = true then some (sealT (packetBody p)) else none
def varText (z : Int) : Option Str := if inR z 0 1000000000 = true then some (varT z.toNat) else none
theorem varText_t {z : Int} (h : inR z 0 1000000000 = true) : varText z = some (varT z.toNat) := if_pos h
theorem varText_f {z : Int} (h : inR z 0 1000000000 = false) : varText z = none := if_neg M124
def shortText (s : Str) : Option Str := if 20000 < s.length then none else some (varT s.length ++ s)
def varsZ : List Int → Str
  | [] => []
  | z :: l => varT z.toNat ++ varsZ l
theorem varsZ_append (a b : List Int) : varsZ (a ++ b) = varsZ a ++ varsZ b := by
  induction a with
  | nil => rfl
  | cons x a ih => simp [varsZ, ih]
theorem varsZ_len {a : List Int} (h : ∀ z ∈ a, inR z 0 1000000000 = true) : (varsZ a).length ≤ 5 * a.length := by
  induction a with
  | nil => simp [varsZ]
  | cons z a ih =>
    have := ih fun x hx => h x (List.mem_cons_of_mem _ hx)
    have h2 := inR_t.1 (h z List.mem_cons_self)
    have := varT_len5 (n := z.toNat) M58
    simp only [varsZ, List.length_append, List.length_cons]
    omega
theorem varsZ_next {a : List Int} {i : Nat} (h : i < a.length) : varsZ (a.take (i + 1)) = varsZ (a.take i) ++ varT a[i].toNat := by
  rw [List.take_succ_eq_append_getElem h, varsZ_append]; simp [varsZ]
abbrev cI (n : Nat) : List V := [.int .i64 (n : Int)]
abbrev cZ (n : Int) : List V := [.int .i64 n]
theorem labels_map {α : Type} {f : α → List V} (hf : ∀ x, V.labelsL (f x) = []) (xs : List α) : V.labelsLL (xs.map f) = [] := by
  induction xs with
  | nil => rfl
  | cons x xs ih => simp [V.labelsLL, hf, ih]
theorem dat_map {α : Type} {f : α → List V} (hf : ∀ x, V.datL (f x) = true) (xs : List α) : V.datLL (xs.map f) = true := by
  induction xs with
  | nil => rfl
  | cons x xs ih => simp [V.datLL, hf, ih]
theorem cnt_map {α : Type} {f : α → List V} (hf : ∀ x, V.cntL (f x) = 0) (xs : List α) : V.cntLL (xs.map f) = 0 := by
  induction xs with
  | nil => rfl
  | cons x xs ih => simp [V.cntLL, hf, ih]
theorem tag_map {α : Type} {f : α → List V} (hf : ∀ n x, V.tagL n (f x) = f x) (xs : List α) : ∀ n, V.tagLL n (xs.map f) = xs.map f := by
  induction xs with
  | nil => intro n; rfl
  | cons x xs ih => intro n; simp [V.tagLL, hf, ih]
theorem trav_app (f0 : Nat → V) (fs : Nat → Nat → Nat → List (List V) → V) (fp : Nat → Nat → Nat → List V → V) (a b : List (List V)) : V.travLL f0 fs fp (a ++ b) = V.travLL f0 fs fp a ++ V.travLL f0 fs fp b := by rw [travLL_eq, travLL_eq, travLL_eq, List.map_append]
theorem labels_app (a b : List (List V)) : V.labelsLL (a ++ b) = V.labelsLL a ++ V.labelsLL b := by
  induction a with
  | nil => rfl
  | cons x a ih => simp [V.labelsLL, ih]
theorem zz : (∀ (f0 : Nat → V) (fs : Nat → Nat → Nat → List (List V) → V) (fp : Nat → Nat → Nat → List V → V) (xs : List Str), V.travLL f0 fs fp (xs.map cS) = xs.map cS) ∧ (∀ (xs : List Str), V.labelsLL (xs.map cS) = []) ∧ (∀ (xs : List Str), V.datLL (xs.map cS) = true) ∧ (∀ (n : Nat) (xs : List Str), V.tagLL n (xs.map cS) = xs.map cS) ∧ (∀ (xs : List Str), V.cntLL (xs.map cS) = 0) ∧ (∀ (f0 : Nat → V) (fs : Nat → Nat → Nat → List (List V) → V) (fp : Nat → Nat → Nat → List V → V) (xs : List UInt8), V.travLL f0 fs fp (xs.map cB) = xs.map cB) ∧ (∀ (xs : List UInt8), V.labelsLL (xs.map cB) = []) ∧ (∀ (xs : List UInt8), V.datLL (xs.map cB) = true) ∧ (∀ (n : Nat) (xs : List UInt8), V.tagLL n (xs.map cB) = xs.map cB) ∧ (∀ (xs : List UInt8), V.cntLL (xs.map cB) = 0) ∧ (∀ (f0 : Nat → V) (fs : Nat → Nat → Nat → List (List V) → V) (fp : Nat → Nat → Nat → List V → V) (xs : List Nat), V.travLL f0 fs fp (xs.map cI) = xs.map cI) ∧ (∀ (xs : List Nat), V.labelsLL (xs.map cI) = []) ∧ (∀ (xs : List Nat), V.datLL (xs.map cI) = true) ∧ (∀ (n : Nat) (xs : List Nat), V.tagLL n (xs.map cI) = xs.map cI) ∧ (∀ (xs : List Nat), V.cntLL (xs.map cI) = 0) ∧ (∀ (f0 : Nat → V) (fs : Nat → Nat → Nat → List (List V) → V) (fp : Nat → Nat → Nat → List V → V) (xs : List Int), V.travLL f0 fs fp (xs.map cZ) = xs.map cZ) ∧ (∀ (xs : List Int), V.labelsLL (xs.map cZ) = []) ∧ (∀ (xs : List Int), V.datLL (xs.map cZ) = true) ∧ (∀ (n : Nat) (xs : List Int), V.tagLL n (xs.map cZ) = xs.map cZ) ∧ (∀ (xs : List Int), V.cntLL (xs.map cZ) = 0) ∧ (∀ (f0 : Nat → V) (fs : Nat → Nat → Nat → List (List V) → V) (fp : Nat → Nat → Nat → List V → V) (a b : List (List V)), V.travLL f0 fs fp (a ++ b) = V.travLL f0 fs fp a ++ V.travLL f0 fs fp b) ∧ (∀ a b : List (List V), V.labelsLL (a ++ b) = V.labelsLL a ++ V.labelsLL b) ∧ V.labelsLL [] = [] :=
  ⟨fun f0 fs fp xs => travLL_map (fun _ => rfl) xs, fun xs => labels_map (fun _ => rfl) xs, fun xs => dat_map (fun _ => rfl) xs, fun n xs => tag_map (fun _ _ => rfl) xs n, fun xs => cnt_map (fun _ => rfl) xs, fun f0 fs fp xs => travLL_map (fun _ => rfl) xs, fun xs => labels_map (fun _ => rfl) xs, fun xs => dat_map (fun _ => rfl) xs, fun n xs => tag_map (fun _ _ => rfl) xs n, fun xs => cnt_map (fun _ => rfl) xs, fun f0 fs fp xs => travLL_map (fun _ => rfl) xs, fun xs => labels_map (fun _ => rfl) xs, fun xs => dat_map (fun _ => rfl) xs, fun n xs => tag_map (fun _ _ => rfl) xs n, fun xs => cnt_map (fun _ => rfl) xs, fun f0 fs fp xs => travLL_map (fun _ => rfl) xs, fun xs => labels_map (fun _ => rfl) xs, fun xs => dat_map (fun _ => rfl) xs, fun n xs => tag_map (fun _ _ => rfl) xs n, fun xs => cnt_map (fun _ => rfl) xs, trav_app, labels_app, rfl⟩
end Go.Proofs.YtiipkeendfpddaaGreat.K
