/- Numbers as bytes, sums, packets: plain functions, and what the machine's arithmetic makes of them. -/
import Derived.Test.YtliiphpbfambcaaGreatDoorG1
namespace Go.Proofs.YtliiphpbfambcaaGreatDoor.K
open Go Go.RowKit
set_option linter.unusedVariables false
set_option linter.unusedSimpArgs false

def inR (x lo hi : Int) : Bool := decide (lo ≤ x) && decide (x ≤ hi)
theorem inR_t {x lo hi : Int} : inR x lo hi = true ↔ lo ≤ x ∧ x ≤ hi := by simp [inR]
theorem inR_f {x lo hi : Int} : inR x lo hi = false ↔ ¬ (lo ≤ x ∧ x ≤ hi) := by rw [← inR_t]; simp
structure Event where
  kind : Int
  place : Int
  num : Int
  text : Str
  deriving DecidableEq
abbrev cEvent (e : Event) : List V := [.int .i64 e.kind, .int .i64 e.place, .int .i64 e.num, .str e.text]
def eventOk (e : Event) : Bool := inR e.kind 1 10 && decide (0 ≤ e.place) && decide (0 ≤ e.num) && (decide (e.text = []) || decide (e.kind = 1) && decide ((e.text.length : Int) ≤ 100))

def szText (s : Str) (left : Int) : Int := if IntKind.i64.wrap (left - s.length) < 0 then -1 else IntKind.i64.wrap (left - s.length)
def varT (n : Nat) : Str := if h : n ≤ 127 then [UInt8.ofNat n] else UInt8.ofNat (n % 128 + 128) :: varT (n / 128)
termination_by n
decreasing_by omega
theorem wrap_u8_nat (n : Nat) : IntKind.u8.wrap (n : Int) = (((UInt8.ofNat n).toNat : Nat) : Int) := by
  rw [IntKind.wrap_u8]
  simp
theorem wrap_nat {n : Nat} (h : n ≤ 9223372036854775807) : IntKind.i64.wrap (n : Int) = n := by rw [IntKind.wrap_i64]; omega
theorem bytesV_app (xs : List UInt8) (es : List (List V)) : bytesV (xs.map cB ++ es) = (bytesV es).map (xs ++ ·) := by
  induction xs with
  | nil => simp
  | cons x xs ih => simp only [List.map_cons, List.cons_append, bytesV, ih, Int.toNat_natCast, UInt8.ofNat_toNat, Option.map_map]; rfl
theorem bytesV_cons (x : UInt8) (es : List (List V)) : bytesV ([.int .u8 (x.toNat : Int)] :: es) = (bytesV es).map (x :: ·) := by
  simp only [bytesV, Int.toNat_natCast, UInt8.ofNat_toNat]
theorem kby : (∀ (xs : List UInt8) (es : List (List V)), bytesV (xs.map cB ++ es) = (bytesV es).map (xs ++ ·)) ∧ (∀ (x : UInt8) (es : List (List V)), bytesV ([.int .u8 (x.toNat : Int)] :: es) = (bytesV es).map (x :: ·)) ∧ bytesV [] = some [] ∧ (∀ xs : List UInt8, bytesV (xs.map cB) = some xs) := ⟨bytesV_app, bytesV_cons, rfl, bytesV_map⟩
theorem ev_text' {ti : Tab} {t : List V} {n : Nat} {ty s d e : TypeId} {x : Operand} {L sz off : Nat} {es : List (List V)} {xs : List UInt8} {s1 b1 s2 b2 s3 b3 : Nat} {z1 z2 z3 : List V} (hx : opnd t x = .sl L sz off es) (hs : ti s = some ⟨.slice e, s1, b1, z1⟩) (hd : ti d = some ⟨.str, s2, b2, z2⟩)
    (he : ti e = some ⟨.int .u8, s3, b3, z3⟩) (hb : bytesV es = some xs) : ev1 ti t n ty (.convert s d x) = some (.str xs, n) := by
  simp only [ev1, hx, convV, hs, hd, he, Option.bind_some, hb, Option.map_some]
def bitS (x : BitVec 32) : BitVec 32 := if x.toNat % 2 = 1 then (x >>> 1) ^^^ 3558460437#32 else x >>> 1
def bitsS : Nat → BitVec 32 → BitVec 32
  | 0, x => x
  | k + 1, x => bitsS k (bitS x)
def sumS : BitVec 32 → Str → BitVec 32
  | x, [] => x
  | x, b :: l => sumS (bitsS 8 (x ^^^ BitVec.ofNat 32 b.toNat)) l
def sumOf (s : Str) : BitVec 32 := sumS 4294967295#32 s
def fourT (x : BitVec 32) : Str := [UInt8.ofNat (x.toNat / 16777216), UInt8.ofNat (x.toNat / 65536), UInt8.ofNat (x.toNat / 256), UInt8.ofNat x.toNat]
def sealT (s : Str) : Str := s ++ fourT (sumOf s)
def sealed (s : Str) : Option Str := if 20000 < s.length then none else some (sealT s)
abbrev vO (r : Option Str) : V := .tup [.str (r.getD []), .bool r.isSome]
def packetOk (p : Packet) : Bool := inR p.epoch 0 1000000000 && inR p.seq 0 1000000000 && inR p.ack 0 1000000000 && decide ((p.text.length : Int) ≤ 400)
def packetBody (p : Packet) : Str := varT p.epoch.toNat ++ varT p.seq.toNat ++ varT p.ack.toNat ++ (varT p.text.length ++ p.text)
def packetText (p : Packet) : Option Str := if packetOk p = true then some (sealT (packetBody p)) else none
def varText (z : Int) : Option Str := if inR z 0 1000000000 = true then some (varT z.toNat) else none
def shortText (s : Str) : Option Str := if 20000 < s.length then none else some (varT s.length ++ s)
def varsZ : List Int → Str
  | [] => []
  | z :: l => varT z.toNat ++ varsZ l
abbrev cI (n : Nat) : List V := [.int .i64 (n : Int)]
abbrev cZ (n : Int) : List V := [.int .i64 n]
theorem labels_map {α : Type} {f : α → List V} (hf : ∀ x, V.labelsL (f x) = []) (xs : List α) : V.labelsLL (xs.map f) = [] := by
  induction xs with
  | nil => rfl
  | cons x xs ih => simp [V.labelsLL, hf, ih]
theorem dat_map {α : Type} {f : α → List V} (hf : ∀ x, V.datL (f x) = true) (xs : List α) : V.datLL (xs.map f) = true := by
  induction xs with
  | nil => rfl
  | cons x xs ih => simp [V.datLL, hf, ih]
theorem cnt_map {α : Type} {f : α → List V} (hf : ∀ x, V.cntL (f x) = 0) (xs : List α) : V.cntLL (xs.map f) = 0 := by
  induction xs with
  | nil => rfl
  | cons x xs ih => simp [V.cntLL, hf, ih]
theorem tag_map {α : Type} {f : α → List V} (hf : ∀ n x, V.tagL n (f x) = f x) (xs : List α) : ∀ n, V.tagLL n (xs.map f) = xs.map f := by
  induction xs with
  | nil => intro n; rfl
  | cons x xs ih => intro n; simp [V.tagLL, hf, ih]
theorem trav_app (f0 : Nat → V) (fs : Nat → Nat → Nat → List (List V) → V) (fp : Nat → Nat → Nat → List V → V) (a b : List (List V)) : V.travLL f0 fs fp (a ++ b) = V.travLL f0 fs fp a ++ V.travLL f0 fs fp b := by rw [travLL_eq, travLL_eq, travLL_eq, List.map_append]
theorem labels_app (a b : List (List V)) : V.labelsLL (a ++ b) = V.labelsLL a ++ V.labelsLL b := by
  induction a with
  | nil => rfl
  | cons x a ih => simp [V.labelsLL, ih]
theorem zz : (∀ (f0 : Nat → V) (fs : Nat → Nat → Nat → List (List V) → V) (fp : Nat → Nat → Nat → List V → V) (xs : List Str), V.travLL f0 fs fp (xs.map cS) = xs.map cS) ∧ (∀ (xs : List Str), V.labelsLL (xs.map cS) = []) ∧ (∀ (xs : List Str), V.datLL (xs.map cS) = true) ∧ (∀ (n : Nat) (xs : List Str), V.tagLL n (xs.map cS) = xs.map cS) ∧ (∀ (xs : List Str), V.cntLL (xs.map cS) = 0) ∧ (∀ (f0 : Nat → V) (fs : Nat → Nat → Nat → List (List V) → V) (fp : Nat → Nat → Nat → List V → V) (xs : List UInt8), V.travLL f0 fs fp (xs.map cB) = xs.map cB) ∧ (∀ (xs : List UInt8), V.labelsLL (xs.map cB) = []) ∧ (∀ (xs : List UInt8), V.datLL (xs.map cB) = true) ∧ (∀ (n : Nat) (xs : List UInt8), V.tagLL n (xs.map cB) = xs.map cB) ∧ (∀ (xs : List UInt8), V.cntLL (xs.map cB) = 0) ∧ (∀ (f0 : Nat → V) (fs : Nat → Nat → Nat → List (List V) → V) (fp : Nat → Nat → Nat → List V → V) (xs : List Nat), V.travLL f0 fs fp (xs.map cI) = xs.map cI) ∧ (∀ (xs : List Nat), V.labelsLL (xs.map cI) = []) ∧ (∀ (xs : List Nat), V.datLL (xs.map cI) = true) ∧ (∀ (n : Nat) (xs : List Nat), V.tagLL n (xs.map cI) = xs.map cI) ∧ (∀ (xs : List Nat), V.cntLL (xs.map cI) = 0) ∧ (∀ (f0 : Nat → V) (fs : Nat → Nat → Nat → List (List V) → V) (fp : Nat → Nat → Nat → List V → V) (xs : List Int), V.travLL f0 fs fp (xs.map cZ) = xs.map cZ) ∧ (∀ (xs : List Int), V.labelsLL (xs.map cZ) = []) ∧ (∀ (xs : List Int), V.datLL (xs.map cZ) = true) ∧ (∀ (n : Nat) (xs : List Int), V.tagLL n (xs.map cZ) = xs.map cZ) ∧ (∀ (xs : List Int), V.cntLL (xs.map cZ) = 0) ∧ (∀ (f0 : Nat → V) (fs : Nat → Nat → Nat → List (List V) → V) (fp : Nat → Nat → Nat → List V → V) (a b : List (List V)), V.travLL f0 fs fp (a ++ b) = V.travLL f0 fs fp a ++ V.travLL f0 fs fp b) ∧ (∀ a b : List (List V), V.labelsLL (a ++ b) = V.labelsLL a ++ V.labelsLL b) ∧ V.labelsLL [] = [] :=
  ⟨fun f0 fs fp xs => travLL_map (fun _ => rfl) xs, fun xs => labels_map (fun _ => rfl) xs, fun xs => dat_map (fun _ => rfl) xs, fun n xs => tag_map (fun _ _ => rfl) xs n, fun xs => cnt_map (fun _ => rfl) xs, fun f0 fs fp xs => travLL_map (fun _ => rfl) xs, fun xs => labels_map (fun _ => rfl) xs, fun xs => dat_map (fun _ => rfl) xs, fun n xs => tag_map (fun _ _ => rfl) xs n, fun xs => cnt_map (fun _ => rfl) xs, fun f0 fs fp xs => travLL_map (fun _ => rfl) xs, fun xs => labels_map (fun _ => rfl) xs, fun xs => dat_map (fun _ => rfl) xs, fun n xs => tag_map (fun _ _ => rfl) xs n, fun xs => cnt_map (fun _ => rfl) xs, fun f0 fs fp xs => travLL_map (fun _ => rfl) xs, fun xs => labels_map (fun _ => rfl) xs, fun xs => dat_map (fun _ => rfl) xs, fun n xs => tag_map (fun _ _ => rfl) xs n, fun xs => cnt_map (fun _ => rfl) xs, trav_app, labels_app, rfl⟩
end Go.Proofs.YtliiphpbfambcaaGreatDoor.K
