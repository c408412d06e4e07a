/- Links put, syncs ended, marks: plain functions. -/
import Derived.Test.YtjhfabimacljhaaGreatG2
import Derived.Test.YtjhfabimacljhaaGreatG3
import Derived.Test.YtjhfabimacljhaaGreatG1
namespace Go.Proofs.YtjhfabimacljhaaGreat.K
open Go Go.RowKit
set_option linter.unusedVariables false
set_option linter.unusedSimpArgs false
def linkFull (l : Link) (t : Str) : Bool := decide ((l.way.length : Int) ≥ 60) || !inR (t.length : Int) 1 400
def linkPut (l : Link) (t : Str) : Link × Bool := if linkFull l t = true then (l, false) else ({ l with way := l.way ++ [t] }, true)
abbrev vLB (r : Link × Bool) : V := .tup [.agg (cLink r.1), .bool r.2]
def syncEnds (y : Sync) (b : Bool) : Sync := if b = true then { y with done := true } else { y with failed := true }
def decGo (m : Nat) (acc : Str) : Str := if h : 0 < m then decGo (m / 10) (UInt8.ofNat (48 + m % 10) :: acc) else acc
termination_by m
decreasing_by omega
theorem decGo_pos {m : Nat} {acc : Str} (h : 0 < m) : decGo m acc = decGo (m / 10) (UInt8.ofNat (48 + m % 10) :: acc) := by rw [decGo, dif_pos h]
theorem decGo_zero {m : Nat} {acc : Str} (h : ¬ 0 < m) : decGo m acc = acc := by rw [decGo, dif_neg h]
def markT (k : Nat) : Str := if k = 0 then [109, 48] else 109 :: decGo k []
theorem digit_byte {m : Nat} : IntKind.u8.wrap (IntKind.i64.wrap (48 + ((m : Int)).tmod 10)) = (((UInt8.ofNat (48 + m % 10)).toNat : Nat) : Int) := by
  rw [Int.tmod_eq_emod_of_nonneg (by omega), show (48 : Int) + (m : Int) % 10 = ((48 + m % 10 : Nat) : Int) by omega, wrap_nat (by omega), wrap_u8_nat]
theorem quo10 {n : Nat} (h : n ≤ 9223372036854775807) : IntKind.i64.wrap (((n : Int)).tdiv 10) = ((n / 10 : Nat) : Int) := by
  rw [Int.tdiv_eq_ediv_of_nonneg (by omega), IntKind.wrap_i64]; omega
def marks (k n : Nat) : List Str := (List.range' k n).map markT
end Go.Proofs.YtjhfabimacljhaaGreat.K

/- The program's data as plain data, and how it lies in cells. Printed by gendata.py. -/
namespace Go.Proofs.YtjhfabimacljhaaGreat.K
open Go Go.RowKit
set_option linter.unusedVariables false
set_option linter.unusedSimpArgs false
structure Stamp where
  time : Int
  by_ : Int
  deriving DecidableEq
abbrev cStamp (x : Stamp) : List V := [.int .i64 x.time, .int .i64 x.by_]
structure Reg where
  val : Int
  stamp : Stamp
  deriving DecidableEq
abbrev cReg (x : Reg) : List V := [.int .i64 x.val, .int .i64 x.stamp.time, .int .i64 x.stamp.by_]
structure Mail where
  gid : Int
  uid : Int
  flags : List Reg
  text : Str
  deriving DecidableEq
abbrev cMail (x : Mail) : List V := [.int .i64 x.gid, .int .i64 x.uid, .sl 0 3 0 (x.flags.map cReg), .str x.text]
structure Box where
  gid : Int
  name : Str
  named : Stamp
  next : Int
  mails : List Mail
  gone : List Int
  deriving DecidableEq
abbrev cBox (x : Box) : List V := [.int .i64 x.gid, .str x.name, .int .i64 x.named.time, .int .i64 x.named.by_, .int .i64 x.next, .sl 0 4 0 (x.mails.map cMail), .sl 0 1 0 (x.gone.map cZ)]
structure Store where
  by_ : Int
  time : Int
  boxes : List Box
  gone : List Int
  deriving DecidableEq
abbrev cStore (x : Store) : List V := [.int .i64 x.by_, .int .i64 x.time, .sl 0 7 0 (x.boxes.map cBox), .sl 0 1 0 (x.gone.map cZ)]
structure Kept where
  store : Store
  journal : Str
  saved : Int
  deriving DecidableEq
abbrev cKept (x : Kept) : List V := [.int .i64 x.store.by_, .int .i64 x.store.time, .sl 0 7 0 (x.store.boxes.map cBox), .sl 0 1 0 (x.store.gone.map cZ), .str x.journal, .int .i64 x.saved]
structure Session where
  inn : Str
  out : Str
  on : Bool
  over : Bool
  box : Int
  view : List Int
  deriving DecidableEq
abbrev cSession (x : Session) : List V := [.str x.inn, .str x.out, .bool x.on, .bool x.over, .int .i64 x.box, .sl 0 1 0 (x.view.map cZ)]
structure Server where
  kept : Kept
  session : Session
  up : Bool
  deriving DecidableEq
abbrev cServer (x : Server) : List V := [.int .i64 x.kept.store.by_, .int .i64 x.kept.store.time, .sl 0 7 0 (x.kept.store.boxes.map cBox), .sl 0 1 0 (x.kept.store.gone.map cZ), .str x.kept.journal, .int .i64 x.kept.saved, .str x.session.inn, .str x.session.out, .bool x.session.on, .bool x.session.over, .int .i64 x.session.box, .sl 0 1 0 (x.session.view.map cZ), .bool x.up]
structure Letter where
  to_ : Int
  text : Str
  deriving DecidableEq
abbrev cLetter (x : Letter) : List V := [.int .i64 x.to_, .str x.text]
structure Pair where
  servers : List Server
  syncs : List Sync
  net : List Letter
  epoch : Int
  deriving DecidableEq
abbrev cPair (x : Pair) : List V := [.sl 0 13 0 (x.servers.map cServer), .sl 0 9 0 (x.syncs.map cSync), .sl 0 2 0 (x.net.map cLetter), .int .i64 x.epoch]
structure Life where
  pair : Pair
  codes : List Int
  deriving DecidableEq
abbrev cLife (x : Life) : List V := [.sl 0 13 0 (x.pair.servers.map cServer), .sl 0 9 0 (x.pair.syncs.map cSync), .sl 0 2 0 (x.pair.net.map cLetter), .int .i64 x.pair.epoch, .sl 0 1 0 (x.codes.map cZ)]
structure Call where
  kind : Int
  box : Int
  gid : Int
  flags : Int
  text : Str
  deriving DecidableEq
abbrev cCall (x : Call) : List V := [.int .i64 x.kind, .int .i64 x.box, .int .i64 x.gid, .int .i64 x.flags, .str x.text]
structure Token where
  kind : Int
  text : Str
  deriving DecidableEq
abbrev cToken (x : Token) : List V := [.int .i64 x.kind, .str x.text]
structure Range where
  frm : Int
  to_ : Int
  deriving DecidableEq
abbrev cRange (x : Range) : List V := [.int .i64 x.frm, .int .i64 x.to_]
theorem labels0_map {α : Type} {f : α → List V} (hf : ∀ x, ∀ L ∈ V.labelsL (f x), L = 0) (xs : List α) : ∀ L ∈ V.labelsLL (xs.map f), L = 0 := by
  induction xs with
  | nil => intro L h; cases h
  | cons x xs ih =>
    intro L h
    simp only [List.map_cons, V.labelsLL, List.mem_append] at h
    rcases h with h | h
    · exact hf x L h
    · exact ih L h
theorem trav0_map {α : Type} {f : α → List V} {f0 : Nat → V} {fs : Nat → Nat → Nat → List (List V) → V} {fp : Nat → Nat → Nat → List V → V} (hf : ∀ x, V.travL f0 fs fp (f x) = f x) (xs : List α) : V.travLL f0 fs fp (xs.map f) = xs.map f := travLL_map hf xs
theorem zf : (∀ (f0 : Nat → V) (fs : Nat → Nat → Nat → List (List V) → V) (fp : Nat → Nat → Nat → List V → V) (xs : List Stamp), V.travLL f0 fs fp (xs.map cStamp) = xs.map cStamp) ∧ (∀ (xs : List Stamp), V.labelsLL (xs.map cStamp) = []) ∧ (∀ (xs : List Stamp), V.datLL (xs.map cStamp) = true) ∧ (∀ (n : Nat) (xs : List Stamp), V.tagLL n (xs.map cStamp) = xs.map cStamp) ∧ (∀ (xs : List Stamp), V.cntLL (xs.map cStamp) = 0) ∧ (∀ (f0 : Nat → V) (fs : Nat → Nat → Nat → List (List V) → V) (fp : Nat → Nat → Nat → List V → V) (xs : List Reg), V.travLL f0 fs fp (xs.map cReg) = xs.map cReg) ∧ (∀ (xs : List Reg), V.labelsLL (xs.map cReg) = []) ∧ (∀ (xs : List Reg), V.datLL (xs.map cReg) = true) ∧ (∀ (n : Nat) (xs : List Reg), V.tagLL n (xs.map cReg) = xs.map cReg) ∧ (∀ (xs : List Reg), V.cntLL (xs.map cReg) = 0) ∧ (∀ (f0 : Nat → V) (fs : Nat → Nat → Nat → List (List V) → V) (fp : Nat → Nat → Nat → List V → V) (xs : List Letter), V.travLL f0 fs fp (xs.map cLetter) = xs.map cLetter) ∧ (∀ (xs : List Letter), V.labelsLL (xs.map cLetter) = []) ∧ (∀ (xs : List Letter), V.datLL (xs.map cLetter) = true) ∧ (∀ (n : Nat) (xs : List Letter), V.tagLL n (xs.map cLetter) = xs.map cLetter) ∧ (∀ (xs : List Letter), V.cntLL (xs.map cLetter) = 0) ∧ (∀ (f0 : Nat → V) (fs : Nat → Nat → Nat → List (List V) → V) (fp : Nat → Nat → Nat → List V → V) (xs : List Call), V.travLL f0 fs fp (xs.map cCall) = xs.map cCall) ∧ (∀ (xs : List Call), V.labelsLL (xs.map cCall) = []) ∧ (∀ (xs : List Call), V.datLL (xs.map cCall) = true) ∧ (∀ (n : Nat) (xs : List Call), V.tagLL n (xs.map cCall) = xs.map cCall) ∧ (∀ (xs : List Call), V.cntLL (xs.map cCall) = 0) ∧ (∀ (f0 : Nat → V) (fs : Nat → Nat → Nat → List (List V) → V) (fp : Nat → Nat → Nat → List V → V) (xs : List Token), V.travLL f0 fs fp (xs.map cToken) = xs.map cToken) ∧ (∀ (xs : List Token), V.labelsLL (xs.map cToken) = []) ∧ (∀ (xs : List Token), V.datLL (xs.map cToken) = true) ∧ (∀ (n : Nat) (xs : List Token), V.tagLL n (xs.map cToken) = xs.map cToken) ∧ (∀ (xs : List Token), V.cntLL (xs.map cToken) = 0) ∧ (∀ (f0 : Nat → V) (fs : Nat → Nat → Nat → List (List V) → V) (fp : Nat → Nat → Nat → List V → V) (xs : List Range), V.travLL f0 fs fp (xs.map cRange) = xs.map cRange) ∧ (∀ (xs : List Range), V.labelsLL (xs.map cRange) = []) ∧ (∀ (xs : List Range), V.datLL (xs.map cRange) = true) ∧ (∀ (n : Nat) (xs : List Range), V.tagLL n (xs.map cRange) = xs.map cRange) ∧ (∀ (xs : List Range), V.cntLL (xs.map cRange) = 0) :=
  ⟨fun f0 fs fp xs => travLL_map (fun _ => rfl) xs, fun xs => labels_map (fun _ => rfl) xs, fun xs => dat_map (fun _ => rfl) xs, fun n xs => tag_map (fun _ _ => rfl) xs n, fun xs => cnt_map (fun _ => rfl) xs, fun f0 fs fp xs => travLL_map (fun _ => rfl) xs, fun xs => labels_map (fun _ => rfl) xs, fun xs => dat_map (fun _ => rfl) xs, fun n xs => tag_map (fun _ _ => rfl) xs n, fun xs => cnt_map (fun _ => rfl) xs, fun f0 fs fp xs => travLL_map (fun _ => rfl) xs, fun xs => labels_map (fun _ => rfl) xs, fun xs => dat_map (fun _ => rfl) xs, fun n xs => tag_map (fun _ _ => rfl) xs n, fun xs => cnt_map (fun _ => rfl) xs, fun f0 fs fp xs => travLL_map (fun _ => rfl) xs, fun xs => labels_map (fun _ => rfl) xs, fun xs => dat_map (fun _ => rfl) xs, fun n xs => tag_map (fun _ _ => rfl) xs n, fun xs => cnt_map (fun _ => rfl) xs, fun f0 fs fp xs => travLL_map (fun _ => rfl) xs, fun xs => labels_map (fun _ => rfl) xs, fun xs => dat_map (fun _ => rfl) xs, fun n xs => tag_map (fun _ _ => rfl) xs n, fun xs => cnt_map (fun _ => rfl) xs, fun f0 fs fp xs => travLL_map (fun _ => rfl) xs, fun xs => labels_map (fun _ => rfl) xs, fun xs => dat_map (fun _ => rfl) xs, fun n xs => tag_map (fun _ _ => rfl) xs n, fun xs => cnt_map (fun _ => rfl) xs⟩
theorem t0_Sync {f0 : Nat → V} {fs : Nat → Nat → Nat → List (List V) → V} {fp : Nat → Nat → Nat → List V → V} (h : ∀ sz es, fs 0 sz 0 es = .sl 0 sz 0 es) (x : Sync) : V.travL f0 fs fp (cSync x) = cSync x := by
  simp only [cSync, V.travL, V.trav, zz, zf, h]
theorem l0_Sync (x : Sync) : ∀ L ∈ V.labelsL (cSync x), L = 0 := by
  intro L hL
  simp only [cSync, V.labelsL, V.labels, zz, zf, List.mem_append, List.mem_cons, List.not_mem_nil, or_false, false_or, List.append_nil, List.nil_append] at hL
  first | exact hL | omega | (repeat (first | exact hL | exact absurd hL id | (rcases hL with hL | hL)))
theorem d0_Sync (x : Sync) : V.datL (cSync x) = true := by
  simp [cSync, V.datL, V.dat, zz, zf]
theorem t0_Mail {f0 : Nat → V} {fs : Nat → Nat → Nat → List (List V) → V} {fp : Nat → Nat → Nat → List V → V} (h : ∀ sz es, fs 0 sz 0 es = .sl 0 sz 0 es) (x : Mail) : V.travL f0 fs fp (cMail x) = cMail x := by
  simp only [cMail, V.travL, V.trav, zz, zf, h]
theorem l0_Mail (x : Mail) : ∀ L ∈ V.labelsL (cMail x), L = 0 := by
  intro L hL
  simp only [cMail, V.labelsL, V.labels, zz, zf, List.mem_append, List.mem_cons, List.not_mem_nil, or_false, false_or, List.append_nil, List.nil_append] at hL
  first | exact hL | omega | (repeat (first | exact hL | exact absurd hL id | (rcases hL with hL | hL)))
theorem d0_Mail (x : Mail) : V.datL (cMail x) = true := by
  simp [cMail, V.datL, V.dat, zz, zf]
theorem t0_Box {f0 : Nat → V} {fs : Nat → Nat → Nat → List (List V) → V} {fp : Nat → Nat → Nat → List V → V} (h : ∀ sz es, fs 0 sz 0 es = .sl 0 sz 0 es) (x : Box) : V.travL f0 fs fp (cBox x) = cBox x := by
  simp only [cBox, V.travL, V.trav, zz, zf, h, trav0_map (t0_Mail h)]
theorem l0_Box (x : Box) : ∀ L ∈ V.labelsL (cBox x), L = 0 := by
  intro L hL
  simp only [cBox, V.labelsL, V.labels, zz, zf, List.mem_append, List.mem_cons, List.not_mem_nil, or_false, false_or, List.append_nil, List.nil_append] at hL
  first | exact hL | omega | (repeat (first | exact hL | exact absurd hL id | (rcases hL with hL | hL) | exact labels0_map l0_Mail _ L hL))
theorem d0_Box (x : Box) : V.datL (cBox x) = true := by
  simp [cBox, V.datL, V.dat, zz, zf, dat_map d0_Mail]
theorem t0_Server {f0 : Nat → V} {fs : Nat → Nat → Nat → List (List V) → V} {fp : Nat → Nat → Nat → List V → V} (h : ∀ sz es, fs 0 sz 0 es = .sl 0 sz 0 es) (x : Server) : V.travL f0 fs fp (cServer x) = cServer x := by
  simp only [cServer, V.travL, V.trav, zz, zf, h, trav0_map (t0_Box h)]
theorem l0_Server (x : Server) : ∀ L ∈ V.labelsL (cServer x), L = 0 := by
  intro L hL
  simp only [cServer, V.labelsL, V.labels, zz, zf, List.mem_append, List.mem_cons, List.not_mem_nil, or_false, false_or, List.append_nil, List.nil_append] at hL
  first | exact hL | omega | (repeat (first | exact hL | exact absurd hL id | (rcases hL with hL | hL) | exact labels0_map l0_Box _ L hL))
theorem d0_Server (x : Server) : V.datL (cServer x) = true := by
  simp [cServer, V.datL, V.dat, zz, zf, dat_map d0_Box]
theorem zy : (∀ (xs : List Sync), V.travLL (fun sz => V.sl 0 sz 0 []) (fun _ sz _ es => V.sl 0 sz 0 es) (fun _ _ o e => V.ptr 0 0 o e) (xs.map cSync) = xs.map cSync) ∧ (∀ (L i : Nat) (e : List V) (xs : List Sync), V.travLL V.nil (updS (L + 1) i e) (updP (L + 1) i e) (xs.map cSync) = xs.map cSync) ∧ (∀ (L : Nat) (xs : List Sync), V.travLL V.nil (killS (L + 1)) (killP (L + 1)) (xs.map cSync) = xs.map cSync) ∧ (∀ (xs : List Sync), (∀ L ∈ V.labelsLL (xs.map cSync), L = 0) = True) ∧ (∀ (xs : List Sync), V.datLL (xs.map cSync) = true) ∧ (∀ (L : Nat) (xs : List Sync), (L + 1 ∈ V.labelsLL (xs.map cSync)) = False) ∧ (∀ (k : Nat) (xs : List Sync), V.travLL V.nil (fun L sz off es => V.sl (if k ≤ L then 0 else L) sz off es) (fun L i o e => V.ptr (if k ≤ L then 0 else L) i o e) (xs.map cSync) = xs.map cSync) ∧ (∀ (xs : List Mail), V.travLL (fun sz => V.sl 0 sz 0 []) (fun _ sz _ es => V.sl 0 sz 0 es) (fun _ _ o e => V.ptr 0 0 o e) (xs.map cMail) = xs.map cMail) ∧ (∀ (L i : Nat) (e : List V) (xs : List Mail), V.travLL V.nil (updS (L + 1) i e) (updP (L + 1) i e) (xs.map cMail) = xs.map cMail) ∧ (∀ (L : Nat) (xs : List Mail), V.travLL V.nil (killS (L + 1)) (killP (L + 1)) (xs.map cMail) = xs.map cMail) ∧ (∀ (xs : List Mail), (∀ L ∈ V.labelsLL (xs.map cMail), L = 0) = True) ∧ (∀ (xs : List Mail), V.datLL (xs.map cMail) = true) ∧ (∀ (L : Nat) (xs : List Mail), (L + 1 ∈ V.labelsLL (xs.map cMail)) = False) ∧ (∀ (k : Nat) (xs : List Mail), V.travLL V.nil (fun L sz off es => V.sl (if k ≤ L then 0 else L) sz off es) (fun L i o e => V.ptr (if k ≤ L then 0 else L) i o e) (xs.map cMail) = xs.map cMail) ∧ (∀ (xs : List Box), V.travLL (fun sz => V.sl 0 sz 0 []) (fun _ sz _ es => V.sl 0 sz 0 es) (fun _ _ o e => V.ptr 0 0 o e) (xs.map cBox) = xs.map cBox) ∧ (∀ (L i : Nat) (e : List V) (xs : List Box), V.travLL V.nil (updS (L + 1) i e) (updP (L + 1) i e) (xs.map cBox) = xs.map cBox) ∧ (∀ (L : Nat) (xs : List Box), V.travLL V.nil (killS (L + 1)) (killP (L + 1)) (xs.map cBox) = xs.map cBox) ∧ (∀ (xs : List Box), (∀ L ∈ V.labelsLL (xs.map cBox), L = 0) = True) ∧ (∀ (xs : List Box), V.datLL (xs.map cBox) = true) ∧ (∀ (L : Nat) (xs : List Box), (L + 1 ∈ V.labelsLL (xs.map cBox)) = False) ∧ (∀ (k : Nat) (xs : List Box), V.travLL V.nil (fun L sz off es => V.sl (if k ≤ L then 0 else L) sz off es) (fun L i o e => V.ptr (if k ≤ L then 0 else L) i o e) (xs.map cBox) = xs.map cBox) ∧ (∀ (xs : List Server), V.travLL (fun sz => V.sl 0 sz 0 []) (fun _ sz _ es => V.sl 0 sz 0 es) (fun _ _ o e => V.ptr 0 0 o e) (xs.map cServer) = xs.map cServer) ∧ (∀ (L i : Nat) (e : List V) (xs : List Server), V.travLL V.nil (updS (L + 1) i e) (updP (L + 1) i e) (xs.map cServer) = xs.map cServer) ∧ (∀ (L : Nat) (xs : List Server), V.travLL V.nil (killS (L + 1)) (killP (L + 1)) (xs.map cServer) = xs.map cServer) ∧ (∀ (xs : List Server), (∀ L ∈ V.labelsLL (xs.map cServer), L = 0) = True) ∧ (∀ (xs : List Server), V.datLL (xs.map cServer) = true) ∧ (∀ (L : Nat) (xs : List Server), (L + 1 ∈ V.labelsLL (xs.map cServer)) = False) ∧ (∀ (k : Nat) (xs : List Server), V.travLL V.nil (fun L sz off es => V.sl (if k ≤ L then 0 else L) sz off es) (fun L i o e => V.ptr (if k ≤ L then 0 else L) i o e) (xs.map cServer) = xs.map cServer) :=
  ⟨fun xs => trav0_map (t0_Sync (fs := fun _ sz _ es => V.sl 0 sz 0 es) (fun _ _ => rfl)) xs, fun L i e xs => trav0_map (t0_Sync (fun sz es => if_neg (fun h => by have := h.1; omega))) xs, fun L xs => trav0_map (t0_Sync (fun sz es => if_neg (fun h => by omega))) xs, fun xs => eq_true (labels0_map l0_Sync xs), fun xs => dat_map d0_Sync xs, fun L xs => eq_false (fun h => by have := labels0_map l0_Sync xs _ h; omega), fun k xs => trav0_map (t0_Sync (fs := fun L sz off es => V.sl (if k ≤ L then 0 else L) sz off es) (fun sz es => by simp)) xs, fun xs => trav0_map (t0_Mail (fs := fun _ sz _ es => V.sl 0 sz 0 es) (fun _ _ => rfl)) xs, fun L i e xs => trav0_map (t0_Mail (fun sz es => if_neg (fun h => by have := h.1; omega))) xs, fun L xs => trav0_map (t0_Mail (fun sz es => if_neg (fun h => by omega))) xs, fun xs => eq_true (labels0_map l0_Mail xs), fun xs => dat_map d0_Mail xs, fun L xs => eq_false (fun h => by have := labels0_map l0_Mail xs _ h; omega), fun k xs => trav0_map (t0_Mail (fs := fun L sz off es => V.sl (if k ≤ L then 0 else L) sz off es) (fun sz es => by simp)) xs, fun xs => trav0_map (t0_Box (fs := fun _ sz _ es => V.sl 0 sz 0 es) (fun _ _ => rfl)) xs, fun L i e xs => trav0_map (t0_Box (fun sz es => if_neg (fun h => by have := h.1; omega))) xs, fun L xs => trav0_map (t0_Box (fun sz es => if_neg (fun h => by omega))) xs, fun xs => eq_true (labels0_map l0_Box xs), fun xs => dat_map d0_Box xs, fun L xs => eq_false (fun h => by have := labels0_map l0_Box xs _ h; omega), fun k xs => trav0_map (t0_Box (fs := fun L sz off es => V.sl (if k ≤ L then 0 else L) sz off es) (fun sz es => by simp)) xs, fun xs => trav0_map (t0_Server (fs := fun _ sz _ es => V.sl 0 sz 0 es) (fun _ _ => rfl)) xs, fun L i e xs => trav0_map (t0_Server (fun sz es => if_neg (fun h => by have := h.1; omega))) xs, fun L xs => trav0_map (t0_Server (fun sz es => if_neg (fun h => by omega))) xs, fun xs => eq_true (labels0_map l0_Server xs), fun xs => dat_map d0_Server xs, fun L xs => eq_false (fun h => by have := labels0_map l0_Server xs _ h; omega), fun k xs => trav0_map (t0_Server (fs := fun L sz off es => V.sl (if k ≤ L then 0 else L) sz off es) (fun sz es => by simp)) xs⟩
end Go.Proofs.YtjhfabimacljhaaGreat.K

/- Arguments of the program's types. Printed by shapes.py. -/
namespace Go.Proofs.YtjhfabimacljhaaGreat.K
open Go Go.RowKit
set_option linter.unusedVariables false
set_option linter.unusedSimpArgs false
set_option maxRecDepth 20000
abbrev BB : Nat := 140737488351232
def StrsB (a : List Str) : Prop := a.length ≤ BB ∧ ∀ s ∈ a, s.length ≤ BB
theorem map_of {α : Type} {f : α → List V} {p : α → Prop} : ∀ {es : List (List V)}, (∀ c ∈ es, ∃ a, c = f a ∧ p a) → ∃ l : List α, es = l.map f ∧ ∀ a ∈ l, p a
  | [], _ => ⟨[], rfl, by simp⟩
  | c :: es, h => by
    obtain ⟨a, rfl, ha⟩ := h c (List.mem_cons_self ..)
    obtain ⟨l, rfl, hl⟩ := map_of (es := es) fun c hc => h c (List.mem_cons_of_mem _ hc)
    exact ⟨a :: l, rfl, by simpa using ⟨ha, hl⟩⟩
theorem shp_int {m : Nat} {xs : List V} (h : Shp tab BB (m + 1) 3 xs) : ∃ n, xs = [.int .i64 n] := by
  simp only [Shp, kT] at h
  obtain ⟨n, h, _⟩ := h
  exact ⟨n, h⟩
theorem shp_bool {m : Nat} {xs : List V} (h : Shp tab BB (m + 1) 4 xs) : ∃ b, xs = [.bool b] := by
  simp only [Shp, kT] at h
  exact h
theorem shp_str {m : Nat} {xs : List V} (h : Shp tab BB (m + 1) 9 xs) : ∃ s : Str, xs = [.str s] ∧ s.length ≤ BB := by
  simp only [Shp, kT] at h
  exact h
theorem shp_sstring {m : Nat} {xs : List V} (h : Shp tab BB (m + 2) 27 xs) : ∃ a : List Str, xs = [.sl 0 1 0 (a.map cS)] ∧ a.length ≤ BB ∧ ∀ z ∈ a, z.length ≤ BB := by
  rw [Shp] at h
  simp only [kT, Option.map_some, Option.getD_some] at h
  obtain ⟨es, rfl, hl, hc⟩ := h
  obtain ⟨a, rfl, ha⟩ := map_of (f := cS) (p := fun x => x.length ≤ BB) (es := es) fun c h => by
    exact shp_str (m := m) (hc c h)
  exact ⟨a, rfl, by rw [List.length_map] at hl; omega, ha⟩
theorem shp_sint {m : Nat} {xs : List V} (h : Shp tab BB (m + 2) 23 xs) : ∃ a : List Int, xs = [.sl 0 1 0 (a.map cZ)] ∧ a.length ≤ BB := by
  rw [Shp] at h
  simp only [kT, Option.map_some, Option.getD_some] at h
  obtain ⟨es, rfl, hl, hc⟩ := h
  obtain ⟨a, rfl, ha⟩ := map_of (f := cZ) (p := fun x => True) (es := es) fun c h => by
    obtain ⟨n, h⟩ := shp_int (m := m + 0) (hc c h); exact ⟨n, h, trivial⟩
  exact ⟨a, rfl, by rw [List.length_map] at hl; omega⟩
def okStamp (x : Stamp) : Prop := True
theorem stamp_of {m : Nat} {xs : List V} (h : Shp tab BB (m + 2) 159 xs) : ∃ x : Stamp, xs = cStamp x ∧ okStamp x := by
  rw [Shp] at h
  simp only [kT, ShpF] at h
  obtain ⟨a1, _, rfl, a2, b1, _, rfl, b2, rfl⟩ := h
  obtain ⟨a1, rfl⟩ := shp_int (m := m + 0) a2
  obtain ⟨b1, rfl⟩ := shp_int (m := m + 0) b2
  exact ⟨⟨a1, b1⟩, rfl, trivial⟩
def okReg (x : Reg) : Prop := (okStamp x.stamp)
theorem reg_of {m : Nat} {xs : List V} (h : Shp tab BB (m + 3) 279 xs) : ∃ x : Reg, xs = cReg x ∧ okReg x := by
  rw [Shp] at h
  simp only [kT, ShpF] at h
  obtain ⟨a1, _, rfl, a2, b1, _, rfl, b2, rfl⟩ := h
  obtain ⟨a1, rfl⟩ := shp_int (m := m + 1) a2
  obtain ⟨b1, rfl, b3⟩ := stamp_of (m := m + 0) b2
  exact ⟨⟨a1, b1⟩, rfl, b3⟩
theorem shp_sreg {m : Nat} {xs : List V} (h : Shp tab BB (m + 4) 251 xs) : ∃ a : List Reg, xs = [.sl 0 3 0 (a.map cReg)] ∧ a.length ≤ BB ∧ ∀ z ∈ a, okReg z := by
  rw [Shp] at h
  simp only [kT, Option.map_some, Option.getD_some] at h
  obtain ⟨es, rfl, hl, hc⟩ := h
  obtain ⟨a, rfl, ha⟩ := map_of (f := cReg) (p := fun x => okReg x) (es := es) fun c h => by
    exact reg_of (m := m) (hc c h)
  exact ⟨a, rfl, by rw [List.length_map] at hl; omega, ha⟩
def okMail (x : Mail) : Prop := (x.flags.length ≤ BB ∧ ∀ z ∈ x.flags, okReg z) ∧ (x.text.length ≤ BB)
theorem mail_of {m : Nat} {xs : List V} (h : Shp tab BB (m + 5) 253 xs) : ∃ x : Mail, xs = cMail x ∧ okMail x := by
  rw [Shp] at h
  simp only [kT, ShpF] at h
  obtain ⟨a1, _, rfl, a2, b1, _, rfl, b2, c1, _, rfl, c2, d1, _, rfl, d2, rfl⟩ := h
  obtain ⟨a1, rfl⟩ := shp_int (m := m + 3) a2
  obtain ⟨b1, rfl⟩ := shp_int (m := m + 3) b2
  obtain ⟨c1, rfl, c3⟩ := shp_sreg (m := m + 0) c2
  obtain ⟨d1, rfl, d3⟩ := shp_str (m := m + 3) d2
  exact ⟨⟨a1, b1, c1, d1⟩, rfl, ⟨c3, d3⟩⟩
theorem shp_smail {m : Nat} {xs : List V} (h : Shp tab BB (m + 6) 160 xs) : ∃ a : List Mail, xs = [.sl 0 4 0 (a.map cMail)] ∧ a.length ≤ BB ∧ ∀ z ∈ a, okMail z := by
  rw [Shp] at h
  simp only [kT, Option.map_some, Option.getD_some] at h
  obtain ⟨es, rfl, hl, hc⟩ := h
  obtain ⟨a, rfl, ha⟩ := map_of (f := cMail) (p := fun x => okMail x) (es := es) fun c h => by
    exact mail_of (m := m) (hc c h)
  exact ⟨a, rfl, by rw [List.length_map] at hl; omega, ha⟩
def okBox (x : Box) : Prop := (x.name.length ≤ BB) ∧ (okStamp x.named) ∧ (x.mails.length ≤ BB ∧ ∀ z ∈ x.mails, okMail z) ∧ (x.gone.length ≤ BB)
theorem box_of {m : Nat} {xs : List V} (h : Shp tab BB (m + 7) 162 xs) : ∃ x : Box, xs = cBox x ∧ okBox x := by
  rw [Shp] at h
  simp only [kT, ShpF] at h
  obtain ⟨a1, _, rfl, a2, b1, _, rfl, b2, c1, _, rfl, c2, d1, _, rfl, d2, e1, _, rfl, e2, f1, _, rfl, f2, rfl⟩ := h
  obtain ⟨a1, rfl⟩ := shp_int (m := m + 5) a2
  obtain ⟨b1, rfl, b3⟩ := shp_str (m := m + 5) b2
  obtain ⟨c1, rfl, c3⟩ := stamp_of (m := m + 4) c2
  obtain ⟨d1, rfl⟩ := shp_int (m := m + 5) d2
  obtain ⟨e1, rfl, e3⟩ := shp_smail (m := m + 0) e2
  obtain ⟨f1, rfl, f3⟩ := shp_sint (m := m + 4) f2
  exact ⟨⟨a1, b1, c1, d1, e1, f1⟩, rfl, ⟨b3, c3, e3, f3⟩⟩
theorem shp_sbox {m : Nat} {xs : List V} (h : Shp tab BB (m + 8) 22 xs) : ∃ a : List Box, xs = [.sl 0 7 0 (a.map cBox)] ∧ a.length ≤ BB ∧ ∀ z ∈ a, okBox z := by
  rw [Shp] at h
  simp only [kT, Option.map_some, Option.getD_some] at h
  obtain ⟨es, rfl, hl, hc⟩ := h
  obtain ⟨a, rfl, ha⟩ := map_of (f := cBox) (p := fun x => okBox x) (es := es) fun c h => by
    exact box_of (m := m) (hc c h)
  exact ⟨a, rfl, by rw [List.length_map] at hl; omega, ha⟩
def okStore (x : Store) : Prop := (x.boxes.length ≤ BB ∧ ∀ z ∈ x.boxes, okBox z) ∧ (x.gone.length ≤ BB)
theorem store_of {m : Nat} {xs : List V} (h : Shp tab BB (m + 9) 25 xs) : ∃ x : Store, xs = cStore x ∧ okStore x := by
  rw [Shp] at h
  simp only [kT, ShpF] at h
  obtain ⟨a1, _, rfl, a2, b1, _, rfl, b2, c1, _, rfl, c2, d1, _, rfl, d2, rfl⟩ := h
  obtain ⟨a1, rfl⟩ := shp_int (m := m + 7) a2
  obtain ⟨b1, rfl⟩ := shp_int (m := m + 7) b2
  obtain ⟨c1, rfl, c3⟩ := shp_sbox (m := m + 0) c2
  obtain ⟨d1, rfl, d3⟩ := shp_sint (m := m + 6) d2
  exact ⟨⟨a1, b1, c1, d1⟩, rfl, ⟨c3, d3⟩⟩
def okKept (x : Kept) : Prop := (okStore x.store) ∧ (x.journal.length ≤ BB)
theorem kept_of {m : Nat} {xs : List V} (h : Shp tab BB (m + 10) 172 xs) : ∃ x : Kept, xs = cKept x ∧ okKept x := by
  rw [Shp] at h
  simp only [kT, ShpF] at h
  obtain ⟨a1, _, rfl, a2, b1, _, rfl, b2, c1, _, rfl, c2, rfl⟩ := h
  obtain ⟨a1, rfl, a3⟩ := store_of (m := m + 0) a2
  obtain ⟨b1, rfl, b3⟩ := shp_str (m := m + 8) b2
  obtain ⟨c1, rfl⟩ := shp_int (m := m + 8) c2
  exact ⟨⟨a1, b1, c1⟩, rfl, ⟨a3, b3⟩⟩
def okSession (x : Session) : Prop := (x.inn.length ≤ BB) ∧ (x.out.length ≤ BB) ∧ (x.view.length ≤ BB)
theorem session_of {m : Nat} {xs : List V} (h : Shp tab BB (m + 3) 173 xs) : ∃ x : Session, xs = cSession x ∧ okSession x := by
  rw [Shp] at h
  simp only [kT, ShpF] at h
  obtain ⟨a1, _, rfl, a2, b1, _, rfl, b2, c1, _, rfl, c2, d1, _, rfl, d2, e1, _, rfl, e2, f1, _, rfl, f2, rfl⟩ := h
  obtain ⟨a1, rfl, a3⟩ := shp_str (m := m + 1) a2
  obtain ⟨b1, rfl, b3⟩ := shp_str (m := m + 1) b2
  obtain ⟨c1, rfl⟩ := shp_bool (m := m + 1) c2
  obtain ⟨d1, rfl⟩ := shp_bool (m := m + 1) d2
  obtain ⟨e1, rfl⟩ := shp_int (m := m + 1) e2
  obtain ⟨f1, rfl, f3⟩ := shp_sint (m := m + 0) f2
  exact ⟨⟨a1, b1, c1, d1, e1, f1⟩, rfl, ⟨a3, b3, f3⟩⟩
def okServer (x : Server) : Prop := (okKept x.kept) ∧ (okSession x.session)
theorem server_of {m : Nat} {xs : List V} (h : Shp tab BB (m + 11) 175 xs) : ∃ x : Server, xs = cServer x ∧ okServer x := by
  rw [Shp] at h
  simp only [kT, ShpF] at h
  obtain ⟨a1, _, rfl, a2, b1, _, rfl, b2, c1, _, rfl, c2, rfl⟩ := h
  obtain ⟨a1, rfl, a3⟩ := kept_of (m := m + 0) a2
  obtain ⟨b1, rfl, b3⟩ := session_of (m := m + 7) b2
  obtain ⟨c1, rfl⟩ := shp_bool (m := m + 9) c2
  exact ⟨⟨a1, b1, c1⟩, rfl, ⟨a3, b3⟩⟩
def okLetter (x : Letter) : Prop := (x.text.length ≤ BB)
theorem letter_of {m : Nat} {xs : List V} (h : Shp tab BB (m + 2) 181 xs) : ∃ x : Letter, xs = cLetter x ∧ okLetter x := by
  rw [Shp] at h
  simp only [kT, ShpF] at h
  obtain ⟨a1, _, rfl, a2, b1, _, rfl, b2, rfl⟩ := h
  obtain ⟨a1, rfl⟩ := shp_int (m := m + 0) a2
  obtain ⟨b1, rfl, b3⟩ := shp_str (m := m + 0) b2
  exact ⟨⟨a1, b1⟩, rfl, b3⟩
theorem shp_sletter {m : Nat} {xs : List V} (h : Shp tab BB (m + 3) 45 xs) : ∃ a : List Letter, xs = [.sl 0 2 0 (a.map cLetter)] ∧ a.length ≤ BB ∧ ∀ z ∈ a, okLetter z := by
  rw [Shp] at h
  simp only [kT, Option.map_some, Option.getD_some] at h
  obtain ⟨es, rfl, hl, hc⟩ := h
  obtain ⟨a, rfl, ha⟩ := map_of (f := cLetter) (p := fun x => okLetter x) (es := es) fun c h => by
    exact letter_of (m := m) (hc c h)
  exact ⟨a, rfl, by rw [List.length_map] at hl; omega, ha⟩
def okLink (x : Link) : Prop := (x.way.length ≤ BB ∧ ∀ z ∈ x.way, z.length ≤ BB)
theorem link_of {m : Nat} {xs : List V} (h : Shp tab BB (m + 3) 177 xs) : ∃ x : Link, xs = cLink x ∧ okLink x := by
  rw [Shp] at h
  simp only [kT, ShpF] at h
  obtain ⟨a1, _, rfl, a2, b1, _, rfl, b2, c1, _, rfl, c2, d1, _, rfl, d2, rfl⟩ := h
  obtain ⟨a1, rfl⟩ := shp_int (m := m + 1) a2
  obtain ⟨b1, rfl, b3⟩ := shp_sstring (m := m + 0) b2
  obtain ⟨c1, rfl⟩ := shp_int (m := m + 1) c2
  obtain ⟨d1, rfl⟩ := shp_int (m := m + 1) d2
  exact ⟨⟨a1, b1, c1, d1⟩, rfl, b3⟩
def okSync (x : Sync) : Prop := (okLink x.link) ∧ (x.pieces.length ≤ BB ∧ ∀ z ∈ x.pieces, z.length ≤ BB)
theorem sync_of {m : Nat} {xs : List V} (h : Shp tab BB (m + 4) 179 xs) : ∃ x : Sync, xs = cSync x ∧ okSync x := by
  rw [Shp] at h
  simp only [kT, ShpF] at h
  obtain ⟨a1, _, rfl, a2, b1, _, rfl, b2, c1, _, rfl, c2, d1, _, rfl, d2, e1, _, rfl, e2, f1, _, rfl, f2, rfl⟩ := h
  obtain ⟨a1, rfl⟩ := shp_int (m := m + 2) a2
  obtain ⟨b1, rfl, b3⟩ := link_of (m := m + 0) b2
  obtain ⟨c1, rfl⟩ := shp_int (m := m + 2) c2
  obtain ⟨d1, rfl, d3⟩ := shp_sstring (m := m + 1) d2
  obtain ⟨e1, rfl⟩ := shp_bool (m := m + 2) e2
  obtain ⟨f1, rfl⟩ := shp_bool (m := m + 2) f2
  exact ⟨⟨a1, b1, c1, d1, e1, f1⟩, rfl, ⟨b3, d3⟩⟩
theorem shp_ssync {m : Nat} {xs : List V} (h : Shp tab BB (m + 5) 44 xs) : ∃ a : List Sync, xs = [.sl 0 9 0 (a.map cSync)] ∧ a.length ≤ BB ∧ ∀ z ∈ a, okSync z := by
  rw [Shp] at h
  simp only [kT, Option.map_some, Option.getD_some] at h
  obtain ⟨es, rfl, hl, hc⟩ := h
  obtain ⟨a, rfl, ha⟩ := map_of (f := cSync) (p := fun x => okSync x) (es := es) fun c h => by
    exact sync_of (m := m) (hc c h)
  exact ⟨a, rfl, by rw [List.length_map] at hl; omega, ha⟩
theorem shp_sserver {m : Nat} {xs : List V} (h : Shp tab BB (m + 12) 43 xs) : ∃ a : List Server, xs = [.sl 0 13 0 (a.map cServer)] ∧ a.length ≤ BB ∧ ∀ z ∈ a, okServer z := by
  rw [Shp] at h
  simp only [kT, Option.map_some, Option.getD_some] at h
  obtain ⟨es, rfl, hl, hc⟩ := h
  obtain ⟨a, rfl, ha⟩ := map_of (f := cServer) (p := fun x => okServer x) (es := es) fun c h => by
    exact server_of (m := m) (hc c h)
  exact ⟨a, rfl, by rw [List.length_map] at hl; omega, ha⟩
def okPair (x : Pair) : Prop := (x.servers.length ≤ BB ∧ ∀ z ∈ x.servers, okServer z) ∧ (x.syncs.length ≤ BB ∧ ∀ z ∈ x.syncs, okSync z) ∧ (x.net.length ≤ BB ∧ ∀ z ∈ x.net, okLetter z)
theorem pair_of {m : Nat} {xs : List V} (h : Shp tab BB (m + 13) 47 xs) : ∃ x : Pair, xs = cPair x ∧ okPair x := by
  rw [Shp] at h
  simp only [kT, ShpF] at h
  obtain ⟨a1, _, rfl, a2, b1, _, rfl, b2, c1, _, rfl, c2, d1, _, rfl, d2, rfl⟩ := h
  obtain ⟨a1, rfl, a3⟩ := shp_sserver (m := m + 0) a2
  obtain ⟨b1, rfl, b3⟩ := shp_ssync (m := m + 7) b2
  obtain ⟨c1, rfl, c3⟩ := shp_sletter (m := m + 9) c2
  obtain ⟨d1, rfl⟩ := shp_int (m := m + 11) d2
  exact ⟨⟨a1, b1, c1, d1⟩, rfl, ⟨a3, b3, c3⟩⟩
section
variable {K : Nat} {H : Type} {enc : TypeId × Value → H} {P : Program} {W : World} {ti : Tab} {B : Nat} {base : Base}
theorem arg_one (hti : TabOk P ti) {t : TypeId} (m : Nat) (hd : dataT ti m t = true) {v : Value} {d : DataW H} {ps : List MemPlace} (hv : v.cells = #[v])
    (h : DataW.Trod enc P W 0 (fun _ => true) true t v d ps) (hw : ∀ x ∈ d.weights P t, x ≤ B) : ∃ x, M (bare W.heap.size) noSig W x v ∧ Shp ti B m t [x] := by
  obtain ⟨n, hn⟩ := h
  obtain ⟨xs, h1, h2⟩ := trod_M (base := bare W.heap.size) hti m t hd n _ d ps (fun _ h => h) hn hw
  rw [hv] at h1
  have hl := h1.1
  match xs, h1, h2, hl with
  | [x], h1, h2, _ => exact ⟨x, h1.2 0 x v rfl rfl, h2⟩
  | [], _, _, hl => simp at hl
  | _ :: _ :: _, _, _, hl => simp at hl
theorem cells_of_basic {w : World} {r : Reach} {b0 : Nat} {t : TypeId} {v : Value} (hu : P.underlying t = some .string ∨ P.underlying t = some .bool ∨ (∃ k, P.underlying t = some (.int k)) ∨ ∃ e, P.underlying t = some (.slice e)) (h : Value.okWide P w r b0 t v) : v.cells = #[v] := by
  unfold Value.okWide at h
  rcases hu with hu | hu | ⟨k, hu⟩ | ⟨e, hu⟩ <;>
  · simp only [hu] at h
    cases v with
    | agg cs => exfalso; revert h; simp [Cell.okWide, hu, Cell.ok]
    | _ => rfl
end
end Go.Proofs.YtjhfabimacljhaaGreat.K

/- Numbers and texts read: plain functions; and that both readers of packets tell the same. -/
namespace Go.Proofs.YtjhfabimacljhaaGreat.K
open Go Go.RowKit
set_option linter.unusedVariables false
set_option linter.unusedSimpArgs false

def rdV (s : Str) (p : Nat) : Nat → Nat → Nat → Option (Nat × Nat)
  | 0, _, _ => none
  | f + 1, i, n => if h : p + i < s.length then
      (if s[p + i].toNat < 128 then (if n + s[p + i].toNat % 128 * 128 ^ i ≤ 1000000000 ∧ varT (n + s[p + i].toNat % 128 * 128 ^ i) = (s.take (p + i + 1)).drop p then some (n + s[p + i].toNat % 128 * 128 ^ i, p + i + 1) else none)
        else rdV s p f (i + 1) (n + s[p + i].toNat % 128 * 128 ^ i)) else none
def readVar (s : Str) (z : Int) : Option (Nat × Nat) := if inR z 0 s.length = true then rdV s z.toNat 5 0 0 else none
abbrev vR (r : Option (Nat × Nat)) : V := .tup [.int .i64 ((r.getD (0, 0)).1 : Int), .int .i64 ((r.getD (0, 0)).2 : Int), .bool r.isSome]
theorem wrap_add_one {a : Nat} (h : a + 1 ≤ 9223372036854775807) : IntKind.i64.wrap ((a : Int) + 1) = ((a + 1 : Nat) : Int) := by rw [IntKind.wrap_i64]; omega
def readShort (s : Str) (z : Int) : Option (Str × Nat) := match readVar s z with
  | some (n, e) => if n ≤ 20000 ∧ n + e ≤ s.length then some ((s.take (e + n)).drop e, e + n) else none
  | none => none
abbrev vS (r : Option (Str × Nat)) : V := .tup [.str (r.getD ([], 0)).1, .int .i64 ((r.getD ([], 0)).2 : Int), .bool r.isSome]
def unsealed (t : Str) : Option Str := if 4 ≤ t.length ∧ t.length ≤ 20004 ∧ t.drop (t.length - 4) = fourT (sumOf (t.take (t.length - 4))) then some (t.take (t.length - 4)) else none
structure Scan where
  text : Str
  pos : Int
  bad : Bool
abbrev cScan (c : Scan) : List V := [.str c.text, .int .i64 c.pos, .bool c.bad]
def scanNum (c : Scan) : Nat × Scan := match readVar c.text c.pos with
  | some (n, e) => if c.bad = true then (0, { c with bad := true }) else (n, { c with pos := (e : Int) })
  | none => (0, { c with bad := true })
def scanShort (c : Scan) : Str × Scan := match readShort c.text c.pos with
  | some (n, e) => if c.bad = true then ([], { c with bad := true }) else (n, { c with pos := (e : Int) })
  | none => ([], { c with bad := true })
def scan1 (b : Str) (bad : Bool) : Nat × Scan := scanNum ⟨b, 0, bad⟩
def scan2 (b : Str) (bad : Bool) : Nat × Scan := scanNum (scan1 b bad).2
def scan3 (b : Str) (bad : Bool) : Nat × Scan := scanNum (scan2 b bad).2
def scan4 (b : Str) (bad : Bool) : Str × Scan := scanShort (scan3 b bad).2
def scanP (b : Str) (bad : Bool) : Packet := ⟨((scan1 b bad).1 : Int), ((scan2 b bad).1 : Int), ((scan3 b bad).1 : Int), (scan4 b bad).1⟩
def readI (t : Str) : Option Packet :=
  if (unsealed t).isSome = true ∧ (scan4 ((unsealed t).getD []) false).2.bad = false ∧ (scan4 ((unsealed t).getD []) false).2.pos = (((unsealed t).getD []).length : Int) ∧ (scan4 ((unsealed t).getD []) false).1.length ≤ 400 then some (scanP ((unsealed t).getD []) false) else none
def readS (t : Str) : Option Packet :=
  if (scan4 ((unsealed t).getD []) (unsealed t).isNone).2.bad = false ∧ packetText (scanP ((unsealed t).getD []) (unsealed t).isNone) = some t then some (scanP ((unsealed t).getD []) (unsealed t).isNone) else none
abbrev vP (r : Option Packet) : V := .tup [.agg (cPacket (r.getD ⟨0, 0, 0, []⟩)), .bool r.isSome]
def fourN (l : Str) : Nat := match l with | a :: b :: c :: d :: _ => a.toNat * 16777216 + b.toNat * 65536 + c.toNat * 256 + d.toNat | _ => 0
end Go.Proofs.YtjhfabimacljhaaGreat.K

/- Marks on data of the call's own: what becomes of the values is told by a map that keeps all else. -/
namespace Go.Proofs.YtjhfabimacljhaaGreat.K
open Go Go.RowKit
set_option linter.unusedVariables false
set_option linter.unusedSimpArgs false
theorem le_eqm {a b : V} (h : a = b) : V.le a b := h ▸ le_rfl' a
mutual
theorem trav_far {L : Nat} {fs : Nat → Nat → Nat → List (List V) → V} {fp : Nat → Nat → Nat → List V → V} (hs : ∀ M sz off es, M ≠ L → fs M sz off es = .sl M sz off es) (hp : ∀ M i o e, M ≠ L → fp M i o e = .ptr M i o e) : ∀ x : V, L ∉ V.labels x → V.trav V.nil fs fp x = x
  | .sl M sz off es, h => by
    simp only [V.labels, List.mem_cons, not_or] at h
    show fs M sz off (V.travLL V.nil fs fp es) = _
    rw [hs _ _ _ _ (Ne.symm h.1), travLL_far hs hp es h.2]
  | .ptr M i o e, h => by
    simp only [V.labels, List.mem_cons, not_or] at h
    show fp M i o (V.travL V.nil fs fp e) = _
    rw [hp _ _ _ _ (Ne.symm h.1), travL_far hs hp e h.2]
  | .fn f cs, h => by show V.fn f (V.travL V.nil fs fp cs) = _; rw [travL_far hs hp cs h]
  | .agg cs, h => by show V.agg (V.travL V.nil fs fp cs) = _; rw [travL_far hs hp cs h]
  | .tup cs, h => by show V.tup (V.travL V.nil fs fp cs) = _; rw [travL_far hs hp cs h]
  | .any, _ => rfl
  | .bool _, _ => rfl
  | .int .., _ => rfl
  | .str _, _ => rfl
  | .nil s, _ => rfl
  | .nilP, _ => rfl
theorem travL_far {L : Nat} {fs : Nat → Nat → Nat → List (List V) → V} {fp : Nat → Nat → Nat → List V → V} (hs : ∀ M sz off es, M ≠ L → fs M sz off es = .sl M sz off es) (hp : ∀ M i o e, M ≠ L → fp M i o e = .ptr M i o e) : ∀ l : List V, L ∉ V.labelsL l → V.travL V.nil fs fp l = l
  | [], _ => rfl
  | x :: l, h => by
    simp only [V.labelsL, List.mem_append, not_or] at h
    show V.trav V.nil fs fp x :: V.travL V.nil fs fp l = _
    rw [trav_far hs hp x h.1, travL_far hs hp l h.2]
theorem travLL_far {L : Nat} {fs : Nat → Nat → Nat → List (List V) → V} {fp : Nat → Nat → Nat → List V → V} (hs : ∀ M sz off es, M ≠ L → fs M sz off es = .sl M sz off es) (hp : ∀ M i o e, M ≠ L → fp M i o e = .ptr M i o e) : ∀ l : List (List V), L ∉ V.labelsLL l → V.travLL V.nil fs fp l = l
  | [], _ => rfl
  | x :: l, h => by
    simp only [V.labelsLL, List.mem_append, not_or] at h
    show V.travL V.nil fs fp x :: V.travLL V.nil fs fp l = _
    rw [travL_far hs hp x h.1, travLL_far hs hp l h.2]
end
structure Hom (f : V → V) (Ls : Nat → Prop) : Prop where
  far : ∀ v, (∀ L ∈ V.labels v, ¬ Ls L) → f v = v
  agg : ∀ cs, f (.agg cs) = .agg (cs.map f)
  ptr : ∀ L i o e, ¬ Ls L → f (.ptr L i o e) = .ptr L i o (e.map f)
  sl : ∀ L sz off es, ¬ Ls L → f (.sl L sz off es) = .sl L sz off (es.map (List.map f))
section
variable {f g : V → V} {A B : Nat → Prop}
theorem Hom.id' (A : Nat → Prop) : Hom id A :=
  ⟨fun _ _ => rfl, fun cs => by rw [List.map_id]; rfl, fun L i o e _ => by rw [List.map_id]; rfl, fun L sz off es _ => by rw [show (List.map id : List V → List V) = id from funext fun l => List.map_id l, List.map_id]; rfl⟩
theorem Hom.comp (hg : Hom g A) (hf : Hom f A) : Hom (g ∘ f) A :=
  ⟨fun v h => by show g (f v) = v; rw [hf.far v h, hg.far v h], fun cs => by show g (f _) = _; rw [hf.agg, hg.agg, List.map_map],
   fun L i o e h => by show g (f _) = _; rw [hf.ptr _ _ _ _ h, hg.ptr _ _ _ _ h, List.map_map],
   fun L sz off es h => by
    show g (f _) = _
    rw [hf.sl _ _ _ _ h, hg.sl _ _ _ _ h, List.map_map]
    congr 1
    refine List.map_congr_left fun e _ => ?_
    show List.map g (List.map f e) = _
    rw [List.map_map]⟩
theorem Hom.mono (hf : Hom f A) (h : ∀ L, A L → B L) : Hom f B :=
  ⟨fun v hv => hf.far v fun L hL hA => hv L hL (h L hA), hf.agg, fun L i o e hL => hf.ptr L i o e fun hA => hL (h L hA), fun L sz off es hL => hf.sl L sz off es fun hA => hL (h L hA)⟩
theorem Hom.int (hf : Hom f A) (k : IntKind) (n : Int) : f (.int k n) = .int k n := hf.far _ fun L h => by cases h
theorem Hom.str (hf : Hom f A) (s : List UInt8) : f (.str s) = .str s := hf.far _ fun L h => by cases h
theorem Hom.bool (hf : Hom f A) (b : Bool) : f (.bool b) = .bool b := hf.far _ fun L h => by cases h
theorem Hom.any (hf : Hom f A) : f .any = .any := hf.far _ fun L h => by cases h
theorem Hom.tup0 (hf : Hom f A) : f (.tup []) = .tup [] := hf.far _ fun L h => by cases h
theorem Hom.farL (hf : Hom f A) (l : List V) (h : ∀ L ∈ V.labelsL l, ¬ A L) : l.map f = l := by
  induction l with
  | nil => rfl
  | cons x xs ih =>
    simp only [V.labelsL, List.mem_append] at h
    rw [List.map_cons, hf.far x fun L hL => h L (.inl hL), ih fun L hL => h L (.inr hL)]
theorem Hom.farLL (hf : Hom f A) (l : List (List V)) (h : ∀ L ∈ V.labelsLL l, ¬ A L) : l.map (List.map f) = l := by
  induction l with
  | nil => rfl
  | cons x xs ih =>
    simp only [V.labelsLL, List.mem_append] at h
    rw [List.map_cons, hf.farL x fun L hL => h L (.inl hL), ih fun L hL => h L (.inr hL)]
end
theorem upd_hom (L j : Nat) (e' : List V) : Hom (V.upd L j e') (· = L) :=
  ⟨fun v h => trav_far (fun M sz off es hM => if_neg fun hh => hM hh.1) (fun M i o e hM => if_neg fun hh => hM hh.1) v fun hL => h L hL rfl,
   fun cs => by show V.agg (V.travL _ _ _ cs) = _; rw [travL_eq]; rfl,
   fun M i o e hM => by show updP L j e' M i o (V.travL _ _ _ e) = _; rw [updP, if_neg fun hh => hM hh.1, travL_eq]; rfl,
   fun M sz off es hM => by
    show updS L j e' M sz off (V.travLL _ _ _ es) = _
    rw [updS, if_neg fun hh => hM hh.1, travLL_eq]
    congr 1
    refine List.map_congr_left fun e _ => ?_
    rw [travL_eq]; rfl⟩
structure StoreF (W : V → V) (L j : Nat) (e' : List V) : Prop where
  sl : ∀ sz es, L ∉ V.labelsLL es → W (.sl L sz 0 es) = .sl L sz 0 (es.set j e')
  ptr : ∀ o e, W (.ptr L j o e) = .ptr L j o e'
theorem upd_storeF (L j : Nat) (e' : List V) : StoreF (V.upd L j e') L j e' :=
  ⟨fun sz es h => by
    show updS L j e' L sz 0 (V.travLL _ _ _ es) = _
    rw [travLL_far (L := L) (fs := updS L j e') (fp := updP L j e') (fun M sz off es hM => if_neg fun hh => hM hh.1) (fun M i o e hM => if_neg fun hh => hM hh.1) es h, updS, if_pos ⟨rfl, Nat.zero_le _⟩, Nat.sub_zero],
   fun o e => by show updP L j e' L j o (V.travL _ _ _ e) = _; rw [updP, if_pos ⟨rfl, rfl⟩]⟩
mutual
def V.mn : V → Nat
  | .sl _ _ _ es => V.mnLL es
  | .ptr .. => 0
  | .fn .. => 0
  | .agg _ => 0
  | .tup _ => 0
  | .any => 0
  | .bool _ => 1
  | .int .. => 1
  | .str _ => 1
  | .nil _ => 0
  | .nilP => 0
def V.mnL : List V → Nat
  | [] => 0
  | x :: xs => V.mn x + V.mnL xs
def V.mnLL : List (List V) → Nat
  | [] => 0
  | e :: es => V.mnL e + V.mnLL es
end
mutual
def V.mk (k : Nat) : V → V
  | .sl L sz off es => .sl L sz off (V.mkLL k es)
  | .ptr L i o e => .ptr L i o e
  | .fn f cs => .fn f cs
  | .agg cs => .agg cs
  | .tup cs => .tup cs
  | .any => .any
  | .bool _ => .bool (decide ((k : Int).tmod 3 = 0))
  | .int κ _ => .int κ (k : Int)
  | .str _ => .str (markT k)
  | .nil s => .nil s
  | .nilP => .nilP
def V.mkL (k : Nat) : List V → List V
  | [] => []
  | x :: xs => V.mk k x :: V.mkL (k + V.mn x) xs
def V.mkLL (k : Nat) : List (List V) → List (List V)
  | [] => []
  | e :: es => V.mkL k e :: V.mkLL (k + V.mnL e) es
end
mutual
theorem mk_labels : ∀ (x : V) (k : Nat), V.labels (V.mk k x) = V.labels x
  | .sl L sz off es, k => by show L :: V.labelsLL (V.mkLL k es) = _; rw [mkLL_labels es k]; rfl
  | .ptr L i o e, k => rfl
  | .fn f cs, k => rfl
  | .agg cs, k => rfl
  | .tup cs, k => rfl
  | .any, k => rfl
  | .bool _, k => rfl
  | .int .., k => rfl
  | .str _, k => rfl
  | .nil s, k => rfl
  | .nilP, k => rfl
theorem mkL_labels : ∀ (l : List V) (k : Nat), V.labelsL (V.mkL k l) = V.labelsL l
  | [], k => rfl
  | x :: l, k => by show V.labels (V.mk k x) ++ V.labelsL (V.mkL _ l) = _; rw [mk_labels x k, mkL_labels l]; rfl
theorem mkLL_labels : ∀ (l : List (List V)) (k : Nat), V.labelsLL (V.mkLL k l) = V.labelsLL l
  | [], k => rfl
  | x :: l, k => by show V.labelsL (V.mkL k x) ++ V.labelsLL (V.mkLL _ l) = _; rw [mkL_labels x k, mkLL_labels l]; rfl
end
theorem mkLL_len : ∀ (l : List (List V)) (k : Nat), (V.mkLL k l).length = l.length
  | [], k => rfl
  | x :: l, k => by show (V.mkLL _ l).length + 1 = l.length + 1; rw [mkLL_len l]
theorem mnLL_app : ∀ (a b : List (List V)), V.mnLL (a ++ b) = V.mnLL a + V.mnLL b
  | [], b => (Nat.zero_add _).symm
  | x :: a, b => by show V.mnL x + V.mnLL (a ++ b) = V.mnL x + V.mnLL a + V.mnLL b; rw [mnLL_app a b]; omega
theorem mkLL_app : ∀ (a b : List (List V)) (k : Nat), V.mkLL k (a ++ b) = V.mkLL k a ++ V.mkLL (k + V.mnLL a) b
  | [], b, k => rfl
  | x :: a, b, k => by
    show V.mkL k x :: V.mkLL _ (a ++ b) = V.mkL k x :: (V.mkLL _ a ++ V.mkLL (k + (V.mnL x + V.mnLL a)) b)
    rw [mkLL_app a b, Nat.add_assoc]
theorem mkLL_snoc (a : List (List V)) (c : List V) (k : Nat) : V.mkLL k (a ++ [c]) = V.mkLL k a ++ [V.mkL (k + V.mnLL a) c] := by rw [mkLL_app]; rfl
theorem mnLL_snoc (a : List (List V)) (c : List V) : V.mnLL (a ++ [c]) = V.mnLL a + V.mnL c := by rw [mnLL_app]; rfl
mutual
theorem mn_erase : ∀ x : V, V.mn (V.erase x) = V.mn x
  | .sl L sz off es => by show V.mnLL (V.eraseLL es) = _; rw [mnLL_erase es]; rfl
  | .ptr L i o e => rfl
  | .fn f cs => rfl
  | .agg cs => rfl
  | .tup cs => rfl
  | .any => rfl
  | .bool _ => rfl
  | .int .. => rfl
  | .str _ => rfl
  | .nil s => rfl
  | .nilP => rfl
theorem mnL_erase : ∀ l : List V, V.mnL (V.eraseL l) = V.mnL l
  | [] => rfl
  | x :: l => by show V.mn (V.erase x) + V.mnL (V.eraseL l) = _; rw [mn_erase x, mnL_erase l]; rfl
theorem mnLL_erase : ∀ l : List (List V), V.mnLL (V.eraseLL l) = V.mnLL l
  | [] => rfl
  | x :: l => by show V.mnL (V.eraseL x) + V.mnLL (V.eraseLL l) = _; rw [mnL_erase x, mnLL_erase l]; rfl
end
mutual
def V.pl : V → Bool
  | .sl _ _ off es => off == 0 && V.plLL es
  | .bool _ => true
  | .int .. => true
  | .str _ => true
  | .ptr .. => false
  | .fn .. => false
  | .agg _ => false
  | .tup _ => false
  | .any => false
  | .nil _ => false
  | .nilP => false
def V.plL : List V → Bool
  | [] => true
  | x :: xs => V.pl x && V.plL xs
def V.plLL : List (List V) → Bool
  | [] => true
  | e :: es => V.plL e && V.plLL es
end
mutual
theorem mk_erase : ∀ (x : V) (k : Nat), V.pl x = true → V.erase (V.mk k x) = V.mk k (V.erase x)
  | .sl L sz off es, k, h => by
    simp only [V.pl, Bool.and_eq_true] at h
    show V.sl 0 sz 0 (V.eraseLL (V.mkLL k es)) = V.sl 0 sz 0 (V.mkLL k (V.eraseLL es))
    rw [mkLL_erase es k h.2]
  | .bool _, k, h => rfl
  | .int .., k, h => rfl
  | .str _, k, h => rfl
  | .ptr .., k, h => by cases h
  | .fn .., k, h => by cases h
  | .agg _, k, h => by cases h
  | .tup _, k, h => by cases h
  | .any, k, h => by cases h
  | .nil _, k, h => by cases h
  | .nilP, k, h => by cases h
theorem mkL_erase : ∀ (l : List V) (k : Nat), V.plL l = true → V.eraseL (V.mkL k l) = V.mkL k (V.eraseL l)
  | [], k, h => rfl
  | x :: l, k, h => by
    simp only [V.plL, Bool.and_eq_true] at h
    show V.erase (V.mk k x) :: V.eraseL (V.mkL _ l) = V.mk k (V.erase x) :: V.mkL (k + V.mn (V.erase x)) (V.eraseL l)
    rw [mk_erase x k h.1, mkL_erase l _ h.2, mn_erase]
theorem mkLL_erase : ∀ (l : List (List V)) (k : Nat), V.plLL l = true → V.eraseLL (V.mkLL k l) = V.mkLL k (V.eraseLL l)
  | [], k, h => rfl
  | x :: l, k, h => by
    simp only [V.plLL, Bool.and_eq_true] at h
    show V.eraseL (V.mkL k x) :: V.eraseLL (V.mkLL _ l) = V.mkL k (V.eraseL x) :: V.mkLL (k + V.mnL (V.eraseL x)) (V.eraseLL l)
    rw [mkL_erase x k h.1, mkLL_erase l _ h.2, mnL_erase]
end
theorem labelsLL_app (a b : List (List V)) : V.labelsLL (a ++ b) = V.labelsLL a ++ V.labelsLL b := by
  induction a with
  | nil => rfl
  | cons x a ih => rw [List.cons_append]; show V.labelsL x ++ V.labelsLL (a ++ b) = V.labelsL x ++ V.labelsLL a ++ V.labelsLL b; rw [ih, List.append_assoc]
theorem get_mid {α : Type} {a b : List α} {c : α} {i : Nat} (h : a.length = i) : (a ++ c :: b)[i]? = some c := by subst h; simp
theorem set_mid {α : Type} {a b : List α} {c d : α} {i : Nat} (h : a.length = i) : (a ++ c :: b).set i d = a ++ d :: b := by subst h; simp
def MarkQ (A : Nat → Prop) (a a' R : V) (h : List V) (m : Nat) : V → List V → Nat → Prop := fun r h1 n1 => r = R ∧ n1 = m ∧ ∃ U, Hom U A ∧ U a = a' ∧ h1 = h.map U
section
variable {P : Program} {ti : Tab} {t h h0 : List V} {n n' : Nat} {Q : Exit → List V → List V → Nat → Prop} {ops : Array Oper} {o : Oper} {l : List Oper} {t' : List V}
theorem setN_set : ∀ (t : List V) (d : Nat) (x : V), setN t d x = t.set d x
  | [], d, x => by cases d <;> rfl
  | y :: t, 0, x => rfl
  | y :: t, d + 1, x => by show y :: setN t d x = y :: t.set d x; rw [setN_set t d x]
theorem Ok.drop {c : Code} (dead : List Nat) (ht : overD dead t = t') (hk : Ok P c t' h n Q) : Ok P c t h n Q := by
  have hlen : ∀ (dead : List Nat) (t : List V), (overD dead t).length = t.length := by
    intro dead
    induction dead with
    | nil => intro t; rfl
    | cons d l ih => intro t; show (overD l (setN t d .any)).length = _; rw [ih, setN_set, List.length_set]
  have hget : ∀ (dead : List Nat) (t : List V) (i : Nat) (x y : V), t[i]? = some x → (overD dead t)[i]? = some y → y = x ∨ y = .any := by
    intro dead
    induction dead with
    | nil => intro t i x y hx hy; exact .inl (Option.some.inj (hy.symm.trans hx))
    | cons d l ih =>
      intro t i x y hx hy
      have hy' : (overD l (setN t d .any))[i]? = some y := hy
      by_cases hdi : d = i
      · subst hdi
        have hs : (setN t d .any)[d]? = some .any := by
          have hi := (List.getElem?_eq_some_iff.1 hx).1
          rw [setN_set, List.getElem?_set_self hi]
        rcases ih _ _ _ _ hs hy' with h | h
        · exact .inr h
        · exact .inr h
      · have hs : (setN t d .any)[i]? = some x := by rw [setN_set, List.getElem?_set_ne hdi, hx]
        exact ih _ _ _ _ hs hy'
  subst ht
  refine Ok.forget (hlen dead t).symm (fun i x y hx hy => ?_) hk
  rcases hget dead t i x y hx hy with rfl | rfl
  · exact le_rfl' _
  · exact le_any _
theorem OkOps.turnU {fx : Operand} {args : Array Operand} {ts : Array TypeId} {f : FuncId} {caps ag : List V} {U0 : V → V} {v0 x x' a a' R : V} {A B : Nat → Prop} (c : Nat) (hg : o.guard = none) (ho : o.op = .call ⟨.value fx, args, ts⟩) (hf : opnd t fx = .fn f caps) (ha : args.toList.map (opnd t) ++ caps = ag)
    (hcl : Callable P f) (hc : ∀ h, OkCall P f ag h n (MarkQ A a a' R h (n + c))) (hn : n + c = n') (hU : Hom U0 B) (hv : U0 v0 = x) (hsub : ∀ L, A L → B L) (hx : ∀ W, Hom W A → W a = a' → W x = x') (ht : ∀ W, Hom W A → W a = a' → putV (t.map W) o.dst R = t')
    (hk : ∀ U, Hom U B → U v0 = x' → OkOps P ops l t' (h0.map U) n' Q) : OkOps P ops (o :: l) t (h0.map U0) n Q := by
  intro base w0 hv' σ act w g
  unfold wpList
  rw [if_pos (wanted_none hg _)]
  refine .inl (call_wp ho hf hcl (R := MarkQ A a a' R (t ++ h0.map U0) (n + c)) (by rw [ha]; exact hc _) g _ _ ?_)
  rintro r t1 h1 n1 σ' a2 w' ⟨rfl, rfl, W, hW, hWa, he⟩ hl g'
  rw [List.map_append] at he
  obtain ⟨rfl, rfl⟩ := List.append_inj he (by rw [List.length_map]; exact hl)
  rw [ht W hW hWa, List.map_map, hn] at g'
  exact hk (W ∘ U0) ((hW.mono hsub).comp hU) (by show W (U0 v0) = x'; rw [hv, hx W hW hWa]) base w0 hv' σ' a2 w' g'
theorem OkOps.storeU {T : TypeId} {p q : Operand} {L j : Nat} {e' : List V} {U0 : V → V} {v0 x x' : V} {B : Nat → Prop} (hti : TabOk P ti) (hg : o.guard = none) (ho : o.op = .store T p q) (hs : Go.Proofs.YtjhfabimacljhaaGreat.K.storeE (ti T) (opnd t p) (opnd t q) = some (L, j, e')) (hc : ∃ y l, cellsV (opnd t q) = y :: l) (hfree : L ∉ V.labelsL e')
    (hU : Hom U0 B) (hv : U0 v0 = x) (hB : B L) (hx : ∀ W, Hom W (· = L) → StoreF W L j e' → W x = x') (ht : ∀ W, Hom W (· = L) → StoreF W L j e' → putV (t.map W) o.dst .any = t')
    (hk : ∀ U, Hom U B → U v0 = x' → OkOps P ops l t' (h0.map U) n Q) : OkOps P ops (o :: l) t (h0.map U0) n Q := by
  have hW := upd_hom L j e'
  have hF := upd_storeF L j e'
  refine OkOps.storeE hti hg ho hs hc hfree (t' := t') (h' := h0.map (V.upd L j e' ∘ U0)) ?_ ?_ ?_
  · unfold V.updL; rw [travL_eq]; exact ht _ hW hF
  · unfold V.updL; rw [travL_eq, List.map_map]; rfl
  · exact hk _ ((hW.mono fun M hM => by rw [hM]; exact hB).comp hU) (by show V.upd L j e' (U0 v0) = x'; rw [hv, hx _ hW hF])
end
end Go.Proofs.YtjhfabimacljhaaGreat.K

/- Rows of data of the call's own. Printed by genis.py. -/
namespace Go.Proofs.YtjhfabimacljhaaGreat.K
open Go Go.RowKit
set_option linter.unusedVariables false
set_option linter.unusedSimpArgs false
def isInt (c : List V) : Prop := ∃ n : Int, c = [.int .i64 n]
def isText (c : List V) : Prop := ∃ s : Str, c = [.str s]
theorem nd_split {x : Nat} {A C B : List Nat} (h : (x :: (A ++ (C ++ B))).Nodup) : x ∉ A ∧ x ∉ C ∧ x ∉ B ∧ (∀ y ∈ A, ¬ y ∈ C) ∧ (∀ y ∈ B, ¬ y ∈ C) ∧ C.Nodup := by
  simp only [List.nodup_cons, List.nodup_append, List.mem_append, not_or] at h
  obtain ⟨⟨h1, h2, h3⟩, h4, ⟨h5, h6, h7⟩, h8⟩ := h
  exact ⟨h1, h2, h3, fun y hy hc => h8 y hy y (.inl hc) rfl, fun y hy hc => h7 y hc y hy rfl, h5⟩
theorem nd_app {A B : List Nat} (h : (A ++ B).Nodup) : A.Nodup ∧ B.Nodup ∧ (∀ y ∈ A, ¬ y ∈ B) ∧ (∀ y ∈ B, ¬ y ∈ A) := by
  rw [List.nodup_append] at h
  exact ⟨h.1, h.2.1, fun y ha hb => h.2.2 y ha y hb rfl, fun y hb ha => h.2.2 y ha y hb rfl⟩
theorem lab_split {L : Nat} {a b : List (List V)} {c : List V} (h : (L :: V.labelsLL (a ++ c :: b)).Nodup) : L ∉ V.labelsLL a ∧ L ∉ V.labelsL c ∧ L ∉ V.labelsLL b ∧ (∀ y ∈ V.labelsLL a, ¬ y ∈ V.labelsL c) ∧ (∀ y ∈ V.labelsLL b, ¬ y ∈ V.labelsL c) ∧ (V.labelsL c).Nodup := by
  rw [labelsLL_app] at h
  exact nd_split h
def isReg (c : List V) : Prop := ∃ (v0 : Int) (v1 : Int) (v2 : Int), c = [.int .i64 v0, .int .i64 v1, .int .i64 v2]
def isMail (c : List V) : Prop := ∃ (v0 : Int) (v1 : Int) (L2 : Nat) (e2 : List (List V)) (v3 : Str), c = [.int .i64 v0, .int .i64 v1, .sl (L2 + 1) 3 0 e2, .str v3] ∧ (∀ r ∈ e2, isReg r)
def isBox (c : List V) : Prop := ∃ (v0 : Int) (v1 : Str) (v2 : Int) (v3 : Int) (v4 : Int) (L5 : Nat) (e5 : List (List V)) (L6 : Nat) (e6 : List (List V)), c = [.int .i64 v0, .str v1, .int .i64 v2, .int .i64 v3, .int .i64 v4, .sl (L5 + 1) 4 0 e5, .sl (L6 + 1) 1 0 e6] ∧ (∀ r ∈ e5, isMail r) ∧ (∀ r ∈ e6, isInt r)
def isServer (c : List V) : Prop := ∃ (v0 : Int) (v1 : Int) (L2 : Nat) (e2 : List (List V)) (L3 : Nat) (e3 : List (List V)) (v4 : Str) (v5 : Int) (v6 : Str) (v7 : Str) (v8 : Bool) (v9 : Bool) (v10 : Int) (L11 : Nat) (e11 : List (List V)) (v12 : Bool), c = [.int .i64 v0, .int .i64 v1, .sl (L2 + 1) 7 0 e2, .sl (L3 + 1) 1 0 e3, .str v4, .int .i64 v5, .str v6, .str v7, .bool v8, .bool v9, .int .i64 v10, .sl (L11 + 1) 1 0 e11, .bool v12] ∧ (∀ r ∈ e2, isBox r) ∧ (∀ r ∈ e3, isInt r) ∧ (∀ r ∈ e11, isInt r)
def isSync (c : List V) : Prop := ∃ (v0 : Int) (v1 : Int) (L2 : Nat) (e2 : List (List V)) (v3 : Int) (v4 : Int) (v5 : Int) (L6 : Nat) (e6 : List (List V)) (v7 : Bool) (v8 : Bool), c = [.int .i64 v0, .int .i64 v1, .sl (L2 + 1) 1 0 e2, .int .i64 v3, .int .i64 v4, .int .i64 v5, .sl (L6 + 1) 1 0 e6, .bool v7, .bool v8] ∧ (∀ r ∈ e2, isText r) ∧ (∀ r ∈ e6, isText r)
def isLetter (c : List V) : Prop := ∃ (v0 : Int) (v1 : Str), c = [.int .i64 v0, .str v1]
theorem len_mn : ∀ (es : List (List V)), (∀ r ∈ es, 1 ≤ V.mnL r) → es.length ≤ V.mnLL es
  | [], _ => Nat.le_refl _
  | x :: es, h => by
    have h1 := h x (List.mem_cons_self ..)
    have h2 := len_mn es fun r hr => h r (List.mem_cons_of_mem _ hr)
    show es.length + 1 ≤ V.mnL x + V.mnLL es
    omega
theorem isInt_mn {c : List V} (h : isInt c) : 1 ≤ V.mnL c := by
  obtain ⟨v0, rfl⟩ := h
  simp only [V.mnL, V.mn]; omega
theorem isText_mn {c : List V} (h : isText c) : 1 ≤ V.mnL c := by
  obtain ⟨v0, rfl⟩ := h
  simp only [V.mnL, V.mn]; omega
theorem isReg_mn {c : List V} (h : isReg c) : 1 ≤ V.mnL c := by
  obtain ⟨v0, v1, v2, rfl⟩ := h
  simp only [V.mnL, V.mn]; omega
theorem isMail_mn {c : List V} (h : isMail c) : 1 ≤ V.mnL c := by
  obtain ⟨v0, v1, L2, e2, v3, rfl, _⟩ := h
  simp only [V.mnL, V.mn]; omega
theorem isBox_mn {c : List V} (h : isBox c) : 1 ≤ V.mnL c := by
  obtain ⟨v0, v1, v2, v3, v4, L5, e5, L6, e6, rfl, _, _⟩ := h
  simp only [V.mnL, V.mn]; omega
theorem isServer_mn {c : List V} (h : isServer c) : 1 ≤ V.mnL c := by
  obtain ⟨v0, v1, L2, e2, L3, e3, v4, v5, v6, v7, v8, v9, v10, L11, e11, v12, rfl, _, _, _⟩ := h
  simp only [V.mnL, V.mn]; omega
theorem isSync_mn {c : List V} (h : isSync c) : 1 ≤ V.mnL c := by
  obtain ⟨v0, v1, L2, e2, v3, v4, v5, L6, e6, v7, v8, rfl, _, _⟩ := h
  simp only [V.mnL, V.mn]; omega
theorem isLetter_mn {c : List V} (h : isLetter c) : 1 ≤ V.mnL c := by
  obtain ⟨v0, v1, rfl⟩ := h
  simp only [V.mnL, V.mn]; omega
end Go.Proofs.YtjhfabimacljhaaGreat.K

/- Data of the call's own. Printed by genown.py. -/
namespace Go.Proofs.YtjhfabimacljhaaGreat.K
open Go Go.RowKit
set_option linter.unusedVariables false
set_option linter.unusedSimpArgs false
theorem Hom.nilV {f : V → V} {A : Nat → Prop} (hf : Hom f A) (s : Nat) : f (.nil s) = .nil s := hf.far _ fun L h => by cases h
theorem plLL_of : ∀ (es : List (List V)), (∀ r ∈ es, V.plL r = true) → V.plLL es = true
  | [], _ => rfl
  | x :: es, h => by
    simp only [V.plLL, h x (List.mem_cons_self ..), plLL_of es fun r hr => h r (List.mem_cons_of_mem _ hr), Bool.and_self]
theorem erase_tagd {es d : List (List V)} {n : Nat} (hd : V.datLL d = true) (he : V.eraseLL d = d) (h : es = V.tagLL n d) (hp : ∀ r ∈ es, V.plL r = true) : V.travLL (fun sz => V.sl 0 sz 0 []) (fun _ sz _ es => V.sl 0 sz 0 es) (fun _ _ o e => V.ptr 0 0 o e) es = d ∧ ∀ K, V.travLL (fun sz => V.sl 0 sz 0 []) (fun _ sz _ es => V.sl 0 sz 0 es) (fun _ _ o e => V.ptr 0 0 o e) (V.mkLL K es) = V.mkLL K d := by
  have e1 : V.eraseLL es = d := by rw [h, tagLL_erase _ _ hd, he]
  exact ⟨e1, fun K => by show V.eraseLL _ = _; rw [mkLL_erase es K (plLL_of es hp), e1]⟩
section
variable {P : Program} {ti : Tab} {t t' : List V} {n n' : Nat} {Q : Exit → List V → List V → Nat → Prop} {ops : Array Oper} {o : Oper} {l : List Oper}
theorem OkOps.turnN {fx : Operand} {args : Array Operand} {ts : Array TypeId} {f : FuncId} {caps ag : List V} {a a' R : V} {A : Nat → Prop} (c : Nat) (hg : o.guard = none) (ho : o.op = .call ⟨.value fx, args, ts⟩) (hf : opnd t fx = .fn f caps) (ha : args.toList.map (opnd t) ++ caps = ag)
    (hcl : Callable P f) (hc : ∀ h, OkCall P f ag h n (MarkQ A a a' R h (n + c))) (hn : n + c = n') (ht : ∀ W, Hom W A → W a = a' → putV (t.map W) o.dst R = t')
    (hk : OkOps P ops l t' [] n' Q) : OkOps P ops (o :: l) t [] n Q :=
  OkOps.turnU (h0 := []) (U0 := id) (v0 := .any) (x := .any) (x' := .any) c hg ho hf ha hcl hc hn (Hom.id' A) rfl (fun _ h => h) (fun W hW _ => hW.any) ht (fun _ _ _ => hk)
theorem OkOps.storeN {T : TypeId} {p q : Operand} {L j : Nat} {e' : List V} (hti : TabOk P ti) (hg : o.guard = none) (ho : o.op = .store T p q) (hs : Go.Proofs.YtjhfabimacljhaaGreat.K.storeE (ti T) (opnd t p) (opnd t q) = some (L, j, e')) (hc : ∃ y l, cellsV (opnd t q) = y :: l) (hfree : L ∉ V.labelsL e')
    (ht : ∀ W, Hom W (· = L) → StoreF W L j e' → putV (t.map W) o.dst .any = t') (hk : OkOps P ops l t' [] n Q) : OkOps P ops (o :: l) t [] n Q :=
  OkOps.storeU (h0 := []) (U0 := id) (v0 := .any) (x := .any) (x' := .any) (B := (· = L)) hti hg ho hs hc hfree (Hom.id' _) rfl rfl (fun W hW _ => hW.any) ht (fun _ _ _ => hk)
end
theorem pl_int {c : List V} (h : isInt c) : V.plL c = true := by
  obtain ⟨v0, rfl⟩ := h
  simp only [V.plL, V.pl, Bool.and_true, Bool.true_and, beq_self_eq_true]
theorem own_int : ∀ (xs : List Int) (n : Nat), ∀ r ∈ V.tagLL (n + 1) (xs.map cZ), isInt r
  | [], n, r, hr => by cases hr
  | x :: xs, n, r, hr => by
    rw [List.map_cons] at hr
    rcases List.mem_cons.1 (show r ∈ V.tagL (n + 1) (cZ x) :: V.tagLL (n + 1 + V.cntL (cZ x)) (xs.map cZ) from hr) with rfl | hr
    · refine ⟨x, ?_⟩
      simp only [cZ, V.tagL, V.tag, V.cnt, Nat.add_zero]
    · rw [show n + 1 + V.cntL (cZ x) = (n + V.cntL (cZ x)) + 1 by omega] at hr; exact own_int xs _ r hr
theorem pl_string {c : List V} (h : isText c) : V.plL c = true := by
  obtain ⟨v0, rfl⟩ := h
  simp only [V.plL, V.pl, Bool.and_true, Bool.true_and, beq_self_eq_true]
theorem own_string : ∀ (xs : List Str) (n : Nat), ∀ r ∈ V.tagLL (n + 1) (xs.map cS), isText r
  | [], n, r, hr => by cases hr
  | x :: xs, n, r, hr => by
    rw [List.map_cons] at hr
    rcases List.mem_cons.1 (show r ∈ V.tagL (n + 1) (cS x) :: V.tagLL (n + 1 + V.cntL (cS x)) (xs.map cS) from hr) with rfl | hr
    · refine ⟨x, ?_⟩
      simp only [cS, V.tagL, V.tag, V.cnt, Nat.add_zero]
    · rw [show n + 1 + V.cntL (cS x) = (n + V.cntL (cS x)) + 1 by omega] at hr; exact own_string xs _ r hr
theorem pl_Reg {c : List V} (h : isReg c) : V.plL c = true := by
  obtain ⟨v0, v1, v2, rfl⟩ := h
  simp only [V.plL, V.pl, Bool.and_true, Bool.true_and, beq_self_eq_true]
theorem own_Reg : ∀ (xs : List Reg) (n : Nat), ∀ r ∈ V.tagLL (n + 1) (xs.map cReg), isReg r
  | [], n, r, hr => by cases hr
  | x :: xs, n, r, hr => by
    rw [List.map_cons] at hr
    rcases List.mem_cons.1 (show r ∈ V.tagL (n + 1) (cReg x) :: V.tagLL (n + 1 + V.cntL (cReg x)) (xs.map cReg) from hr) with rfl | hr
    · refine ⟨x.val, x.stamp.time, x.stamp.by_, ?_⟩
      simp only [cReg, V.tagL, V.tag, V.cnt, Nat.add_zero]
    · rw [show n + 1 + V.cntL (cReg x) = (n + V.cntL (cReg x)) + 1 by omega] at hr; exact own_Reg xs _ r hr
theorem pl_Mail {c : List V} (h : isMail c) : V.plL c = true := by
  obtain ⟨v0, v1, L2, e2, v3, rfl, q2⟩ := h
  have h2 := plLL_of e2 fun r hr => pl_Reg (q2 r hr)
  simp only [V.plL, V.pl, Bool.and_true, Bool.true_and, beq_self_eq_true, h2]
theorem own_Mail : ∀ (xs : List Mail) (n : Nat), ∀ r ∈ V.tagLL (n + 1) (xs.map cMail), isMail r
  | [], n, r, hr => by cases hr
  | x :: xs, n, r, hr => by
    rw [List.map_cons] at hr
    rcases List.mem_cons.1 (show r ∈ V.tagL (n + 1) (cMail x) :: V.tagLL (n + 1 + V.cntL (cMail x)) (xs.map cMail) from hr) with rfl | hr
    · refine ⟨x.gid, x.uid, n, V.tagLL (n + 1 + 1) (x.flags.map cReg), x.text, ?_, fun r hr => own_Reg x.flags (n + 1) r hr⟩
      simp only [cMail, V.tagL, V.tag, V.cnt, Nat.add_zero]
    · rw [show n + 1 + V.cntL (cMail x) = (n + V.cntL (cMail x)) + 1 by omega] at hr; exact own_Mail xs _ r hr
theorem pl_Box {c : List V} (h : isBox c) : V.plL c = true := by
  obtain ⟨v0, v1, v2, v3, v4, L5, e5, L6, e6, rfl, q5, q6⟩ := h
  have h5 := plLL_of e5 fun r hr => pl_Mail (q5 r hr)
  have h6 := plLL_of e6 fun r hr => pl_int (q6 r hr)
  simp only [V.plL, V.pl, Bool.and_true, Bool.true_and, beq_self_eq_true, h5, h6]
theorem own_Box : ∀ (xs : List Box) (n : Nat), ∀ r ∈ V.tagLL (n + 1) (xs.map cBox), isBox r
  | [], n, r, hr => by cases hr
  | x :: xs, n, r, hr => by
    rw [List.map_cons] at hr
    rcases List.mem_cons.1 (show r ∈ V.tagL (n + 1) (cBox x) :: V.tagLL (n + 1 + V.cntL (cBox x)) (xs.map cBox) from hr) with rfl | hr
    · refine ⟨x.gid, x.name, x.named.time, x.named.by_, x.next, n, V.tagLL (n + 1 + 1) (x.mails.map cMail), n + (1 + V.cntLL (x.mails.map cMail)), V.tagLL (n + (1 + V.cntLL (x.mails.map cMail)) + 1 + 1) (x.gone.map cZ), ?_, fun r hr => own_Mail x.mails (n + 1) r hr, fun r hr => own_int x.gone (n + (1 + V.cntLL (x.mails.map cMail)) + 1) r hr⟩
      simp only [cBox, V.tagL, V.tag, V.cnt, Nat.add_zero, (show n + 1 + (1 + V.cntLL (x.mails.map cMail)) = n + (1 + V.cntLL (x.mails.map cMail)) + 1 by omega)]
    · rw [show n + 1 + V.cntL (cBox x) = (n + V.cntL (cBox x)) + 1 by omega] at hr; exact own_Box xs _ r hr
theorem pl_Server {c : List V} (h : isServer c) : V.plL c = true := by
  obtain ⟨v0, v1, L2, e2, L3, e3, v4, v5, v6, v7, v8, v9, v10, L11, e11, v12, rfl, q2, q3, q11⟩ := h
  have h2 := plLL_of e2 fun r hr => pl_Box (q2 r hr)
  have h3 := plLL_of e3 fun r hr => pl_int (q3 r hr)
  have h11 := plLL_of e11 fun r hr => pl_int (q11 r hr)
  simp only [V.plL, V.pl, Bool.and_true, Bool.true_and, beq_self_eq_true, h2, h3, h11]
theorem own_Server : ∀ (xs : List Server) (n : Nat), ∀ r ∈ V.tagLL (n + 1) (xs.map cServer), isServer r
  | [], n, r, hr => by cases hr
  | x :: xs, n, r, hr => by
    rw [List.map_cons] at hr
    rcases List.mem_cons.1 (show r ∈ V.tagL (n + 1) (cServer x) :: V.tagLL (n + 1 + V.cntL (cServer x)) (xs.map cServer) from hr) with rfl | hr
    · refine ⟨x.kept.store.by_, x.kept.store.time, n, V.tagLL (n + 1 + 1) (x.kept.store.boxes.map cBox), n + (1 + V.cntLL (x.kept.store.boxes.map cBox)), V.tagLL (n + (1 + V.cntLL (x.kept.store.boxes.map cBox)) + 1 + 1) (x.kept.store.gone.map cZ), x.kept.journal, x.kept.saved, x.session.inn, x.session.out, x.session.on, x.session.over, x.session.box, n + (1 + V.cntLL (x.kept.store.boxes.map cBox)) + (1 + V.cntLL (x.kept.store.gone.map cZ)), V.tagLL (n + (1 + V.cntLL (x.kept.store.boxes.map cBox)) + (1 + V.cntLL (x.kept.store.gone.map cZ)) + 1 + 1) (x.session.view.map cZ), x.up, ?_, fun r hr => own_Box x.kept.store.boxes (n + 1) r hr, fun r hr => own_int x.kept.store.gone (n + (1 + V.cntLL (x.kept.store.boxes.map cBox)) + 1) r hr, fun r hr => own_int x.session.view (n + (1 + V.cntLL (x.kept.store.boxes.map cBox)) + (1 + V.cntLL (x.kept.store.gone.map cZ)) + 1) r hr⟩
      simp only [cServer, V.tagL, V.tag, V.cnt, Nat.add_zero, (show n + 1 + (1 + V.cntLL (x.kept.store.boxes.map cBox)) = n + (1 + V.cntLL (x.kept.store.boxes.map cBox)) + 1 by omega), (show n + (1 + V.cntLL (x.kept.store.boxes.map cBox)) + 1 + (1 + V.cntLL (x.kept.store.gone.map cZ)) = n + (1 + V.cntLL (x.kept.store.boxes.map cBox)) + (1 + V.cntLL (x.kept.store.gone.map cZ)) + 1 by omega)]
    · rw [show n + 1 + V.cntL (cServer x) = (n + V.cntL (cServer x)) + 1 by omega] at hr; exact own_Server xs _ r hr
theorem pl_Sync {c : List V} (h : isSync c) : V.plL c = true := by
  obtain ⟨v0, v1, L2, e2, v3, v4, v5, L6, e6, v7, v8, rfl, q2, q6⟩ := h
  have h2 := plLL_of e2 fun r hr => pl_string (q2 r hr)
  have h6 := plLL_of e6 fun r hr => pl_string (q6 r hr)
  simp only [V.plL, V.pl, Bool.and_true, Bool.true_and, beq_self_eq_true, h2, h6]
theorem own_Sync : ∀ (xs : List Sync) (n : Nat), ∀ r ∈ V.tagLL (n + 1) (xs.map cSync), isSync r
  | [], n, r, hr => by cases hr
  | x :: xs, n, r, hr => by
    rw [List.map_cons] at hr
    rcases List.mem_cons.1 (show r ∈ V.tagL (n + 1) (cSync x) :: V.tagLL (n + 1 + V.cntL (cSync x)) (xs.map cSync) from hr) with rfl | hr
    · refine ⟨x.epoch, x.link.epoch, n, V.tagLL (n + 1 + 1) (x.link.way.map cS), x.link.next, x.link.want, x.total, n + (1 + V.cntLL (x.link.way.map cS)), V.tagLL (n + (1 + V.cntLL (x.link.way.map cS)) + 1 + 1) (x.pieces.map cS), x.done, x.failed, ?_, fun r hr => own_string x.link.way (n + 1) r hr, fun r hr => own_string x.pieces (n + (1 + V.cntLL (x.link.way.map cS)) + 1) r hr⟩
      simp only [cSync, V.tagL, V.tag, V.cnt, Nat.add_zero, (show n + 1 + (1 + V.cntLL (x.link.way.map cS)) = n + (1 + V.cntLL (x.link.way.map cS)) + 1 by omega)]
    · rw [show n + 1 + V.cntL (cSync x) = (n + V.cntL (cSync x)) + 1 by omega] at hr; exact own_Sync xs _ r hr
theorem pl_Letter {c : List V} (h : isLetter c) : V.plL c = true := by
  obtain ⟨v0, v1, rfl⟩ := h
  simp only [V.plL, V.pl, Bool.and_true, Bool.true_and, beq_self_eq_true]
theorem own_Letter : ∀ (xs : List Letter) (n : Nat), ∀ r ∈ V.tagLL (n + 1) (xs.map cLetter), isLetter r
  | [], n, r, hr => by cases hr
  | x :: xs, n, r, hr => by
    rw [List.map_cons] at hr
    rcases List.mem_cons.1 (show r ∈ V.tagL (n + 1) (cLetter x) :: V.tagLL (n + 1 + V.cntL (cLetter x)) (xs.map cLetter) from hr) with rfl | hr
    · refine ⟨x.to_, x.text, ?_⟩
      simp only [cLetter, V.tagL, V.tag, V.cnt, Nat.add_zero]
    · rw [show n + 1 + V.cntL (cLetter x) = (n + V.cntL (cLetter x)) + 1 by omega] at hr; exact own_Letter xs _ r hr
theorem ownReg (n : Nat) (x : Reg) :  V.tag (n + 1) (.agg (cReg x)) = .agg [.int .i64 x.val, .int .i64 x.stamp.time, .int .i64 x.stamp.by_] ∧ (V.labelsL [.int .i64 x.val, .int .i64 x.stamp.time, .int .i64 x.stamp.by_]).Nodup ∧ (∀ z ∈ V.labelsL [.int .i64 x.val, .int .i64 x.stamp.time, .int .i64 x.stamp.by_], n + 1 ≤ z ∧ z < n + 1 + V.cnt (.agg (cReg x))) := by
  have hX : V.tagL (n + 1) (cReg x) = [.int .i64 x.val, .int .i64 x.stamp.time, .int .i64 x.stamp.by_] := by
    simp only [cReg, V.tagL, V.tag, V.cnt, Nat.add_zero]
  have hl := tagL_labels (cReg x) (n + 1)
  rw [hX] at hl
  refine ⟨congrArg V.agg hX, ?_, ?_⟩
  · rw [hl]; exact List.nodup_range'
  · intro z hz; rw [hl, List.mem_range'_1] at hz; exact hz
theorem ownMail (n : Nat) (x : Mail) : ∃ (L2 : Nat) (e2 : List (List V)), V.tag (n + 1) (.agg (cMail x)) = .agg [.int .i64 x.gid, .int .i64 x.uid, .sl (L2 + 1) 3 0 e2, .str x.text] ∧ (∀ r ∈ e2, isReg r) ∧ V.travLL (fun sz => V.sl 0 sz 0 []) (fun _ sz _ es => V.sl 0 sz 0 es) (fun _ _ o e => V.ptr 0 0 o e) e2 = x.flags.map cReg ∧ (∀ K, V.travLL (fun sz => V.sl 0 sz 0 []) (fun _ sz _ es => V.sl 0 sz 0 es) (fun _ _ o e => V.ptr 0 0 o e) (V.mkLL K e2) = V.mkLL K (x.flags.map cReg)) ∧ V.mnLL e2 = V.mnLL (x.flags.map cReg) ∧ (V.labelsL [.int .i64 x.gid, .int .i64 x.uid, .sl (L2 + 1) 3 0 e2, .str x.text]).Nodup ∧ (∀ z ∈ V.labelsL [.int .i64 x.gid, .int .i64 x.uid, .sl (L2 + 1) 3 0 e2, .str x.text], n + 1 ≤ z ∧ z < n + 1 + V.cnt (.agg (cMail x))) := by
  have hX : V.tagL (n + 1) (cMail x) = [.int .i64 x.gid, .int .i64 x.uid, .sl (n + 1) 3 0 (V.tagLL (n + 1 + 1) (x.flags.map cReg)), .str x.text] := by
    simp only [cMail, V.tagL, V.tag, V.cnt, Nat.add_zero]
  have hl := tagL_labels (cMail x) (n + 1)
  rw [hX] at hl
  have q2 := fun r hr => own_Reg x.flags (n + 1) r hr
  have d2 := erase_tagd (es := V.tagLL (n + 1 + 1) (x.flags.map cReg)) (n := n + 1 + 1) (by simp [zz, zf, zy]) (by simp [V.eraseLL, zz, zf, zy]) rfl (fun r hr => pl_Reg (q2 r hr))
  have m2 := mnLL_erase (V.tagLL (n + 1 + 1) (x.flags.map cReg))
  rw [show V.eraseLL (V.tagLL (n + 1 + 1) (x.flags.map cReg)) = x.flags.map cReg from d2.1] at m2
  refine ⟨n, _, congrArg V.agg hX, q2, d2.1, d2.2, m2.symm, ?_, ?_⟩
  · rw [hl]; exact List.nodup_range'
  · intro z hz; rw [hl, List.mem_range'_1] at hz; exact hz
theorem ownBox (n : Nat) (x : Box) : ∃ (L5 : Nat) (e5 : List (List V)) (L6 : Nat) (e6 : List (List V)), V.tag (n + 1) (.agg (cBox x)) = .agg [.int .i64 x.gid, .str x.name, .int .i64 x.named.time, .int .i64 x.named.by_, .int .i64 x.next, .sl (L5 + 1) 4 0 e5, .sl (L6 + 1) 1 0 e6] ∧ (∀ r ∈ e5, isMail r) ∧ V.travLL (fun sz => V.sl 0 sz 0 []) (fun _ sz _ es => V.sl 0 sz 0 es) (fun _ _ o e => V.ptr 0 0 o e) e5 = x.mails.map cMail ∧ (∀ K, V.travLL (fun sz => V.sl 0 sz 0 []) (fun _ sz _ es => V.sl 0 sz 0 es) (fun _ _ o e => V.ptr 0 0 o e) (V.mkLL K e5) = V.mkLL K (x.mails.map cMail)) ∧ V.mnLL e5 = V.mnLL (x.mails.map cMail) ∧ (∀ r ∈ e6, isInt r) ∧ V.travLL (fun sz => V.sl 0 sz 0 []) (fun _ sz _ es => V.sl 0 sz 0 es) (fun _ _ o e => V.ptr 0 0 o e) e6 = x.gone.map cZ ∧ (∀ K, V.travLL (fun sz => V.sl 0 sz 0 []) (fun _ sz _ es => V.sl 0 sz 0 es) (fun _ _ o e => V.ptr 0 0 o e) (V.mkLL K e6) = V.mkLL K (x.gone.map cZ)) ∧ V.mnLL e6 = V.mnLL (x.gone.map cZ) ∧ (V.labelsL [.int .i64 x.gid, .str x.name, .int .i64 x.named.time, .int .i64 x.named.by_, .int .i64 x.next, .sl (L5 + 1) 4 0 e5, .sl (L6 + 1) 1 0 e6]).Nodup ∧ (∀ z ∈ V.labelsL [.int .i64 x.gid, .str x.name, .int .i64 x.named.time, .int .i64 x.named.by_, .int .i64 x.next, .sl (L5 + 1) 4 0 e5, .sl (L6 + 1) 1 0 e6], n + 1 ≤ z ∧ z < n + 1 + V.cnt (.agg (cBox x))) := by
  have hX : V.tagL (n + 1) (cBox x) = [.int .i64 x.gid, .str x.name, .int .i64 x.named.time, .int .i64 x.named.by_, .int .i64 x.next, .sl (n + 1) 4 0 (V.tagLL (n + 1 + 1) (x.mails.map cMail)), .sl (n + (1 + V.cntLL (x.mails.map cMail)) + 1) 1 0 (V.tagLL (n + (1 + V.cntLL (x.mails.map cMail)) + 1 + 1) (x.gone.map cZ))] := by
    simp only [cBox, V.tagL, V.tag, V.cnt, Nat.add_zero, (show n + 1 + (1 + V.cntLL (x.mails.map cMail)) = n + (1 + V.cntLL (x.mails.map cMail)) + 1 by omega)]
  have hl := tagL_labels (cBox x) (n + 1)
  rw [hX] at hl
  have q5 := fun r hr => own_Mail x.mails (n + 1) r hr
  have d5 := erase_tagd (es := V.tagLL (n + 1 + 1) (x.mails.map cMail)) (n := n + 1 + 1) (by simp [zz, zf, zy]) (by simp [V.eraseLL, zz, zf, zy]) rfl (fun r hr => pl_Mail (q5 r hr))
  have m5 := mnLL_erase (V.tagLL (n + 1 + 1) (x.mails.map cMail))
  rw [show V.eraseLL (V.tagLL (n + 1 + 1) (x.mails.map cMail)) = x.mails.map cMail from d5.1] at m5
  have q6 := fun r hr => own_int x.gone (n + (1 + V.cntLL (x.mails.map cMail)) + 1) r hr
  have d6 := erase_tagd (es := V.tagLL (n + (1 + V.cntLL (x.mails.map cMail)) + 1 + 1) (x.gone.map cZ)) (n := n + (1 + V.cntLL (x.mails.map cMail)) + 1 + 1) (by simp [zz, zf, zy]) (by simp [V.eraseLL, zz, zf, zy]) rfl (fun r hr => pl_int (q6 r hr))
  have m6 := mnLL_erase (V.tagLL (n + (1 + V.cntLL (x.mails.map cMail)) + 1 + 1) (x.gone.map cZ))
  rw [show V.eraseLL (V.tagLL (n + (1 + V.cntLL (x.mails.map cMail)) + 1 + 1) (x.gone.map cZ)) = x.gone.map cZ from d6.1] at m6
  refine ⟨n, _, n + (1 + V.cntLL (x.mails.map cMail)), _, congrArg V.agg hX, q5, d5.1, d5.2, m5.symm, q6, d6.1, d6.2, m6.symm, ?_, ?_⟩
  · rw [hl]; exact List.nodup_range'
  · intro z hz; rw [hl, List.mem_range'_1] at hz; exact hz
theorem ownLetter (n : Nat) (x : Letter) :  V.tag (n + 1) (.agg (cLetter x)) = .agg [.int .i64 x.to_, .str x.text] ∧ (V.labelsL [.int .i64 x.to_, .str x.text]).Nodup ∧ (∀ z ∈ V.labelsL [.int .i64 x.to_, .str x.text], n + 1 ≤ z ∧ z < n + 1 + V.cnt (.agg (cLetter x))) := by
  have hX : V.tagL (n + 1) (cLetter x) = [.int .i64 x.to_, .str x.text] := by
    simp only [cLetter, V.tagL, V.tag, V.cnt, Nat.add_zero]
  have hl := tagL_labels (cLetter x) (n + 1)
  rw [hX] at hl
  refine ⟨congrArg V.agg hX, ?_, ?_⟩
  · rw [hl]; exact List.nodup_range'
  · intro z hz; rw [hl, List.mem_range'_1] at hz; exact hz
theorem ownStore (n : Nat) (x : Store) : ∃ (L2 : Nat) (e2 : List (List V)) (L3 : Nat) (e3 : List (List V)), V.tag (n + 1) (.agg (cStore x)) = .agg [.int .i64 x.by_, .int .i64 x.time, .sl (L2 + 1) 7 0 e2, .sl (L3 + 1) 1 0 e3] ∧ (∀ r ∈ e2, isBox r) ∧ V.travLL (fun sz => V.sl 0 sz 0 []) (fun _ sz _ es => V.sl 0 sz 0 es) (fun _ _ o e => V.ptr 0 0 o e) e2 = x.boxes.map cBox ∧ (∀ K, V.travLL (fun sz => V.sl 0 sz 0 []) (fun _ sz _ es => V.sl 0 sz 0 es) (fun _ _ o e => V.ptr 0 0 o e) (V.mkLL K e2) = V.mkLL K (x.boxes.map cBox)) ∧ V.mnLL e2 = V.mnLL (x.boxes.map cBox) ∧ (∀ r ∈ e3, isInt r) ∧ V.travLL (fun sz => V.sl 0 sz 0 []) (fun _ sz _ es => V.sl 0 sz 0 es) (fun _ _ o e => V.ptr 0 0 o e) e3 = x.gone.map cZ ∧ (∀ K, V.travLL (fun sz => V.sl 0 sz 0 []) (fun _ sz _ es => V.sl 0 sz 0 es) (fun _ _ o e => V.ptr 0 0 o e) (V.mkLL K e3) = V.mkLL K (x.gone.map cZ)) ∧ V.mnLL e3 = V.mnLL (x.gone.map cZ) ∧ (V.labelsL [.int .i64 x.by_, .int .i64 x.time, .sl (L2 + 1) 7 0 e2, .sl (L3 + 1) 1 0 e3]).Nodup ∧ (∀ z ∈ V.labelsL [.int .i64 x.by_, .int .i64 x.time, .sl (L2 + 1) 7 0 e2, .sl (L3 + 1) 1 0 e3], n + 1 ≤ z ∧ z < n + 1 + V.cnt (.agg (cStore x))) := by
  have hX : V.tagL (n + 1) (cStore x) = [.int .i64 x.by_, .int .i64 x.time, .sl (n + 1) 7 0 (V.tagLL (n + 1 + 1) (x.boxes.map cBox)), .sl (n + (1 + V.cntLL (x.boxes.map cBox)) + 1) 1 0 (V.tagLL (n + (1 + V.cntLL (x.boxes.map cBox)) + 1 + 1) (x.gone.map cZ))] := by
    simp only [cStore, V.tagL, V.tag, V.cnt, Nat.add_zero, (show n + 1 + (1 + V.cntLL (x.boxes.map cBox)) = n + (1 + V.cntLL (x.boxes.map cBox)) + 1 by omega)]
  have hl := tagL_labels (cStore x) (n + 1)
  rw [hX] at hl
  have q2 := fun r hr => own_Box x.boxes (n + 1) r hr
  have d2 := erase_tagd (es := V.tagLL (n + 1 + 1) (x.boxes.map cBox)) (n := n + 1 + 1) (by simp [zz, zf, zy]) (by simp [V.eraseLL, zz, zf, zy]) rfl (fun r hr => pl_Box (q2 r hr))
  have m2 := mnLL_erase (V.tagLL (n + 1 + 1) (x.boxes.map cBox))
  rw [show V.eraseLL (V.tagLL (n + 1 + 1) (x.boxes.map cBox)) = x.boxes.map cBox from d2.1] at m2
  have q3 := fun r hr => own_int x.gone (n + (1 + V.cntLL (x.boxes.map cBox)) + 1) r hr
  have d3 := erase_tagd (es := V.tagLL (n + (1 + V.cntLL (x.boxes.map cBox)) + 1 + 1) (x.gone.map cZ)) (n := n + (1 + V.cntLL (x.boxes.map cBox)) + 1 + 1) (by simp [zz, zf, zy]) (by simp [V.eraseLL, zz, zf, zy]) rfl (fun r hr => pl_int (q3 r hr))
  have m3 := mnLL_erase (V.tagLL (n + (1 + V.cntLL (x.boxes.map cBox)) + 1 + 1) (x.gone.map cZ))
  rw [show V.eraseLL (V.tagLL (n + (1 + V.cntLL (x.boxes.map cBox)) + 1 + 1) (x.gone.map cZ)) = x.gone.map cZ from d3.1] at m3
  refine ⟨n, _, n + (1 + V.cntLL (x.boxes.map cBox)), _, congrArg V.agg hX, q2, d2.1, d2.2, m2.symm, q3, d3.1, d3.2, m3.symm, ?_, ?_⟩
  · rw [hl]; exact List.nodup_range'
  · intro z hz; rw [hl, List.mem_range'_1] at hz; exact hz
theorem ownKept (n : Nat) (x : Kept) : ∃ (L2 : Nat) (e2 : List (List V)) (L3 : Nat) (e3 : List (List V)), V.tag (n + 1) (.agg (cKept x)) = .agg [.int .i64 x.store.by_, .int .i64 x.store.time, .sl (L2 + 1) 7 0 e2, .sl (L3 + 1) 1 0 e3, .str x.journal, .int .i64 x.saved] ∧ (∀ r ∈ e2, isBox r) ∧ V.travLL (fun sz => V.sl 0 sz 0 []) (fun _ sz _ es => V.sl 0 sz 0 es) (fun _ _ o e => V.ptr 0 0 o e) e2 = x.store.boxes.map cBox ∧ (∀ K, V.travLL (fun sz => V.sl 0 sz 0 []) (fun _ sz _ es => V.sl 0 sz 0 es) (fun _ _ o e => V.ptr 0 0 o e) (V.mkLL K e2) = V.mkLL K (x.store.boxes.map cBox)) ∧ V.mnLL e2 = V.mnLL (x.store.boxes.map cBox) ∧ (∀ r ∈ e3, isInt r) ∧ V.travLL (fun sz => V.sl 0 sz 0 []) (fun _ sz _ es => V.sl 0 sz 0 es) (fun _ _ o e => V.ptr 0 0 o e) e3 = x.store.gone.map cZ ∧ (∀ K, V.travLL (fun sz => V.sl 0 sz 0 []) (fun _ sz _ es => V.sl 0 sz 0 es) (fun _ _ o e => V.ptr 0 0 o e) (V.mkLL K e3) = V.mkLL K (x.store.gone.map cZ)) ∧ V.mnLL e3 = V.mnLL (x.store.gone.map cZ) ∧ (V.labelsL [.int .i64 x.store.by_, .int .i64 x.store.time, .sl (L2 + 1) 7 0 e2, .sl (L3 + 1) 1 0 e3, .str x.journal, .int .i64 x.saved]).Nodup ∧ (∀ z ∈ V.labelsL [.int .i64 x.store.by_, .int .i64 x.store.time, .sl (L2 + 1) 7 0 e2, .sl (L3 + 1) 1 0 e3, .str x.journal, .int .i64 x.saved], n + 1 ≤ z ∧ z < n + 1 + V.cnt (.agg (cKept x))) := by
  have hX : V.tagL (n + 1) (cKept x) = [.int .i64 x.store.by_, .int .i64 x.store.time, .sl (n + 1) 7 0 (V.tagLL (n + 1 + 1) (x.store.boxes.map cBox)), .sl (n + (1 + V.cntLL (x.store.boxes.map cBox)) + 1) 1 0 (V.tagLL (n + (1 + V.cntLL (x.store.boxes.map cBox)) + 1 + 1) (x.store.gone.map cZ)), .str x.journal, .int .i64 x.saved] := by
    simp only [cKept, V.tagL, V.tag, V.cnt, Nat.add_zero, (show n + 1 + (1 + V.cntLL (x.store.boxes.map cBox)) = n + (1 + V.cntLL (x.store.boxes.map cBox)) + 1 by omega)]
  have hl := tagL_labels (cKept x) (n + 1)
  rw [hX] at hl
  have q2 := fun r hr => own_Box x.store.boxes (n + 1) r hr
  have d2 := erase_tagd (es := V.tagLL (n + 1 + 1) (x.store.boxes.map cBox)) (n := n + 1 + 1) (by simp [zz, zf, zy]) (by simp [V.eraseLL, zz, zf, zy]) rfl (fun r hr => pl_Box (q2 r hr))
  have m2 := mnLL_erase (V.tagLL (n + 1 + 1) (x.store.boxes.map cBox))
  rw [show V.eraseLL (V.tagLL (n + 1 + 1) (x.store.boxes.map cBox)) = x.store.boxes.map cBox from d2.1] at m2
  have q3 := fun r hr => own_int x.store.gone (n + (1 + V.cntLL (x.store.boxes.map cBox)) + 1) r hr
  have d3 := erase_tagd (es := V.tagLL (n + (1 + V.cntLL (x.store.boxes.map cBox)) + 1 + 1) (x.store.gone.map cZ)) (n := n + (1 + V.cntLL (x.store.boxes.map cBox)) + 1 + 1) (by simp [zz, zf, zy]) (by simp [V.eraseLL, zz, zf, zy]) rfl (fun r hr => pl_int (q3 r hr))
  have m3 := mnLL_erase (V.tagLL (n + (1 + V.cntLL (x.store.boxes.map cBox)) + 1 + 1) (x.store.gone.map cZ))
  rw [show V.eraseLL (V.tagLL (n + (1 + V.cntLL (x.store.boxes.map cBox)) + 1 + 1) (x.store.gone.map cZ)) = x.store.gone.map cZ from d3.1] at m3
  refine ⟨n, _, n + (1 + V.cntLL (x.store.boxes.map cBox)), _, congrArg V.agg hX, q2, d2.1, d2.2, m2.symm, q3, d3.1, d3.2, m3.symm, ?_, ?_⟩
  · rw [hl]; exact List.nodup_range'
  · intro z hz; rw [hl, List.mem_range'_1] at hz; exact hz
theorem ownSession (n : Nat) (x : Session) : ∃ (L5 : Nat) (e5 : List (List V)), V.tag (n + 1) (.agg (cSession x)) = .agg [.str x.inn, .str x.out, .bool x.on, .bool x.over, .int .i64 x.box, .sl (L5 + 1) 1 0 e5] ∧ (∀ r ∈ e5, isInt r) ∧ V.travLL (fun sz => V.sl 0 sz 0 []) (fun _ sz _ es => V.sl 0 sz 0 es) (fun _ _ o e => V.ptr 0 0 o e) e5 = x.view.map cZ ∧ (∀ K, V.travLL (fun sz => V.sl 0 sz 0 []) (fun _ sz _ es => V.sl 0 sz 0 es) (fun _ _ o e => V.ptr 0 0 o e) (V.mkLL K e5) = V.mkLL K (x.view.map cZ)) ∧ V.mnLL e5 = V.mnLL (x.view.map cZ) ∧ (V.labelsL [.str x.inn, .str x.out, .bool x.on, .bool x.over, .int .i64 x.box, .sl (L5 + 1) 1 0 e5]).Nodup ∧ (∀ z ∈ V.labelsL [.str x.inn, .str x.out, .bool x.on, .bool x.over, .int .i64 x.box, .sl (L5 + 1) 1 0 e5], n + 1 ≤ z ∧ z < n + 1 + V.cnt (.agg (cSession x))) := by
  have hX : V.tagL (n + 1) (cSession x) = [.str x.inn, .str x.out, .bool x.on, .bool x.over, .int .i64 x.box, .sl (n + 1) 1 0 (V.tagLL (n + 1 + 1) (x.view.map cZ))] := by
    simp only [cSession, V.tagL, V.tag, V.cnt, Nat.add_zero]
  have hl := tagL_labels (cSession x) (n + 1)
  rw [hX] at hl
  have q5 := fun r hr => own_int x.view (n + 1) r hr
  have d5 := erase_tagd (es := V.tagLL (n + 1 + 1) (x.view.map cZ)) (n := n + 1 + 1) (by simp [zz, zf, zy]) (by simp [V.eraseLL, zz, zf, zy]) rfl (fun r hr => pl_int (q5 r hr))
  have m5 := mnLL_erase (V.tagLL (n + 1 + 1) (x.view.map cZ))
  rw [show V.eraseLL (V.tagLL (n + 1 + 1) (x.view.map cZ)) = x.view.map cZ from d5.1] at m5
  refine ⟨n, _, congrArg V.agg hX, q5, d5.1, d5.2, m5.symm, ?_, ?_⟩
  · rw [hl]; exact List.nodup_range'
  · intro z hz; rw [hl, List.mem_range'_1] at hz; exact hz
theorem ownServer (n : Nat) (x : Server) : ∃ (L2 : Nat) (e2 : List (List V)) (L3 : Nat) (e3 : List (List V)) (L11 : Nat) (e11 : List (List V)), V.tag (n + 1) (.agg (cServer x)) = .agg [.int .i64 x.kept.store.by_, .int .i64 x.kept.store.time, .sl (L2 + 1) 7 0 e2, .sl (L3 + 1) 1 0 e3, .str x.kept.journal, .int .i64 x.kept.saved, .str x.session.inn, .str x.session.out, .bool x.session.on, .bool x.session.over, .int .i64 x.session.box, .sl (L11 + 1) 1 0 e11, .bool x.up] ∧ (∀ r ∈ e2, isBox r) ∧ V.travLL (fun sz => V.sl 0 sz 0 []) (fun _ sz _ es => V.sl 0 sz 0 es) (fun _ _ o e => V.ptr 0 0 o e) e2 = x.kept.store.boxes.map cBox ∧ (∀ K, V.travLL (fun sz => V.sl 0 sz 0 []) (fun _ sz _ es => V.sl 0 sz 0 es) (fun _ _ o e => V.ptr 0 0 o e) (V.mkLL K e2) = V.mkLL K (x.kept.store.boxes.map cBox)) ∧ V.mnLL e2 = V.mnLL (x.kept.store.boxes.map cBox) ∧ (∀ r ∈ e3, isInt r) ∧ V.travLL (fun sz => V.sl 0 sz 0 []) (fun _ sz _ es => V.sl 0 sz 0 es) (fun _ _ o e => V.ptr 0 0 o e) e3 = x.kept.store.gone.map cZ ∧ (∀ K, V.travLL (fun sz => V.sl 0 sz 0 []) (fun _ sz _ es => V.sl 0 sz 0 es) (fun _ _ o e => V.ptr 0 0 o e) (V.mkLL K e3) = V.mkLL K (x.kept.store.gone.map cZ)) ∧ V.mnLL e3 = V.mnLL (x.kept.store.gone.map cZ) ∧ (∀ r ∈ e11, isInt r) ∧ V.travLL (fun sz => V.sl 0 sz 0 []) (fun _ sz _ es => V.sl 0 sz 0 es) (fun _ _ o e => V.ptr 0 0 o e) e11 = x.session.view.map cZ ∧ (∀ K, V.travLL (fun sz => V.sl 0 sz 0 []) (fun _ sz _ es => V.sl 0 sz 0 es) (fun _ _ o e => V.ptr 0 0 o e) (V.mkLL K e11) = V.mkLL K (x.session.view.map cZ)) ∧ V.mnLL e11 = V.mnLL (x.session.view.map cZ) ∧ (V.labelsL [.int .i64 x.kept.store.by_, .int .i64 x.kept.store.time, .sl (L2 + 1) 7 0 e2, .sl (L3 + 1) 1 0 e3, .str x.kept.journal, .int .i64 x.kept.saved, .str x.session.inn, .str x.session.out, .bool x.session.on, .bool x.session.over, .int .i64 x.session.box, .sl (L11 + 1) 1 0 e11, .bool x.up]).Nodup ∧ (∀ z ∈ V.labelsL [.int .i64 x.kept.store.by_, .int .i64 x.kept.store.time, .sl (L2 + 1) 7 0 e2, .sl (L3 + 1) 1 0 e3, .str x.kept.journal, .int .i64 x.kept.saved, .str x.session.inn, .str x.session.out, .bool x.session.on, .bool x.session.over, .int .i64 x.session.box, .sl (L11 + 1) 1 0 e11, .bool x.up], n + 1 ≤ z ∧ z < n + 1 + V.cnt (.agg (cServer x))) := by
  have hX : V.tagL (n + 1) (cServer x) = [.int .i64 x.kept.store.by_, .int .i64 x.kept.store.time, .sl (n + 1) 7 0 (V.tagLL (n + 1 + 1) (x.kept.store.boxes.map cBox)), .sl (n + (1 + V.cntLL (x.kept.store.boxes.map cBox)) + 1) 1 0 (V.tagLL (n + (1 + V.cntLL (x.kept.store.boxes.map cBox)) + 1 + 1) (x.kept.store.gone.map cZ)), .str x.kept.journal, .int .i64 x.kept.saved, .str x.session.inn, .str x.session.out, .bool x.session.on, .bool x.session.over, .int .i64 x.session.box, .sl (n + (1 + V.cntLL (x.kept.store.boxes.map cBox)) + (1 + V.cntLL (x.kept.store.gone.map cZ)) + 1) 1 0 (V.tagLL (n + (1 + V.cntLL (x.kept.store.boxes.map cBox)) + (1 + V.cntLL (x.kept.store.gone.map cZ)) + 1 + 1) (x.session.view.map cZ)), .bool x.up] := by
    simp only [cServer, V.tagL, V.tag, V.cnt, Nat.add_zero, (show n + 1 + (1 + V.cntLL (x.kept.store.boxes.map cBox)) = n + (1 + V.cntLL (x.kept.store.boxes.map cBox)) + 1 by omega), (show n + (1 + V.cntLL (x.kept.store.boxes.map cBox)) + 1 + (1 + V.cntLL (x.kept.store.gone.map cZ)) = n + (1 + V.cntLL (x.kept.store.boxes.map cBox)) + (1 + V.cntLL (x.kept.store.gone.map cZ)) + 1 by omega)]
  have hl := tagL_labels (cServer x) (n + 1)
  rw [hX] at hl
  have q2 := fun r hr => own_Box x.kept.store.boxes (n + 1) r hr
  have d2 := erase_tagd (es := V.tagLL (n + 1 + 1) (x.kept.store.boxes.map cBox)) (n := n + 1 + 1) (by simp [zz, zf, zy]) (by simp [V.eraseLL, zz, zf, zy]) rfl (fun r hr => pl_Box (q2 r hr))
  have m2 := mnLL_erase (V.tagLL (n + 1 + 1) (x.kept.store.boxes.map cBox))
  rw [show V.eraseLL (V.tagLL (n + 1 + 1) (x.kept.store.boxes.map cBox)) = x.kept.store.boxes.map cBox from d2.1] at m2
  have q3 := fun r hr => own_int x.kept.store.gone (n + (1 + V.cntLL (x.kept.store.boxes.map cBox)) + 1) r hr
  have d3 := erase_tagd (es := V.tagLL (n + (1 + V.cntLL (x.kept.store.boxes.map cBox)) + 1 + 1) (x.kept.store.gone.map cZ)) (n := n + (1 + V.cntLL (x.kept.store.boxes.map cBox)) + 1 + 1) (by simp [zz, zf, zy]) (by simp [V.eraseLL, zz, zf, zy]) rfl (fun r hr => pl_int (q3 r hr))
  have m3 := mnLL_erase (V.tagLL (n + (1 + V.cntLL (x.kept.store.boxes.map cBox)) + 1 + 1) (x.kept.store.gone.map cZ))
  rw [show V.eraseLL (V.tagLL (n + (1 + V.cntLL (x.kept.store.boxes.map cBox)) + 1 + 1) (x.kept.store.gone.map cZ)) = x.kept.store.gone.map cZ from d3.1] at m3
  have q11 := fun r hr => own_int x.session.view (n + (1 + V.cntLL (x.kept.store.boxes.map cBox)) + (1 + V.cntLL (x.kept.store.gone.map cZ)) + 1) r hr
  have d11 := erase_tagd (es := V.tagLL (n + (1 + V.cntLL (x.kept.store.boxes.map cBox)) + (1 + V.cntLL (x.kept.store.gone.map cZ)) + 1 + 1) (x.session.view.map cZ)) (n := n + (1 + V.cntLL (x.kept.store.boxes.map cBox)) + (1 + V.cntLL (x.kept.store.gone.map cZ)) + 1 + 1) (by simp [zz, zf, zy]) (by simp [V.eraseLL, zz, zf, zy]) rfl (fun r hr => pl_int (q11 r hr))
  have m11 := mnLL_erase (V.tagLL (n + (1 + V.cntLL (x.kept.store.boxes.map cBox)) + (1 + V.cntLL (x.kept.store.gone.map cZ)) + 1 + 1) (x.session.view.map cZ))
  rw [show V.eraseLL (V.tagLL (n + (1 + V.cntLL (x.kept.store.boxes.map cBox)) + (1 + V.cntLL (x.kept.store.gone.map cZ)) + 1 + 1) (x.session.view.map cZ)) = x.session.view.map cZ from d11.1] at m11
  refine ⟨n, _, n + (1 + V.cntLL (x.kept.store.boxes.map cBox)), _, n + (1 + V.cntLL (x.kept.store.boxes.map cBox)) + (1 + V.cntLL (x.kept.store.gone.map cZ)), _, congrArg V.agg hX, q2, d2.1, d2.2, m2.symm, q3, d3.1, d3.2, m3.symm, q11, d11.1, d11.2, m11.symm, ?_, ?_⟩
  · rw [hl]; exact List.nodup_range'
  · intro z hz; rw [hl, List.mem_range'_1] at hz; exact hz
theorem ownSync (n : Nat) (x : Sync) : ∃ (L2 : Nat) (e2 : List (List V)) (L6 : Nat) (e6 : List (List V)), V.tag (n + 1) (.agg (cSync x)) = .agg [.int .i64 x.epoch, .int .i64 x.link.epoch, .sl (L2 + 1) 1 0 e2, .int .i64 x.link.next, .int .i64 x.link.want, .int .i64 x.total, .sl (L6 + 1) 1 0 e6, .bool x.done, .bool x.failed] ∧ (∀ r ∈ e2, isText r) ∧ V.travLL (fun sz => V.sl 0 sz 0 []) (fun _ sz _ es => V.sl 0 sz 0 es) (fun _ _ o e => V.ptr 0 0 o e) e2 = x.link.way.map cS ∧ (∀ K, V.travLL (fun sz => V.sl 0 sz 0 []) (fun _ sz _ es => V.sl 0 sz 0 es) (fun _ _ o e => V.ptr 0 0 o e) (V.mkLL K e2) = V.mkLL K (x.link.way.map cS)) ∧ V.mnLL e2 = V.mnLL (x.link.way.map cS) ∧ (∀ r ∈ e6, isText r) ∧ V.travLL (fun sz => V.sl 0 sz 0 []) (fun _ sz _ es => V.sl 0 sz 0 es) (fun _ _ o e => V.ptr 0 0 o e) e6 = x.pieces.map cS ∧ (∀ K, V.travLL (fun sz => V.sl 0 sz 0 []) (fun _ sz _ es => V.sl 0 sz 0 es) (fun _ _ o e => V.ptr 0 0 o e) (V.mkLL K e6) = V.mkLL K (x.pieces.map cS)) ∧ V.mnLL e6 = V.mnLL (x.pieces.map cS) ∧ (V.labelsL [.int .i64 x.epoch, .int .i64 x.link.epoch, .sl (L2 + 1) 1 0 e2, .int .i64 x.link.next, .int .i64 x.link.want, .int .i64 x.total, .sl (L6 + 1) 1 0 e6, .bool x.done, .bool x.failed]).Nodup ∧ (∀ z ∈ V.labelsL [.int .i64 x.epoch, .int .i64 x.link.epoch, .sl (L2 + 1) 1 0 e2, .int .i64 x.link.next, .int .i64 x.link.want, .int .i64 x.total, .sl (L6 + 1) 1 0 e6, .bool x.done, .bool x.failed], n + 1 ≤ z ∧ z < n + 1 + V.cnt (.agg (cSync x))) := by
  have hX : V.tagL (n + 1) (cSync x) = [.int .i64 x.epoch, .int .i64 x.link.epoch, .sl (n + 1) 1 0 (V.tagLL (n + 1 + 1) (x.link.way.map cS)), .int .i64 x.link.next, .int .i64 x.link.want, .int .i64 x.total, .sl (n + (1 + V.cntLL (x.link.way.map cS)) + 1) 1 0 (V.tagLL (n + (1 + V.cntLL (x.link.way.map cS)) + 1 + 1) (x.pieces.map cS)), .bool x.done, .bool x.failed] := by
    simp only [cSync, V.tagL, V.tag, V.cnt, Nat.add_zero, (show n + 1 + (1 + V.cntLL (x.link.way.map cS)) = n + (1 + V.cntLL (x.link.way.map cS)) + 1 by omega)]
  have hl := tagL_labels (cSync x) (n + 1)
  rw [hX] at hl
  have q2 := fun r hr => own_string x.link.way (n + 1) r hr
  have d2 := erase_tagd (es := V.tagLL (n + 1 + 1) (x.link.way.map cS)) (n := n + 1 + 1) (by simp [zz, zf, zy]) (by simp [V.eraseLL, zz, zf, zy]) rfl (fun r hr => pl_string (q2 r hr))
  have m2 := mnLL_erase (V.tagLL (n + 1 + 1) (x.link.way.map cS))
  rw [show V.eraseLL (V.tagLL (n + 1 + 1) (x.link.way.map cS)) = x.link.way.map cS from d2.1] at m2
  have q6 := fun r hr => own_string x.pieces (n + (1 + V.cntLL (x.link.way.map cS)) + 1) r hr
  have d6 := erase_tagd (es := V.tagLL (n + (1 + V.cntLL (x.link.way.map cS)) + 1 + 1) (x.pieces.map cS)) (n := n + (1 + V.cntLL (x.link.way.map cS)) + 1 + 1) (by simp [zz, zf, zy]) (by simp [V.eraseLL, zz, zf, zy]) rfl (fun r hr => pl_string (q6 r hr))
  have m6 := mnLL_erase (V.tagLL (n + (1 + V.cntLL (x.link.way.map cS)) + 1 + 1) (x.pieces.map cS))
  rw [show V.eraseLL (V.tagLL (n + (1 + V.cntLL (x.link.way.map cS)) + 1 + 1) (x.pieces.map cS)) = x.pieces.map cS from d6.1] at m6
  refine ⟨n, _, n + (1 + V.cntLL (x.link.way.map cS)), _, congrArg V.agg hX, q2, d2.1, d2.2, m2.symm, q6, d6.1, d6.2, m6.symm, ?_, ?_⟩
  · rw [hl]; exact List.nodup_range'
  · intro z hz; rw [hl, List.mem_range'_1] at hz; exact hz
theorem ownPair (n : Nat) (x : Pair) : ∃ (L0 : Nat) (e0 : List (List V)) (L1 : Nat) (e1 : List (List V)) (L2 : Nat) (e2 : List (List V)), V.tag (n + 1) (.agg (cPair x)) = .agg [.sl (L0 + 1) 13 0 e0, .sl (L1 + 1) 9 0 e1, .sl (L2 + 1) 2 0 e2, .int .i64 x.epoch] ∧ (∀ r ∈ e0, isServer r) ∧ V.travLL (fun sz => V.sl 0 sz 0 []) (fun _ sz _ es => V.sl 0 sz 0 es) (fun _ _ o e => V.ptr 0 0 o e) e0 = x.servers.map cServer ∧ (∀ K, V.travLL (fun sz => V.sl 0 sz 0 []) (fun _ sz _ es => V.sl 0 sz 0 es) (fun _ _ o e => V.ptr 0 0 o e) (V.mkLL K e0) = V.mkLL K (x.servers.map cServer)) ∧ V.mnLL e0 = V.mnLL (x.servers.map cServer) ∧ (∀ r ∈ e1, isSync r) ∧ V.travLL (fun sz => V.sl 0 sz 0 []) (fun _ sz _ es => V.sl 0 sz 0 es) (fun _ _ o e => V.ptr 0 0 o e) e1 = x.syncs.map cSync ∧ (∀ K, V.travLL (fun sz => V.sl 0 sz 0 []) (fun _ sz _ es => V.sl 0 sz 0 es) (fun _ _ o e => V.ptr 0 0 o e) (V.mkLL K e1) = V.mkLL K (x.syncs.map cSync)) ∧ V.mnLL e1 = V.mnLL (x.syncs.map cSync) ∧ (∀ r ∈ e2, isLetter r) ∧ V.travLL (fun sz => V.sl 0 sz 0 []) (fun _ sz _ es => V.sl 0 sz 0 es) (fun _ _ o e => V.ptr 0 0 o e) e2 = x.net.map cLetter ∧ (∀ K, V.travLL (fun sz => V.sl 0 sz 0 []) (fun _ sz _ es => V.sl 0 sz 0 es) (fun _ _ o e => V.ptr 0 0 o e) (V.mkLL K e2) = V.mkLL K (x.net.map cLetter)) ∧ V.mnLL e2 = V.mnLL (x.net.map cLetter) ∧ (V.labelsL [.sl (L0 + 1) 13 0 e0, .sl (L1 + 1) 9 0 e1, .sl (L2 + 1) 2 0 e2, .int .i64 x.epoch]).Nodup ∧ (∀ z ∈ V.labelsL [.sl (L0 + 1) 13 0 e0, .sl (L1 + 1) 9 0 e1, .sl (L2 + 1) 2 0 e2, .int .i64 x.epoch], n + 1 ≤ z ∧ z < n + 1 + V.cnt (.agg (cPair x))) := by
  have hX : V.tagL (n + 1) (cPair x) = [.sl (n + 1) 13 0 (V.tagLL (n + 1 + 1) (x.servers.map cServer)), .sl (n + (1 + V.cntLL (x.servers.map cServer)) + 1) 9 0 (V.tagLL (n + (1 + V.cntLL (x.servers.map cServer)) + 1 + 1) (x.syncs.map cSync)), .sl (n + (1 + V.cntLL (x.servers.map cServer)) + (1 + V.cntLL (x.syncs.map cSync)) + 1) 2 0 (V.tagLL (n + (1 + V.cntLL (x.servers.map cServer)) + (1 + V.cntLL (x.syncs.map cSync)) + 1 + 1) (x.net.map cLetter)), .int .i64 x.epoch] := by
    simp only [cPair, V.tagL, V.tag, V.cnt, Nat.add_zero, (show n + 1 + (1 + V.cntLL (x.servers.map cServer)) = n + (1 + V.cntLL (x.servers.map cServer)) + 1 by omega), (show n + (1 + V.cntLL (x.servers.map cServer)) + 1 + (1 + V.cntLL (x.syncs.map cSync)) = n + (1 + V.cntLL (x.servers.map cServer)) + (1 + V.cntLL (x.syncs.map cSync)) + 1 by omega)]
  have hl := tagL_labels (cPair x) (n + 1)
  rw [hX] at hl
  have q0 := fun r hr => own_Server x.servers (n + 1) r hr
  have d0 := erase_tagd (es := V.tagLL (n + 1 + 1) (x.servers.map cServer)) (n := n + 1 + 1) (by simp [zz, zf, zy]) (by simp [V.eraseLL, zz, zf, zy]) rfl (fun r hr => pl_Server (q0 r hr))
  have m0 := mnLL_erase (V.tagLL (n + 1 + 1) (x.servers.map cServer))
  rw [show V.eraseLL (V.tagLL (n + 1 + 1) (x.servers.map cServer)) = x.servers.map cServer from d0.1] at m0
  have q1 := fun r hr => own_Sync x.syncs (n + (1 + V.cntLL (x.servers.map cServer)) + 1) r hr
  have d1 := erase_tagd (es := V.tagLL (n + (1 + V.cntLL (x.servers.map cServer)) + 1 + 1) (x.syncs.map cSync)) (n := n + (1 + V.cntLL (x.servers.map cServer)) + 1 + 1) (by simp [zz, zf, zy]) (by simp [V.eraseLL, zz, zf, zy]) rfl (fun r hr => pl_Sync (q1 r hr))
  have m1 := mnLL_erase (V.tagLL (n + (1 + V.cntLL (x.servers.map cServer)) + 1 + 1) (x.syncs.map cSync))
  rw [show V.eraseLL (V.tagLL (n + (1 + V.cntLL (x.servers.map cServer)) + 1 + 1) (x.syncs.map cSync)) = x.syncs.map cSync from d1.1] at m1
  have q2 := fun r hr => own_Letter x.net (n + (1 + V.cntLL (x.servers.map cServer)) + (1 + V.cntLL (x.syncs.map cSync)) + 1) r hr
  have d2 := erase_tagd (es := V.tagLL (n + (1 + V.cntLL (x.servers.map cServer)) + (1 + V.cntLL (x.syncs.map cSync)) + 1 + 1) (x.net.map cLetter)) (n := n + (1 + V.cntLL (x.servers.map cServer)) + (1 + V.cntLL (x.syncs.map cSync)) + 1 + 1) (by simp [zz, zf, zy]) (by simp [V.eraseLL, zz, zf, zy]) rfl (fun r hr => pl_Letter (q2 r hr))
  have m2 := mnLL_erase (V.tagLL (n + (1 + V.cntLL (x.servers.map cServer)) + (1 + V.cntLL (x.syncs.map cSync)) + 1 + 1) (x.net.map cLetter))
  rw [show V.eraseLL (V.tagLL (n + (1 + V.cntLL (x.servers.map cServer)) + (1 + V.cntLL (x.syncs.map cSync)) + 1 + 1) (x.net.map cLetter)) = x.net.map cLetter from d2.1] at m2
  refine ⟨n, _, n + (1 + V.cntLL (x.servers.map cServer)), _, n + (1 + V.cntLL (x.servers.map cServer)) + (1 + V.cntLL (x.syncs.map cSync)), _, congrArg V.agg hX, q0, d0.1, d0.2, m0.symm, q1, d1.1, d1.2, m1.symm, q2, d2.1, d2.2, m2.symm, ?_, ?_⟩
  · rw [hl]; exact List.nodup_range'
  · intro z hz; rw [hl, List.mem_range'_1] at hz; exact hz
theorem ownSInt (n : Nat) (xs : List Int) : ∃ (L0 : Nat) (e0 : List (List V)), V.tag (n + 1) (.sl 0 1 0 (xs.map cZ)) = .sl (L0 + 1) 1 0 e0 ∧ (∀ r ∈ e0, isInt r) ∧ V.travLL (fun sz => V.sl 0 sz 0 []) (fun _ sz _ es => V.sl 0 sz 0 es) (fun _ _ o e => V.ptr 0 0 o e) e0 = xs.map cZ ∧ (∀ K, V.travLL (fun sz => V.sl 0 sz 0 []) (fun _ sz _ es => V.sl 0 sz 0 es) (fun _ _ o e => V.ptr 0 0 o e) (V.mkLL K e0) = V.mkLL K (xs.map cZ)) ∧ V.mnLL e0 = V.mnLL (xs.map cZ) ∧ (V.labels (.sl (L0 + 1) 1 0 e0)).Nodup ∧ (∀ z ∈ V.labels (.sl (L0 + 1) 1 0 e0), n + 1 ≤ z ∧ z < n + 1 + V.cnt (.sl 0 1 0 (xs.map cZ))) := by
  have hl := tag_labels (.sl 0 1 0 (xs.map cZ)) (n + 1)
  have q0 := fun r hr => own_int xs (n + 1) r hr
  have d0 := erase_tagd (es := V.tagLL (n + 1 + 1) (xs.map cZ)) (n := n + 1 + 1) (by simp [zz, zf, zy]) (by simp [V.eraseLL, zz, zf, zy]) rfl (fun r hr => pl_int (q0 r hr))
  have m0 := mnLL_erase (V.tagLL (n + 1 + 1) (xs.map cZ))
  rw [show V.eraseLL (V.tagLL (n + 1 + 1) (xs.map cZ)) = xs.map cZ from d0.1] at m0
  refine ⟨n, _, rfl, q0, d0.1, d0.2, m0.symm, ?_, ?_⟩
  · exact (show (V.labels (V.tag (n + 1) (.sl 0 1 0 (xs.map cZ)))).Nodup by rw [hl]; exact List.nodup_range')
  · intro z hz; have hz2 : z ∈ V.labels (V.tag (n + 1) (.sl 0 1 0 (xs.map cZ))) := hz; rw [hl, List.mem_range'_1] at hz2; exact hz2
theorem ownSString (n : Nat) (xs : List Str) : ∃ (L0 : Nat) (e0 : List (List V)), V.tag (n + 1) (.sl 0 1 0 (xs.map cS)) = .sl (L0 + 1) 1 0 e0 ∧ (∀ r ∈ e0, isText r) ∧ V.travLL (fun sz => V.sl 0 sz 0 []) (fun _ sz _ es => V.sl 0 sz 0 es) (fun _ _ o e => V.ptr 0 0 o e) e0 = xs.map cS ∧ (∀ K, V.travLL (fun sz => V.sl 0 sz 0 []) (fun _ sz _ es => V.sl 0 sz 0 es) (fun _ _ o e => V.ptr 0 0 o e) (V.mkLL K e0) = V.mkLL K (xs.map cS)) ∧ V.mnLL e0 = V.mnLL (xs.map cS) ∧ (V.labels (.sl (L0 + 1) 1 0 e0)).Nodup ∧ (∀ z ∈ V.labels (.sl (L0 + 1) 1 0 e0), n + 1 ≤ z ∧ z < n + 1 + V.cnt (.sl 0 1 0 (xs.map cS))) := by
  have hl := tag_labels (.sl 0 1 0 (xs.map cS)) (n + 1)
  have q0 := fun r hr => own_string xs (n + 1) r hr
  have d0 := erase_tagd (es := V.tagLL (n + 1 + 1) (xs.map cS)) (n := n + 1 + 1) (by simp [zz, zf, zy]) (by simp [V.eraseLL, zz, zf, zy]) rfl (fun r hr => pl_string (q0 r hr))
  have m0 := mnLL_erase (V.tagLL (n + 1 + 1) (xs.map cS))
  rw [show V.eraseLL (V.tagLL (n + 1 + 1) (xs.map cS)) = xs.map cS from d0.1] at m0
  refine ⟨n, _, rfl, q0, d0.1, d0.2, m0.symm, ?_, ?_⟩
  · exact (show (V.labels (V.tag (n + 1) (.sl 0 1 0 (xs.map cS)))).Nodup by rw [hl]; exact List.nodup_range')
  · intro z hz; have hz2 : z ∈ V.labels (V.tag (n + 1) (.sl 0 1 0 (xs.map cS))) := hz; rw [hl, List.mem_range'_1] at hz2; exact hz2
theorem ownSReg (n : Nat) (xs : List Reg) : ∃ (L0 : Nat) (e0 : List (List V)), V.tag (n + 1) (.sl 0 3 0 (xs.map cReg)) = .sl (L0 + 1) 3 0 e0 ∧ (∀ r ∈ e0, isReg r) ∧ V.travLL (fun sz => V.sl 0 sz 0 []) (fun _ sz _ es => V.sl 0 sz 0 es) (fun _ _ o e => V.ptr 0 0 o e) e0 = xs.map cReg ∧ (∀ K, V.travLL (fun sz => V.sl 0 sz 0 []) (fun _ sz _ es => V.sl 0 sz 0 es) (fun _ _ o e => V.ptr 0 0 o e) (V.mkLL K e0) = V.mkLL K (xs.map cReg)) ∧ V.mnLL e0 = V.mnLL (xs.map cReg) ∧ (V.labels (.sl (L0 + 1) 3 0 e0)).Nodup ∧ (∀ z ∈ V.labels (.sl (L0 + 1) 3 0 e0), n + 1 ≤ z ∧ z < n + 1 + V.cnt (.sl 0 3 0 (xs.map cReg))) := by
  have hl := tag_labels (.sl 0 3 0 (xs.map cReg)) (n + 1)
  have q0 := fun r hr => own_Reg xs (n + 1) r hr
  have d0 := erase_tagd (es := V.tagLL (n + 1 + 1) (xs.map cReg)) (n := n + 1 + 1) (by simp [zz, zf, zy]) (by simp [V.eraseLL, zz, zf, zy]) rfl (fun r hr => pl_Reg (q0 r hr))
  have m0 := mnLL_erase (V.tagLL (n + 1 + 1) (xs.map cReg))
  rw [show V.eraseLL (V.tagLL (n + 1 + 1) (xs.map cReg)) = xs.map cReg from d0.1] at m0
  refine ⟨n, _, rfl, q0, d0.1, d0.2, m0.symm, ?_, ?_⟩
  · exact (show (V.labels (V.tag (n + 1) (.sl 0 3 0 (xs.map cReg)))).Nodup by rw [hl]; exact List.nodup_range')
  · intro z hz; have hz2 : z ∈ V.labels (V.tag (n + 1) (.sl 0 3 0 (xs.map cReg))) := hz; rw [hl, List.mem_range'_1] at hz2; exact hz2
theorem ownSMail (n : Nat) (xs : List Mail) : ∃ (L0 : Nat) (e0 : List (List V)), V.tag (n + 1) (.sl 0 4 0 (xs.map cMail)) = .sl (L0 + 1) 4 0 e0 ∧ (∀ r ∈ e0, isMail r) ∧ V.travLL (fun sz => V.sl 0 sz 0 []) (fun _ sz _ es => V.sl 0 sz 0 es) (fun _ _ o e => V.ptr 0 0 o e) e0 = xs.map cMail ∧ (∀ K, V.travLL (fun sz => V.sl 0 sz 0 []) (fun _ sz _ es => V.sl 0 sz 0 es) (fun _ _ o e => V.ptr 0 0 o e) (V.mkLL K e0) = V.mkLL K (xs.map cMail)) ∧ V.mnLL e0 = V.mnLL (xs.map cMail) ∧ (V.labels (.sl (L0 + 1) 4 0 e0)).Nodup ∧ (∀ z ∈ V.labels (.sl (L0 + 1) 4 0 e0), n + 1 ≤ z ∧ z < n + 1 + V.cnt (.sl 0 4 0 (xs.map cMail))) := by
  have hl := tag_labels (.sl 0 4 0 (xs.map cMail)) (n + 1)
  have q0 := fun r hr => own_Mail xs (n + 1) r hr
  have d0 := erase_tagd (es := V.tagLL (n + 1 + 1) (xs.map cMail)) (n := n + 1 + 1) (by simp [zz, zf, zy]) (by simp [V.eraseLL, zz, zf, zy]) rfl (fun r hr => pl_Mail (q0 r hr))
  have m0 := mnLL_erase (V.tagLL (n + 1 + 1) (xs.map cMail))
  rw [show V.eraseLL (V.tagLL (n + 1 + 1) (xs.map cMail)) = xs.map cMail from d0.1] at m0
  refine ⟨n, _, rfl, q0, d0.1, d0.2, m0.symm, ?_, ?_⟩
  · exact (show (V.labels (V.tag (n + 1) (.sl 0 4 0 (xs.map cMail)))).Nodup by rw [hl]; exact List.nodup_range')
  · intro z hz; have hz2 : z ∈ V.labels (V.tag (n + 1) (.sl 0 4 0 (xs.map cMail))) := hz; rw [hl, List.mem_range'_1] at hz2; exact hz2
theorem ownSBox (n : Nat) (xs : List Box) : ∃ (L0 : Nat) (e0 : List (List V)), V.tag (n + 1) (.sl 0 7 0 (xs.map cBox)) = .sl (L0 + 1) 7 0 e0 ∧ (∀ r ∈ e0, isBox r) ∧ V.travLL (fun sz => V.sl 0 sz 0 []) (fun _ sz _ es => V.sl 0 sz 0 es) (fun _ _ o e => V.ptr 0 0 o e) e0 = xs.map cBox ∧ (∀ K, V.travLL (fun sz => V.sl 0 sz 0 []) (fun _ sz _ es => V.sl 0 sz 0 es) (fun _ _ o e => V.ptr 0 0 o e) (V.mkLL K e0) = V.mkLL K (xs.map cBox)) ∧ V.mnLL e0 = V.mnLL (xs.map cBox) ∧ (V.labels (.sl (L0 + 1) 7 0 e0)).Nodup ∧ (∀ z ∈ V.labels (.sl (L0 + 1) 7 0 e0), n + 1 ≤ z ∧ z < n + 1 + V.cnt (.sl 0 7 0 (xs.map cBox))) := by
  have hl := tag_labels (.sl 0 7 0 (xs.map cBox)) (n + 1)
  have q0 := fun r hr => own_Box xs (n + 1) r hr
  have d0 := erase_tagd (es := V.tagLL (n + 1 + 1) (xs.map cBox)) (n := n + 1 + 1) (by simp [zz, zf, zy]) (by simp [V.eraseLL, zz, zf, zy]) rfl (fun r hr => pl_Box (q0 r hr))
  have m0 := mnLL_erase (V.tagLL (n + 1 + 1) (xs.map cBox))
  rw [show V.eraseLL (V.tagLL (n + 1 + 1) (xs.map cBox)) = xs.map cBox from d0.1] at m0
  refine ⟨n, _, rfl, q0, d0.1, d0.2, m0.symm, ?_, ?_⟩
  · exact (show (V.labels (V.tag (n + 1) (.sl 0 7 0 (xs.map cBox)))).Nodup by rw [hl]; exact List.nodup_range')
  · intro z hz; have hz2 : z ∈ V.labels (V.tag (n + 1) (.sl 0 7 0 (xs.map cBox))) := hz; rw [hl, List.mem_range'_1] at hz2; exact hz2
theorem ownSServer (n : Nat) (xs : List Server) : ∃ (L0 : Nat) (e0 : List (List V)), V.tag (n + 1) (.sl 0 13 0 (xs.map cServer)) = .sl (L0 + 1) 13 0 e0 ∧ (∀ r ∈ e0, isServer r) ∧ V.travLL (fun sz => V.sl 0 sz 0 []) (fun _ sz _ es => V.sl 0 sz 0 es) (fun _ _ o e => V.ptr 0 0 o e) e0 = xs.map cServer ∧ (∀ K, V.travLL (fun sz => V.sl 0 sz 0 []) (fun _ sz _ es => V.sl 0 sz 0 es) (fun _ _ o e => V.ptr 0 0 o e) (V.mkLL K e0) = V.mkLL K (xs.map cServer)) ∧ V.mnLL e0 = V.mnLL (xs.map cServer) ∧ (V.labels (.sl (L0 + 1) 13 0 e0)).Nodup ∧ (∀ z ∈ V.labels (.sl (L0 + 1) 13 0 e0), n + 1 ≤ z ∧ z < n + 1 + V.cnt (.sl 0 13 0 (xs.map cServer))) := by
  have hl := tag_labels (.sl 0 13 0 (xs.map cServer)) (n + 1)
  have q0 := fun r hr => own_Server xs (n + 1) r hr
  have d0 := erase_tagd (es := V.tagLL (n + 1 + 1) (xs.map cServer)) (n := n + 1 + 1) (by simp [zz, zf, zy]) (by simp [V.eraseLL, zz, zf, zy]) rfl (fun r hr => pl_Server (q0 r hr))
  have m0 := mnLL_erase (V.tagLL (n + 1 + 1) (xs.map cServer))
  rw [show V.eraseLL (V.tagLL (n + 1 + 1) (xs.map cServer)) = xs.map cServer from d0.1] at m0
  refine ⟨n, _, rfl, q0, d0.1, d0.2, m0.symm, ?_, ?_⟩
  · exact (show (V.labels (V.tag (n + 1) (.sl 0 13 0 (xs.map cServer)))).Nodup by rw [hl]; exact List.nodup_range')
  · intro z hz; have hz2 : z ∈ V.labels (V.tag (n + 1) (.sl 0 13 0 (xs.map cServer))) := hz; rw [hl, List.mem_range'_1] at hz2; exact hz2
theorem ownSSync (n : Nat) (xs : List Sync) : ∃ (L0 : Nat) (e0 : List (List V)), V.tag (n + 1) (.sl 0 9 0 (xs.map cSync)) = .sl (L0 + 1) 9 0 e0 ∧ (∀ r ∈ e0, isSync r) ∧ V.travLL (fun sz => V.sl 0 sz 0 []) (fun _ sz _ es => V.sl 0 sz 0 es) (fun _ _ o e => V.ptr 0 0 o e) e0 = xs.map cSync ∧ (∀ K, V.travLL (fun sz => V.sl 0 sz 0 []) (fun _ sz _ es => V.sl 0 sz 0 es) (fun _ _ o e => V.ptr 0 0 o e) (V.mkLL K e0) = V.mkLL K (xs.map cSync)) ∧ V.mnLL e0 = V.mnLL (xs.map cSync) ∧ (V.labels (.sl (L0 + 1) 9 0 e0)).Nodup ∧ (∀ z ∈ V.labels (.sl (L0 + 1) 9 0 e0), n + 1 ≤ z ∧ z < n + 1 + V.cnt (.sl 0 9 0 (xs.map cSync))) := by
  have hl := tag_labels (.sl 0 9 0 (xs.map cSync)) (n + 1)
  have q0 := fun r hr => own_Sync xs (n + 1) r hr
  have d0 := erase_tagd (es := V.tagLL (n + 1 + 1) (xs.map cSync)) (n := n + 1 + 1) (by simp [zz, zf, zy]) (by simp [V.eraseLL, zz, zf, zy]) rfl (fun r hr => pl_Sync (q0 r hr))
  have m0 := mnLL_erase (V.tagLL (n + 1 + 1) (xs.map cSync))
  rw [show V.eraseLL (V.tagLL (n + 1 + 1) (xs.map cSync)) = xs.map cSync from d0.1] at m0
  refine ⟨n, _, rfl, q0, d0.1, d0.2, m0.symm, ?_, ?_⟩
  · exact (show (V.labels (V.tag (n + 1) (.sl 0 9 0 (xs.map cSync)))).Nodup by rw [hl]; exact List.nodup_range')
  · intro z hz; have hz2 : z ∈ V.labels (V.tag (n + 1) (.sl 0 9 0 (xs.map cSync))) := hz; rw [hl, List.mem_range'_1] at hz2; exact hz2
theorem ownSLetter (n : Nat) (xs : List Letter) : ∃ (L0 : Nat) (e0 : List (List V)), V.tag (n + 1) (.sl 0 2 0 (xs.map cLetter)) = .sl (L0 + 1) 2 0 e0 ∧ (∀ r ∈ e0, isLetter r) ∧ V.travLL (fun sz => V.sl 0 sz 0 []) (fun _ sz _ es => V.sl 0 sz 0 es) (fun _ _ o e => V.ptr 0 0 o e) e0 = xs.map cLetter ∧ (∀ K, V.travLL (fun sz => V.sl 0 sz 0 []) (fun _ sz _ es => V.sl 0 sz 0 es) (fun _ _ o e => V.ptr 0 0 o e) (V.mkLL K e0) = V.mkLL K (xs.map cLetter)) ∧ V.mnLL e0 = V.mnLL (xs.map cLetter) ∧ (V.labels (.sl (L0 + 1) 2 0 e0)).Nodup ∧ (∀ z ∈ V.labels (.sl (L0 + 1) 2 0 e0), n + 1 ≤ z ∧ z < n + 1 + V.cnt (.sl 0 2 0 (xs.map cLetter))) := by
  have hl := tag_labels (.sl 0 2 0 (xs.map cLetter)) (n + 1)
  have q0 := fun r hr => own_Letter xs (n + 1) r hr
  have d0 := erase_tagd (es := V.tagLL (n + 1 + 1) (xs.map cLetter)) (n := n + 1 + 1) (by simp [zz, zf, zy]) (by simp [V.eraseLL, zz, zf, zy]) rfl (fun r hr => pl_Letter (q0 r hr))
  have m0 := mnLL_erase (V.tagLL (n + 1 + 1) (xs.map cLetter))
  rw [show V.eraseLL (V.tagLL (n + 1 + 1) (xs.map cLetter)) = xs.map cLetter from d0.1] at m0
  refine ⟨n, _, rfl, q0, d0.1, d0.2, m0.symm, ?_, ?_⟩
  · exact (show (V.labels (V.tag (n + 1) (.sl 0 2 0 (xs.map cLetter)))).Nodup by rw [hl]; exact List.nodup_range')
  · intro z hz; have hz2 : z ∈ V.labels (V.tag (n + 1) (.sl 0 2 0 (xs.map cLetter))) := hz; rw [hl, List.mem_range'_1] at hz2; exact hz2
end Go.Proofs.YtjhfabimacljhaaGreat.K

/- What is far is kept: for short texts. -/
namespace Go.Proofs.YtjhfabimacljhaaGreat.K
open Go Go.RowKit
set_option linter.unusedVariables false
set_option linter.unusedSimpArgs false
section
variable {P : Program} {ti : Tab} {t t' h h' : List V} {n n' : Nat} {Q : Exit → List V → List V → Nat → Prop} {ops : Array Oper} {o : Oper} {l : List Oper} {late : List Nat}
theorem maskP_putK {f : Nat → Bool} {L : Nat} {x : V} (hd : ∀ d, o.dst = some d → f d = true) : maskP f 0 (putV (V.killL L t) o.dst x) = putV (V.killL L (maskP f 0 t)) o.dst x := by
  have e3 : maskP f 0 (V.killL L t) = V.killL L (maskP f 0 t) := by
    unfold V.killL
    rw [travL_eq, travL_eq]
    exact maskP_map f _ rfl t 0
  rw [← e3]
  exact (maskP_put hd).symm
theorem TOps.appendL {T e : TypeId} {i : TInfo} {s x : Operand} {L off : Nat} {es es2 es3 : List (List V)} {s1 b1 : Nat} {z1 : List V} (hti : TabOk P ti) (hg : o.guard = none) (ho : o.op = .call ⟨.builtin .append, #[s, x], #[T, T]⟩) (hT : ti T = some ⟨.slice e, s1, b1, z1⟩) (he : ti e = some i)
    (hi : 0 < i.size) (hz : i.zero.length = i.size) (hs : opnd t s = .sl L i.size off es) (hx : (∃ L2 off2, opnd t x = .sl L2 i.size off2 es2) ∨ (es2 = [] ∧ ∃ q, opnd t x = .nil q)) (hL : L ≠ 0) (hLn : L < n)
    (hb : (es.length + es2.length) * i.bytes ≤ 140737488355328) (hb2 : es.length + es2.length ≤ 9223372036854775807) (hone : ∀ e ∈ es2, ∀ y ∈ e, V.one y = true) (he3 : V.killLL L (es ++ es2) = es3) (ht : putV (V.killL L t) o.dst (.sl L i.size 0 es3) = t') (hh : V.killL L h = h')
    (hl : LateOk P ops t' late) (hk : TOps P ops late Q l t' h' n) : TOps P ops late Q (o :: l) t h n := by
  refine ⟨t', h', n, hg, .inr fun f hf hd => ?_, hl, hk⟩
  have e1 : opnd (maskP f 0 t) s = opnd t s := opnd_maskP (by rw [ho]; simp [Op.operands, Call.operands]) hf
  have e2 : opnd (maskP f 0 t) x = opnd t x := opnd_maskP (by rw [ho]; simp [Op.operands, Call.operands]) hf
  subst he3 ht hh
  rw [maskP_putK hd]
  exact ok_append (h := h) (n := n) (t := maskP f 0 t) hti hT he hi hz ho (by rw [e1]; exact hs) (by rw [e2]; exact hx) hL hLn hb hb2 hone
end
theorem farA {W : V → V} {A : Nat → Prop} (hW : Hom W A) {L sz : Nat} {e : List (List V)} {lo hi : Nat} (r : ∀ z ∈ V.labels (.sl (L + 1) sz 0 e), lo ≤ z ∧ z < hi) (h : ∀ y, lo ≤ y → y < hi → ¬ A y) :
    W (.sl (L + 1) sz 0 e) = .sl (L + 1) sz 0 e ∧ ∀ K, W (.sl (L + 1) sz 0 (V.mkLL K e)) = .sl (L + 1) sz 0 (V.mkLL K e) :=
  ⟨hW.far _ fun y hy ha => h y (r y hy).1 (r y hy).2 ha, fun K => hW.far _ fun y hy ha => by
    have hy' : y ∈ V.labels (.sl (L + 1) sz 0 e) := by simp only [V.labels, mkLL_labels] at hy ⊢; exact hy
    exact h y (r y hy').1 (r y hy').2 ha⟩
theorem far00 {W : V → V} {A : Nat → Prop} (hW : Hom W A) (h0 : ¬ A 0) {α : Type} {f : α → List V} (hf : ∀ xs : List α, ∀ L ∈ V.labelsLL (xs.map f), L = 0) (sz : Nat) (xs : List α) : W (.sl 0 sz 0 (xs.map f)) = .sl 0 sz 0 (xs.map f) :=
  hW.far _ fun y hy ha => by
    rcases List.mem_cons.1 hy with rfl | hy
    · exact h0 ha
    · exact h0 (hf xs y hy ▸ ha)
theorem far0 {W : V → V} {A : Nat → Prop} (hW : Hom W A) (h0 : ¬ A 0) : (∀ (sz : Nat) (xs : List Str), W (.sl 0 sz 0 (xs.map cS)) = .sl 0 sz 0 (xs.map cS)) ∧ (∀ (sz : Nat) (xs : List Int), W (.sl 0 sz 0 (xs.map cZ)) = .sl 0 sz 0 (xs.map cZ)) ∧ (∀ (sz : Nat) (xs : List Reg), W (.sl 0 sz 0 (xs.map cReg)) = .sl 0 sz 0 (xs.map cReg)) ∧ (∀ (sz : Nat) (xs : List Mail), W (.sl 0 sz 0 (xs.map cMail)) = .sl 0 sz 0 (xs.map cMail)) ∧ (∀ (sz : Nat) (xs : List Box), W (.sl 0 sz 0 (xs.map cBox)) = .sl 0 sz 0 (xs.map cBox)) ∧ (∀ (sz : Nat) (xs : List Server), W (.sl 0 sz 0 (xs.map cServer)) = .sl 0 sz 0 (xs.map cServer)) ∧ (∀ (sz : Nat) (xs : List Sync), W (.sl 0 sz 0 (xs.map cSync)) = .sl 0 sz 0 (xs.map cSync)) ∧ (∀ (sz : Nat) (xs : List Letter), W (.sl 0 sz 0 (xs.map cLetter)) = .sl 0 sz 0 (xs.map cLetter)) ∧ (∀ (sz : Nat) (xs : List UInt8), W (.sl 0 sz 0 (xs.map cB)) = .sl 0 sz 0 (xs.map cB)) :=
  ⟨far00 hW h0 (fun xs => by simp [zz, zf, zy]), far00 hW h0 (fun xs => by simp [zz, zf, zy]), far00 hW h0 (fun xs => by simp [zz, zf, zy]), far00 hW h0 (fun xs => by simp [zz, zf, zy]), far00 hW h0 (fun xs => by simp [zz, zf, zy]), far00 hW h0 (fun xs => by simp [zz, zf, zy]), far00 hW h0 (fun xs => by simp [zz, zf, zy]), far00 hW h0 (fun xs => by simp [zz, zf, zy]), far00 hW h0 (fun xs => by simp [zz, zf, zy])⟩
end Go.Proofs.YtjhfabimacljhaaGreat.K

/- Sizes as the laws count them. Printed by gensz.py. -/
namespace Go.Proofs.YtjhfabimacljhaaGreat.K
open Go Go.RowKit
set_option linter.unusedVariables false
set_option linter.unusedSimpArgs false
def szCut (n : Nat) (left : Int) : Int := IntKind.i64.wrap (left - (n : Int))
def szLen (n : Nat) (left : Int) : Int := if IntKind.i64.wrap (left - (n : Int)) < 0 then -1 else IntKind.i64.wrap (left - (n : Int))
def szFold {α : Type} (f : α → Int → Int) : List α → Int → Int
  | [], left => left
  | a :: l, left => if f a left < 0 then -1 else szFold f l (f a left)
def szAll {α : Type} (f : α → Int → Int) (l : List α) (left : Int) : Int := if IntKind.i64.wrap (left - (l.length : Int)) < 0 then -1 else szFold f l (IntKind.i64.wrap (left - (l.length : Int)))
def szSeq : List (Int → Int) → Int → Int
  | [], left => left
  | f :: fs, left => if f left < 0 then -1 else szSeq fs (f left)
def Cnt (f : Int → Int) (p : Prop) : Prop := ∀ left, 0 ≤ left → left ≤ 1048576 → ¬ f left < 0 → f left ≤ left ∧ p
def StrsS (a : List Str) : Prop := a.length ≤ 1048576 ∧ ∀ s ∈ a, s.length ≤ 1048576
theorem wrap_sub {left : Int} {n : Nat} (h0 : 0 ≤ left) (h1 : left ≤ 1048576) (hn : n ≤ BB) : IntKind.i64.wrap (left - n) = left - n := by rw [IntKind.wrap_i64]; unfold BB at hn; omega
theorem cut_cnt {n : Nat} (hn : n ≤ BB) : Cnt (szCut n) (n ≤ 1048576) := by
  intro left h0 h1 h
  unfold szCut at *
  rw [wrap_sub h0 h1 hn] at *
  exact ⟨by omega, by omega⟩
theorem len_cnt {n : Nat} (hn : n ≤ BB) : Cnt (szLen n) (n ≤ 1048576) := by
  intro left h0 h1 h
  unfold szLen at *
  rw [wrap_sub h0 h1 hn] at *
  split at h
  · omega
  · rename_i hl
    rw [if_neg hl]
    exact ⟨by omega, by omega⟩
theorem fold_cnt {α : Type} {f : α → Int → Int} {p : α → Prop} : ∀ {l : List α}, (∀ a ∈ l, Cnt (f a) (p a)) → Cnt (szFold f l) (∀ a ∈ l, p a)
  | [], _ => fun left _ _ _ => ⟨Int.le_refl _, fun a h => by cases h⟩
  | a :: l, hp => by
    intro left h0 h1 h
    simp only [szFold] at *
    split at h
    · omega
    · rename_i hl
      rw [if_neg hl]
      have h2 := hp a (List.mem_cons_self ..) left h0 h1 hl
      have h3 := fold_cnt (fun b hb => hp b (List.mem_cons_of_mem _ hb)) (f a left) (by omega) (by omega) h
      refine ⟨by omega, fun b hb => ?_⟩
      rcases List.mem_cons.1 hb with rfl | hb
      · exact h2.2
      · exact h3.2 b hb
theorem all_cnt {α : Type} {f : α → Int → Int} {p : α → Prop} {l : List α} (hl : l.length ≤ BB) (hp : ∀ a ∈ l, Cnt (f a) (p a)) : Cnt (szAll f l) (l.length ≤ 1048576 ∧ ∀ a ∈ l, p a) := by
  intro left h0 h1 h
  unfold szAll at *
  rw [wrap_sub h0 h1 hl] at *
  split at h
  · omega
  · rename_i hc
    rw [if_neg hc]
    have := fold_cnt hp (left - l.length) (by omega) (by omega) h
    exact ⟨by omega, by omega, this.2⟩
theorem seq_nil : Cnt (szSeq []) True := fun left _ _ _ => ⟨Int.le_refl _, trivial⟩
theorem seq_cnt {f : Int → Int} {fs : List (Int → Int)} {p q : Prop} (hp : Cnt f p) (hq : Cnt (szSeq fs) q) : Cnt (szSeq (f :: fs)) (p ∧ q) := by
  intro left h0 h1 h
  simp only [szSeq] at *
  split at h
  · omega
  · rename_i hl
    rw [if_neg hl]
    have h2 := hp left h0 h1 hl
    have h3 := hq (f left) (by omega) (by omega) h
    exact ⟨by omega, h2.2, h3.2⟩
theorem seq_one {f : Int → Int} {p : Prop} (hp : Cnt f p) : Cnt (szSeq [f]) p := by
  intro left h0 h1 h
  have := seq_cnt hp seq_nil left h0 h1 h
  exact ⟨this.1, this.2.1⟩
theorem szLoop_eq (a : List Str) : ∀ left, szLoop a left = szFold (fun (s : Str) => szCut s.length) a left := by
  induction a with
  | nil => intro left; rfl
  | cons s a ih => intro left; simp only [szLoop, szFold, szCut, ih]; rfl
theorem strs_cnt {a : List Str} (ha : StrsB a) : Cnt (szStrs a) (StrsS a) := by
  have h := all_cnt (f := fun (s : Str) => szCut s.length) (l := a) ha.1 fun s hs => cut_cnt (ha.2 s hs)
  intro left h0 h1 h2
  have e : szStrs a left = szAll (fun (s : Str) => szCut s.length) a left := by
    unfold szStrs szAll
    split
    · rfl
    · exact szLoop_eq a _
  rw [e] at h2 ⊢
  exact h left h0 h1 h2
def szMail (x : Mail) : Int → Int := szSeq [szLen x.flags.length, szCut x.text.length]
def smMail (x : Mail) : Prop := (x.flags.length ≤ 1048576) ∧ (x.text.length ≤ 1048576)
def szBox (x : Box) : Int → Int := szSeq [szCut x.name.length, szAll szMail x.mails, szLen x.gone.length]
def smBox (x : Box) : Prop := (x.name.length ≤ 1048576) ∧ (x.mails.length ≤ 1048576 ∧ ∀ z ∈ x.mails, smMail z) ∧ (x.gone.length ≤ 1048576)
def szStore (x : Store) : Int → Int := szSeq [szAll szBox x.boxes, szLen x.gone.length]
def smStore (x : Store) : Prop := (x.boxes.length ≤ 1048576 ∧ ∀ z ∈ x.boxes, smBox z) ∧ (x.gone.length ≤ 1048576)
def szKept (x : Kept) : Int → Int := szSeq [szStore x.store, szCut x.journal.length]
def smKept (x : Kept) : Prop := (smStore x.store) ∧ (x.journal.length ≤ 1048576)
def szSession (x : Session) : Int → Int := szSeq [szCut x.inn.length, szCut x.out.length, szLen x.view.length]
def smSession (x : Session) : Prop := (x.inn.length ≤ 1048576) ∧ (x.out.length ≤ 1048576) ∧ (x.view.length ≤ 1048576)
def szServer (x : Server) : Int → Int := szSeq [szKept x.kept, szSession x.session]
def smServer (x : Server) : Prop := (smKept x.kept) ∧ (smSession x.session)
def szLetter (x : Letter) : Int → Int := szSeq [szCut x.text.length]
def smLetter (x : Letter) : Prop := (x.text.length ≤ 1048576)
def szLink_ (x : Link) : Int → Int := szSeq [szStrs x.way]
def smLink (x : Link) : Prop := (StrsS x.way)
def smSync (x : Sync) : Prop := (smLink x.link) ∧ (StrsS x.pieces)
def szPair (x : Pair) : Int → Int := szSeq [szAll szServer x.servers, szAll szSync x.syncs, szAll szLetter x.net]
def smPair (x : Pair) : Prop := (x.servers.length ≤ 1048576 ∧ ∀ z ∈ x.servers, smServer z) ∧ (x.syncs.length ≤ 1048576 ∧ ∀ z ∈ x.syncs, smSync z) ∧ (x.net.length ≤ 1048576 ∧ ∀ z ∈ x.net, smLetter z)
theorem szMail_cnt {x : Mail} (h : okMail x) : Cnt (szMail x) (smMail x) := seq_cnt (len_cnt (h.1).1) (seq_one (cut_cnt (h.2)))
theorem szBox_cnt {x : Box} (h : okBox x) : Cnt (szBox x) (smBox x) := seq_cnt (cut_cnt (h.1)) (seq_cnt (all_cnt (h.2.2.1).1 fun z hz => szMail_cnt ((h.2.2.1).2 z hz)) (seq_one (len_cnt (h.2.2.2))))
theorem szStore_cnt {x : Store} (h : okStore x) : Cnt (szStore x) (smStore x) := seq_cnt (all_cnt (h.1).1 fun z hz => szBox_cnt ((h.1).2 z hz)) (seq_one (len_cnt (h.2)))
theorem szKept_cnt {x : Kept} (h : okKept x) : Cnt (szKept x) (smKept x) := seq_cnt (szStore_cnt (h.1)) (seq_one (cut_cnt (h.2)))
theorem szSession_cnt {x : Session} (h : okSession x) : Cnt (szSession x) (smSession x) := seq_cnt (cut_cnt (h.1)) (seq_cnt (cut_cnt (h.2.1)) (seq_one (len_cnt (h.2.2))))
theorem szServer_cnt {x : Server} (h : okServer x) : Cnt (szServer x) (smServer x) := seq_cnt (szKept_cnt (h.1)) (seq_one (szSession_cnt (h.2)))
theorem szLetter_cnt {x : Letter} (h : okLetter x) : Cnt (szLetter x) (smLetter x) := seq_one (cut_cnt (h))
theorem szLink_cnt {x : Link} (h : okLink x) : Cnt (szLink x) (smLink x) := by
  intro left h0 h1 h2
  have e : szLink x left = szSeq [szStrs x.way] left := by simp [szLink, szSeq]
  rw [e] at h2 ⊢
  exact (seq_one (strs_cnt h)) left h0 h1 h2
theorem szSync_cnt {x : Sync} (h : okSync x) : Cnt (szSync x) (smSync x) := by
  intro left h0 h1 h2
  have e : szSync x left = szSeq [szLink x.link, szStrs x.pieces] left := by simp [szSync, szSeq]
  rw [e] at h2 ⊢
  exact (seq_cnt (szLink_cnt (h.1)) (seq_one (strs_cnt (h.2)))) left h0 h1 h2
theorem szPair_cnt {x : Pair} (h : okPair x) : Cnt (szPair x) (smPair x) := seq_cnt (all_cnt (h.1).1 fun z hz => szServer_cnt ((h.1).2 z hz)) (seq_cnt (all_cnt (h.2.1).1 fun z hz => szSync_cnt ((h.2.1).2 z hz)) (seq_one (all_cnt (h.2.2).1 fun z hz => szLetter_cnt ((h.2.2).2 z hz))))
end Go.Proofs.YtjhfabimacljhaaGreat.K

/- Rows of copies and of zeros. -/
namespace Go.Proofs.YtjhfabimacljhaaGreat.K
open Go Go.RowKit
set_option linter.unusedVariables false
set_option linter.unusedSimpArgs false
abbrev zcI : List V := [.int .i64 0]
abbrev zcT : List V := [.str []]
abbrev zcReg : List V := [.int .i64 0, .int .i64 0, .int .i64 0]
abbrev zcMail : List V := [.int .i64 0, .int .i64 0, .nil 3, .str []]
abbrev zcBox : List V := [.int .i64 0, .str [], .int .i64 0, .int .i64 0, .int .i64 0, .nil 4, .nil 1]
abbrev zcLetter : List V := [.int .i64 0, .str []]
abbrev zcSync : List V := [.int .i64 0, .int .i64 0, .nil 1, .int .i64 0, .int .i64 0, .int .i64 0, .nil 1, .bool false, .bool false]
abbrev zcServer : List V := [.int .i64 0, .int .i64 0, .nil 7, .nil 1, .str [], .int .i64 0, .str [], .str [], .bool false, .bool false, .int .i64 0, .nil 1, .bool false]
end Go.Proofs.YtjhfabimacljhaaGreat.K
