/- Links put, syncs ended, marks: plain functions. -/
import Derived.Test.YtliiphpbfambcaaGreatDoorG2
import Derived.Test.YtliiphpbfambcaaGreatDoorG3
import Derived.Test.YtliiphpbfambcaaGreatDoorG1
namespace Go.Proofs.YtliiphpbfambcaaGreatDoor.K
open Go Go.RowKit
set_option linter.unusedVariables false
set_option linter.unusedSimpArgs false
def linkFull (l : Link) (t : Str) : Bool := decide ((l.way.length : Int) ≥ 60) || !inR (t.length : Int) 1 400
def linkPut (l : Link) (t : Str) : Link × Bool := if linkFull l t = true then (l, false) else ({ l with way := l.way ++ [t] }, true)
abbrev vLB (r : Link × Bool) : V := .tup [.agg (cLink r.1), .bool r.2]
def syncEnds (y : Sync) (b : Bool) : Sync := if b = true then { y with done := true } else { y with failed := true }
def decGo (m : Nat) (acc : Str) : Str := if h : 0 < m then decGo (m / 10) (UInt8.ofNat (48 + m % 10) :: acc) else acc
termination_by m
decreasing_by omega
def markT (k : Nat) : Str := if k = 0 then [109, 48] else 109 :: decGo k []
def marks (k n : Nat) : List Str := (List.range' k n).map markT
end Go.Proofs.YtliiphpbfambcaaGreatDoor.K

/- The program's data as plain data, and how it lies in cells. Printed by gendata.py. -/
namespace Go.Proofs.YtliiphpbfambcaaGreatDoor.K
open Go Go.RowKit
set_option linter.unusedVariables false
set_option linter.unusedSimpArgs false
structure Stamp where
  time : Int
  by_ : Int
  deriving DecidableEq
abbrev cStamp (x : Stamp) : List V := [.int .i64 x.time, .int .i64 x.by_]
structure Reg where
  val : Int
  stamp : Stamp
  deriving DecidableEq
abbrev cReg (x : Reg) : List V := [.int .i64 x.val, .int .i64 x.stamp.time, .int .i64 x.stamp.by_]
structure Mail where
  gid : Int
  uid : Int
  flags : List Reg
  text : Str
  deriving DecidableEq
abbrev cMail (x : Mail) : List V := [.int .i64 x.gid, .int .i64 x.uid, .sl 0 3 0 (x.flags.map cReg), .str x.text]
structure Box where
  gid : Int
  name : Str
  named : Stamp
  next : Int
  mails : List Mail
  gone : List Int
  deriving DecidableEq
abbrev cBox (x : Box) : List V := [.int .i64 x.gid, .str x.name, .int .i64 x.named.time, .int .i64 x.named.by_, .int .i64 x.next, .sl 0 4 0 (x.mails.map cMail), .sl 0 1 0 (x.gone.map cZ)]
structure Store where
  by_ : Int
  time : Int
  boxes : List Box
  gone : List Int
  deriving DecidableEq
abbrev cStore (x : Store) : List V := [.int .i64 x.by_, .int .i64 x.time, .sl 0 7 0 (x.boxes.map cBox), .sl 0 1 0 (x.gone.map cZ)]
structure Kept where
  store : Store
  journal : Str
  saved : Int
  deriving DecidableEq
abbrev cKept (x : Kept) : List V := [.int .i64 x.store.by_, .int .i64 x.store.time, .sl 0 7 0 (x.store.boxes.map cBox), .sl 0 1 0 (x.store.gone.map cZ), .str x.journal, .int .i64 x.saved]
structure Session where
  inn : Str
  out : Str
  on : Bool
  over : Bool
  box : Int
  view : List Int
  deriving DecidableEq
abbrev cSession (x : Session) : List V := [.str x.inn, .str x.out, .bool x.on, .bool x.over, .int .i64 x.box, .sl 0 1 0 (x.view.map cZ)]
structure Server where
  kept : Kept
  session : Session
  up : Bool
  deriving DecidableEq
abbrev cServer (x : Server) : List V := [.int .i64 x.kept.store.by_, .int .i64 x.kept.store.time, .sl 0 7 0 (x.kept.store.boxes.map cBox), .sl 0 1 0 (x.kept.store.gone.map cZ), .str x.kept.journal, .int .i64 x.kept.saved, .str x.session.inn, .str x.session.out, .bool x.session.on, .bool x.session.over, .int .i64 x.session.box, .sl 0 1 0 (x.session.view.map cZ), .bool x.up]
structure Letter where
  to_ : Int
  text : Str
  deriving DecidableEq
abbrev cLetter (x : Letter) : List V := [.int .i64 x.to_, .str x.text]
structure Pair where
  servers : List Server
  syncs : List Sync
  net : List Letter
  epoch : Int
  deriving DecidableEq
abbrev cPair (x : Pair) : List V := [.sl 0 13 0 (x.servers.map cServer), .sl 0 9 0 (x.syncs.map cSync), .sl 0 2 0 (x.net.map cLetter), .int .i64 x.epoch]
structure Life where
  pair : Pair
  codes : List Int
  deriving DecidableEq
abbrev cLife (x : Life) : List V := [.sl 0 13 0 (x.pair.servers.map cServer), .sl 0 9 0 (x.pair.syncs.map cSync), .sl 0 2 0 (x.pair.net.map cLetter), .int .i64 x.pair.epoch, .sl 0 1 0 (x.codes.map cZ)]
structure Call where
  kind : Int
  box : Int
  gid : Int
  flags : Int
  text : Str
  deriving DecidableEq
abbrev cCall (x : Call) : List V := [.int .i64 x.kind, .int .i64 x.box, .int .i64 x.gid, .int .i64 x.flags, .str x.text]
structure Token where
  kind : Int
  text : Str
  deriving DecidableEq
abbrev cToken (x : Token) : List V := [.int .i64 x.kind, .str x.text]
structure Range where
  frm : Int
  to_ : Int
  deriving DecidableEq
abbrev cRange (x : Range) : List V := [.int .i64 x.frm, .int .i64 x.to_]
theorem labels0_map {α : Type} {f : α → List V} (hf : ∀ x, ∀ L ∈ V.labelsL (f x), L = 0) (xs : List α) : ∀ L ∈ V.labelsLL (xs.map f), L = 0 := by
  induction xs with
  | nil => intro L h; cases h
  | cons x xs ih =>
    intro L h
    simp only [List.map_cons, V.labelsLL, List.mem_append] at h
    rcases h with h | h
    · exact hf x L h
    · exact ih L h
theorem trav0_map {α : Type} {f : α → List V} {f0 : Nat → V} {fs : Nat → Nat → Nat → List (List V) → V} {fp : Nat → Nat → Nat → List V → V} (hf : ∀ x, V.travL f0 fs fp (f x) = f x) (xs : List α) : V.travLL f0 fs fp (xs.map f) = xs.map f := travLL_map hf xs
theorem zf : (∀ (f0 : Nat → V) (fs : Nat → Nat → Nat → List (List V) → V) (fp : Nat → Nat → Nat → List V → V) (xs : List Stamp), V.travLL f0 fs fp (xs.map cStamp) = xs.map cStamp) ∧ (∀ (xs : List Stamp), V.labelsLL (xs.map cStamp) = []) ∧ (∀ (xs : List Stamp), V.datLL (xs.map cStamp) = true) ∧ (∀ (n : Nat) (xs : List Stamp), V.tagLL n (xs.map cStamp) = xs.map cStamp) ∧ (∀ (xs : List Stamp), V.cntLL (xs.map cStamp) = 0) ∧ (∀ (f0 : Nat → V) (fs : Nat → Nat → Nat → List (List V) → V) (fp : Nat → Nat → Nat → List V → V) (xs : List Reg), V.travLL f0 fs fp (xs.map cReg) = xs.map cReg) ∧ (∀ (xs : List Reg), V.labelsLL (xs.map cReg) = []) ∧ (∀ (xs : List Reg), V.datLL (xs.map cReg) = true) ∧ (∀ (n : Nat) (xs : List Reg), V.tagLL n (xs.map cReg) = xs.map cReg) ∧ (∀ (xs : List Reg), V.cntLL (xs.map cReg) = 0) ∧ (∀ (f0 : Nat → V) (fs : Nat → Nat → Nat → List (List V) → V) (fp : Nat → Nat → Nat → List V → V) (xs : List Letter), V.travLL f0 fs fp (xs.map cLetter) = xs.map cLetter) ∧ (∀ (xs : List Letter), V.labelsLL (xs.map cLetter) = []) ∧ (∀ (xs : List Letter), V.datLL (xs.map cLetter) = true) ∧ (∀ (n : Nat) (xs : List Letter), V.tagLL n (xs.map cLetter) = xs.map cLetter) ∧ (∀ (xs : List Letter), V.cntLL (xs.map cLetter) = 0) ∧ (∀ (f0 : Nat → V) (fs : Nat → Nat → Nat → List (List V) → V) (fp : Nat → Nat → Nat → List V → V) (xs : List Call), V.travLL f0 fs fp (xs.map cCall) = xs.map cCall) ∧ (∀ (xs : List Call), V.labelsLL (xs.map cCall) = []) ∧ (∀ (xs : List Call), V.datLL (xs.map cCall) = true) ∧ (∀ (n : Nat) (xs : List Call), V.tagLL n (xs.map cCall) = xs.map cCall) ∧ (∀ (xs : List Call), V.cntLL (xs.map cCall) = 0) ∧ (∀ (f0 : Nat → V) (fs : Nat → Nat → Nat → List (List V) → V) (fp : Nat → Nat → Nat → List V → V) (xs : List Token), V.travLL f0 fs fp (xs.map cToken) = xs.map cToken) ∧ (∀ (xs : List Token), V.labelsLL (xs.map cToken) = []) ∧ (∀ (xs : List Token), V.datLL (xs.map cToken) = true) ∧ (∀ (n : Nat) (xs : List Token), V.tagLL n (xs.map cToken) = xs.map cToken) ∧ (∀ (xs : List Token), V.cntLL (xs.map cToken) = 0) ∧ (∀ (f0 : Nat → V) (fs : Nat → Nat → Nat → List (List V) → V) (fp : Nat → Nat → Nat → List V → V) (xs : List Range), V.travLL f0 fs fp (xs.map cRange) = xs.map cRange) ∧ (∀ (xs : List Range), V.labelsLL (xs.map cRange) = []) ∧ (∀ (xs : List Range), V.datLL (xs.map cRange) = true) ∧ (∀ (n : Nat) (xs : List Range), V.tagLL n (xs.map cRange) = xs.map cRange) ∧ (∀ (xs : List Range), V.cntLL (xs.map cRange) = 0) :=
  ⟨fun f0 fs fp xs => travLL_map (fun _ => rfl) xs, fun xs => labels_map (fun _ => rfl) xs, fun xs => dat_map (fun _ => rfl) xs, fun n xs => tag_map (fun _ _ => rfl) xs n, fun xs => cnt_map (fun _ => rfl) xs, fun f0 fs fp xs => travLL_map (fun _ => rfl) xs, fun xs => labels_map (fun _ => rfl) xs, fun xs => dat_map (fun _ => rfl) xs, fun n xs => tag_map (fun _ _ => rfl) xs n, fun xs => cnt_map (fun _ => rfl) xs, fun f0 fs fp xs => travLL_map (fun _ => rfl) xs, fun xs => labels_map (fun _ => rfl) xs, fun xs => dat_map (fun _ => rfl) xs, fun n xs => tag_map (fun _ _ => rfl) xs n, fun xs => cnt_map (fun _ => rfl) xs, fun f0 fs fp xs => travLL_map (fun _ => rfl) xs, fun xs => labels_map (fun _ => rfl) xs, fun xs => dat_map (fun _ => rfl) xs, fun n xs => tag_map (fun _ _ => rfl) xs n, fun xs => cnt_map (fun _ => rfl) xs, fun f0 fs fp xs => travLL_map (fun _ => rfl) xs, fun xs => labels_map (fun _ => rfl) xs, fun xs => dat_map (fun _ => rfl) xs, fun n xs => tag_map (fun _ _ => rfl) xs n, fun xs => cnt_map (fun _ => rfl) xs, fun f0 fs fp xs => travLL_map (fun _ => rfl) xs, fun xs => labels_map (fun _ => rfl) xs, fun xs => dat_map (fun _ => rfl) xs, fun n xs => tag_map (fun _ _ => rfl) xs n, fun xs => cnt_map (fun _ => rfl) xs⟩
theorem t0_Sync {f0 : Nat → V} {fs : Nat → Nat → Nat → List (List V) → V} {fp : Nat → Nat → Nat → List V → V} (h : ∀ sz es, fs 0 sz 0 es = .sl 0 sz 0 es) (x : Sync) : V.travL f0 fs fp (cSync x) = cSync x := by
  simp only [cSync, V.travL, V.trav, zz, zf, h]
theorem l0_Sync (x : Sync) : ∀ L ∈ V.labelsL (cSync x), L = 0 := by
  intro L hL
  simp only [cSync, V.labelsL, V.labels, zz, zf, List.mem_append, List.mem_cons, List.not_mem_nil, or_false, false_or, List.append_nil, List.nil_append] at hL
  first | exact hL | omega | (repeat (first | exact hL | exact absurd hL id | (rcases hL with hL | hL)))
theorem d0_Sync (x : Sync) : V.datL (cSync x) = true := by
  simp [cSync, V.datL, V.dat, zz, zf]
theorem t0_Mail {f0 : Nat → V} {fs : Nat → Nat → Nat → List (List V) → V} {fp : Nat → Nat → Nat → List V → V} (h : ∀ sz es, fs 0 sz 0 es = .sl 0 sz 0 es) (x : Mail) : V.travL f0 fs fp (cMail x) = cMail x := by
  simp only [cMail, V.travL, V.trav, zz, zf, h]
theorem l0_Mail (x : Mail) : ∀ L ∈ V.labelsL (cMail x), L = 0 := by
  intro L hL
  simp only [cMail, V.labelsL, V.labels, zz, zf, List.mem_append, List.mem_cons, List.not_mem_nil, or_false, false_or, List.append_nil, List.nil_append] at hL
  first | exact hL | omega | (repeat (first | exact hL | exact absurd hL id | (rcases hL with hL | hL)))
theorem d0_Mail (x : Mail) : V.datL (cMail x) = true := by
  simp [cMail, V.datL, V.dat, zz, zf]
theorem t0_Box {f0 : Nat → V} {fs : Nat → Nat → Nat → List (List V) → V} {fp : Nat → Nat → Nat → List V → V} (h : ∀ sz es, fs 0 sz 0 es = .sl 0 sz 0 es) (x : Box) : V.travL f0 fs fp (cBox x) = cBox x := by
  simp only [cBox, V.travL, V.trav, zz, zf, h, trav0_map (t0_Mail h)]
theorem l0_Box (x : Box) : ∀ L ∈ V.labelsL (cBox x), L = 0 := by
  intro L hL
  simp only [cBox, V.labelsL, V.labels, zz, zf, List.mem_append, List.mem_cons, List.not_mem_nil, or_false, false_or, List.append_nil, List.nil_append] at hL
  first | exact hL | omega | (repeat (first | exact hL | exact absurd hL id | (rcases hL with hL | hL) | exact labels0_map l0_Mail _ L hL))
theorem d0_Box (x : Box) : V.datL (cBox x) = true := by
  simp [cBox, V.datL, V.dat, zz, zf, dat_map d0_Mail]
theorem t0_Server {f0 : Nat → V} {fs : Nat → Nat → Nat → List (List V) → V} {fp : Nat → Nat → Nat → List V → V} (h : ∀ sz es, fs 0 sz 0 es = .sl 0 sz 0 es) (x : Server) : V.travL f0 fs fp (cServer x) = cServer x := by
  simp only [cServer, V.travL, V.trav, zz, zf, h, trav0_map (t0_Box h)]
theorem l0_Server (x : Server) : ∀ L ∈ V.labelsL (cServer x), L = 0 := by
  intro L hL
  simp only [cServer, V.labelsL, V.labels, zz, zf, List.mem_append, List.mem_cons, List.not_mem_nil, or_false, false_or, List.append_nil, List.nil_append] at hL
  first | exact hL | omega | (repeat (first | exact hL | exact absurd hL id | (rcases hL with hL | hL) | exact labels0_map l0_Box _ L hL))
theorem d0_Server (x : Server) : V.datL (cServer x) = true := by
  simp [cServer, V.datL, V.dat, zz, zf, dat_map d0_Box]
theorem zy : (∀ (xs : List Sync), V.travLL (fun sz => V.sl 0 sz 0 []) (fun _ sz _ es => V.sl 0 sz 0 es) (fun _ _ o e => V.ptr 0 0 o e) (xs.map cSync) = xs.map cSync) ∧ (∀ (L i : Nat) (e : List V) (xs : List Sync), V.travLL V.nil (updS (L + 1) i e) (updP (L + 1) i e) (xs.map cSync) = xs.map cSync) ∧ (∀ (L : Nat) (xs : List Sync), V.travLL V.nil (killS (L + 1)) (killP (L + 1)) (xs.map cSync) = xs.map cSync) ∧ (∀ (xs : List Sync), (∀ L ∈ V.labelsLL (xs.map cSync), L = 0) = True) ∧ (∀ (xs : List Sync), V.datLL (xs.map cSync) = true) ∧ (∀ (L : Nat) (xs : List Sync), (L + 1 ∈ V.labelsLL (xs.map cSync)) = False) ∧ (∀ (k : Nat) (xs : List Sync), V.travLL V.nil (fun L sz off es => V.sl (if k ≤ L then 0 else L) sz off es) (fun L i o e => V.ptr (if k ≤ L then 0 else L) i o e) (xs.map cSync) = xs.map cSync) ∧ (∀ (xs : List Mail), V.travLL (fun sz => V.sl 0 sz 0 []) (fun _ sz _ es => V.sl 0 sz 0 es) (fun _ _ o e => V.ptr 0 0 o e) (xs.map cMail) = xs.map cMail) ∧ (∀ (L i : Nat) (e : List V) (xs : List Mail), V.travLL V.nil (updS (L + 1) i e) (updP (L + 1) i e) (xs.map cMail) = xs.map cMail) ∧ (∀ (L : Nat) (xs : List Mail), V.travLL V.nil (killS (L + 1)) (killP (L + 1)) (xs.map cMail) = xs.map cMail) ∧ (∀ (xs : List Mail), (∀ L ∈ V.labelsLL (xs.map cMail), L = 0) = True) ∧ (∀ (xs : List Mail), V.datLL (xs.map cMail) = true) ∧ (∀ (L : Nat) (xs : List Mail), (L + 1 ∈ V.labelsLL (xs.map cMail)) = False) ∧ (∀ (k : Nat) (xs : List Mail), V.travLL V.nil (fun L sz off es => V.sl (if k ≤ L then 0 else L) sz off es) (fun L i o e => V.ptr (if k ≤ L then 0 else L) i o e) (xs.map cMail) = xs.map cMail) ∧ (∀ (xs : List Box), V.travLL (fun sz => V.sl 0 sz 0 []) (fun _ sz _ es => V.sl 0 sz 0 es) (fun _ _ o e => V.ptr 0 0 o e) (xs.map cBox) = xs.map cBox) ∧ (∀ (L i : Nat) (e : List V) (xs : List Box), V.travLL V.nil (updS (L + 1) i e) (updP (L + 1) i e) (xs.map cBox) = xs.map cBox) ∧ (∀ (L : Nat) (xs : List Box), V.travLL V.nil (killS (L + 1)) (killP (L + 1)) (xs.map cBox) = xs.map cBox) ∧ (∀ (xs : List Box), (∀ L ∈ V.labelsLL (xs.map cBox), L = 0) = True) ∧ (∀ (xs : List Box), V.datLL (xs.map cBox) = true) ∧ (∀ (L : Nat) (xs : List Box), (L + 1 ∈ V.labelsLL (xs.map cBox)) = False) ∧ (∀ (k : Nat) (xs : List Box), V.travLL V.nil (fun L sz off es => V.sl (if k ≤ L then 0 else L) sz off es) (fun L i o e => V.ptr (if k ≤ L then 0 else L) i o e) (xs.map cBox) = xs.map cBox) ∧ (∀ (xs : List Server), V.travLL (fun sz => V.sl 0 sz 0 []) (fun _ sz _ es => V.sl 0 sz 0 es) (fun _ _ o e => V.ptr 0 0 o e) (xs.map cServer) = xs.map cServer) ∧ (∀ (L i : Nat) (e : List V) (xs : List Server), V.travLL V.nil (updS (L + 1) i e) (updP (L + 1) i e) (xs.map cServer) = xs.map cServer) ∧ (∀ (L : Nat) (xs : List Server), V.travLL V.nil (killS (L + 1)) (killP (L + 1)) (xs.map cServer) = xs.map cServer) ∧ (∀ (xs : List Server), (∀ L ∈ V.labelsLL (xs.map cServer), L = 0) = True) ∧ (∀ (xs : List Server), V.datLL (xs.map cServer) = true) ∧ (∀ (L : Nat) (xs : List Server), (L + 1 ∈ V.labelsLL (xs.map cServer)) = False) ∧ (∀ (k : Nat) (xs : List Server), V.travLL V.nil (fun L sz off es => V.sl (if k ≤ L then 0 else L) sz off es) (fun L i o e => V.ptr (if k ≤ L then 0 else L) i o e) (xs.map cServer) = xs.map cServer) :=
  ⟨fun xs => trav0_map (t0_Sync (fs := fun _ sz _ es => V.sl 0 sz 0 es) (fun _ _ => rfl)) xs, fun L i e xs => trav0_map (t0_Sync (fun sz es => if_neg (fun h => by have := h.1; omega))) xs, fun L xs => trav0_map (t0_Sync (fun sz es => if_neg (fun h => by omega))) xs, fun xs => eq_true (labels0_map l0_Sync xs), fun xs => dat_map d0_Sync xs, fun L xs => eq_false (fun h => by have := labels0_map l0_Sync xs _ h; omega), fun k xs => trav0_map (t0_Sync (fs := fun L sz off es => V.sl (if k ≤ L then 0 else L) sz off es) (fun sz es => by simp)) xs, fun xs => trav0_map (t0_Mail (fs := fun _ sz _ es => V.sl 0 sz 0 es) (fun _ _ => rfl)) xs, fun L i e xs => trav0_map (t0_Mail (fun sz es => if_neg (fun h => by have := h.1; omega))) xs, fun L xs => trav0_map (t0_Mail (fun sz es => if_neg (fun h => by omega))) xs, fun xs => eq_true (labels0_map l0_Mail xs), fun xs => dat_map d0_Mail xs, fun L xs => eq_false (fun h => by have := labels0_map l0_Mail xs _ h; omega), fun k xs => trav0_map (t0_Mail (fs := fun L sz off es => V.sl (if k ≤ L then 0 else L) sz off es) (fun sz es => by simp)) xs, fun xs => trav0_map (t0_Box (fs := fun _ sz _ es => V.sl 0 sz 0 es) (fun _ _ => rfl)) xs, fun L i e xs => trav0_map (t0_Box (fun sz es => if_neg (fun h => by have := h.1; omega))) xs, fun L xs => trav0_map (t0_Box (fun sz es => if_neg (fun h => by omega))) xs, fun xs => eq_true (labels0_map l0_Box xs), fun xs => dat_map d0_Box xs, fun L xs => eq_false (fun h => by have := labels0_map l0_Box xs _ h; omega), fun k xs => trav0_map (t0_Box (fs := fun L sz off es => V.sl (if k ≤ L then 0 else L) sz off es) (fun sz es => by simp)) xs, fun xs => trav0_map (t0_Server (fs := fun _ sz _ es => V.sl 0 sz 0 es) (fun _ _ => rfl)) xs, fun L i e xs => trav0_map (t0_Server (fun sz es => if_neg (fun h => by have := h.1; omega))) xs, fun L xs => trav0_map (t0_Server (fun sz es => if_neg (fun h => by omega))) xs, fun xs => eq_true (labels0_map l0_Server xs), fun xs => dat_map d0_Server xs, fun L xs => eq_false (fun h => by have := labels0_map l0_Server xs _ h; omega), fun k xs => trav0_map (t0_Server (fs := fun L sz off es => V.sl (if k ≤ L then 0 else L) sz off es) (fun sz es => by simp)) xs⟩
section
variable {t t' h h' : List V} {n n' : Nat} {X : V} {o : Oper} {ops : Array Oper} {l : List Oper} {Q : Exit → List V → List V → Nat → Prop}
theorem OE {T : TypeId} {p x : Operand} {L j : Nat} {e' : List V} (hk : OkOps Tryz.prog ops l t' h' n Q) (hg : o.guard = none := by rfl) (ho : o.op = .store T p x := by rfl) (hs : storeE (tab T) (opnd t p) (opnd t x) = some (L, j, e') := by simp only [kE, kT, kL, kC] <;> rfl) (hc : ∃ y l, cellsV (opnd t x) = y :: l := by exact ⟨_, _, by simp only [kE]; rfl⟩) (hfree : L ∉ V.labelsL e' := by first | (simp [V.labelsL, V.labelsLL, V.labels, zz, zf, zy]; done) | (simp [-List.map_map, -List.map_set, -List.map_drop, -List.map_take, -List.map_tail, -List.drop_one, V.labelsL, V.labelsLL, V.labels, zz, zf, zy]; done))
    (ht : putV (V.updL L j e' t) o.dst .any = t' := by simp only [eq_self, V.updL, V.travL, V.travLL, V.trav, updS, updP, and_self, true_and, and_true, false_and, and_false, Nat.reduceEqDiff, Nat.reduceSub, Nat.le_refl, Nat.zero_le, ↓reduceIte, if_true, if_false, kP, zz, zf, zy] <;> rfl) (hh : V.updL L j e' h = h' := by rfl) : OkOps Tryz.prog ops (o :: l) t h n Q :=
  OkOps.storeE tab_ok hg ho hs hc hfree ht hh hk
end
end Go.Proofs.YtliiphpbfambcaaGreatDoor.K

/- Arguments of the program's types. Printed by shapes.py. -/
namespace Go.Proofs.YtliiphpbfambcaaGreatDoor.K
open Go Go.RowKit
set_option linter.unusedVariables false
set_option linter.unusedSimpArgs false
set_option maxRecDepth 20000
abbrev BB : Nat := 140737488351232
def StrsB (a : List Str) : Prop := a.length ≤ BB ∧ ∀ s ∈ a, s.length ≤ BB
theorem map_of {α : Type} {f : α → List V} {p : α → Prop} : ∀ {es : List (List V)}, (∀ c ∈ es, ∃ a, c = f a ∧ p a) → ∃ l : List α, es = l.map f ∧ ∀ a ∈ l, p a
  | [], _ => ⟨[], rfl, by simp⟩
  | c :: es, h => by
    obtain ⟨a, rfl, ha⟩ := h c (List.mem_cons_self ..)
    obtain ⟨l, rfl, hl⟩ := map_of (es := es) fun c hc => h c (List.mem_cons_of_mem _ hc)
    exact ⟨a :: l, rfl, by simpa using ⟨ha, hl⟩⟩
def okStamp (x : Stamp) : Prop := True
def okReg (x : Reg) : Prop := (okStamp x.stamp)
def okMail (x : Mail) : Prop := (x.flags.length ≤ BB ∧ ∀ z ∈ x.flags, okReg z) ∧ (x.text.length ≤ BB)
def okBox (x : Box) : Prop := (x.name.length ≤ BB) ∧ (okStamp x.named) ∧ (x.mails.length ≤ BB ∧ ∀ z ∈ x.mails, okMail z) ∧ (x.gone.length ≤ BB)
def okStore (x : Store) : Prop := (x.boxes.length ≤ BB ∧ ∀ z ∈ x.boxes, okBox z) ∧ (x.gone.length ≤ BB)
def okKept (x : Kept) : Prop := (okStore x.store) ∧ (x.journal.length ≤ BB)
def okSession (x : Session) : Prop := (x.inn.length ≤ BB) ∧ (x.out.length ≤ BB) ∧ (x.view.length ≤ BB)
def okServer (x : Server) : Prop := (okKept x.kept) ∧ (okSession x.session)
def okLetter (x : Letter) : Prop := (x.text.length ≤ BB)
def okLink (x : Link) : Prop := (x.way.length ≤ BB ∧ ∀ z ∈ x.way, z.length ≤ BB)
def okSync (x : Sync) : Prop := (okLink x.link) ∧ (x.pieces.length ≤ BB ∧ ∀ z ∈ x.pieces, z.length ≤ BB)
def okPair (x : Pair) : Prop := (x.servers.length ≤ BB ∧ ∀ z ∈ x.servers, okServer z) ∧ (x.syncs.length ≤ BB ∧ ∀ z ∈ x.syncs, okSync z) ∧ (x.net.length ≤ BB ∧ ∀ z ∈ x.net, okLetter z)
def okLife (x : Life) : Prop := (okPair x.pair) ∧ (x.codes.length ≤ BB)
def okPacket (x : Packet) : Prop := (x.text.length ≤ BB)
def okEvent (x : Event) : Prop := (x.text.length ≤ BB)
def okCall (x : Call) : Prop := (x.text.length ≤ BB)
def okToken (x : Token) : Prop := (x.text.length ≤ BB)
def okRange (x : Range) : Prop := True
section
variable {K : Nat} {H : Type} {enc : TypeId × Value → H} {P : Program} {W : World} {ti : Tab} {B : Nat} {base : Base}
theorem arg_one (hti : TabOk P ti) {t : TypeId} (m : Nat) (hd : dataT ti m t = true) {v : Value} {d : DataW H} {ps : List MemPlace} (hv : v.cells = #[v])
    (h : DataW.Trod enc P W 0 (fun _ => true) true t v d ps) (hw : ∀ x ∈ d.weights P t, x ≤ B) : ∃ x, M (bare W.heap.size) noSig W x v ∧ Shp ti B m t [x] := by
  obtain ⟨n, hn⟩ := h
  obtain ⟨xs, h1, h2⟩ := trod_M (base := bare W.heap.size) hti m t hd n _ d ps (fun _ h => h) hn hw
  rw [hv] at h1
  have hl := h1.1
  match xs, h1, h2, hl with
  | [x], h1, h2, _ => exact ⟨x, h1.2 0 x v rfl rfl, h2⟩
  | [], _, _, hl => simp at hl
  | _ :: _ :: _, _, _, hl => simp at hl
theorem cells_of_basic {w : World} {r : Reach} {b0 : Nat} {t : TypeId} {v : Value} (hu : P.underlying t = some .string ∨ P.underlying t = some .bool ∨ (∃ k, P.underlying t = some (.int k)) ∨ ∃ e, P.underlying t = some (.slice e)) (h : Value.okWide P w r b0 t v) : v.cells = #[v] := by
  unfold Value.okWide at h
  rcases hu with hu | hu | ⟨k, hu⟩ | ⟨e, hu⟩ <;>
  · simp only [hu] at h
    cases v with
    | agg cs => exfalso; revert h; simp [Cell.okWide, hu, Cell.ok]
    | _ => rfl
end
end Go.Proofs.YtliiphpbfambcaaGreatDoor.K

/- Numbers and texts read: plain functions; and that both readers of packets tell the same. -/
namespace Go.Proofs.YtliiphpbfambcaaGreatDoor.K
open Go Go.RowKit
set_option linter.unusedVariables false
set_option linter.unusedSimpArgs false

def rdV (s : Str) (p : Nat) : Nat → Nat → Nat → Option (Nat × Nat)
  | 0, _, _ => none
  | f + 1, i, n => if h : p + i < s.length then
      (if s[p + i].toNat < 128 then (if n + s[p + i].toNat % 128 * 128 ^ i ≤ 1000000000 ∧ varT (n + s[p + i].toNat % 128 * 128 ^ i) = (s.take (p + i + 1)).drop p then some (n + s[p + i].toNat % 128 * 128 ^ i, p + i + 1) else none)
        else rdV s p f (i + 1) (n + s[p + i].toNat % 128 * 128 ^ i)) else none
def readVar (s : Str) (z : Int) : Option (Nat × Nat) := if inR z 0 s.length = true then rdV s z.toNat 5 0 0 else none
abbrev vR (r : Option (Nat × Nat)) : V := .tup [.int .i64 ((r.getD (0, 0)).1 : Int), .int .i64 ((r.getD (0, 0)).2 : Int), .bool r.isSome]
theorem wrap_add_nat {a b : Nat} (h : a + b ≤ 9223372036854775807) : IntKind.i64.wrap ((a : Int) + (b : Int)) = ((a + b : Nat) : Int) := by rw [IntKind.wrap_i64]; omega
theorem wrap_add_one {a : Nat} (h : a + 1 ≤ 9223372036854775807) : IntKind.i64.wrap ((a : Int) + 1) = ((a + 1 : Nat) : Int) := by rw [IntKind.wrap_i64]; omega
def readShort (s : Str) (z : Int) : Option (Str × Nat) := match readVar s z with
  | some (n, e) => if n ≤ 20000 ∧ n + e ≤ s.length then some ((s.take (e + n)).drop e, e + n) else none
  | none => none
abbrev vS (r : Option (Str × Nat)) : V := .tup [.str (r.getD ([], 0)).1, .int .i64 ((r.getD ([], 0)).2 : Int), .bool r.isSome]
def unsealed (t : Str) : Option Str := if 4 ≤ t.length ∧ t.length ≤ 20004 ∧ t.drop (t.length - 4) = fourT (sumOf (t.take (t.length - 4))) then some (t.take (t.length - 4)) else none
structure Scan where
  text : Str
  pos : Int
  bad : Bool
abbrev cScan (c : Scan) : List V := [.str c.text, .int .i64 c.pos, .bool c.bad]
def scanNum (c : Scan) : Nat × Scan := match readVar c.text c.pos with
  | some (n, e) => if c.bad = true then (0, { c with bad := true }) else (n, { c with pos := (e : Int) })
  | none => (0, { c with bad := true })
def scanShort (c : Scan) : Str × Scan := match readShort c.text c.pos with
  | some (n, e) => if c.bad = true then ([], { c with bad := true }) else (n, { c with pos := (e : Int) })
  | none => ([], { c with bad := true })
def scan1 (b : Str) (bad : Bool) : Nat × Scan := scanNum ⟨b, 0, bad⟩
def scan2 (b : Str) (bad : Bool) : Nat × Scan := scanNum (scan1 b bad).2
def scan3 (b : Str) (bad : Bool) : Nat × Scan := scanNum (scan2 b bad).2
def scan4 (b : Str) (bad : Bool) : Str × Scan := scanShort (scan3 b bad).2
def scanP (b : Str) (bad : Bool) : Packet := ⟨((scan1 b bad).1 : Int), ((scan2 b bad).1 : Int), ((scan3 b bad).1 : Int), (scan4 b bad).1⟩
def readI (t : Str) : Option Packet :=
  if (unsealed t).isSome = true ∧ (scan4 ((unsealed t).getD []) false).2.bad = false ∧ (scan4 ((unsealed t).getD []) false).2.pos = (((unsealed t).getD []).length : Int) ∧ (scan4 ((unsealed t).getD []) false).1.length ≤ 400 then some (scanP ((unsealed t).getD []) false) else none
def readS (t : Str) : Option Packet :=
  if (scan4 ((unsealed t).getD []) (unsealed t).isNone).2.bad = false ∧ packetText (scanP ((unsealed t).getD []) (unsealed t).isNone) = some t then some (scanP ((unsealed t).getD []) (unsealed t).isNone) else none
abbrev vP (r : Option Packet) : V := .tup [.agg (cPacket (r.getD ⟨0, 0, 0, []⟩)), .bool r.isSome]
def fourN (l : Str) : Nat := match l with | a :: b :: c :: d :: _ => a.toNat * 16777216 + b.toNat * 65536 + c.toNat * 256 + d.toNat | _ => 0
theorem four_b {b : UInt8} : IntKind.i64.wrap (b.toNat : Int) = (b.toNat : Int) := by have := b.toNat_lt; rw [IntKind.wrap_i64]; omega
end Go.Proofs.YtliiphpbfambcaaGreatDoor.K

/- Draws, links heard: plain functions; what goes over a link. -/
namespace Go.Proofs.YtliiphpbfambcaaGreatDoor.K
open Go Go.RowKit
set_option linter.unusedVariables false
set_option linter.unusedSimpArgs false
structure Cur where
  b : Str
  i : Nat
  h : Int
abbrev cCur (c : Cur) : List V := [.sl 0 1 0 (c.b.map cB), .int .i64 (c.i : Int), .int .i64 c.h]
def and255 (a : Int) : Nat := (BitVec.ofInt 64 a &&& BitVec.ofInt 64 255).toNat
theorem and255_le (a : Int) : and255 a ≤ 255 := by
  unfold and255
  rw [BitVec.toNat_and]
  exact Nat.le_trans Nat.and_le_right (by decide)
theorem and255_m (a : Int) : IntKind.i64.wrap ((BitVec.ofInt IntKind.i64.bits a &&& BitVec.ofInt IntKind.i64.bits 255).toNat : Int) = (and255 a : Int) := by
  show IntKind.i64.wrap ((and255 a : Nat) : Int) = _
  exact wrap_nat (by have := and255_le a; omega)
def stepH (h : Int) : Int := IntKind.i64.wrap (IntKind.i64.wrap (h * 6364136223846793005) + 1442695040888963407)
def mixH (h : Int) : Nat := and255 (IntKind.i64.wrap ((BitVec.ofInt IntKind.i64.bits (h.fdiv (2 ^ min (Int.toNat 33) IntKind.i64.bits)) ^^^ BitVec.ofInt IntKind.i64.bits (h.fdiv (2 ^ min (Int.toNat 45) IntKind.i64.bits))).toNat : Int))
def curByte (c : Cur) : Nat × Cur := if h : c.i < c.b.length then (and255 (IntKind.i64.wrap ((mixH (stepH c.h) : Int) + (c.b[c.i].toNat : Int))), { c with i := c.i + 1, h := stepH c.h }) else (mixH (stepH c.h), { c with h := stepH c.h })
theorem curByte_in {c : Cur} (h : c.i < c.b.length) : curByte c = (and255 (IntKind.i64.wrap ((mixH (stepH c.h) : Int) + (c.b[c.i].toNat : Int))), { c with i := c.i + 1, h := stepH c.h }) := dif_pos h
theorem curByte_out {c : Cur} (h : ¬ c.i < c.b.length) : curByte c = (mixH (stepH c.h), { c with h := stepH c.h }) := dif_neg h
theorem curByte_le (c : Cur) : (curByte c).1 ≤ 255 := by
  unfold curByte
  split
  · exact and255_le _
  · exact and255_le _
theorem curByte_b (c : Cur) : (curByte c).2.b = c.b := by unfold curByte; split <;> rfl
def curBelow (c : Cur) (n : Nat) : Nat × Cur :=
  if n = 0 then (0, c)
  else if n ≤ 256 then ((curByte c).1 % n, (curByte c).2)
  else (((curByte c).1 * 16777216 + (curByte (curByte c).2).1 * 65536 + (curByte (curByte (curByte c).2).2).1 * 256 + (curByte (curByte (curByte (curByte c).2).2).2).1) % n, (curByte (curByte (curByte (curByte c).2).2).2).2)
theorem curBelow_lt {c : Cur} {n : Nat} (h : 0 < n) : (curBelow c n).1 < n := by
  unfold curBelow
  split
  · omega
  · split <;> exact Nat.mod_lt _ h
theorem curBelow_b (c : Cur) (n : Nat) : (curBelow c n).2.b = c.b := by
  unfold curBelow
  split
  · rfl
  · split
    · exact curByte_b c
    · simp only [curByte_b]
def hashC : Nat → Str → Int → Int
  | 0, _, h => h
  | _ + 1, [], h => h
  | f + 1, b :: l, h => hashC f l (IntKind.i64.wrap ((BitVec.ofInt IntKind.i64.bits (IntKind.i64.wrap (IntKind.i64.wrap (IntKind.i64.wrap (h * 131) + (b.toNat : Int)) + 7)) &&& BitVec.ofInt IntKind.i64.bits 1073741823).toNat : Int))
def curNew (code : Str) : Cur := ⟨code, 0, hashC 4000 code (IntKind.i64.wrap (77201 + (code.length : Int)))⟩
def drawN : Nat → Nat → Cur → List Nat × Cur
  | 0, _, c => ([], c)
  | k + 1, n, c => let r := drawN k n (curBelow c n).2; ((curBelow c n).1 :: r.1, r.2)
def drawPlaces (code : Str) : List Nat := (drawN 12 10000 (curByte (curNew code)).2).1
def decS (k : Nat) : Str := if k = 0 then [48] else decGo k []

def linkHears (l : Link) (p : Packet) : Link × Str × Bool :=
  if p.epoch ≠ l.epoch then (l, [], false) else
  let l1 := if l.way ≠ [] ∧ p.ack > l.next ∧ p.ack = IntKind.i64.wrap (l.next + 1) then { l with way := l.way.drop 1, next := IntKind.i64.wrap (l.next + 1) } else l
  if p.seq = 0 ∨ p.seq ≠ l.want then (l1, [], false) else ({ l1 with want := IntKind.i64.wrap (l.want + 1) }, p.text, true)
abbrev vH (r : Link × Str × Bool) : V := .tup [.agg (cLink r.1), .str r.2.1, .bool r.2.2]
def hearMid (l : Link) (p : Packet) : Link := if l.way ≠ [] ∧ p.ack > l.next ∧ p.ack = IntKind.i64.wrap (l.next + 1) then { l with way := l.way.drop 1, next := IntKind.i64.wrap (l.next + 1) } else l
theorem tmod_nat (a m : Nat) : ((a : Nat) : Int).tmod (m : Int) = ((a % m : Nat) : Int) := by
  rw [Int.tmod_eq_emod_of_nonneg (by omega)]; rfl
theorem mul24 {a : Nat} (h : a ≤ 255) : IntKind.i64.wrap ((a : Int) * 16777216) = ((a * 16777216 : Nat) : Int) := by rw [IntKind.wrap_i64]; omega
theorem mul16 {a : Nat} (h : a ≤ 255) : IntKind.i64.wrap ((a : Int) * 65536) = ((a * 65536 : Nat) : Int) := by rw [IntKind.wrap_i64]; omega
theorem mul8 {a : Nat} (h : a ≤ 255) : IntKind.i64.wrap ((a : Int) * 256) = ((a * 256 : Nat) : Int) := by rw [IntKind.wrap_i64]; omega
theorem fig_byte {d : Nat} (h : d < 10) : IntKind.u8.wrap (IntKind.i64.wrap (48 + (d : Int))) = (((UInt8.ofNat (48 + d)).toNat : Nat) : Int) := by
  rw [show (48 : Int) + (d : Int) = ((48 + d : Nat) : Int) by omega, wrap_nat (by omega), wrap_u8_nat]
def sayL (said : List Str) (k : Nat) : Link := ⟨3, said.drop k, 1 + (k : Int), 1⟩
def hearL (m : Nat) : Link := ⟨3, [], 1, 1 + (m : Int)⟩
def saidT (k : Nat) : Str := [116, 101, 120, 116] ++ decS k
end Go.Proofs.YtliiphpbfambcaaGreatDoor.K

/- Arguments that are bytes. -/
namespace Go.Proofs.YtliiphpbfambcaaGreatDoor.K
open Go Go.RowKit
set_option linter.unusedVariables false
set_option linter.unusedSimpArgs false
theorem shp_bytes {m : Nat} {xs : List V} (h : Shp tab BB (m + 2) 22 xs) : ∃ a : Str, xs = [.sl 0 1 0 (a.map cB)] ∧ a.length ≤ BB := by
  simp only [Shp, kT, Option.map_some, Option.getD_some] at h
  obtain ⟨es, rfl, hl, hc⟩ := h
  obtain ⟨a, rfl, ha⟩ := map_of (f := cB) (p := fun _ => True) (es := es) fun c hcm => by
    obtain ⟨n, rfl, hw⟩ := hc c hcm
    have hr : 0 ≤ n ∧ n ≤ 255 := by simp only [Lit.wf, Bool.and_eq_true, decide_eq_true_eq] at hw; exact hw
    refine ⟨UInt8.ofNat n.toNat, ?_, trivial⟩
    show [V.int IntKind.u8 n] = [V.int IntKind.u8 _]
    rw [UInt8.toNat_ofNat', show ((n.toNat % 2 ^ 8 : Nat) : Int) = n by omega]
  exact ⟨a, rfl, by rw [List.length_map] at hl; omega⟩
end Go.Proofs.YtliiphpbfambcaaGreatDoor.K

/- Draws of packets and links: plain functions. Calls that turn one array and take memory of their own. -/
namespace Go.Proofs.YtliiphpbfambcaaGreatDoor.K
open Go Go.RowKit
set_option linter.unusedVariables false
set_option linter.unusedSimpArgs false
section
variable {P : Program} {ti : Tab} {n n' : Nat} {t t' h h' : List V} {Q : Exit → List V → List V → Nat → Prop} {ops : Array Oper} {o : Oper} {l : List Oper}
end
section
variable {P : Program} {ti : Tab} {n : Nat} {t h : List V} {Q : Exit → List V → List V → Nat → Prop}
theorem Ok.loopHN {τ : Type} {c : Code} {F : τ → List V} (W : τ → List (Nat × V)) (dead : List Nat) (hF : ∀ x, overW (W x) (overD dead t) = F x) (H : τ → List V) (N : τ → Nat) (p : τ → Prop) (m : τ → Nat) (x : τ) (hle : leL t (F x)) (hH : h = H x) (hn : n ≤ N x) (hp : p x)
    (round : ∀ x, p x → Ok P c (F x) (H x) (N x) (thenQ (fun t' h' n' => ∃ y, leL t' (F y) ∧ h' = H y ∧ n' ≤ N y ∧ p y ∧ m y < m x) Q)) : Ok P (.loop c) t h n Q := by
  refine Ok.loop (fun x t' h' n' => leL t' (F x) ∧ h' = H x ∧ n' ≤ N x ∧ p x) m x ⟨hle, hH, hn, hp⟩ ?_
  rintro x t' h' n' ⟨h1, rfl, h3, h4⟩
  refine Ok.bump h3 (Ok.forget (leL_spec h1).1 (leL_spec h1).2 ((round x h4).mono ?_))
  intro e t2 h2 n2 hq
  cases e with
  | normal => obtain ⟨y, a, b, c, d, e⟩ := hq; exact ⟨y, ⟨a, b, c, d⟩, e⟩
  | exit id => exact hq
  | goto l => exact hq
  | ret => exact hq
  | panic ch => exact hq
  | outgrown => exact hq
end
def pickS (c : Cur) (xs : List Str) : Str × Cur := (xs.getD (curBelow c xs.length).1 [], (curBelow c xs.length).2)
def pickI (c : Cur) (xs : List Int) : Int × Cur := (xs.getD (curBelow c xs.length).1 0, (curBelow c xs.length).2)
theorem pickS_b (c : Cur) (xs : List Str) : (pickS c xs).2.b = c.b := curBelow_b _ _
theorem pickI_b (c : Cur) (xs : List Int) : (pickI c xs).2.b = c.b := curBelow_b _ _
theorem pickS_get {c : Cur} {xs : List Str} (h : 0 < xs.length) : xs[(curBelow c xs.length).1]? = some (pickS c xs).1 := by
  have := curBelow_lt (c := c) h
  unfold pickS; rw [List.getD_eq_getElem?_getD, List.getElem?_eq_getElem this, Option.getD_some]
theorem pickI_get {c : Cur} {xs : List Int} (h : 0 < xs.length) : xs[(curBelow c xs.length).1]? = some (pickI c xs).1 := by
  have := curBelow_lt (c := c) h
  unfold pickI; rw [List.getD_eq_getElem?_getD, List.getElem?_eq_getElem this, Option.getD_some]
theorem pickS_mem {c : Cur} {xs : List Str} (h : 0 < xs.length) : (pickS c xs).1 ∈ xs := List.mem_of_getElem? (pickS_get h)
abbrev wOne : Str := [111, 110, 101]
abbrev wTwo : Str := [116, 119, 111]
abbrev wThree : Str := [116, 104, 114, 101, 101]
def linkGo : Nat → Nat → Link → Cur → Link × Cur
  | 0, _, l, c => (l, c)
  | f + 1, i, l, c => if i < (curBelow c 5).1 then linkGo f (i + 1) (linkPut l (pickS (curBelow c 5).2 [wOne, wTwo, wThree]).1).1 (pickS (curBelow c 5).2 [wOne, wTwo, wThree]).2 else (l, (curBelow c 5).2)
def link0 (c : Cur) : Link × Cur := linkGo 5 0 ⟨((curBelow c 3).1 : Int), [], 1, 1⟩ (curBelow c 3).2
def linkD (c : Cur) : Link × Cur := (⟨(link0 c).1.epoch, (link0 c).1.way, ((1 + (curBelow (link0 c).2 4).1 : Nat) : Int), ((1 + (curBelow (curBelow (link0 c).2 4).2 4).1 : Nat) : Int)⟩, (curBelow (curBelow (link0 c).2 4).2 4).2)
def pack0 (c : Cur) : Packet × Cur :=
  let a := curBelow c 3; let b := curBelow a.2 5; let d := curBelow b.2 6; let e := pickS d.2 [wOne, wTwo, []]
  (⟨(a.1 : Int), (b.1 : Int), (d.1 : Int), e.1⟩, e.2)
def longT (n : Nat) (x : UInt8) : Str := List.replicate n x
def packD (c : Cur) : Packet × Cur :=
  let w := curBelow (pack0 c).2 12
  if w.1 = 0 then ({ (pack0 c).1 with seq := (pickI w.2 [-1, 1000000001, 9223372036854775807]).1 }, (pickI w.2 [-1, 1000000001, 9223372036854775807]).2)
  else if w.1 = 1 then ({ (pack0 c).1 with ack := (pickI w.2 [-9223372036854775808, 9223372036854775807]).1 }, (pickI w.2 [-9223372036854775808, 9223372036854775807]).2)
  else if w.1 = 2 then ({ (pack0 c).1 with text := longT (400 + (curBelow w.2 2).1) 97 }, (curBelow w.2 2).2)
  else ((pack0 c).1, w.2)
def byteD (c : Cur) : Str × Cur := ([UInt8.ofNat (curByte c).1], (curByte c).2)
def spoilt (c : Cur) (s : Str) : Str × Cur :=
  let w := curBelow c 12
  if w.1 = 0 then (s ++ (byteD w.2).1, (byteD w.2).2)
  else if w.1 = 1 then (s.take (curBelow w.2 (s.length + 1)).1, (curBelow w.2 (s.length + 1)).2)
  else if (w.1 = 2 ∨ w.1 = 3) ∧ 0 < s.length then
    (s.take (curBelow w.2 s.length).1 ++ (byteD (curBelow w.2 s.length).2).1 ++ s.drop ((curBelow w.2 s.length).1 + 1), (byteD (curBelow w.2 s.length).2).2)
  else (s, w.2)
def hearsS (l : Link) (p : Packet) : Link × Str × Bool :=
  if p.epoch ≠ l.epoch then (l, [], false) else
  let l1 := if l.way ≠ [] ∧ p.ack > 1 ∧ IntKind.i64.wrap (p.ack - 1) = l.next then { l with way := l.way.drop 1, next := IntKind.i64.wrap (l.next + 1) } else l
  if p.seq = 0 ∨ p.seq ≠ l1.want then (l1, [], false) else ({ l1 with want := IntKind.i64.wrap (l1.want + 1) }, p.text, true)
end Go.Proofs.YtliiphpbfambcaaGreatDoor.K

/- Calls that turn one array and take memory of their own: what the callers know is kept. -/
namespace Go.Proofs.YtliiphpbfambcaaGreatDoor.K
open Go Go.RowKit
set_option linter.unusedVariables false
set_option linter.unusedSimpArgs false
theorem far_trav {L : Nat} {fs : Nat → Nat → Nat → List (List V) → V} {fp : Nat → Nat → Nat → List V → V} (hs : ∀ M sz off es, M ≠ L → fs M sz off es = .sl M sz off es) (hp : ∀ M i o e, M ≠ L → fp M i o e = .ptr M i o e) {l : List V} (h : L ∉ V.labelsL l) : V.travL V.nil fs fp l = l := by
  exact far2 hs hp l h
where
  far1 {L : Nat} {fs : Nat → Nat → Nat → List (List V) → V} {fp : Nat → Nat → Nat → List V → V} (hs : ∀ M sz off es, M ≠ L → fs M sz off es = .sl M sz off es) (hp : ∀ M i o e, M ≠ L → fp M i o e = .ptr M i o e) : ∀ x : V, L ∉ V.labels x → V.trav V.nil fs fp x = x
    | .sl M sz off es, h => by
      have h' : L ∉ M :: V.labelsLL es := h
      show fs M sz off (V.travLL V.nil fs fp es) = _
      rw [far3 hs hp es fun q => h' (List.mem_cons_of_mem _ q), hs _ _ _ _ fun q => h' (q ▸ List.mem_cons_self ..)]
    | .ptr M i o e, h => by
      have h' : L ∉ M :: V.labelsL e := h
      show fp M i o (V.travL V.nil fs fp e) = _
      rw [far2 hs hp e fun q => h' (List.mem_cons_of_mem _ q), hp _ _ _ _ fun q => h' (q ▸ List.mem_cons_self ..)]
    | .fn f cs, h => by show V.fn f _ = _; rw [far2 hs hp cs h]
    | .agg cs, h => by show V.agg _ = _; rw [far2 hs hp cs h]
    | .tup cs, h => by show V.tup _ = _; rw [far2 hs hp cs h]
    | .any, _ => rfl
    | .bool _, _ => rfl
    | .int .., _ => rfl
    | .str _, _ => rfl
    | .nil _, _ => rfl
    | .nilP, _ => rfl
  far2 {L : Nat} {fs : Nat → Nat → Nat → List (List V) → V} {fp : Nat → Nat → Nat → List V → V} (hs : ∀ M sz off es, M ≠ L → fs M sz off es = .sl M sz off es) (hp : ∀ M i o e, M ≠ L → fp M i o e = .ptr M i o e) : ∀ l : List V, L ∉ V.labelsL l → V.travL V.nil fs fp l = l
    | [], _ => rfl
    | x :: l, h => by
      have h' : L ∉ V.labels x ++ V.labelsL l := h
      show V.trav _ _ _ x :: V.travL _ _ _ l = _
      rw [far1 hs hp x fun q => h' (List.mem_append_left _ q), far2 hs hp l fun q => h' (List.mem_append_right _ q)]
  far3 {L : Nat} {fs : Nat → Nat → Nat → List (List V) → V} {fp : Nat → Nat → Nat → List V → V} (hs : ∀ M sz off es, M ≠ L → fs M sz off es = .sl M sz off es) (hp : ∀ M i o e, M ≠ L → fp M i o e = .ptr M i o e) : ∀ l : List (List V), L ∉ V.labelsLL l → V.travLL V.nil fs fp l = l
    | [], _ => rfl
    | x :: l, h => by
      have h' : L ∉ V.labelsL x ++ V.labelsLL l := h
      show V.travL _ _ _ x :: V.travLL _ _ _ l = _
      rw [far2 hs hp x fun q => h' (List.mem_append_left _ q), far3 hs hp l fun q => h' (List.mem_append_right _ q)]
section
variable {L j : Nat} {e : List V}
mutual
theorem lab_upd1 : ∀ x : V, ∀ y ∈ V.labels (V.trav V.nil (updS L j e) (updP L j e) x), y ∈ V.labels x ∨ y ∈ V.labelsL e
  | .sl M sz off es, y, hy => by
    have ih := lab_upd3 es
    have hy : y ∈ V.labels (updS L j e M sz off (V.travLL V.nil (updS L j e) (updP L j e) es)) := hy
    unfold updS at hy
    split at hy
    · rcases List.mem_cons.1 hy with rfl | hy
      · exact .inl (List.mem_cons_self ..)
      · obtain ⟨r, hr, hyr⟩ := mem_labelsLL.1 hy
        rcases List.mem_or_eq_of_mem_set hr with hr | rfl
        · rcases ih y (mem_labelsLL.2 ⟨r, hr, hyr⟩) with h | h
          · exact .inl (List.mem_cons_of_mem _ h)
          · exact .inr h
        · exact .inr hyr
    · rcases List.mem_cons.1 hy with rfl | hy
      · exact .inl (List.mem_cons_self ..)
      · rcases ih y hy with h | h
        · exact .inl (List.mem_cons_of_mem _ h)
        · exact .inr h
  | .ptr M i o es, y, hy => by
    have ih := lab_upd2 es
    have hy : y ∈ V.labels (updP L j e M i o (V.travL V.nil (updS L j e) (updP L j e) es)) := hy
    unfold updP at hy
    split at hy
    · rcases List.mem_cons.1 hy with rfl | hy
      · exact .inl (List.mem_cons_self ..)
      · exact .inr hy
    · rcases List.mem_cons.1 hy with rfl | hy
      · exact .inl (List.mem_cons_self ..)
      · rcases ih y hy with h | h
        · exact .inl (List.mem_cons_of_mem _ h)
        · exact .inr h
  | .fn f cs, y, hy => lab_upd2 cs y hy
  | .agg cs, y, hy => lab_upd2 cs y hy
  | .tup cs, y, hy => lab_upd2 cs y hy
  | .any, y, hy => by cases hy
  | .bool _, y, hy => by cases hy
  | .int .., y, hy => by cases hy
  | .str _, y, hy => by cases hy
  | .nil _, y, hy => by cases hy
  | .nilP, y, hy => by cases hy
theorem lab_upd2 : ∀ l : List V, ∀ y ∈ V.labelsL (V.travL V.nil (updS L j e) (updP L j e) l), y ∈ V.labelsL l ∨ y ∈ V.labelsL e
  | [], y, hy => by cases hy
  | x :: l, y, hy => by
    have hy : y ∈ V.labels (V.trav V.nil (updS L j e) (updP L j e) x) ++ V.labelsL (V.travL V.nil (updS L j e) (updP L j e) l) := hy
    rcases List.mem_append.1 hy with h | h
    · exact (lab_upd1 x y h).imp (List.mem_append_left _) id
    · exact (lab_upd2 l y h).imp (List.mem_append_right _) id
theorem lab_upd3 : ∀ l : List (List V), ∀ y ∈ V.labelsLL (V.travLL V.nil (updS L j e) (updP L j e) l), y ∈ V.labelsLL l ∨ y ∈ V.labelsL e
  | [], y, hy => by cases hy
  | x :: l, y, hy => by
    have hy : y ∈ V.labelsL (V.travL V.nil (updS L j e) (updP L j e) x) ++ V.labelsLL (V.travLL V.nil (updS L j e) (updP L j e) l) := hy
    rcases List.mem_append.1 hy with h | h
    · exact (lab_upd2 x y h).imp (List.mem_append_left _) id
    · exact (lab_upd3 l y h).imp (List.mem_append_right _) id
end
end
abbrev Ahd (n : Nat) (h : List V) : Prop := ∀ y ∈ V.labelsL h, y < n
theorem Ahd.upd {n L j : Nat} {e h : List V} (hh : Ahd n h) (he : Ahd n e) : Ahd n (V.updL L j e h) := fun y hy => (lab_upd2 h y hy).elim (hh y) (he y)
theorem Ahd.mono {n m : Nat} {h : List V} (hh : Ahd n h) (hm : n ≤ m) : Ahd m h := fun y hy => Nat.lt_of_lt_of_le (hh y hy) hm
theorem Ahd.updL {m j : Nat} {e h : List V} (hh : Ahd m h) : V.updL m j e h = h :=
  far_trav (L := m) (fun M sz off es hM => if_neg fun q => hM q.1) (fun M i o e hM => if_neg fun q => hM q.1) fun q => Nat.lt_irrefl _ (hh m q)
theorem Ahd.killL {m : Nat} {h : List V} (hh : Ahd m h) : V.killL m h = h :=
  far_trav (L := m) (fun M sz off es hM => if_neg hM) (fun M i o e hM => if_neg hM) fun q => Nat.lt_irrefl _ (hh m q)
theorem Ahd.nil (n : Nat) : Ahd n [] := fun y hy => by cases hy
theorem Ahd.cur {n : Nat} (hn : 1 ≤ n) (c : Cur) : Ahd n (cCur c) := fun y hy => by
  simp [V.labelsL, V.labels, V.labelsLL, zz] at hy; omega
theorem Ahd.app {n : Nat} {a b : List V} (ha : Ahd n a) (hb : Ahd n b) : Ahd n (a ++ b) := fun y hy => by
  obtain ⟨x, hx, hy⟩ := mem_labelsL.1 hy
  rcases List.mem_append.1 hx with h | h
  · exact ha y (mem_labelsL.2 ⟨x, h, hy⟩)
  · exact hb y (mem_labelsL.2 ⟨x, h, hy⟩)
section
variable {P : Program} {ti : Tab} {n n' : Nat} {t t' h h' : List V} {Q : Exit → List V → List V → Nat → Prop} {ops : Array Oper} {o : Oper} {l : List Oper} {late : List Nat}
theorem OkOps.updF {fx : Operand} {args : Array Operand} {ts : Array TypeId} {f : FuncId} {caps ags : List V} {L j k : Nat} {e' : List V} {x : V} (hg : o.guard = none) (ho : o.op = .call ⟨.value fx, args, ts⟩) (hf : opnd t fx = .fn f caps) (ha : args.toList.map (opnd t) ++ caps = ags)
    (hcl : Callable P f) (h1 : Ahd n t) (h2 : Ahd n h) (hc : ∀ h, Ahd n h → OkCall P f ags h n fun r h1 n1 => r = x ∧ h1 = V.updL L j e' h ∧ n1 = n + k) (hn : n + k = n') (ht : putV (V.updL L j e' t) o.dst x = t') (hh : V.updL L j e' h = h') (hk : OkOps P ops l t' h' n' Q) : OkOps P ops (o :: l) t h n Q := by
  refine OkOps.step hg (t' := t') (h' := h') (n' := n') ?_ hk
  rw [← ht, ← hh]
  refine OpOk.call ho hf hcl ?_ ?_
  · unfold V.updL; rw [travL_len]
  · rw [ha]
    refine (hc (t ++ h) (h1.app h2)).mono ?_
    rintro r h1 n1 ⟨rfl, rfl, rfl⟩
    exact ⟨rfl, by unfold V.updL; rw [travL_eq, travL_eq, travL_eq, List.map_append], hn⟩
theorem maskP_ahd {f : Nat → Bool} : ∀ {t : List V} {i : Nat}, Ahd n t → Ahd n (maskP f i t)
  | [], i, h => h
  | x :: t, i, h => by
    have h0 : ∀ y ∈ V.labels x ++ V.labelsL t, y < n := h
    intro y hy
    have hy : y ∈ V.labels (if f i then x else .any) ++ V.labelsL (maskP f (i + 1) t) := hy
    rcases List.mem_append.1 hy with hy | hy
    · split at hy
      · exact h0 y (List.mem_append_left _ hy)
      · cases hy
    · exact maskP_ahd (i := i + 1) (fun z hz => h0 z (List.mem_append_right _ hz)) y hy
theorem TOps.updF {fx : Operand} {args : Array Operand} {ts : Array TypeId} {f : FuncId} {caps ags : List V} {L j k : Nat} {e' : List V} {x : V} (hg : o.guard = none) (ho : o.op = .call ⟨.value fx, args, ts⟩) (hf : opnd t fx = .fn f caps) (ha : args.toList.map (opnd t) ++ caps = ags)
    (hcl : Callable P f) (h1 : Ahd n t) (h2 : Ahd n h) (hc : ∀ h, Ahd n h → OkCall P f ags h n fun r h1 n1 => r = x ∧ h1 = V.updL L j e' h ∧ n1 = n + k) (hn : n + k = n') (ht : putV (V.updL L j e' t) o.dst x = t') (hh : V.updL L j e' h = h') (hl : LateOk P ops t' late) (hk : TOps P ops late Q l t' h' n') : TOps P ops late Q (o :: l) t h n := by
  refine ⟨t', h', n', hg, .inr fun f' hf' hd => ?_, hl, hk⟩
  have e1 : opnd (maskP f' 0 t) fx = opnd t fx := opnd_maskP (by rw [ho]; simp [Op.operands, Call.operands]) hf'
  have e2 : args.toList.map (opnd (maskP f' 0 t)) = args.toList.map (opnd t) := List.map_congr_left fun x hx => opnd_maskP (by rw [ho]; simp only [Op.operands, Call.operands, Array.toList_append, List.mem_append]; exact .inr hx) hf'
  have e3 : maskP f' 0 (V.updL L j e' t) = V.updL L j e' (maskP f' 0 t) := by
    unfold V.updL
    rw [travL_eq, travL_eq]
    exact maskP_map f' _ rfl t 0
  rw [← ht, ← hh, ← maskP_put hd, e3]
  refine OpOk.call ho (e1.trans hf) hcl ?_ ?_
  · unfold V.updL; rw [travL_len]
  · rw [e2, ha]
    refine (hc (maskP f' 0 t ++ h) ((maskP_ahd h1).app h2)).mono ?_
    rintro r h1 n1 ⟨rfl, rfl, rfl⟩
    exact ⟨rfl, by unfold V.updL; rw [travL_eq, travL_eq, travL_eq, List.map_append], hn⟩
end
end Go.Proofs.YtliiphpbfambcaaGreatDoor.K

/- Plain laws: what is written as a number, a packet, is read again. -/
namespace Go.Proofs.YtliiphpbfambcaaGreatDoor.K
open Go Go.RowKit
end Go.Proofs.YtliiphpbfambcaaGreatDoor.K

/- Marks on data of the call's own: what becomes of the values is told by a map that keeps all else. -/
namespace Go.Proofs.YtliiphpbfambcaaGreatDoor.K
open Go Go.RowKit
set_option linter.unusedVariables false
set_option linter.unusedSimpArgs false
theorem le_eqm {a b : V} (h : a = b) : V.le a b := h ▸ le_rfl' a
structure Hom (f : V → V) (Ls : Nat → Prop) : Prop where
  far : ∀ v, (∀ L ∈ V.labels v, ¬ Ls L) → f v = v
  agg : ∀ cs, f (.agg cs) = .agg (cs.map f)
  ptr : ∀ L i o e, ¬ Ls L → f (.ptr L i o e) = .ptr L i o (e.map f)
  sl : ∀ L sz off es, ¬ Ls L → f (.sl L sz off es) = .sl L sz off (es.map (List.map f))
section
variable {f g : V → V} {A B : Nat → Prop}
theorem Hom.id' (A : Nat → Prop) : Hom id A :=
  ⟨fun _ _ => rfl, fun cs => by rw [List.map_id]; rfl, fun L i o e _ => by rw [List.map_id]; rfl, fun L sz off es _ => by rw [show (List.map id : List V → List V) = id from funext fun l => List.map_id l, List.map_id]; rfl⟩
theorem Hom.mono (hf : Hom f A) (h : ∀ L, A L → B L) : Hom f B :=
  ⟨fun v hv => hf.far v fun L hL hA => hv L hL (h L hA), hf.agg, fun L i o e hL => hf.ptr L i o e fun hA => hL (h L hA), fun L sz off es hL => hf.sl L sz off es fun hA => hL (h L hA)⟩
theorem Hom.int (hf : Hom f A) (k : IntKind) (n : Int) : f (.int k n) = .int k n := hf.far _ fun L h => by cases h
theorem Hom.str (hf : Hom f A) (s : List UInt8) : f (.str s) = .str s := hf.far _ fun L h => by cases h
theorem Hom.bool (hf : Hom f A) (b : Bool) : f (.bool b) = .bool b := hf.far _ fun L h => by cases h
theorem Hom.any (hf : Hom f A) : f .any = .any := hf.far _ fun L h => by cases h
end
structure StoreF (W : V → V) (L j : Nat) (e' : List V) : Prop where
  sl : ∀ sz es, L ∉ V.labelsLL es → W (.sl L sz 0 es) = .sl L sz 0 (es.set j e')
  ptr : ∀ o e, W (.ptr L j o e) = .ptr L j o e'
mutual
def V.mn : V → Nat
  | .sl _ _ _ es => V.mnLL es
  | .ptr .. => 0
  | .fn .. => 0
  | .agg _ => 0
  | .tup _ => 0
  | .any => 0
  | .bool _ => 1
  | .int .. => 1
  | .str _ => 1
  | .nil _ => 0
  | .nilP => 0
def V.mnL : List V → Nat
  | [] => 0
  | x :: xs => V.mn x + V.mnL xs
def V.mnLL : List (List V) → Nat
  | [] => 0
  | e :: es => V.mnL e + V.mnLL es
end
mutual
def V.mk (k : Nat) : V → V
  | .sl L sz off es => .sl L sz off (V.mkLL k es)
  | .ptr L i o e => .ptr L i o e
  | .fn f cs => .fn f cs
  | .agg cs => .agg cs
  | .tup cs => .tup cs
  | .any => .any
  | .bool _ => .bool (decide ((k : Int).tmod 3 = 0))
  | .int κ _ => .int κ (k : Int)
  | .str _ => .str (markT k)
  | .nil s => .nil s
  | .nilP => .nilP
def V.mkL (k : Nat) : List V → List V
  | [] => []
  | x :: xs => V.mk k x :: V.mkL (k + V.mn x) xs
def V.mkLL (k : Nat) : List (List V) → List (List V)
  | [] => []
  | e :: es => V.mkL k e :: V.mkLL (k + V.mnL e) es
end
mutual
def V.pl : V → Bool
  | .sl _ _ off es => off == 0 && V.plLL es
  | .bool _ => true
  | .int .. => true
  | .str _ => true
  | .ptr .. => false
  | .fn .. => false
  | .agg _ => false
  | .tup _ => false
  | .any => false
  | .nil _ => false
  | .nilP => false
def V.plL : List V → Bool
  | [] => true
  | x :: xs => V.pl x && V.plL xs
def V.plLL : List (List V) → Bool
  | [] => true
  | e :: es => V.plL e && V.plLL es
end
def MarkQ (A : Nat → Prop) (a a' R : V) (h : List V) (m : Nat) : V → List V → Nat → Prop := fun r h1 n1 => r = R ∧ n1 = m ∧ ∃ U, Hom U A ∧ U a = a' ∧ h1 = h.map U
section
variable {P : Program} {ti : Tab} {t h h0 : List V} {n n' : Nat} {Q : Exit → List V → List V → Nat → Prop} {ops : Array Oper} {o : Oper} {l : List Oper} {t' : List V}
theorem setN_set : ∀ (t : List V) (d : Nat) (x : V), setN t d x = t.set d x
  | [], d, x => by cases d <;> rfl
  | y :: t, 0, x => rfl
  | y :: t, d + 1, x => by show y :: setN t d x = y :: t.set d x; rw [setN_set t d x]
theorem Ok.drop {c : Code} (dead : List Nat) (ht : overD dead t = t') (hk : Ok P c t' h n Q) : Ok P c t h n Q := by
  have hlen : ∀ (dead : List Nat) (t : List V), (overD dead t).length = t.length := by
    intro dead
    induction dead with
    | nil => intro t; rfl
    | cons d l ih => intro t; show (overD l (setN t d .any)).length = _; rw [ih, setN_set, List.length_set]
  have hget : ∀ (dead : List Nat) (t : List V) (i : Nat) (x y : V), t[i]? = some x → (overD dead t)[i]? = some y → y = x ∨ y = .any := by
    intro dead
    induction dead with
    | nil => intro t i x y hx hy; exact .inl (Option.some.inj (hy.symm.trans hx))
    | cons d l ih =>
      intro t i x y hx hy
      have hy' : (overD l (setN t d .any))[i]? = some y := hy
      by_cases hdi : d = i
      · subst hdi
        have hs : (setN t d .any)[d]? = some .any := by
          have hi := (List.getElem?_eq_some_iff.1 hx).1
          rw [setN_set, List.getElem?_set_self hi]
        rcases ih _ _ _ _ hs hy' with h | h
        · exact .inr h
        · exact .inr h
      · have hs : (setN t d .any)[i]? = some x := by rw [setN_set, List.getElem?_set_ne hdi, hx]
        exact ih _ _ _ _ hs hy'
  subst ht
  refine Ok.forget (hlen dead t).symm (fun i x y hx hy => ?_) hk
  rcases hget dead t i x y hx hy with rfl | rfl
  · exact le_rfl' _
  · exact le_any _
end
end Go.Proofs.YtliiphpbfambcaaGreatDoor.K

/- Plain laws: bytes laid one by one. -/
namespace Go.Proofs.YtliiphpbfambcaaGreatDoor.K
open Go Go.RowKit
theorem set_repB {i n : Nat} {b d : UInt8} (h : i < n) : ((List.replicate i b ++ List.replicate (n - i) d).map cB).set i [.int .u8 (b.toNat : Int)] = (List.replicate (i + 1) b ++ List.replicate (n - (i + 1)) d).map cB := by
  rw [show ([V.int IntKind.u8 (b.toNat : Int)] : List V) = cB b from rfl, set_map cB]
  congr 1
  rw [show n - i = n - (i + 1) + 1 by omega, List.replicate_succ, List.set_append_right _ _ (by simp)]
  simp [List.replicate_succ']
theorem longT_end {n : Nat} {b d : UInt8} : List.replicate n b ++ List.replicate (n - n) d = longT n b := by simp [longT]
theorem longT_len (n : Nat) (b : UInt8) : (longT n b).length = n := by simp [longT]
abbrev hearsK (code : Str) : Nat := (curBelow (curNew code) 3).1
abbrev hearsL (code : Str) : Link := (linkD (curBelow (curNew code) 3).2).1
abbrev hearsP0 (code : Str) : Packet := (packD (linkD (curBelow (curNew code) 3).2).2).1
def hearsP1 (code : Str) : Packet := if hearsK code > 0 then { hearsP0 code with epoch := (hearsL code).epoch } else hearsP0 code
def hearsD (code : Str) : Packet := if hearsK code > 1 then { hearsP1 code with seq := (hearsL code).want, ack := IntKind.i64.wrap ((hearsL code).next + 1) } else hearsP1 code
abbrev readK (code : Str) : Nat := (curBelow (curNew code) 3).1
abbrev readC (code : Str) : Cur := (packD (curBelow (curNew code) 3).2).2
abbrev readT (code : Str) : Str := (packetText (packD (curBelow (curNew code) 3).2).1).getD []
def readD (code : Str) : Str := if readK code = 0 ∧ (unsealed (readT code)).isSome = true then (sealed (spoilt (readC code) ((unsealed (readT code)).getD [])).1).getD [] else readT code
abbrev putW : List Int := [0, 1, 400, 401]
def putT (code : Str) : Str := longT (pickI (curNew code) putW).1.toNat 97
abbrev putC (code : Str) : Cur := (linkD (pickI (curNew code) putW).2).2
def putL (code : Str) : Link := if ((curBelow (putC code) 8).1 : Int) = 0 then { (linkD (pickI (curNew code) putW).2).1 with way := List.replicate 60 [] } else (linkD (pickI (curNew code) putW).2).1
def drops (l : Link) (p : Packet) : Bool := decide (l.way ≠ [] ∧ p.ack > 1 ∧ IntKind.i64.wrap (p.ack - 1) = l.next)
def wants (l : Link) (p : Packet) : Bool := !decide (p.seq = 0 ∨ p.seq ≠ l.want)
end Go.Proofs.YtliiphpbfambcaaGreatDoor.K
