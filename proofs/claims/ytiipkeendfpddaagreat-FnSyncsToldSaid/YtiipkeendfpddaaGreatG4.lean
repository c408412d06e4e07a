/- Links put, syncs ended, marks: plain functions. -/
import Derived.Test.YtiipkeendfpddaaGreatPM
import Derived.Test.YtiipkeendfpddaaGreatG2
import Derived.Test.YtiipkeendfpddaaGreatG3
import Derived.Test.YtiipkeendfpddaaGreatG1
namespace Go.Proofs.YtiipkeendfpddaaGreat.K
open Go Go.RowKit
set_option linter.unusedVariables false
set_option linter.unusedSimpArgs false
def linkFull (l : Link) (t : Str) : Bool := decide ((l.way.length : Int) ≥ 60) || !inR (t.length : Int) 1 400
def linkPut (l : Link) (t : Str) : Link × Bool := if linkFull l t = true then (l, false) else ({ l with way := l.way ++ [t] }, true)
theorem linkPut_t {l : Link} {t : Str} (h : linkFull l t = true) : linkPut l t = (l, false) := if_pos h
theorem linkPut_f {l : Link} {t : Str} (h : linkFull l t = false) : linkPut l t = ({ l with way := l.way ++ [t] }, true) := if_neg M124
abbrev vLB (r : Link × Bool) : V := .tup [.agg (cLink r.1), .bool r.2]
def syncEnds (y : Sync) (b : Bool) : Sync := if b = true then { y with done := true } else { y with failed := true }
theorem syncEnds_t {y : Sync} {b : Bool} (h : b = true) : syncEnds y b = { y with done := true } := if_pos h
theorem syncEnds_f {y : Sync} {b : Bool} (h : b = false) : syncEnds y b = { y with failed := true } := if_neg M124
def decGo (m : Nat) (acc : Str) : Str := if h : 0 < m then decGo (m / 10) (UInt8.ofNat (48 + m % 10) :: acc) else acc
termination_by m
decreasing_by omega
def markT (k : Nat) : Str := if k = 0 then [109, 48] else 109 :: decGo k []
def marks (k n : Nat) : List Str := (List.range' k n).map markT
end Go.Proofs.YtiipkeendfpddaaGreat.K

/- The program's data as plain data, and how it lies in cells. Printed by gendata.py. -/
namespace Go.Proofs.YtiipkeendfpddaaGreat.K
open Go Go.RowKit
set_option linter.unusedVariables false
set_option linter.unusedSimpArgs false
structure Stamp where
  time : Int
  by_ : Int
  deriving DecidableEq
abbrev cStamp (x : Stamp) : List V := [.int .i64 x.time, .int .i64 x.by_]
structure Reg where
  val : Int
  stamp : Stamp
  deriving DecidableEq
abbrev cReg (x : Reg) : List V := [.int .i64 x.val, .int .i64 x.stamp.time, .int .i64 x.stamp.by_]
structure Mail where
  gid : Int
  uid : Int
  flags : List Reg
  text : Str
  deriving DecidableEq
abbrev cMail (x : Mail) : List V := [.int .i64 x.gid, .int .i64 x.uid, .sl 0 3 0 (x.flags.map cReg), .str x.text]
structure Box where
  gid : Int
  name : Str
  named : Stamp
  next : Int
  mails : List Mail
  gone : List Int
  deriving DecidableEq
abbrev cBox (x : Box) : List V := [.int .i64 x.gid, .str x.name, .int .i64 x.named.time, .int .i64 x.named.by_, .int .i64 x.next, .sl 0 4 0 (x.mails.map cMail), .sl 0 1 0 (x.gone.map cZ)]
structure Store where
  by_ : Int
  time : Int
  boxes : List Box
  gone : List Int
  deriving DecidableEq
abbrev cStore (x : Store) : List V := [.int .i64 x.by_, .int .i64 x.time, .sl 0 7 0 (x.boxes.map cBox), .sl 0 1 0 (x.gone.map cZ)]
structure Kept where
  store : Store
  journal : Str
  saved : Int
  deriving DecidableEq
abbrev cKept (x : Kept) : List V := [.int .i64 x.store.by_, .int .i64 x.store.time, .sl 0 7 0 (x.store.boxes.map cBox), .sl 0 1 0 (x.store.gone.map cZ), .str x.journal, .int .i64 x.saved]
structure Session where
  inn : Str
  out : Str
  on : Bool
  over : Bool
  box : Int
  view : List Int
  deriving DecidableEq
abbrev cSession (x : Session) : List V := [.str x.inn, .str x.out, .bool x.on, .bool x.over, .int .i64 x.box, .sl 0 1 0 (x.view.map cZ)]
structure Server where
  kept : Kept
  session : Session
  up : Bool
  deriving DecidableEq
abbrev cServer (x : Server) : List V := [.int .i64 x.kept.store.by_, .int .i64 x.kept.store.time, .sl 0 7 0 (x.kept.store.boxes.map cBox), .sl 0 1 0 (x.kept.store.gone.map cZ), .str x.kept.journal, .int .i64 x.kept.saved, .str x.session.inn, .str x.session.out, .bool x.session.on, .bool x.session.over, .int .i64 x.session.box, .sl 0 1 0 (x.session.view.map cZ), .bool x.up]
structure Letter where
  to_ : Int
  text : Str
  deriving DecidableEq
abbrev cLetter (x : Letter) : List V := [.int .i64 x.to_, .str x.text]
structure Pair where
  servers : List Server
  syncs : List Sync
  net : List Letter
  epoch : Int
  deriving DecidableEq
abbrev cPair (x : Pair) : List V := [.sl 0 13 0 (x.servers.map cServer), .sl 0 9 0 (x.syncs.map cSync), .sl 0 2 0 (x.net.map cLetter), .int .i64 x.epoch]
structure Life where
  pair : Pair
  codes : List Int
  deriving DecidableEq
abbrev cLife (x : Life) : List V := [.sl 0 13 0 (x.pair.servers.map cServer), .sl 0 9 0 (x.pair.syncs.map cSync), .sl 0 2 0 (x.pair.net.map cLetter), .int .i64 x.pair.epoch, .sl 0 1 0 (x.codes.map cZ)]
structure Call where
  kind : Int
  box : Int
  gid : Int
  flags : Int
  text : Str
  deriving DecidableEq
abbrev cCall (x : Call) : List V := [.int .i64 x.kind, .int .i64 x.box, .int .i64 x.gid, .int .i64 x.flags, .str x.text]
structure Token where
  kind : Int
  text : Str
  deriving DecidableEq
abbrev cToken (x : Token) : List V := [.int .i64 x.kind, .str x.text]
structure Range where
  frm : Int
  to_ : Int
  deriving DecidableEq
abbrev cRange (x : Range) : List V := [.int .i64 x.frm, .int .i64 x.to_]
theorem labels0_map {α : Type} {f : α → List V} (hf : ∀ x, ∀ L ∈ V.labelsL (f x), L = 0) (xs : List α) : ∀ L ∈ V.labelsLL (xs.map f), L = 0 := by
  induction xs with
  | nil => intro L h; cases h
  | cons x xs ih =>
    intro L h
    simp only [List.map_cons, V.labelsLL, List.mem_append] at h
    rcases h with h | h
    · exact hf x L h
    · exact ih L h
theorem trav0_map {α : Type} {f : α → List V} {f0 : Nat → V} {fs : Nat → Nat → Nat → List (List V) → V} {fp : Nat → Nat → Nat → List V → V} (hf : ∀ x, V.travL f0 fs fp (f x) = f x) (xs : List α) : V.travLL f0 fs fp (xs.map f) = xs.map f := travLL_map hf xs
theorem zf : (∀ (f0 : Nat → V) (fs : Nat → Nat → Nat → List (List V) → V) (fp : Nat → Nat → Nat → List V → V) (xs : List Stamp), V.travLL f0 fs fp (xs.map cStamp) = xs.map cStamp) ∧ (∀ (xs : List Stamp), V.labelsLL (xs.map cStamp) = []) ∧ (∀ (xs : List Stamp), V.datLL (xs.map cStamp) = true) ∧ (∀ (n : Nat) (xs : List Stamp), V.tagLL n (xs.map cStamp) = xs.map cStamp) ∧ (∀ (xs : List Stamp), V.cntLL (xs.map cStamp) = 0) ∧ (∀ (f0 : Nat → V) (fs : Nat → Nat → Nat → List (List V) → V) (fp : Nat → Nat → Nat → List V → V) (xs : List Reg), V.travLL f0 fs fp (xs.map cReg) = xs.map cReg) ∧ (∀ (xs : List Reg), V.labelsLL (xs.map cReg) = []) ∧ (∀ (xs : List Reg), V.datLL (xs.map cReg) = true) ∧ (∀ (n : Nat) (xs : List Reg), V.tagLL n (xs.map cReg) = xs.map cReg) ∧ (∀ (xs : List Reg), V.cntLL (xs.map cReg) = 0) ∧ (∀ (f0 : Nat → V) (fs : Nat → Nat → Nat → List (List V) → V) (fp : Nat → Nat → Nat → List V → V) (xs : List Letter), V.travLL f0 fs fp (xs.map cLetter) = xs.map cLetter) ∧ (∀ (xs : List Letter), V.labelsLL (xs.map cLetter) = []) ∧ (∀ (xs : List Letter), V.datLL (xs.map cLetter) = true) ∧ (∀ (n : Nat) (xs : List Letter), V.tagLL n (xs.map cLetter) = xs.map cLetter) ∧ (∀ (xs : List Letter), V.cntLL (xs.map cLetter) = 0) ∧ (∀ (f0 : Nat → V) (fs : Nat → Nat → Nat → List (List V) → V) (fp : Nat → Nat → Nat → List V → V) (xs : List Call), V.travLL f0 fs fp (xs.map cCall) = xs.map cCall) ∧ (∀ (xs : List Call), V.labelsLL (xs.map cCall) = []) ∧ (∀ (xs : List Call), V.datLL (xs.map cCall) = true) ∧ (∀ (n : Nat) (xs : List Call), V.tagLL n (xs.map cCall) = xs.map cCall) ∧ (∀ (xs : List Call), V.cntLL (xs.map cCall) = 0) ∧ (∀ (f0 : Nat → V) (fs : Nat → Nat → Nat → List (List V) → V) (fp : Nat → Nat → Nat → List V → V) (xs : List Token), V.travLL f0 fs fp (xs.map cToken) = xs.map cToken) ∧ (∀ (xs : List Token), V.labelsLL (xs.map cToken) = []) ∧ (∀ (xs : List Token), V.datLL (xs.map cToken) = true) ∧ (∀ (n : Nat) (xs : List Token), V.tagLL n (xs.map cToken) = xs.map cToken) ∧ (∀ (xs : List Token), V.cntLL (xs.map cToken) = 0) ∧ (∀ (f0 : Nat → V) (fs : Nat → Nat → Nat → List (List V) → V) (fp : Nat → Nat → Nat → List V → V) (xs : List Range), V.travLL f0 fs fp (xs.map cRange) = xs.map cRange) ∧ (∀ (xs : List Range), V.labelsLL (xs.map cRange) = []) ∧ (∀ (xs : List Range), V.datLL (xs.map cRange) = true) ∧ (∀ (n : Nat) (xs : List Range), V.tagLL n (xs.map cRange) = xs.map cRange) ∧ (∀ (xs : List Range), V.cntLL (xs.map cRange) = 0) :=
  ⟨fun f0 fs fp xs => travLL_map (fun _ => rfl) xs, fun xs => labels_map (fun _ => rfl) xs, fun xs => dat_map (fun _ => rfl) xs, fun n xs => tag_map (fun _ _ => rfl) xs n, fun xs => cnt_map (fun _ => rfl) xs, fun f0 fs fp xs => travLL_map (fun _ => rfl) xs, fun xs => labels_map (fun _ => rfl) xs, fun xs => dat_map (fun _ => rfl) xs, fun n xs => tag_map (fun _ _ => rfl) xs n, fun xs => cnt_map (fun _ => rfl) xs, fun f0 fs fp xs => travLL_map (fun _ => rfl) xs, fun xs => labels_map (fun _ => rfl) xs, fun xs => dat_map (fun _ => rfl) xs, fun n xs => tag_map (fun _ _ => rfl) xs n, fun xs => cnt_map (fun _ => rfl) xs, fun f0 fs fp xs => travLL_map (fun _ => rfl) xs, fun xs => labels_map (fun _ => rfl) xs, fun xs => dat_map (fun _ => rfl) xs, fun n xs => tag_map (fun _ _ => rfl) xs n, fun xs => cnt_map (fun _ => rfl) xs, fun f0 fs fp xs => travLL_map (fun _ => rfl) xs, fun xs => labels_map (fun _ => rfl) xs, fun xs => dat_map (fun _ => rfl) xs, fun n xs => tag_map (fun _ _ => rfl) xs n, fun xs => cnt_map (fun _ => rfl) xs, fun f0 fs fp xs => travLL_map (fun _ => rfl) xs, fun xs => labels_map (fun _ => rfl) xs, fun xs => dat_map (fun _ => rfl) xs, fun n xs => tag_map (fun _ _ => rfl) xs n, fun xs => cnt_map (fun _ => rfl) xs⟩
theorem t0_Sync {f0 : Nat → V} {fs : Nat → Nat → Nat → List (List V) → V} {fp : Nat → Nat → Nat → List V → V} (h : ∀ sz es, fs 0 sz 0 es = .sl 0 sz 0 es) (x : Sync) : V.travL f0 fs fp (cSync x) = cSync x := by
  simp only [cSync, V.travL, V.trav, zz, zf, h]
theorem l0_Sync (x : Sync) : ∀ L ∈ V.labelsL (cSync x), L = 0 := by
  intro L hL
  simp only [cSync, V.labelsL, V.labels, zz, zf, List.mem_append, List.mem_cons, List.not_mem_nil, or_false, false_or, List.append_nil, List.nil_append] at hL
  first | exact hL | omega | (repeat (first | exact hL | exact absurd hL id | (rcases hL with hL | hL)))
theorem d0_Sync (x : Sync) : V.datL (cSync x) = true := by
  simp [cSync, V.datL, V.dat, zz, zf]
theorem t0_Mail {f0 : Nat → V} {fs : Nat → Nat → Nat → List (List V) → V} {fp : Nat → Nat → Nat → List V → V} (h : ∀ sz es, fs 0 sz 0 es = .sl 0 sz 0 es) (x : Mail) : V.travL f0 fs fp (cMail x) = cMail x := by
  simp only [cMail, V.travL, V.trav, zz, zf, h]
theorem l0_Mail (x : Mail) : ∀ L ∈ V.labelsL (cMail x), L = 0 := by
  intro L hL
  simp only [cMail, V.labelsL, V.labels, zz, zf, List.mem_append, List.mem_cons, List.not_mem_nil, or_false, false_or, List.append_nil, List.nil_append] at hL
  first | exact hL | omega | (repeat (first | exact hL | exact absurd hL id | (rcases hL with hL | hL)))
theorem d0_Mail (x : Mail) : V.datL (cMail x) = true := by
  simp [cMail, V.datL, V.dat, zz, zf]
theorem t0_Box {f0 : Nat → V} {fs : Nat → Nat → Nat → List (List V) → V} {fp : Nat → Nat → Nat → List V → V} (h : ∀ sz es, fs 0 sz 0 es = .sl 0 sz 0 es) (x : Box) : V.travL f0 fs fp (cBox x) = cBox x := by
  simp only [cBox, V.travL, V.trav, zz, zf, h, trav0_map (t0_Mail h)]
theorem l0_Box (x : Box) : ∀ L ∈ V.labelsL (cBox x), L = 0 := by
  intro L hL
  simp only [cBox, V.labelsL, V.labels, zz, zf, List.mem_append, List.mem_cons, List.not_mem_nil, or_false, false_or, List.append_nil, List.nil_append] at hL
  first | exact hL | omega | (repeat (first | exact hL | exact absurd hL id | (rcases hL with hL | hL) | exact labels0_map l0_Mail _ L hL))
theorem d0_Box (x : Box) : V.datL (cBox x) = true := by
  simp [cBox, V.datL, V.dat, zz, zf, dat_map d0_Mail]
theorem t0_Server {f0 : Nat → V} {fs : Nat → Nat → Nat → List (List V) → V} {fp : Nat → Nat → Nat → List V → V} (h : ∀ sz es, fs 0 sz 0 es = .sl 0 sz 0 es) (x : Server) : V.travL f0 fs fp (cServer x) = cServer x := by
  simp only [cServer, V.travL, V.trav, zz, zf, h, trav0_map (t0_Box h)]
theorem l0_Server (x : Server) : ∀ L ∈ V.labelsL (cServer x), L = 0 := by
  intro L hL
  simp only [cServer, V.labelsL, V.labels, zz, zf, List.mem_append, List.mem_cons, List.not_mem_nil, or_false, false_or, List.append_nil, List.nil_append] at hL
  first | exact hL | omega | (repeat (first | exact hL | exact absurd hL id | (rcases hL with hL | hL) | exact labels0_map l0_Box _ L hL))
theorem d0_Server (x : Server) : V.datL (cServer x) = true := by
  simp [cServer, V.datL, V.dat, zz, zf, dat_map d0_Box]
theorem zy : (∀ (xs : List Sync), V.travLL (fun sz => V.sl 0 sz 0 []) (fun _ sz _ es => V.sl 0 sz 0 es) (fun _ _ o e => V.ptr 0 0 o e) (xs.map cSync) = xs.map cSync) ∧ (∀ (L i : Nat) (e : List V) (xs : List Sync), V.travLL V.nil (updS (L + 1) i e) (updP (L + 1) i e) (xs.map cSync) = xs.map cSync) ∧ (∀ (L : Nat) (xs : List Sync), V.travLL V.nil (killS (L + 1)) (killP (L + 1)) (xs.map cSync) = xs.map cSync) ∧ (∀ (xs : List Sync), (∀ L ∈ V.labelsLL (xs.map cSync), L = 0) = True) ∧ (∀ (xs : List Sync), V.datLL (xs.map cSync) = true) ∧ (∀ (L : Nat) (xs : List Sync), (L + 1 ∈ V.labelsLL (xs.map cSync)) = False) ∧ (∀ (k : Nat) (xs : List Sync), V.travLL V.nil (fun L sz off es => V.sl (if k ≤ L then 0 else L) sz off es) (fun L i o e => V.ptr (if k ≤ L then 0 else L) i o e) (xs.map cSync) = xs.map cSync) ∧ (∀ (xs : List Mail), V.travLL (fun sz => V.sl 0 sz 0 []) (fun _ sz _ es => V.sl 0 sz 0 es) (fun _ _ o e => V.ptr 0 0 o e) (xs.map cMail) = xs.map cMail) ∧ (∀ (L i : Nat) (e : List V) (xs : List Mail), V.travLL V.nil (updS (L + 1) i e) (updP (L + 1) i e) (xs.map cMail) = xs.map cMail) ∧ (∀ (L : Nat) (xs : List Mail), V.travLL V.nil (killS (L + 1)) (killP (L + 1)) (xs.map cMail) = xs.map cMail) ∧ (∀ (xs : List Mail), (∀ L ∈ V.labelsLL (xs.map cMail), L = 0) = True) ∧ (∀ (xs : List Mail), V.datLL (xs.map cMail) = true) ∧ (∀ (L : Nat) (xs : List Mail), (L + 1 ∈ V.labelsLL (xs.map cMail)) = False) ∧ (∀ (k : Nat) (xs : List Mail), V.travLL V.nil (fun L sz off es => V.sl (if k ≤ L then 0 else L) sz off es) (fun L i o e => V.ptr (if k ≤ L then 0 else L) i o e) (xs.map cMail) = xs.map cMail) ∧ (∀ (xs : List Box), V.travLL (fun sz => V.sl 0 sz 0 []) (fun _ sz _ es => V.sl 0 sz 0 es) (fun _ _ o e => V.ptr 0 0 o e) (xs.map cBox) = xs.map cBox) ∧ (∀ (L i : Nat) (e : List V) (xs : List Box), V.travLL V.nil (updS (L + 1) i e) (updP (L + 1) i e) (xs.map cBox) = xs.map cBox) ∧ (∀ (L : Nat) (xs : List Box), V.travLL V.nil (killS (L + 1)) (killP (L + 1)) (xs.map cBox) = xs.map cBox) ∧ (∀ (xs : List Box), (∀ L ∈ V.labelsLL (xs.map cBox), L = 0) = True) ∧ (∀ (xs : List Box), V.datLL (xs.map cBox) = true) ∧ (∀ (L : Nat) (xs : List Box), (L + 1 ∈ V.labelsLL (xs.map cBox)) = False) ∧ (∀ (k : Nat) (xs : List Box), V.travLL V.nil (fun L sz off es => V.sl (if k ≤ L then 0 else L) sz off es) (fun L i o e => V.ptr (if k ≤ L then 0 else L) i o e) (xs.map cBox) = xs.map cBox) ∧ (∀ (xs : List Server), V.travLL (fun sz => V.sl 0 sz 0 []) (fun _ sz _ es => V.sl 0 sz 0 es) (fun _ _ o e => V.ptr 0 0 o e) (xs.map cServer) = xs.map cServer) ∧ (∀ (L i : Nat) (e : List V) (xs : List Server), V.travLL V.nil (updS (L + 1) i e) (updP (L + 1) i e) (xs.map cServer) = xs.map cServer) ∧ (∀ (L : Nat) (xs : List Server), V.travLL V.nil (killS (L + 1)) (killP (L + 1)) (xs.map cServer) = xs.map cServer) ∧ (∀ (xs : List Server), (∀ L ∈ V.labelsLL (xs.map cServer), L = 0) = True) ∧ (∀ (xs : List Server), V.datLL (xs.map cServer) = true) ∧ (∀ (L : Nat) (xs : List Server), (L + 1 ∈ V.labelsLL (xs.map cServer)) = False) ∧ (∀ (k : Nat) (xs : List Server), V.travLL V.nil (fun L sz off es => V.sl (if k ≤ L then 0 else L) sz off es) (fun L i o e => V.ptr (if k ≤ L then 0 else L) i o e) (xs.map cServer) = xs.map cServer) :=
  ⟨fun xs => trav0_map (t0_Sync (fs := fun _ sz _ es => V.sl 0 sz 0 es) (fun _ _ => rfl)) xs, fun L i e xs => trav0_map (t0_Sync (fun sz es => if_neg (fun h => by have := h.1; omega))) xs, fun L xs => trav0_map (t0_Sync (fun sz es => if_neg (fun h => by omega))) xs, fun xs => eq_true (labels0_map l0_Sync xs), fun xs => dat_map d0_Sync xs, fun L xs => eq_false (fun h => by have := labels0_map l0_Sync xs _ h; omega), fun k xs => trav0_map (t0_Sync (fs := fun L sz off es => V.sl (if k ≤ L then 0 else L) sz off es) (fun sz es => by simp)) xs, fun xs => trav0_map (t0_Mail (fs := fun _ sz _ es => V.sl 0 sz 0 es) (fun _ _ => rfl)) xs, fun L i e xs => trav0_map (t0_Mail (fun sz es => if_neg (fun h => by have := h.1; omega))) xs, fun L xs => trav0_map (t0_Mail (fun sz es => if_neg (fun h => by omega))) xs, fun xs => eq_true (labels0_map l0_Mail xs), fun xs => dat_map d0_Mail xs, fun L xs => eq_false (fun h => by have := labels0_map l0_Mail xs _ h; omega), fun k xs => trav0_map (t0_Mail (fs := fun L sz off es => V.sl (if k ≤ L then 0 else L) sz off es) (fun sz es => by simp)) xs, fun xs => trav0_map (t0_Box (fs := fun _ sz _ es => V.sl 0 sz 0 es) (fun _ _ => rfl)) xs, fun L i e xs => trav0_map (t0_Box (fun sz es => if_neg (fun h => by have := h.1; omega))) xs, fun L xs => trav0_map (t0_Box (fun sz es => if_neg (fun h => by omega))) xs, fun xs => eq_true (labels0_map l0_Box xs), fun xs => dat_map d0_Box xs, fun L xs => eq_false (fun h => by have := labels0_map l0_Box xs _ h; omega), fun k xs => trav0_map (t0_Box (fs := fun L sz off es => V.sl (if k ≤ L then 0 else L) sz off es) (fun sz es => by simp)) xs, fun xs => trav0_map (t0_Server (fs := fun _ sz _ es => V.sl 0 sz 0 es) (fun _ _ => rfl)) xs, fun L i e xs => trav0_map (t0_Server (fun sz es => if_neg (fun h => by have := h.1; omega))) xs, fun L xs => trav0_map (t0_Server (fun sz es => if_neg (fun h => by omega))) xs, fun xs => eq_true (labels0_map l0_Server xs), fun xs => dat_map d0_Server xs, fun L xs => eq_false (fun h => by have := labels0_map l0_Server xs _ h; omega), fun k xs => trav0_map (t0_Server (fs := fun L sz off es => V.sl (if k ≤ L then 0 else L) sz off es) (fun sz es => by simp)) xs⟩
section
variable {t t' h h' : List V} {n n' : Nat} {X : V} {o : Oper} {ops : Array Oper} {l : List Oper} {Q : Exit → List V → List V → Nat → Prop}
theorem OE {T : TypeId} {p x : Operand} {L j : Nat} {e' : List V} (hk : OkOps Tryz.prog ops l t' h' n Q) (hg : o.guard = none := by rfl) (ho : o.op = .store T p x := by rfl) (hs : storeE (tab T) (opnd t p) (opnd t x) = some (L, j, e') := by simp only [kE, kT, kL, kC] <;> rfl) (hc : ∃ y l, cellsV (opnd t x) = y :: l := by exact ⟨_, _, by simp only [kE]; rfl⟩) (hfree : L ∉ V.labelsL e' := by first | (simp [V.labelsL, V.labelsLL, V.labels, zz, zf, zy]; done) | (simp [-List.map_map, -List.map_set, -List.map_drop, -List.map_take, -List.map_tail, -List.drop_one, V.labelsL, V.labelsLL, V.labels, zz, zf, zy]; done))
    (ht : putV (V.updL L j e' t) o.dst .any = t' := by simp only [eq_self, V.updL, V.travL, V.travLL, V.trav, updS, updP, and_self, true_and, and_true, false_and, and_false, Nat.reduceEqDiff, Nat.reduceSub, Nat.le_refl, Nat.zero_le, ↓reduceIte, if_true, if_false, kP, zz, zf, zy] <;> rfl) (hh : V.updL L j e' h = h' := by rfl) : OkOps Tryz.prog ops (o :: l) t h n Q :=
  OkOps.storeE tab_ok hg ho hs hc hfree ht hh hk
end
end Go.Proofs.YtiipkeendfpddaaGreat.K

/- Arguments of the program's types. Printed by shapes.py. -/
namespace Go.Proofs.YtiipkeendfpddaaGreat.K
open Go Go.RowKit
set_option linter.unusedVariables false
set_option linter.unusedSimpArgs false
set_option maxRecDepth 20000
abbrev BB : Nat := 140737488351232
def StrsB (a : List Str) : Prop := a.length ≤ BB ∧ ∀ s ∈ a, s.length ≤ BB
theorem map_of {α : Type} {f : α → List V} {p : α → Prop} : ∀ {es : List (List V)}, (∀ c ∈ es, ∃ a, c = f a ∧ p a) → ∃ l : List α, es = l.map f ∧ ∀ a ∈ l, p a
  | [], _ => ⟨[], rfl, by simp⟩
  | c :: es, h => by
    obtain ⟨a, rfl, ha⟩ := h c (List.mem_cons_self ..)
    obtain ⟨l, rfl, hl⟩ := map_of (es := es) fun c hc => h c (List.mem_cons_of_mem _ hc)
    exact ⟨a :: l, rfl, by simpa using ⟨ha, hl⟩⟩
def okStamp (x : Stamp) : Prop := True
def okReg (x : Reg) : Prop := (okStamp x.stamp)
def okMail (x : Mail) : Prop := (x.flags.length ≤ BB ∧ ∀ z ∈ x.flags, okReg z) ∧ (x.text.length ≤ BB)
def okBox (x : Box) : Prop := (x.name.length ≤ BB) ∧ (okStamp x.named) ∧ (x.mails.length ≤ BB ∧ ∀ z ∈ x.mails, okMail z) ∧ (x.gone.length ≤ BB)
def okStore (x : Store) : Prop := (x.boxes.length ≤ BB ∧ ∀ z ∈ x.boxes, okBox z) ∧ (x.gone.length ≤ BB)
def okKept (x : Kept) : Prop := (okStore x.store) ∧ (x.journal.length ≤ BB)
def okSession (x : Session) : Prop := (x.inn.length ≤ BB) ∧ (x.out.length ≤ BB) ∧ (x.view.length ≤ BB)
def okServer (x : Server) : Prop := (okKept x.kept) ∧ (okSession x.session)
def okLetter (x : Letter) : Prop := (x.text.length ≤ BB)
def okLink (x : Link) : Prop := (x.way.length ≤ BB ∧ ∀ z ∈ x.way, z.length ≤ BB)
def okSync (x : Sync) : Prop := (okLink x.link) ∧ (x.pieces.length ≤ BB ∧ ∀ z ∈ x.pieces, z.length ≤ BB)
def okPair (x : Pair) : Prop := (x.servers.length ≤ BB ∧ ∀ z ∈ x.servers, okServer z) ∧ (x.syncs.length ≤ BB ∧ ∀ z ∈ x.syncs, okSync z) ∧ (x.net.length ≤ BB ∧ ∀ z ∈ x.net, okLetter z)
def okLife (x : Life) : Prop := (okPair x.pair) ∧ (x.codes.length ≤ BB)
def okPacket (x : Packet) : Prop := (x.text.length ≤ BB)
def okEvent (x : Event) : Prop := (x.text.length ≤ BB)
def okCall (x : Call) : Prop := (x.text.length ≤ BB)
def okToken (x : Token) : Prop := (x.text.length ≤ BB)
def okRange (x : Range) : Prop := True
section
variable {K : Nat} {H : Type} {enc : TypeId × Value → H} {P : Program} {W : World} {ti : Tab} {B : Nat} {base : Base}
theorem arg_one (hti : TabOk P ti) {t : TypeId} (m : Nat) (hd : dataT ti m t = true) {v : Value} {d : DataW H} {ps : List MemPlace} (hv : v.cells = #[v])
    (h : DataW.Trod enc P W 0 (fun _ => true) true t v d ps) (hw : ∀ x ∈ d.weights P t, x ≤ B) : ∃ x, M (bare W.heap.size) noSig W x v ∧ Shp ti B m t [x] := by
  obtain ⟨n, hn⟩ := h
  obtain ⟨xs, h1, h2⟩ := trod_M (base := bare W.heap.size) hti m t hd n _ d ps (fun _ h => h) hn hw
  rw [hv] at h1
  have hl := h1.1
  match xs, h1, h2, hl with
  | [x], h1, h2, _ => exact ⟨x, h1.2 0 x v rfl rfl, h2⟩
  | [], _, _, hl => simp at hl
  | _ :: _ :: _, _, _, hl => simp at hl
theorem cells_of_basic {w : World} {r : Reach} {b0 : Nat} {t : TypeId} {v : Value} (hu : P.underlying t = some .string ∨ P.underlying t = some .bool ∨ (∃ k, P.underlying t = some (.int k)) ∨ ∃ e, P.underlying t = some (.slice e)) (h : Value.okWide P w r b0 t v) : v.cells = #[v] := by
  unfold Value.okWide at h
  rcases hu with hu | hu | ⟨k, hu⟩ | ⟨e, hu⟩ <;>
  · simp only [hu] at h
    cases v with
    | agg cs => exfalso; revert h; simp [Cell.okWide, hu, Cell.ok]
    | _ => rfl
end
end Go.Proofs.YtiipkeendfpddaaGreat.K

/- Numbers and texts read: plain functions; and that both readers of packets tell the same. -/
namespace Go.Proofs.YtiipkeendfpddaaGreat.K
open Go Go.RowKit
set_option linter.unusedVariables false
set_option linter.unusedSimpArgs false

def rdV (s : Str) (p : Nat) : Nat → Nat → Nat → Option (Nat × Nat)
  | 0, _, _ => none
  | f + 1, i, n => if h : p + i < s.length then
      (if s[p + i].toNat < 128 then (if n + s[p + i].toNat % 128 * 128 ^ i ≤ 1000000000 ∧ varT (n + s[p + i].toNat % 128 * 128 ^ i) = (s.take (p + i + 1)).drop p then some (n + s[p + i].toNat % 128 * 128 ^ i, p + i + 1) else none)
        else rdV s p f (i + 1) (n + s[p + i].toNat % 128 * 128 ^ i)) else none
def readVar (s : Str) (z : Int) : Option (Nat × Nat) := if inR z 0 s.length = true then rdV s z.toNat 5 0 0 else none
abbrev vR (r : Option (Nat × Nat)) : V := .tup [.int .i64 ((r.getD (0, 0)).1 : Int), .int .i64 ((r.getD (0, 0)).2 : Int), .bool r.isSome]
theorem rdV_lo {s : Str} {p f i n : Nat} (h : p + i < s.length) (hb : s[p + i].toNat < 128) : rdV s p (f + 1) i n = if n + s[p + i].toNat % 128 * 128 ^ i ≤ 1000000000 ∧ varT (n + s[p + i].toNat % 128 * 128 ^ i) = (s.take (p + i + 1)).drop p then some (n + s[p + i].toNat % 128 * 128 ^ i, p + i + 1) else none := by
  rw [rdV, dif_pos h, if_pos hb]
theorem rdV_hi {s : Str} {p f i n : Nat} (h : p + i < s.length) (hb : ¬ s[p + i].toNat < 128) : rdV s p (f + 1) i n = rdV s p f (i + 1) (n + s[p + i].toNat % 128 * 128 ^ i) := by
  rw [rdV, dif_pos h, if_neg hb]
theorem rdV_end {s : Str} {p f i n : Nat} (h : ¬ p + i < s.length) : rdV s p f i n = none := by
  cases f with
  | zero => rfl
  | succ f => rw [rdV, dif_neg h]
theorem pow128 {i : Nat} (h : i ≤ 5) : 128 ^ i ≤ 34359738368 ∧ 1 ≤ 128 ^ i := by
  have : i = 0 ∨ i = 1 ∨ i = 2 ∨ i = 3 ∨ i = 4 ∨ i = 5 := by omega
  rcases this with rfl | rfl | rfl | rfl | rfl | rfl <;> decide
theorem grp_lt {b i n : Nat} (hi : i < 5) (hn : n < 128 ^ i) : n + b % 128 * 128 ^ i < 128 ^ (i + 1) ∧ b % 128 * 128 ^ i ≤ 34359738368 := by
  have h1 := pow128 (i := i) M58
  have h2 : b % 128 ≤ 127 := by omega
  have h3 : b % 128 * 128 ^ i ≤ 127 * 128 ^ i := Nat.mul_le_mul_right _ h2
  have h4 : i = 0 ∨ i = 1 ∨ i = 2 ∨ i = 3 ∨ i = 4 := by omega
  rw [Nat.pow_succ]
  rcases h4 with rfl | rfl | rfl | rfl | rfl <;> simp at * <;> omega
theorem rem_byte (b : UInt8) : (IntKind.i64.wrap (b.toNat : Int)).tmod 128 = ((b.toNat % 128 : Nat) : Int) := by
  have := b.toNat_lt
  rw [wrap_nat M58, rem128]
theorem mul_grp {b i : Nat} (hi : i < 5) : IntKind.i64.wrap (((b % 128 : Nat) : Int) * ((128 ^ i : Nat) : Int)) = ((b % 128 * 128 ^ i : Nat) : Int) := by
  have h1 := (grp_lt (b := b) hi (n := 0) (by have := pow128 (i := i) M58; omega)).2
  rw [show ((b % 128 : Nat) : Int) * ((128 ^ i : Nat) : Int) = ((b % 128 * 128 ^ i : Nat) : Int) by simp, wrap_nat M58]
theorem add_grp {b i n : Nat} (hi : i < 5) (hn : n < 128 ^ i) : IntKind.i64.wrap ((n : Int) + ((b % 128 * 128 ^ i : Nat) : Int)) = ((n + b % 128 * 128 ^ i : Nat) : Int) := by
  have h1 := (grp_lt (b := b) hi hn).2
  have h2 := pow128 (i := i) M58
  rw [show (n : Int) + ((b % 128 * 128 ^ i : Nat) : Int) = ((n + b % 128 * 128 ^ i : Nat) : Int) by simp, wrap_nat M58]
theorem next_scale {i : Nat} (hi : i < 5) : IntKind.i64.wrap (((128 ^ i : Nat) : Int) * 128) = ((128 ^ (i + 1) : Nat) : Int) := by
  have h2 := pow128 (i := i + 1) M58
  rw [show ((128 ^ i : Nat) : Int) * 128 = ((128 ^ (i + 1) : Nat) : Int) by rw [Nat.pow_succ]; simp, wrap_nat M58]
theorem and_byte (b : UInt8) : IntKind.u8.wrap ((BitVec.ofInt IntKind.u8.bits (b.toNat : Int) &&& BitVec.ofInt IntKind.u8.bits 127).toNat : Int) = ((b.toNat % 128 : Nat) : Int) := by
  have hb := b.toNat_lt
  have h1 : (BitVec.ofInt 8 (b.toNat : Int) &&& BitVec.ofInt 8 127).toNat = b.toNat % 128 := by
    rw [BitVec.toNat_and]
    have e1 : (BitVec.ofInt 8 (b.toNat : Int)).toNat = b.toNat := by simp only [BitVec.ofInt_natCast, BitVec.toNat_ofNat]; omega
    have e2 : (BitVec.ofInt 8 127).toNat = 127 := rfl
    rw [e1, e2, and127]
  show IntKind.u8.wrap ((BitVec.ofInt 8 (b.toNat : Int) &&& BitVec.ofInt 8 127).toNat : Int) = _
  rw [h1, IntKind.wrap_u8]; omega
theorem mul7 {i : Nat} (hi : i < 5) : IntKind.i64.wrap (7 * (i : Int)) = ((7 * i : Nat) : Int) := by rw [show 7 * (i : Int) = ((7 * i : Nat) : Int) by simp, wrap_nat M58]
theorem shl_grp {b i : Nat} (hi : i < 5) : IntKind.i64.wrap (((b % 128 : Nat) : Int) * 2 ^ min ((7 * i : Nat) : Int).toNat IntKind.i64.bits) = ((b % 128 * 128 ^ i : Nat) : Int) := by
  rw [Int.toNat_natCast, show min (7 * i) IntKind.i64.bits = 7 * i from Nat.min_eq_left (by show 7 * i ≤ 64; omega), show (2 : Int) ^ (7 * i) = ((128 ^ i : Nat) : Int) by rw [Int.pow_mul]; simp]
  exact mul_grp hi
theorem or_grp {b i n : Nat} (hi : i < 5) (hn : n < 128 ^ i) : IntKind.i64.wrap ((BitVec.ofInt IntKind.i64.bits (n : Int) ||| BitVec.ofInt IntKind.i64.bits ((b % 128 * 128 ^ i : Nat) : Int)).toNat : Int) = ((n + b % 128 * 128 ^ i : Nat) : Int) := by
  have h1 := grp_lt (b := b) hi hn
  have h2 := pow128 (i := i) M58
  have h3 := pow128 (i := i + 1) M58
  have h4 : (BitVec.ofInt 64 (n : Int) ||| BitVec.ofInt 64 ((b % 128 * 128 ^ i : Nat) : Int)).toNat = n + b % 128 * 128 ^ i := by
    refine (or_nat n (b % 128 * 128 ^ i) M58 M58).trans ?_
    have h5 : (128 : Nat) ^ i = 2 ^ (7 * i) := by rw [Nat.pow_mul]
    have := Nat.two_pow_add_eq_or_of_lt (i := 7 * i) (b := n) (by rw [← h5]; exact hn) (b % 128)
    rw [← h5, Nat.mul_comm] at this
    rw [Nat.or_comm, ← this, Nat.add_comm]
  show IntKind.i64.wrap ((BitVec.ofInt 64 (n : Int) ||| BitVec.ofInt 64 ((b % 128 * 128 ^ i : Nat) : Int)).toNat : Int) = _
  rw [h4, wrap_nat M58]
theorem wrap_add_nat {a b : Nat} (h : a + b ≤ 9223372036854775807) : IntKind.i64.wrap ((a : Int) + (b : Int)) = ((a + b : Nat) : Int) := by rw [IntKind.wrap_i64]; omega
theorem wrap_add_one {a : Nat} (h : a + 1 ≤ 9223372036854775807) : IntKind.i64.wrap ((a : Int) + 1) = ((a + 1 : Nat) : Int) := by rw [IntKind.wrap_i64]; omega
theorem wrap_add_five {a : Nat} (h : a + 5 ≤ 9223372036854775807) : IntKind.i64.wrap ((a : Int) + 5) = ((a + 5 : Nat) : Int) := by rw [IntKind.wrap_i64]; omega

def readShort (s : Str) (z : Int) : Option (Str × Nat) := match readVar s z with
  | some (n, e) => if n ≤ 20000 ∧ n + e ≤ s.length then some ((s.take (e + n)).drop e, e + n) else none
  | none => none
abbrev vS (r : Option (Str × Nat)) : V := .tup [.str (r.getD ([], 0)).1, .int .i64 ((r.getD ([], 0)).2 : Int), .bool r.isSome]
def unsealed (t : Str) : Option Str := if 4 ≤ t.length ∧ t.length ≤ 20004 ∧ t.drop (t.length - 4) = fourT (sumOf (t.take (t.length - 4))) then some (t.take (t.length - 4)) else none
structure Scan where
  text : Str
  pos : Int
  bad : Bool
abbrev cScan (c : Scan) : List V := [.str c.text, .int .i64 c.pos, .bool c.bad]
def scanNum (c : Scan) : Nat × Scan := match readVar c.text c.pos with
  | some (n, e) => if c.bad = true then (0, { c with bad := true }) else (n, { c with pos := (e : Int) })
  | none => (0, { c with bad := true })
def scanShort (c : Scan) : Str × Scan := match readShort c.text c.pos with
  | some (n, e) => if c.bad = true then ([], { c with bad := true }) else (n, { c with pos := (e : Int) })
  | none => ([], { c with bad := true })
def scan1 (b : Str) (bad : Bool) : Nat × Scan := scanNum ⟨b, 0, bad⟩
def scan2 (b : Str) (bad : Bool) : Nat × Scan := scanNum (scan1 b bad).2
def scan3 (b : Str) (bad : Bool) : Nat × Scan := scanNum (scan2 b bad).2
def scan4 (b : Str) (bad : Bool) : Str × Scan := scanShort (scan3 b bad).2
def scanP (b : Str) (bad : Bool) : Packet := ⟨((scan1 b bad).1 : Int), ((scan2 b bad).1 : Int), ((scan3 b bad).1 : Int), (scan4 b bad).1⟩
def readI (t : Str) : Option Packet :=
  if (unsealed t).isSome = true ∧ (scan4 ((unsealed t).getD []) false).2.bad = false ∧ (scan4 ((unsealed t).getD []) false).2.pos = (((unsealed t).getD []).length : Int) ∧ (scan4 ((unsealed t).getD []) false).1.length ≤ 400 then some (scanP ((unsealed t).getD []) false) else none
def readS (t : Str) : Option Packet :=
  if (scan4 ((unsealed t).getD []) (unsealed t).isNone).2.bad = false ∧ packetText (scanP ((unsealed t).getD []) (unsealed t).isNone) = some t then some (scanP ((unsealed t).getD []) (unsealed t).isNone) else none
abbrev vP (r : Option Packet) : V := .tup [.agg (cPacket (r.getD ⟨0, 0, 0, []⟩)), .bool r.isSome]
def fourN (l : Str) : Nat := match l with | a :: b :: c :: d :: _ => a.toNat * 16777216 + b.toNat * 65536 + c.toNat * 256 + d.toNat | _ => 0
theorem four_b {b : UInt8} : IntKind.i64.wrap (b.toNat : Int) = (b.toNat : Int) := by have := b.toNat_lt; rw [IntKind.wrap_i64]; omega
end Go.Proofs.YtiipkeendfpddaaGreat.K

/- Draws, links heard: plain functions; what goes over a link. -/
namespace Go.Proofs.YtiipkeendfpddaaGreat.K
open Go Go.RowKit
set_option linter.unusedVariables false
set_option linter.unusedSimpArgs false
structure Cur where
  b : Str
  i : Nat
  h : Int
abbrev cCur (c : Cur) : List V := [.sl 0 1 0 (c.b.map cB), .int .i64 (c.i : Int), .int .i64 c.h]
def and255 (a : Int) : Nat := (BitVec.ofInt 64 a &&& BitVec.ofInt 64 255).toNat
theorem and255_le (a : Int) : and255 a ≤ 255 := by
  unfold and255
  rw [BitVec.toNat_and]
  exact Nat.le_trans Nat.and_le_right M57
theorem and255_m (a : Int) : IntKind.i64.wrap ((BitVec.ofInt IntKind.i64.bits a &&& BitVec.ofInt IntKind.i64.bits 255).toNat : Int) = (and255 a : Int) := by
  show IntKind.i64.wrap ((and255 a : Nat) : Int) = _
  exact wrap_nat (by have := and255_le a; omega)
def stepH (h : Int) : Int := IntKind.i64.wrap (IntKind.i64.wrap (h * 6364136223846793005) + 1442695040888963407)
def mixH (h : Int) : Nat := and255 (IntKind.i64.wrap ((BitVec.ofInt IntKind.i64.bits (h.fdiv (2 ^ min (Int.toNat 33) IntKind.i64.bits)) ^^^ BitVec.ofInt IntKind.i64.bits (h.fdiv (2 ^ min (Int.toNat 45) IntKind.i64.bits))).toNat : Int))
def curByte (c : Cur) : Nat × Cur := if h : c.i < c.b.length then (and255 (IntKind.i64.wrap ((mixH (stepH c.h) : Int) + (c.b[c.i].toNat : Int))), { c with i := c.i + 1, h := stepH c.h }) else (mixH (stepH c.h), { c with h := stepH c.h })
theorem curByte_in {c : Cur} (h : c.i < c.b.length) : curByte c = (and255 (IntKind.i64.wrap ((mixH (stepH c.h) : Int) + (c.b[c.i].toNat : Int))), { c with i := c.i + 1, h := stepH c.h }) := dif_pos h
theorem curByte_out {c : Cur} (h : ¬ c.i < c.b.length) : curByte c = (mixH (stepH c.h), { c with h := stepH c.h }) := dif_neg h
theorem curByte_le (c : Cur) : (curByte c).1 ≤ 255 := by
  unfold curByte
  split
  · exact and255_le _
  · exact and255_le _
theorem curByte_b (c : Cur) : (curByte c).2.b = c.b := by unfold curByte; split <;> rfl
def curBelow (c : Cur) (n : Nat) : Nat × Cur :=
  if n = 0 then (0, c)
  else if n ≤ 256 then ((curByte c).1 % n, (curByte c).2)
  else (((curByte c).1 * 16777216 + (curByte (curByte c).2).1 * 65536 + (curByte (curByte (curByte c).2).2).1 * 256 + (curByte (curByte (curByte (curByte c).2).2).2).1) % n, (curByte (curByte (curByte (curByte c).2).2).2).2)
theorem curBelow_lt {c : Cur} {n : Nat} (h : 0 < n) : (curBelow c n).1 < n := by
  unfold curBelow
  split
  · omega
  · split <;> exact Nat.mod_lt _ h
theorem curBelow_b (c : Cur) (n : Nat) : (curBelow c n).2.b = c.b := by
  unfold curBelow
  split
  · rfl
  · split
    · exact curByte_b c
    · simp only [curByte_b]
def hashC : Nat → Str → Int → Int
  | 0, _, h => h
  | _ + 1, [], h => h
  | f + 1, b :: l, h => hashC f l (IntKind.i64.wrap ((BitVec.ofInt IntKind.i64.bits (IntKind.i64.wrap (IntKind.i64.wrap (IntKind.i64.wrap (h * 131) + (b.toNat : Int)) + 7)) &&& BitVec.ofInt IntKind.i64.bits 1073741823).toNat : Int))
def curNew (code : Str) : Cur := ⟨code, 0, hashC 4000 code (IntKind.i64.wrap (77201 + (code.length : Int)))⟩
def drawN : Nat → Nat → Cur → List Nat × Cur
  | 0, _, c => ([], c)
  | k + 1, n, c => let r := drawN k n (curBelow c n).2; ((curBelow c n).1 :: r.1, r.2)
def drawPlaces (code : Str) : List Nat := (drawN 12 10000 (curByte (curNew code)).2).1
def decS (k : Nat) : Str := if k = 0 then [48] else decGo k []

def linkHears (l : Link) (p : Packet) : Link × Str × Bool :=
  if p.epoch ≠ l.epoch then (l, [], false) else
  let l1 := if l.way ≠ [] ∧ p.ack > l.next ∧ p.ack = IntKind.i64.wrap (l.next + 1) then { l with way := l.way.drop 1, next := IntKind.i64.wrap (l.next + 1) } else l
  if p.seq = 0 ∨ p.seq ≠ l.want then (l1, [], false) else ({ l1 with want := IntKind.i64.wrap (l.want + 1) }, p.text, true)
abbrev vH (r : Link × Str × Bool) : V := .tup [.agg (cLink r.1), .str r.2.1, .bool r.2.2]
theorem linkHears_off {l : Link} {p : Packet} (h : p.epoch ≠ l.epoch) : linkHears l p = (l, [], false) := if_pos h
def hearMid (l : Link) (p : Packet) : Link := if l.way ≠ [] ∧ p.ack > l.next ∧ p.ack = IntKind.i64.wrap (l.next + 1) then { l with way := l.way.drop 1, next := IntKind.i64.wrap (l.next + 1) } else l
theorem linkHears_on {l : Link} {p : Packet} (h : p.epoch = l.epoch) : linkHears l p = if p.seq = 0 ∨ p.seq ≠ l.want then (hearMid l p, [], false) else ({ hearMid l p with want := IntKind.i64.wrap (l.want + 1) }, p.text, true) := by
  unfold linkHears
  rw [if_neg M124]
  rfl
theorem hearMid_len (l : Link) (p : Packet) : (hearMid l p).way.length ≤ l.way.length := by
  unfold hearMid
  split
  · simp
  · exact Nat.le_refl _
theorem tmod_nat (a m : Nat) : ((a : Nat) : Int).tmod (m : Int) = ((a % m : Nat) : Int) := by
  rw [Int.tmod_eq_emod_of_nonneg M58]; rfl
theorem mul24 {a : Nat} (h : a ≤ 255) : IntKind.i64.wrap ((a : Int) * 16777216) = ((a * 16777216 : Nat) : Int) := by rw [IntKind.wrap_i64]; omega
theorem mul16 {a : Nat} (h : a ≤ 255) : IntKind.i64.wrap ((a : Int) * 65536) = ((a * 65536 : Nat) : Int) := by rw [IntKind.wrap_i64]; omega
theorem mul8 {a : Nat} (h : a ≤ 255) : IntKind.i64.wrap ((a : Int) * 256) = ((a * 256 : Nat) : Int) := by rw [IntKind.wrap_i64]; omega
def sayL (said : List Str) (k : Nat) : Link := ⟨3, said.drop k, 1 + (k : Int), 1⟩
def hearL (m : Nat) : Link := ⟨3, [], 1, 1 + (m : Int)⟩
def saidT (k : Nat) : Str := [116, 101, 120, 116] ++ decS k
end Go.Proofs.YtiipkeendfpddaaGreat.K

/- Arguments that are bytes. -/
namespace Go.Proofs.YtiipkeendfpddaaGreat.K
open Go Go.RowKit
set_option linter.unusedVariables false
set_option linter.unusedSimpArgs false
theorem shp_bytes {m : Nat} {xs : List V} (h : Shp tab BB (m + 2) 22 xs) : ∃ a : Str, xs = [.sl 0 1 0 (a.map cB)] ∧ a.length ≤ BB := by
  simp only [Shp, kT, Option.map_some, Option.getD_some] at h
  obtain ⟨es, rfl, hl, hc⟩ := h
  obtain ⟨a, rfl, ha⟩ := map_of (f := cB) (p := fun _ => True) (es := es) fun c hcm => by
    obtain ⟨n, rfl, hw⟩ := hc c hcm
    have hr : 0 ≤ n ∧ n ≤ 255 := by simp only [Lit.wf, Bool.and_eq_true, decide_eq_true_eq] at hw; exact hw
    refine ⟨UInt8.ofNat n.toNat, ?_, trivial⟩
    show [V.int IntKind.u8 n] = [V.int IntKind.u8 _]
    rw [UInt8.toNat_ofNat', show ((n.toNat % 2 ^ 8 : Nat) : Int) = n by omega]
  exact ⟨a, rfl, by rw [List.length_map] at hl; omega⟩
end Go.Proofs.YtiipkeendfpddaaGreat.K

/- Sizes as the laws count them. Printed by gensz.py. -/
namespace Go.Proofs.YtiipkeendfpddaaGreat.K
open Go Go.RowKit
set_option linter.unusedVariables false
set_option linter.unusedSimpArgs false
def szCut (n : Nat) (left : Int) : Int := IntKind.i64.wrap (left - (n : Int))
def szLen (n : Nat) (left : Int) : Int := if IntKind.i64.wrap (left - (n : Int)) < 0 then -1 else IntKind.i64.wrap (left - (n : Int))
def szFold {α : Type} (f : α → Int → Int) : List α → Int → Int
  | [], left => left
  | a :: l, left => if f a left < 0 then -1 else szFold f l (f a left)
def szAll {α : Type} (f : α → Int → Int) (l : List α) (left : Int) : Int := if IntKind.i64.wrap (left - (l.length : Int)) < 0 then -1 else szFold f l (IntKind.i64.wrap (left - (l.length : Int)))
def szSeq : List (Int → Int) → Int → Int
  | [], left => left
  | f :: fs, left => if f left < 0 then -1 else szSeq fs (f left)
def Cnt (f : Int → Int) (p : Prop) : Prop := ∀ left, 0 ≤ left → left ≤ 1048576 → ¬ f left < 0 → f left ≤ left ∧ p
def StrsS (a : List Str) : Prop := a.length ≤ 1048576 ∧ ∀ s ∈ a, s.length ≤ 1048576
def szMail (x : Mail) : Int → Int := szSeq [szLen x.flags.length, szCut x.text.length]
def smMail (x : Mail) : Prop := (x.flags.length ≤ 1048576) ∧ (x.text.length ≤ 1048576)
def szBox (x : Box) : Int → Int := szSeq [szCut x.name.length, szAll szMail x.mails, szLen x.gone.length]
def smBox (x : Box) : Prop := (x.name.length ≤ 1048576) ∧ (x.mails.length ≤ 1048576 ∧ ∀ z ∈ x.mails, smMail z) ∧ (x.gone.length ≤ 1048576)
def szStore (x : Store) : Int → Int := szSeq [szAll szBox x.boxes, szLen x.gone.length]
def smStore (x : Store) : Prop := (x.boxes.length ≤ 1048576 ∧ ∀ z ∈ x.boxes, smBox z) ∧ (x.gone.length ≤ 1048576)
def szKept (x : Kept) : Int → Int := szSeq [szStore x.store, szCut x.journal.length]
def smKept (x : Kept) : Prop := (smStore x.store) ∧ (x.journal.length ≤ 1048576)
def szSession (x : Session) : Int → Int := szSeq [szCut x.inn.length, szCut x.out.length, szLen x.view.length]
def smSession (x : Session) : Prop := (x.inn.length ≤ 1048576) ∧ (x.out.length ≤ 1048576) ∧ (x.view.length ≤ 1048576)
def szServer (x : Server) : Int → Int := szSeq [szKept x.kept, szSession x.session]
def smServer (x : Server) : Prop := (smKept x.kept) ∧ (smSession x.session)
def szLetter (x : Letter) : Int → Int := szSeq [szCut x.text.length]
def smLetter (x : Letter) : Prop := (x.text.length ≤ 1048576)
def szLink_ (x : Link) : Int → Int := szSeq [szStrs x.way]
def smLink (x : Link) : Prop := (StrsS x.way)
def smSync (x : Sync) : Prop := (smLink x.link) ∧ (StrsS x.pieces)
def szPair (x : Pair) : Int → Int := szSeq [szAll szServer x.servers, szAll szSync x.syncs, szAll szLetter x.net]
def smPair (x : Pair) : Prop := (x.servers.length ≤ 1048576 ∧ ∀ z ∈ x.servers, smServer z) ∧ (x.syncs.length ≤ 1048576 ∧ ∀ z ∈ x.syncs, smSync z) ∧ (x.net.length ≤ 1048576 ∧ ∀ z ∈ x.net, smLetter z)
end Go.Proofs.YtiipkeendfpddaaGreat.K

/- What is right of stores, as plain data: what both programs ask. -/
namespace Go.Proofs.YtiipkeendfpddaaGreat.K
open Go Go.RowKit
set_option linter.unusedVariables false
set_option linter.unusedSimpArgs false
def allUp (n : Nat) (f : Nat → Bool) : Bool := (List.range n).all f
theorem allUp_no {n i : Nat} {f : Nat → Bool} (h : i < n) (hf : f i = false) : allUp n f = false := by
  unfold allUp
  rw [Bool.eq_false_iff]
  intro ha
  have := (List.all_eq_true.1 ha) i (List.mem_range.2 h)
  rw [hf] at this; cases this
theorem allUp_yes {n : Nat} {f : Nat → Bool} (h : ∀ k, k < n → f k = true) : allUp n f = true :=
  List.all_eq_true.2 fun k hk => h k (List.mem_range.1 hk)
theorem allUp_of {n : Nat} {f : Nat → Bool} (h : allUp n f = true) {k : Nat} (hk : k < n) : f k = true := List.all_eq_true.1 h k (List.mem_range.2 hk)
theorem up_next {i : Nat} {f : Nat → Bool} (h : ∀ k, k < i → f k = true) (hi : f i = true) : ∀ k, k < i + 1 → f k = true := by
  intro k hk
  rcases Nat.lt_or_ge k i with h1 | h1
  · exact h k h1
  · obtain rfl : k = i := by omega
    exact hi
def atB {α : Type} (l : List α) (p : α → Bool) (i : Nat) : Bool := match l[i]? with | some x => p x | none => true
theorem atB_get {α : Type} {l : List α} {p : α → Bool} {i : Nat} (h : i < l.length) : atB l p i = p l[i] := by unfold atB; rw [List.getElem?_eq_getElem h]
def stampOk (s : Stamp) : Bool := inR s.time 0 100000 && inR s.by_ 0 2
def regOk (r : Reg) : Bool := stampOk r.stamp && inR r.val 0 1000000000
def flagOk (r : Reg) : Bool := regOk r && decide (r.val ≤ 1)
def flagsOk (l : List Reg) : Bool := allUp l.length (atB l flagOk) && decide ((l.length : Int) = 3)
def nameB (b : UInt8) : Bool := (decide (97 ≤ b.toNat) && decide (b.toNat ≤ 122)) || (decide (48 ≤ b.toNat) && decide (b.toNat ≤ 57))
def nameOk (s : Str) : Bool := allUp s.length (atB s nameB) && inR (s.length : Int) 1 12
def gidOk (n : Int) : Bool := inR n 1 9999
def beforeB {α : Type} (l : List α) (p : α → α → Bool) (i : Nat) : Bool := match i with | 0 => true | j + 1 => (match l[j]?, l[j + 1]? with | some x, some y => p x y | _, _ => true)
theorem beforeB_get {α : Type} {l : List α} {p : α → α → Bool} {i : Nat} (h : i < l.length) (h0 : 0 < i) : beforeB l p i = p (l[i - 1]'M58) l[i] := by
  cases i with
  | zero => omega
  | succ j =>
    show (match l[j]?, l[j + 1]? with | some x, some y => p x y | _, _ => true) = _
    rw [List.getElem?_eq_getElem (show j < l.length by omega), List.getElem?_eq_getElem h]; rfl
def gidAt (l : List Int) (i : Nat) : Bool := atB l gidOk i && beforeB l (fun a b => decide (a < b)) i
def gidsOk (l : List Int) (most : Int) : Bool := allUp l.length (gidAt l) && decide ((l.length : Int) ≤ most)
def mailOk (m : Mail) : Bool := gidOk m.gid && gidOk m.uid && flagsOk m.flags && decide ((m.text.length : Int) ≤ 60)
def idxI (o : Option Nat) : Int := match o with | some i => (i : Int) | none => -1
theorem find_here {α : Type} {p : α → Bool} : ∀ {l : List α} {i : Nat} (hi : i < l.length), (∀ k (hk : k < l.length), k < i → p l[k] = false) → p l[i] = true → l.findIdx? p = some i
  | x :: l, 0, hi, h, hp => by rw [List.findIdx?_cons]; rw [show p x = true from hp]; rfl
  | x :: l, i + 1, hi, h, hp => by
    rw [List.findIdx?_cons, show p x = false from h 0 M119 M58]
    have := find_here (l := l) (i := i) (by simpa using hi) (fun k hk hki => h (k + 1) (by simpa using hk) M58) hp
    rw [this]; rfl
theorem find_none {α : Type} {p : α → Bool} : ∀ {l : List α}, (∀ k (hk : k < l.length), p l[k] = false) → l.findIdx? p = none
  | [], h => rfl
  | x :: l, h => by
    rw [List.findIdx?_cons, show p x = false from h 0 M119]
    rw [find_none (l := l) fun k hk => h (k + 1) (by simpa using hk)]; rfl
theorem no_next {α : Type} {l : List α} {p : α → Bool} {i : Nat} (h : ∀ k (hk : k < l.length), k < i → p l[k] = false) (hi : i < l.length) (hp : p l[i] = false) : ∀ k (hk : k < l.length), k < i + 1 → p l[k] = false := by
  intro k hk hki
  rcases Nat.lt_or_ge k i with h1 | h1
  · exact h k hk h1
  · obtain rfl : k = i := by omega
    exact hp
theorem find_some {α : Type} {p : α → Bool} : ∀ {l : List α} {i : Nat}, l.findIdx? p = some i → ∃ h : i < l.length, p l[i] = true
  | [], i, h => by cases h
  | x :: l, i, h => by
    rw [List.findIdx?_cons] at h
    by_cases hx : p x = true
    · rw [if_pos hx] at h
      obtain rfl := Option.some.inj h
      exact ⟨by simp, hx⟩
    · rw [if_neg hx] at h
      obtain ⟨j, hj, rfl⟩ := Option.map_eq_some_iff.1 h
      obtain ⟨h1, h2⟩ := find_some hj
      exact ⟨by simpa using h1, h2⟩
def hasGid (g : Int) (m : Mail) : Bool := decide (m.gid = g)
def mailAt (b : Box) (g : Int) : Option Nat := b.mails.findIdx? (hasGid g)
def boxIs (g : Int) (b : Box) : Bool := decide (b.gid = g)
def boxAt (s : Store) (g : Int) : Option Nat := s.boxes.findIdx? (boxIs g)
def isNamed (n : Str) (b : Box) : Bool := decide (b.name = n)
def boxNamed (s : Store) (n : Str) : Option Nat := s.boxes.findIdx? (isNamed n)
def mailFine (b : Box) (i : Nat) : Bool :=
  atB b.mails (fun m => mailOk m && decide (m.uid < b.next) && decide (idxI (mailAt b m.gid) = (i : Int)) && !decide (m.gid ∈ b.gone)) i && beforeB b.mails (fun x y => decide (x.uid < y.uid)) i
def boxHead (b : Box) : Bool := gidOk b.gid && nameOk b.name && stampOk b.named && inR b.next 1 10000 && decide ((b.mails.length : Int) ≤ 10) && gidsOk b.gone 40
def boxOk (b : Box) : Bool := boxHead b && allUp b.mails.length (mailFine b)
def lateR (t : Int) (r : Reg) : Bool := decide (r.stamp.time > t)
def lateM (t : Int) (m : Mail) : Bool := m.flags.any (lateR t)
def lateB (b : Box) (t : Int) : Bool := b.mails.any (lateM t) || decide (b.named.time > t)
def gidsL (l : List Box) : List Int := l.flatMap (fun b => b.mails.map Mail.gid)
def gidsK (l : List Box) (i k : Nat) : List Int := match l[i]? with | some b => (b.mails.take k).map Mail.gid | none => []
def seenG (s : Store) (i k : Nat) : List Int := gidsL (s.boxes.take i) ++ gidsK s.boxes i k
theorem seen_zero (s : Store) : seenG s 0 0 = [] := by
  unfold seenG gidsK gidsL
  split <;> simp
theorem seen_mail {s : Store} {i j : Nat} (hi : i < s.boxes.length) (hj : j < s.boxes[i].mails.length) : seenG s i (j + 1) = seenG s i j ++ [s.boxes[i].mails[j].gid] := by
  unfold seenG gidsK
  rw [List.getElem?_eq_getElem hi, List.append_assoc]
  show _ ++ (List.take (j + 1) _).map _ = _
  rw [List.take_succ_eq_append_getElem hj, List.map_append]; rfl
theorem seen_box {s : Store} {i : Nat} (hi : i < s.boxes.length) : seenG s (i + 1) 0 = seenG s i s.boxes[i].mails.length := by
  unfold seenG gidsK
  rw [List.getElem?_eq_getElem hi]
  show gidsL (s.boxes.take (i + 1)) ++ _ = _ ++ (List.take _ _).map _
  rw [List.take_length, List.take_succ_eq_append_getElem hi]
  unfold gidsL
  rw [List.flatMap_append]
  split <;> simp
theorem gidsL_len {l : List Box} {n : Nat} (h : ∀ b ∈ l, b.mails.length ≤ n) : (gidsL l).length ≤ l.length * n := by
  induction l with
  | nil => simp [gidsL]
  | cons b l ih =>
    have h1 := h b (List.mem_cons_self ..)
    have h2 := ih fun x hx => h x (List.mem_cons_of_mem _ hx)
    unfold gidsL at *
    rw [List.flatMap_cons, List.length_append, List.length_map, List.length_cons, Nat.succ_mul]
    omega
theorem seen_len {s : Store} {i j : Nat} (h : smStore s) (hi : i < s.boxes.length) (hj : j < s.boxes[i].mails.length) : (seenG s i j).length ≤ 1099512676352 := by
  unfold seenG gidsK
  rw [List.getElem?_eq_getElem hi]
  show (_ ++ (List.take j _).map _).length ≤ _
  rw [List.length_append, List.length_map, List.length_take]
  have g1 := gidsL_len (l := s.boxes.take i) (n := 1048576) (fun x hx => (h.1.2 x (List.mem_of_mem_take hx)).2.1.1)
  have g2 : (s.boxes.take i).length ≤ 1048576 := by rw [List.length_take]; have := h.1.1; omega
  have g3 := (h.1.2 _ (List.getElem_mem hi)).2.1.1
  have g4 : (s.boxes.take i).length * 1048576 ≤ 1048576 * 1048576 := Nat.mul_le_mul_right _ g2
  omega
def newAt (s : Store) (i k : Nat) : Bool := match s.boxes[i]? with | some b => atB b.mails (fun m => !decide (m.gid ∈ seenG s i k)) k | none => true
theorem newAt_get {s : Store} {i j : Nat} (hi : i < s.boxes.length) (hj : j < s.boxes[i].mails.length) : newAt s i j = !decide (s.boxes[i].mails[j].gid ∈ seenG s i j) := by
  unfold newAt; rw [List.getElem?_eq_getElem hi]; exact atB_get hj
def boxNew (s : Store) (i : Nat) : Bool := match s.boxes[i]? with | some b => allUp b.mails.length (newAt s i) | none => true
theorem boxNew_get {s : Store} {i : Nat} (hi : i < s.boxes.length) : boxNew s i = allUp s.boxes[i].mails.length (newAt s i) := by
  unfold boxNew; rw [List.getElem?_eq_getElem hi]
theorem mailFine_at {b : Box} {i : Nat} (h : i < b.mails.length) : mailFine b i = (mailOk b.mails[i] && decide (b.mails[i].uid < b.next) && decide (idxI (mailAt b b.mails[i].gid) = (i : Int)) && !decide (b.mails[i].gid ∈ b.gone) && beforeB b.mails (fun x y => decide (x.uid < y.uid)) i) := by
  unfold mailFine; rw [atB_get h]
def boxFine (s : Store) (i : Nat) : Bool :=
  atB s.boxes (fun b => boxOk b && decide (idxI (boxNamed s b.name) = (i : Int)) && !decide (b.gid ∈ s.gone) && !lateB b s.time) i && beforeB s.boxes (fun x y => decide (x.gid < y.gid)) i
theorem boxFine_at {s : Store} {i : Nat} (h : i < s.boxes.length) : boxFine s i = (boxOk s.boxes[i] && decide (idxI (boxNamed s s.boxes[i].name) = (i : Int)) && !decide (s.boxes[i].gid ∈ s.gone) && !lateB s.boxes[i] s.time && beforeB s.boxes (fun x y => decide (x.gid < y.gid)) i) := by
  unfold boxFine; rw [atB_get h]
def storeHead (s : Store) : Bool := inR s.by_ 1 2 && inR s.time 0 100000 && decide ((s.boxes.length : Int) ≤ 5) && gidsOk s.gone 20
def boxGood (s : Store) (i : Nat) : Bool := boxFine s i && boxNew s i
def storeOk (s : Store) : Bool := storeHead s && allUp s.boxes.length (boxGood s)
def regT (r : Reg) : Str := varT r.val.toNat ++ varT r.stamp.time.toNat ++ varT r.stamp.by_.toNat
def mailT (m : Mail) : Str := varT m.gid.toNat ++ varT m.uid.toNat ++ m.flags.flatMap regT ++ (varT m.text.length ++ m.text)
def goneT (l : List Int) : Str := varT l.length ++ l.flatMap (fun g => varT g.toNat)
def boxT (b : Box) : Str := varT b.gid.toNat ++ (varT b.name.length ++ b.name) ++ varT b.named.time.toNat ++ varT b.named.by_.toNat ++ varT b.next.toNat ++ varT b.mails.length ++ b.mails.flatMap mailT ++ goneT b.gone
def storeB (s : Store) : Str := varT s.by_.toNat ++ varT s.time.toNat ++ varT s.boxes.length ++ s.boxes.flatMap boxT ++ goneT s.gone
def storeText (s : Store) : Option Str := if storeOk s = true then sealed (storeB s) else none
end Go.Proofs.YtiipkeendfpddaaGreat.K

/- Rows of copies and of zeros. -/
namespace Go.Proofs.YtiipkeendfpddaaGreat.K
open Go Go.RowKit
set_option linter.unusedVariables false
set_option linter.unusedSimpArgs false
abbrev zcI : List V := [.int .i64 0]
abbrev zcT : List V := [.str []]
abbrev zcReg : List V := [.int .i64 0, .int .i64 0, .int .i64 0]
abbrev zcMail : List V := [.int .i64 0, .int .i64 0, .nil 3, .str []]
abbrev zcBox : List V := [.int .i64 0, .str [], .int .i64 0, .int .i64 0, .int .i64 0, .nil 4, .nil 1]
abbrev zcLetter : List V := [.int .i64 0, .str []]
abbrev zcSync : List V := [.int .i64 0, .int .i64 0, .nil 1, .int .i64 0, .int .i64 0, .int .i64 0, .nil 1, .bool false, .bool false]
abbrev zcServer : List V := [.int .i64 0, .int .i64 0, .nil 7, .nil 1, .str [], .int .i64 0, .str [], .str [], .bool false, .bool false, .int .i64 0, .nil 1, .bool false]
end Go.Proofs.YtiipkeendfpddaaGreat.K

/- Walks: sizes, copies, comparisons of all data. Printed by w2.py. -/
namespace Go.Proofs.YtiipkeendfpddaaGreat.K
open Go Go.RowKit
set_option linter.unusedVariables false
set_option linter.unusedSimpArgs false
set_option maxHeartbeats 4000000
set_option maxRecDepth 20000
end Go.Proofs.YtiipkeendfpddaaGreat.K

/- What a server and a pair show: plain functions. -/
namespace Go.Proofs.YtiipkeendfpddaaGreat.K
open Go Go.RowKit
set_option linter.unusedVariables false
set_option linter.unusedSimpArgs false
section
variable {P : Program} {ti : Tab} {ops : Array Oper} {o : Oper} {l : List Oper} {t t' h h' : List V} {n n' : Nat} {Q : Exit → List V → List V → Nat → Prop}
theorem TOps.append {T e : TypeId} {i : TInfo} {s x : Operand} {L off : Nat} {es es2 es3 : List (List V)} {s1 b1 : Nat} {z1 : List V} (hti : TabOk P ti) (hg : o.guard = none) (ho : o.op = .call ⟨.builtin .append, #[s, x], #[T, T]⟩) (hT : ti T = some ⟨.slice e, s1, b1, z1⟩) (he : ti e = some i)
    (hi : 0 < i.size) (hz : i.zero.length = i.size) (hs : opnd t s = .sl L i.size off es) (hx : (∃ L2 off2, opnd t x = .sl L2 i.size off2 es2) ∨ (es2 = [] ∧ ∃ q, opnd t x = .nil q)) (hL : L ≠ 0) (hLn : L < n)
    (hb : (es.length + es2.length) * i.bytes ≤ 140737488355328) (hb2 : es.length + es2.length ≤ 9223372036854775807) (hone : ∀ e ∈ es2, ∀ y ∈ e, V.one y = true) (he3 : V.killLL L (es ++ es2) = es3) (ht : putV (V.killL L t) o.dst (.sl L i.size 0 es3) = t') (hh : V.killL L h = h')
    (hk : TOps P ops [] Q l t' h' n) : TOps P ops [] Q (o :: l) t h n :=
  TOps.ok h' hg (ht ▸ hh ▸ he3 ▸ ok_append hti hT he hi hz ho hs hx hL hLn hb hb2 hone) hk
end
def fig (d : Nat) : UInt8 := if d < 10 then UInt8.ofNat (48 + d) else UInt8.ofNat (87 + d)
abbrev figT : Str := [48,49,50,51,52,53,54,55,56,57,97,98,99,100,101,102]
def dg (v : Int) : Nat := (v.tmod 10).natAbs
theorem wrap_abs (x : Int) : (IntKind.i64.wrap x).natAbs ≤ x.natAbs := by rw [IntKind.wrap_i64]; omega
theorem quo_abs (v : Int) : (IntKind.i64.wrap (v.tdiv 10)).natAbs ≤ v.natAbs / 10 := by
  have h := wrap_abs (v.tdiv 10)
  rw [Int.natAbs_tdiv] at h
  exact h
def decV (v : Int) (acc : Str) : Str := if h : v = 0 then acc else decV (IntKind.i64.wrap (v.tdiv 10)) (fig (dg v) :: acc)
termination_by v.natAbs
decreasing_by have := quo_abs v; omega
def decimal (v : Int) : Str := if v = 0 then [48] else if v < 0 then 45 :: decV v [] else decV v []
def numS (v : Int) : Str := decimal (if v > 0 then v else 0)
def hexC (c : UInt8) : Str := [fig (c.toNat / 16), fig (c.toNat % 16)]
def hexL (s : Str) : Str := s.flatMap hexC
theorem flat_next {α : Type} {f : α → Str} {a : List α} {i : Nat} (h : i < a.length) : (a.take (i + 1)).flatMap f = (a.take i).flatMap f ++ f a[i] := by
  rw [List.take_succ_eq_append_getElem h, List.flatMap_append]
  simp
def hexS (s : Str) : Str := if s.length > 20000 then [] else hexL s
def flB (r : Reg) : Nat := (r.val % 2).toNat
def flN : Nat → List Reg → Nat
  | _, [] => 0
  | i, r :: l => flB r * 2 ^ i + flN (i + 1) l
def mailS (m : Mail) : Str := [32] ++ numS m.uid ++ [32] ++ decimal (flN 0 (m.flags.take 3) : Int) ++ [32] ++ hexS m.text ++ [10]
def boxH (b : Box) : Str := b.name ++ [32] ++ numS b.next ++ [10]
def boxS (b : Box) : Str := boxH b ++ b.mails.flatMap mailS
def saidS (s : Store) : Str := s.boxes.flatMap boxS
def serverS (v : Server) : Str := [115,101,114,118,101,114,32] ++ numS v.kept.store.by_ ++ [32] ++ (if v.up then [117,112] else [100,111,119,110]) ++ [10] ++ saidS v.kept.store
theorem min2 {n : Nat} : (if (n : Int) < 2 then (n : Int) else 2) = ((min 2 n : Nat) : Int) := by split <;> omega
def pairS (p : Pair) (b : Bool) : Str := (p.servers.take 2).flatMap serverS ++ (if b then [97,103,114,101,101,10] else [97,112,97,114,116,10])
end Go.Proofs.YtiipkeendfpddaaGreat.K

/- Texts of what is right: how long they are. -/
namespace Go.Proofs.YtiipkeendfpddaaGreat.K
open Go Go.RowKit
set_option linter.unusedVariables false
set_option linter.unusedSimpArgs false
theorem flat_le {α : Type} {f : α → Str} {k : Nat} : ∀ {l : List α}, (∀ a ∈ l, (f a).length ≤ k) → (l.flatMap f).length ≤ l.length * k
  | [], _ => by simp
  | a :: l, h => by
    have h1 := h a (List.mem_cons_self ..)
    have h2 := flat_le (l := l) fun b hb => h b (List.mem_cons_of_mem _ hb)
    rw [List.flatMap_cons, List.length_append, List.length_cons, Nat.succ_mul]
    omega
theorem stampOk_is {s : Stamp} (h : stampOk s = true) : 0 ≤ s.time ∧ s.time ≤ 100000 ∧ 0 ≤ s.by_ ∧ s.by_ ≤ 2 := by
  simp only [stampOk, Bool.and_eq_true, inR_t] at h
  omega
theorem regOk_is {r : Reg} (h : regOk r = true) : 0 ≤ r.val ∧ r.val ≤ 1000000000 ∧ 0 ≤ r.stamp.time ∧ r.stamp.time ≤ 100000 ∧ 0 ≤ r.stamp.by_ ∧ r.stamp.by_ ≤ 2 := by
  simp only [regOk, Bool.and_eq_true, inR_t] at h
  have := stampOk_is h.1
  omega
theorem flagOk_is {r : Reg} (h : flagOk r = true) : regOk r = true ∧ r.val ≤ 1 := by
  simp only [flagOk, Bool.and_eq_true, decide_eq_true_eq] at h
  exact h
theorem atB_all {α : Type} {l : List α} {p : α → Bool} (h : ∀ k, k < l.length → atB l p k = true) : ∀ a ∈ l, p a = true := by
  intro a ha
  obtain ⟨i, hi, rfl⟩ := List.mem_iff_getElem.1 ha
  exact (atB_get (p := p) hi).symm.trans (h i hi)
theorem flagsOk_is {l : List Reg} (h : flagsOk l = true) : (∀ r ∈ l, flagOk r = true) ∧ l.length = 3 := by
  simp only [flagsOk, Bool.and_eq_true, decide_eq_true_eq] at h
  exact ⟨atB_all fun k hk => allUp_of h.1 hk, by omega⟩
theorem gidOk_is {n : Int} (h : gidOk n = true) : 1 ≤ n ∧ n ≤ 9999 := inR_t.1 h
theorem gidsOk_is {l : List Int} {m : Int} (h : gidsOk l m = true) : (∀ g ∈ l, 1 ≤ g ∧ g ≤ 9999) ∧ (l.length : Int) ≤ m := by
  simp only [gidsOk, Bool.and_eq_true, decide_eq_true_eq] at h
  refine ⟨fun g hg => gidOk_is (atB_all (p := gidOk) (fun k hk => ?_) g hg), h.2⟩
  have := allUp_of h.1 hk
  simp only [gidAt, Bool.and_eq_true] at this
  exact this.1
theorem mailOk_is {m : Mail} (h : mailOk m = true) : (1 ≤ m.gid ∧ m.gid ≤ 9999) ∧ (1 ≤ m.uid ∧ m.uid ≤ 9999) ∧ (∀ r ∈ m.flags, flagOk r = true) ∧ m.flags.length = 3 ∧ m.text.length ≤ 60 := by
  simp only [mailOk, Bool.and_eq_true, decide_eq_true_eq] at h
  exact ⟨gidOk_is h.1.1.1, gidOk_is h.1.1.2, (flagsOk_is h.1.2).1, (flagsOk_is h.1.2).2, by omega⟩
theorem varI_len {z : Int} (h : z ≤ 1000000000) : (varT z.toNat).length ≤ 5 := varT_len5 M58
theorem regT_len {r : Reg} (h : regOk r = true) : (regT r).length ≤ 15 := by
  have h0 := regOk_is h
  have h1 := varI_len (z := r.val) M58
  have h2 := varI_len (z := r.stamp.time) M58
  have h3 := varI_len (z := r.stamp.by_) M58
  simp only [regT, List.length_append]; omega
theorem regs_len {l : List Reg} (h : ∀ r ∈ l, flagOk r = true) : (l.flatMap regT).length ≤ l.length * 15 := flat_le fun r hr => regT_len (flagOk_is (h r hr)).1
theorem mailT_len {m : Mail} (h : mailOk m = true) : (mailT m).length ≤ 200 := by
  obtain ⟨h1, h2, h3, h4, h5⟩ := mailOk_is h
  have q1 := varI_len (z := m.gid) M58
  have q2 := varI_len (z := m.uid) M58
  have q3 := regs_len h3
  have q4 := varT_len5 (n := m.text.length) M58
  simp only [mailT, List.length_append]; omega
def gT (g : Int) : Str := varT g.toNat
theorem gT_len {g : Int} (h : g ≤ 9999) : (gT g).length ≤ 5 := varI_len M58
theorem goneT_eq (l : List Int) : goneT l = varT l.length ++ l.flatMap gT := rfl
theorem gone_len {l : List Int} (h : ∀ g ∈ l, 1 ≤ g ∧ g ≤ 9999) : (l.flatMap gT).length ≤ l.length * 5 := flat_le fun g hg => gT_len (h g hg).2
theorem boxOk_is {b : Box} (h : boxOk b = true) : (1 ≤ b.gid ∧ b.gid ≤ 9999) ∧ b.name.length ≤ 12 ∧ (0 ≤ b.named.time ∧ b.named.time ≤ 100000 ∧ 0 ≤ b.named.by_ ∧ b.named.by_ ≤ 2) ∧ (1 ≤ b.next ∧ b.next ≤ 10000) ∧ b.mails.length ≤ 10 ∧ (∀ m ∈ b.mails, mailOk m = true) ∧ (∀ g ∈ b.gone, 1 ≤ g ∧ g ≤ 9999) ∧ b.gone.length ≤ 40 := by
  simp only [boxOk, boxHead, Bool.and_eq_true, decide_eq_true_eq, inR_t] at h
  obtain ⟨⟨⟨⟨⟨⟨h1, h2⟩, h3⟩, h4⟩, h5⟩, h6⟩, h7⟩ := h
  have g := gidsOk_is h6
  simp only [nameOk, Bool.and_eq_true, inR_t] at h2
  refine ⟨gidOk_is h1, by omega, stampOk_is h3, h4, by omega, fun m hm => ?_, g.1, by omega⟩
  obtain ⟨i, hi, rfl⟩ := List.mem_iff_getElem.1 hm
  have := allUp_of h7 hi
  rw [mailFine_at hi] at this
  simp only [Bool.and_eq_true] at this
  exact this.1.1.1.1
theorem mails_le {l : List Mail} (h : ∀ m ∈ l, mailOk m = true) : (l.flatMap mailT).length ≤ l.length * 200 := flat_le fun m hm => mailT_len (h m hm)
theorem boxT_len {b : Box} (h : boxOk b = true) : (boxT b).length ≤ 3000 := by
  obtain ⟨h1, h2, h3, h4, h5, h6, h7, h8⟩ := boxOk_is h
  have q1 := varI_len (z := b.gid) M58
  have q2 := varI_len (z := b.named.time) M58
  have q3 := varI_len (z := b.named.by_) M58
  have q4 := varI_len (z := b.next) M58
  have q5 := varT_len5 (n := b.name.length) M58
  have q6 := varT_len5 (n := b.mails.length) M58
  have q7 := varT_len5 (n := b.gone.length) M58
  have q8 := mails_le h6
  have q9 := gone_len h7
  simp only [boxT, goneT_eq, List.length_append]; omega
theorem storeOk_is {s : Store} (h : storeOk s = true) : (1 ≤ s.by_ ∧ s.by_ ≤ 2) ∧ (0 ≤ s.time ∧ s.time ≤ 100000) ∧ s.boxes.length ≤ 5 ∧ (∀ b ∈ s.boxes, boxOk b = true) ∧ (∀ g ∈ s.gone, 1 ≤ g ∧ g ≤ 9999) ∧ s.gone.length ≤ 20 := by
  simp only [storeOk, storeHead, Bool.and_eq_true, decide_eq_true_eq, inR_t] at h
  obtain ⟨⟨⟨⟨h1, h2⟩, h3⟩, h4⟩, h5⟩ := h
  have g := gidsOk_is h4
  refine ⟨h1, h2, by omega, fun b hb => ?_, g.1, by omega⟩
  obtain ⟨i, hi, rfl⟩ := List.mem_iff_getElem.1 hb
  have := allUp_of h5 hi
  simp only [boxGood, Bool.and_eq_true] at this
  have := this.1
  rw [boxFine_at hi] at this
  simp only [Bool.and_eq_true] at this
  exact this.1.1.1.1
theorem boxes_le {l : List Box} (h : ∀ b ∈ l, boxOk b = true) : (l.flatMap boxT).length ≤ l.length * 3000 := flat_le fun b hb => boxT_len (h b hb)
theorem storeB_len {s : Store} (h : storeOk s = true) : (storeB s).length ≤ 16000 := by
  obtain ⟨h1, h2, h3, h4, h5, h6⟩ := storeOk_is h
  have q1 := varI_len (z := s.by_) M58
  have q2 := varI_len (z := s.time) M58
  have q3 := varT_len5 (n := s.boxes.length) M58
  have q4 := varT_len5 (n := s.gone.length) M58
  have q5 := boxes_le h4
  have q6 := gone_len h5
  simp only [storeB, goneT_eq, List.length_append]; omega
theorem storeText_no {s : Store} (h : storeOk s = false) : storeText s = none := by unfold storeText; rw [h]; rfl
theorem storeText_ok {s : Store} (h : storeOk s = true) : storeText s = sealed (storeB s) := if_pos h
theorem storeText_yes {s : Store} (h : storeOk s = true) : storeText s = some (sealT (storeB s)) := by
  have := storeB_len h
  unfold storeText; rw [if_pos h]; unfold sealed; rw [if_neg M58]
def mailText (m : Mail) : Option Str := if mailOk m = true then some (mailT m) else none
theorem mailText_no {m : Mail} (h : mailOk m = false) : mailText m = none := by unfold mailText; rw [h]; rfl
theorem mailText_yes {m : Mail} (h : mailOk m = true) : mailText m = some (mailT m) := if_pos h
def boxText (b : Box) : Option Str := if boxOk b = true then some (boxT b) else none
theorem boxText_no {b : Box} (h : boxOk b = false) : boxText b = none := by unfold boxText; rw [h]; rfl
theorem boxText_yes {b : Box} (h : boxOk b = true) : boxText b = some (boxT b) := if_pos h
theorem varsZ_flat : ∀ l : List Int, varsZ l = l.flatMap gT
  | [] => rfl
  | z :: l => by rw [List.flatMap_cons, ← varsZ_flat l]; rfl
theorem in9 {z : Int} (h : 0 ≤ z ∧ z ≤ 1000000000) : inR z 0 1000000000 = true := inR_t.2 h
end Go.Proofs.YtiipkeendfpddaaGreat.K

/- Plain laws: texts cut into pieces, syncs begun. -/
namespace Go.Proofs.YtiipkeendfpddaaGreat.K
open Go Go.RowKit
def pieceT (t : Str) (k : Nat) : Str := (t.drop (120 * k)).take 120
def pieceN (t : Str) : Nat := (t.length + 119) / 120
def piecesT (t : Str) (i : Nat) : List Str := (List.range i).map (pieceT t)
theorem pieces_next (t : Str) (i : Nat) : piecesT t (i + 1) = piecesT t i ++ [pieceT t i] := by
  unfold piecesT; rw [List.range_succ, List.map_append]; rfl
theorem pieces_len (t : Str) (i : Nat) : (piecesT t i).length = i := by simp [piecesT]
theorem pieces_get {t : Str} {i n : Nat} (h : i < n) : (piecesT t n)[i]? = some (pieceT t i) := by
  simp [piecesT, h]
theorem pieces_getE {t : Str} {i n : Nat} {h : i < (piecesT t n).length} : (piecesT t n)[i] = pieceT t i := by simp [piecesT]
theorem piece_len (t : Str) (k : Nat) : (pieceT t k).length ≤ 120 := by unfold pieceT; rw [List.length_take]; omega
theorem piece_min (t : Str) (i : Nat) : (if (t.length : Int) < ((120 * i + 120 : Nat) : Int) then (t.length : Int) else ((120 * i + 120 : Nat) : Int)) = ((min (120 * i + 120) t.length : Nat) : Int) := by split <;> omega
theorem piece_cut {t : Str} {i b : Nat} (h : min b t.length = min (120 * i + 120) t.length) : (t.take b).drop (120 * i) = pieceT t i := by
  unfold pieceT
  rw [List.drop_take, List.take_eq_take_iff, List.length_drop]; omega
theorem pieceN_lt {t : Str} {k : Nat} (h : 120 * k < t.length) : k < pieceN t := by unfold pieceN; omega
theorem pieceN_ge {t : Str} {k : Nat} (h : ¬ 120 * k < t.length) (h2 : k ≤ pieceN t) : k = pieceN t := by unfold pieceN at *; omega
theorem piece_pos {t : Str} {k : Nat} (h : k < pieceN t) : 1 ≤ (pieceT t k).length := by
  unfold pieceT pieceN at *; rw [List.length_take, List.length_drop]; omega
def begH (t : Str) : Str := 84 :: varT (pieceN t)
def begT (t : Str) (i : Nat) : List Str := begH t :: (piecesT t i).map (fun p => 80 :: p)
theorem begT_len (t : Str) (i : Nat) : (begT t i).length = i + 1 := by simp [begT, pieces_len]
theorem begT_next (t : Str) (i : Nat) : begT t (i + 1) = begT t i ++ [80 :: pieceT t i] := by simp [begT, pieces_next]
def begL (e : Int) (t : Str) (i : Nat) : Link := ⟨e, (begT t i).take 60, 1, 1⟩
theorem begL_way (e : Int) (t : Str) (i : Nat) : (begL e t i).way.length ≤ 60 := by show ((begT t i).take 60).length ≤ 60; rw [List.length_take]; omega
theorem beg_put0 (e : Int) {t : Str} (h : pieceN t ≤ 1000) : linkPut ⟨e, [], 1, 1⟩ (begH t) = (begL e t 0, true) := by
  have q := varT_len5 (n := pieceN t) M58
  rw [linkPut_f]
  · simp [begL, begT, piecesT]
  · unfold linkFull
    rw [Bool.or_eq_false_iff]
    refine ⟨by simp, ?_⟩
    have : inR ((begH t).length : Int) 1 400 = true := inR_t.2 (by unfold begH; rw [List.length_cons]; omega)
    rw [this]; rfl
theorem beg_put (e : Int) (t : Str) (i : Nat) : linkPut (begL e t i) (80 :: pieceT t i) = (begL e t (i + 1), decide (i + 1 < 60)) := by
  have q := piece_len t i
  have hl : ((begT t i).take 60).length = min 60 (i + 1) := by rw [List.length_take, begT_len]
  by_cases hi : i + 1 < 60
  · rw [linkPut_f, decide_eq_true hi]
    · unfold begL
      rw [List.take_of_length_le (by rw [begT_len]; omega), List.take_of_length_le (by rw [begT_len]; omega), begT_next]
    · unfold linkFull
      rw [Bool.or_eq_false_iff]
      refine ⟨decide_eq_false (by show ¬ (((begT t i).take 60).length : Int) ≥ 60; rw [hl]; omega), ?_⟩
      have : inR ((80 :: pieceT t i : Str).length : Int) 1 400 = true := inR_t.2 (by rw [List.length_cons]; omega)
      rw [this]; rfl
  · rw [linkPut_t, decide_eq_false hi]
    · unfold begL
      rw [begT_next, List.take_append_of_le_length (by rw [begT_len]; omega)]
    · unfold linkFull
      rw [Bool.or_eq_true]
      exact .inl (decide_eq_true (by show (((begT t i).take 60).length : Int) ≥ 60; rw [hl]; omega))
def zSync : Sync := ⟨0, ⟨0, [], 0, 0⟩, 0, [], false, false⟩
def stT (s : Store) : Str := (storeText s).getD []
def begOk (s : Store) : Bool := (storeText s).isSome && decide (pieceN (stT s) < 60)
def begY (s : Store) (e : Int) : Sync := if begOk s = true then { zSync with epoch := e, link := begL e (stT s) (pieceN (stT s)) } else zSync
theorem begY_no {s : Store} (e : Int) (h : begOk s = false) : begY s e = zSync := if_neg M124
theorem begY_yes {s : Store} (e : Int) (h : begOk s = true) : begY s e = { zSync with epoch := e, link := begL e (stT s) (pieceN (stT s)) } := if_pos h
theorem sealT_len (s : Str) : (sealT s).length ≤ s.length + 4 := by
  unfold sealT; rw [List.length_append]; have : (fourT (sumOf s)).length = 4 := rfl; omega
theorem stT_len (s : Store) : (stT s).length ≤ 16004 := by
  unfold stT
  cases hk : storeOk s with
  | false => rw [storeText_no hk]; simp
  | true => rw [storeText_yes hk]; have := storeB_len hk; have := sealT_len (storeB s); simp only [Option.getD_some]; omega
end Go.Proofs.YtiipkeendfpddaaGreat.K

/- Plain: syncs that hear. -/
namespace Go.Proofs.YtiipkeendfpddaaGreat.K
open Go Go.RowKit
set_option linter.unusedVariables false
def isB (b : UInt8) (t : Str) : Bool := match t with | x :: _ => decide (x = b) | [] => false
def tellT (t : Str) : Option Nat := match readVar t 1 with | some (n, e) => if e = t.length ∧ 1 ≤ n then some n else none | none => none
def syncDone (o : Sync) : Sync × Str := if o.total = 0 ∨ (o.pieces.length : Int) ≠ o.total then (o, []) else (o, o.pieces.flatten)
def syncText (o : Sync) (t : Str) : Sync × Str :=
  if isB 84 t = true then (match tellT t with | some n => syncDone { o with total := (n : Int) } | none => ({ o with failed := true }, []))
  else if isB 80 t = true then syncDone { o with pieces := o.pieces ++ [t.drop 1] } else ({ o with failed := true }, [])
def syncHears (y : Sync) (p : Packet) : Sync × Str :=
  if (linkHears y.link p).2.2 = true then syncText { y with link := (linkHears y.link p).1 } (linkHears y.link p).2.1 else ({ y with link := (linkHears y.link p).1 }, [])
abbrev vYS (r : Sync × Str) : V := .tup [.agg (cSync r.1), .str r.2]
theorem isB84 {T : Str} (h : 0 < T.length) : decide ((T[0].toNat : Int) = 84) = isB 84 T := by
  cases T with
  | nil => cases h
  | cons x r =>
    show decide ((x.toNat : Int) = 84) = decide (x = 84)
    refine decide_eq_decide.2 ⟨fun e => UInt8.toNat_inj.1 (by show _ = 84; omega), fun e => by rw [e]; rfl⟩
theorem isB80 {T : Str} (h : 0 < T.length) : decide ((T[0].toNat : Int) = 80) = isB 80 T := by
  cases T with
  | nil => cases h
  | cons x r =>
    show decide ((x.toNat : Int) = 80) = decide (x = 80)
    refine decide_eq_decide.2 ⟨fun e => UInt8.toNat_inj.1 (by show _ = 80; omega), fun e => by rw [e]; rfl⟩
theorem isB_cond {b : UInt8} {t : Str} : isB b t = true ↔ ∃ r, t = b :: r := by
  cases t with
  | nil => simp [isB]
  | cons x r => simp [isB]
theorem flat_take {l : List Str} {i : Nat} (h : i < l.length) : (l.take (i + 1)).flatten = (l.take i).flatten ++ l[i] := by
  rw [List.take_succ_eq_append_getElem h, List.flatten_append]; simp
theorem flatT_le {l : List Str} (i : Nat) : (l.take i).flatten.length ≤ l.flatten.length := by
  conv => rhs; rw [← List.take_append_drop i l, List.flatten_append, List.length_append]
  omega
theorem linkHears_text (l : Link) (p : Packet) : (linkHears l p).2.1.length ≤ p.text.length := by
  unfold linkHears
  split
  · simp
  · simp only []
    split <;> simp
theorem syncHears_no {y : Sync} {p : Packet} {L : Link} {T : Str} (h : linkHears y.link p = (L, T, false)) : syncHears y p = ({ y with link := L }, []) := by unfold syncHears; rw [h]; rfl
theorem syncHears_yes {y : Sync} {p : Packet} {L : Link} {T : Str} (h : linkHears y.link p = (L, T, true)) : syncHears y p = syncText { y with link := L } T := by unfold syncHears; rw [h]; rfl
theorem syncText_T {o : Sync} {t : Str} {n : Nat} (h : isB 84 t = true) (ht : tellT t = some n) : syncText o t = syncDone { o with total := (n : Int) } := by unfold syncText; rw [if_pos h, ht]
theorem syncText_F {o : Sync} {t : Str} (h : isB 84 t = true) (ht : tellT t = none) : syncText o t = ({ o with failed := true }, []) := by unfold syncText; rw [if_pos h, ht]
theorem syncText_P {o : Sync} {t : Str} (h : isB 84 t = false) (h2 : isB 80 t = true) : syncText o t = syncDone { o with pieces := o.pieces ++ [t.drop 1] } := by unfold syncText; rw [if_neg M124, if_pos h2]
theorem syncText_X {o : Sync} {t : Str} (h : isB 84 t = false) (h2 : isB 80 t = false) : syncText o t = ({ o with failed := true }, []) := by unfold syncText; rw [if_neg M124, if_neg (by simp [h2])]
def tellB (t : Str) : Bool := !(readVar t 1).isSome || !decide ((((readVar t 1).getD (0, 0)).2 : Int) = (t.length : Int)) || decide ((((readVar t 1).getD (0, 0)).1 : Int) < 1)
theorem tell_no {t : Str} (h : tellB t = true) : tellT t = none := by
  unfold tellB at h
  unfold tellT
  cases hr : readVar t 1 with
  | none => rfl
  | some r =>
    obtain ⟨n, e⟩ := r
    rw [hr] at h
    simp only [Option.isSome_some, Option.getD_some, Bool.not_true, Bool.false_or, Bool.or_eq_true, Bool.not_eq_true', decide_eq_false_iff_not, decide_eq_true_eq] at h
    show (if e = t.length ∧ 1 ≤ n then some n else none) = none
    rw [if_neg]
    rintro ⟨h1, h2⟩
    rcases h with h | h
    · exact h (by rw [h1])
    · omega
theorem tell_yes {t : Str} (h : tellB t = false) : tellT t = some ((readVar t 1).getD (0, 0)).1 := by
  unfold tellB at h
  unfold tellT
  cases hr : readVar t 1 with
  | none => rw [hr] at h; simp at h
  | some r =>
    obtain ⟨n, e⟩ := r
    rw [hr] at h
    simp only [Option.isSome_some, Option.getD_some, Bool.not_true, Bool.false_or, Bool.or_eq_false_iff, Bool.not_eq_false', decide_eq_true_eq, decide_eq_false_iff_not] at h
    show (if e = t.length ∧ 1 ≤ n then some n else none) = _
    rw [if_pos ⟨by omega, by omega⟩]; rfl
def doneB (o : Sync) : Bool := decide (o.total = 0) || !decide ((o.pieces.length : Int) = o.total)
theorem done_no {o : Sync} (h : doneB o = true) : syncDone o = (o, []) := by
  unfold doneB at h
  simp only [Bool.or_eq_true, Bool.not_eq_true', decide_eq_false_iff_not, decide_eq_true_eq] at h
  exact if_pos h
theorem done_yes {o : Sync} (h : doneB o = false) : syncDone o = (o, o.pieces.flatten) := by
  unfold doneB at h
  simp only [Bool.or_eq_false_iff, Bool.not_eq_false', decide_eq_true_eq, decide_eq_false_iff_not] at h
  exact if_neg (by rintro (h1 | h1); exact h.1 h1; exact h1 h.2)
end Go.Proofs.YtiipkeendfpddaaGreat.K

/- Draws of packets and links: plain functions. Calls that turn one array and take memory of their own. -/
namespace Go.Proofs.YtiipkeendfpddaaGreat.K
open Go Go.RowKit
set_option linter.unusedVariables false
set_option linter.unusedSimpArgs false
section
variable {P : Program} {ti : Tab} {n n' : Nat} {t t' h h' : List V} {Q : Exit → List V → List V → Nat → Prop} {ops : Array Oper} {o : Oper} {l : List Oper}
end
section
variable {P : Program} {ti : Tab} {n : Nat} {t h : List V} {Q : Exit → List V → List V → Nat → Prop}
theorem Ok.loopHN {τ : Type} {c : Code} {F : τ → List V} (W : τ → List (Nat × V)) (dead : List Nat) (hF : ∀ x, overW (W x) (overD dead t) = F x) (H : τ → List V) (N : τ → Nat) (p : τ → Prop) (m : τ → Nat) (x : τ) (hle : leL t (F x)) (hH : h = H x) (hn : n ≤ N x) (hp : p x)
    (round : ∀ x, p x → Ok P c (F x) (H x) (N x) (thenQ (fun t' h' n' => ∃ y, leL t' (F y) ∧ h' = H y ∧ n' ≤ N y ∧ p y ∧ m y < m x) Q)) : Ok P (.loop c) t h n Q := by
  refine Ok.loop (fun x t' h' n' => leL t' (F x) ∧ h' = H x ∧ n' ≤ N x ∧ p x) m x ⟨hle, hH, hn, hp⟩ ?_
  rintro x t' h' n' ⟨h1, rfl, h3, h4⟩
  refine Ok.bump h3 (Ok.forget (leL_spec h1).1 (leL_spec h1).2 ((round x h4).mono ?_))
  intro e t2 h2 n2 hq
  cases e with
  | normal => obtain ⟨y, a, b, c, d, e⟩ := hq; exact ⟨y, ⟨a, b, c, d⟩, e⟩
  | exit id => exact hq
  | goto l => exact hq
  | ret => exact hq
  | panic ch => exact hq
  | outgrown => exact hq
end
def pickS (c : Cur) (xs : List Str) : Str × Cur := (xs.getD (curBelow c xs.length).1 [], (curBelow c xs.length).2)
def pickI (c : Cur) (xs : List Int) : Int × Cur := (xs.getD (curBelow c xs.length).1 0, (curBelow c xs.length).2)
theorem pickS_b (c : Cur) (xs : List Str) : (pickS c xs).2.b = c.b := curBelow_b _ _
theorem pickI_b (c : Cur) (xs : List Int) : (pickI c xs).2.b = c.b := curBelow_b _ _
theorem pickS_get {c : Cur} {xs : List Str} (h : 0 < xs.length) : xs[(curBelow c xs.length).1]? = some (pickS c xs).1 := by
  have := curBelow_lt (c := c) h
  unfold pickS; rw [List.getD_eq_getElem?_getD, List.getElem?_eq_getElem this, Option.getD_some]
theorem pickI_get {c : Cur} {xs : List Int} (h : 0 < xs.length) : xs[(curBelow c xs.length).1]? = some (pickI c xs).1 := by
  have := curBelow_lt (c := c) h
  unfold pickI; rw [List.getD_eq_getElem?_getD, List.getElem?_eq_getElem this, Option.getD_some]
theorem pickS_mem {c : Cur} {xs : List Str} (h : 0 < xs.length) : (pickS c xs).1 ∈ xs := List.mem_of_getElem? (pickS_get h)
theorem pickI_mem {c : Cur} {xs : List Int} (h : 0 < xs.length) : (pickI c xs).1 ∈ xs := List.mem_of_getElem? (pickI_get h)
abbrev wOne : Str := [111, 110, 101]
abbrev wTwo : Str := [116, 119, 111]
abbrev wThree : Str := [116, 104, 114, 101, 101]
def linkGo : Nat → Nat → Link → Cur → Link × Cur
  | 0, _, l, c => (l, c)
  | f + 1, i, l, c => if i < (curBelow c 5).1 then linkGo f (i + 1) (linkPut l (pickS (curBelow c 5).2 [wOne, wTwo, wThree]).1).1 (pickS (curBelow c 5).2 [wOne, wTwo, wThree]).2 else (l, (curBelow c 5).2)
theorem linkGo_t {f i : Nat} {l : Link} {c : Cur} (h : i < (curBelow c 5).1) : linkGo (f + 1) i l c = linkGo f (i + 1) (linkPut l (pickS (curBelow c 5).2 [wOne, wTwo, wThree]).1).1 (pickS (curBelow c 5).2 [wOne, wTwo, wThree]).2 := if_pos h
theorem linkGo_f {f i : Nat} {l : Link} {c : Cur} (h : ¬ i < (curBelow c 5).1) : linkGo (f + 1) i l c = (l, (curBelow c 5).2) := if_neg h
theorem linkGo_b : ∀ (f i : Nat) (l : Link) (c : Cur), (linkGo f i l c).2.b = c.b
  | 0, _, _, _ => rfl
  | f + 1, i, l, c => by
    by_cases h : i < (curBelow c 5).1
    · rw [linkGo_t h, linkGo_b, pickS_b, curBelow_b]
    · rw [linkGo_f h]; exact curBelow_b _ _
def link0 (c : Cur) : Link × Cur := linkGo 5 0 ⟨((curBelow c 3).1 : Int), [], 1, 1⟩ (curBelow c 3).2
def linkD (c : Cur) : Link × Cur := (⟨(link0 c).1.epoch, (link0 c).1.way, ((1 + (curBelow (link0 c).2 4).1 : Nat) : Int), ((1 + (curBelow (curBelow (link0 c).2 4).2 4).1 : Nat) : Int)⟩, (curBelow (curBelow (link0 c).2 4).2 4).2)
theorem linkD_b (c : Cur) : (linkD c).2.b = c.b := by unfold linkD link0; simp only [curBelow_b, linkGo_b]
def pack0 (c : Cur) : Packet × Cur :=
  let a := curBelow c 3; let b := curBelow a.2 5; let d := curBelow b.2 6; let e := pickS d.2 [wOne, wTwo, []]
  (⟨(a.1 : Int), (b.1 : Int), (d.1 : Int), e.1⟩, e.2)
theorem pack0_b (c : Cur) : (pack0 c).2.b = c.b := by unfold pack0; simp only [pickS_b, curBelow_b]
def longT (n : Nat) (x : UInt8) : Str := List.replicate n x
def packD (c : Cur) : Packet × Cur :=
  let w := curBelow (pack0 c).2 12
  if w.1 = 0 then ({ (pack0 c).1 with seq := (pickI w.2 [-1, 1000000001, 9223372036854775807]).1 }, (pickI w.2 [-1, 1000000001, 9223372036854775807]).2)
  else if w.1 = 1 then ({ (pack0 c).1 with ack := (pickI w.2 [-9223372036854775808, 9223372036854775807]).1 }, (pickI w.2 [-9223372036854775808, 9223372036854775807]).2)
  else if w.1 = 2 then ({ (pack0 c).1 with text := longT (400 + (curBelow w.2 2).1) 97 }, (curBelow w.2 2).2)
  else ((pack0 c).1, w.2)
theorem packD_b (c : Cur) : (packD c).2.b = c.b := by
  unfold packD; simp only []
  split
  · rw [pickI_b, curBelow_b, pack0_b]
  · split
    · rw [pickI_b, curBelow_b, pack0_b]
    · split <;> simp only [curBelow_b, pack0_b]
def byteD (c : Cur) : Str × Cur := ([UInt8.ofNat (curByte c).1], (curByte c).2)
def spoilt (c : Cur) (s : Str) : Str × Cur :=
  let w := curBelow c 12
  if w.1 = 0 then (s ++ (byteD w.2).1, (byteD w.2).2)
  else if w.1 = 1 then (s.take (curBelow w.2 (s.length + 1)).1, (curBelow w.2 (s.length + 1)).2)
  else if (w.1 = 2 ∨ w.1 = 3) ∧ 0 < s.length then
    (s.take (curBelow w.2 s.length).1 ++ (byteD (curBelow w.2 s.length).2).1 ++ s.drop ((curBelow w.2 s.length).1 + 1), (byteD (curBelow w.2 s.length).2).2)
  else (s, w.2)
def hearsS (l : Link) (p : Packet) : Link × Str × Bool :=
  if p.epoch ≠ l.epoch then (l, [], false) else
  let l1 := if l.way ≠ [] ∧ p.ack > 1 ∧ IntKind.i64.wrap (p.ack - 1) = l.next then { l with way := l.way.drop 1, next := IntKind.i64.wrap (l.next + 1) } else l
  if p.seq = 0 ∨ p.seq ≠ l1.want then (l1, [], false) else ({ l1 with want := IntKind.i64.wrap (l1.want + 1) }, p.text, true)
theorem hears_same {l : Link} {p : Packet} (h : 1 ≤ l.next ∧ l.next ≤ 1000) (ha : p.ack ≤ 9223372036854775807) : hearsS l p = linkHears l p := by
  have e : (l.way ≠ [] ∧ p.ack > 1 ∧ IntKind.i64.wrap (p.ack - 1) = l.next) ↔ (l.way ≠ [] ∧ p.ack > l.next ∧ p.ack = IntKind.i64.wrap (l.next + 1)) := by
    have w2 : IntKind.i64.wrap (l.next + 1) = l.next + 1 := by rw [IntKind.wrap_i64]; omega
    rw [w2]
    constructor
    · rintro ⟨h1, h2, h3⟩
      have w1 : IntKind.i64.wrap (p.ack - 1) = p.ack - 1 := by rw [IntKind.wrap_i64]; omega
      rw [w1] at h3; exact ⟨h1, by omega, by omega⟩
    · rintro ⟨h1, h2, h3⟩
      have w1 : IntKind.i64.wrap (p.ack - 1) = p.ack - 1 := by rw [IntKind.wrap_i64]; omega
      rw [w1]; exact ⟨h1, by omega, by omega⟩
  unfold hearsS linkHears
  split
  · rfl
  · by_cases hc : l.way ≠ [] ∧ p.ack > l.next ∧ p.ack = IntKind.i64.wrap (l.next + 1)
    · simp only [if_pos (e.2 hc), if_pos hc]
    · simp only [if_neg (fun q => hc (e.1 q)), if_neg hc]
end Go.Proofs.YtiipkeendfpddaaGreat.K

/- Calls that turn one array and take memory of their own: what the callers know is kept. -/
namespace Go.Proofs.YtiipkeendfpddaaGreat.K
open Go Go.RowKit
set_option linter.unusedVariables false
set_option linter.unusedSimpArgs false
theorem far_trav {L : Nat} {fs : Nat → Nat → Nat → List (List V) → V} {fp : Nat → Nat → Nat → List V → V} (hs : ∀ M sz off es, M ≠ L → fs M sz off es = .sl M sz off es) (hp : ∀ M i o e, M ≠ L → fp M i o e = .ptr M i o e) {l : List V} (h : L ∉ V.labelsL l) : V.travL V.nil fs fp l = l := by
  exact far2 hs hp l h
where
  far1 {L : Nat} {fs : Nat → Nat → Nat → List (List V) → V} {fp : Nat → Nat → Nat → List V → V} (hs : ∀ M sz off es, M ≠ L → fs M sz off es = .sl M sz off es) (hp : ∀ M i o e, M ≠ L → fp M i o e = .ptr M i o e) : ∀ x : V, L ∉ V.labels x → V.trav V.nil fs fp x = x
    | .sl M sz off es, h => by
      have h' : L ∉ M :: V.labelsLL es := h
      show fs M sz off (V.travLL V.nil fs fp es) = _
      rw [far3 hs hp es fun q => h' (List.mem_cons_of_mem _ q), hs _ _ _ _ fun q => h' (q ▸ List.mem_cons_self ..)]
    | .ptr M i o e, h => by
      have h' : L ∉ M :: V.labelsL e := h
      show fp M i o (V.travL V.nil fs fp e) = _
      rw [far2 hs hp e fun q => h' (List.mem_cons_of_mem _ q), hp _ _ _ _ fun q => h' (q ▸ List.mem_cons_self ..)]
    | .fn f cs, h => by show V.fn f _ = _; rw [far2 hs hp cs h]
    | .agg cs, h => by show V.agg _ = _; rw [far2 hs hp cs h]
    | .tup cs, h => by show V.tup _ = _; rw [far2 hs hp cs h]
    | .any, _ => rfl
    | .bool _, _ => rfl
    | .int .., _ => rfl
    | .str _, _ => rfl
    | .nil _, _ => rfl
    | .nilP, _ => rfl
  far2 {L : Nat} {fs : Nat → Nat → Nat → List (List V) → V} {fp : Nat → Nat → Nat → List V → V} (hs : ∀ M sz off es, M ≠ L → fs M sz off es = .sl M sz off es) (hp : ∀ M i o e, M ≠ L → fp M i o e = .ptr M i o e) : ∀ l : List V, L ∉ V.labelsL l → V.travL V.nil fs fp l = l
    | [], _ => rfl
    | x :: l, h => by
      have h' : L ∉ V.labels x ++ V.labelsL l := h
      show V.trav _ _ _ x :: V.travL _ _ _ l = _
      rw [far1 hs hp x fun q => h' (List.mem_append_left _ q), far2 hs hp l fun q => h' (List.mem_append_right _ q)]
  far3 {L : Nat} {fs : Nat → Nat → Nat → List (List V) → V} {fp : Nat → Nat → Nat → List V → V} (hs : ∀ M sz off es, M ≠ L → fs M sz off es = .sl M sz off es) (hp : ∀ M i o e, M ≠ L → fp M i o e = .ptr M i o e) : ∀ l : List (List V), L ∉ V.labelsLL l → V.travLL V.nil fs fp l = l
    | [], _ => rfl
    | x :: l, h => by
      have h' : L ∉ V.labelsL x ++ V.labelsLL l := h
      show V.travL _ _ _ x :: V.travLL _ _ _ l = _
      rw [far2 hs hp x fun q => h' (List.mem_append_left _ q), far3 hs hp l fun q => h' (List.mem_append_right _ q)]
section
variable {L j : Nat} {e : List V}
mutual
theorem lab_upd1 : ∀ x : V, ∀ y ∈ V.labels (V.trav V.nil (updS L j e) (updP L j e) x), y ∈ V.labels x ∨ y ∈ V.labelsL e
  | .sl M sz off es, y, hy => by
    have ih := lab_upd3 es
    have hy : y ∈ V.labels (updS L j e M sz off (V.travLL V.nil (updS L j e) (updP L j e) es)) := hy
    unfold updS at hy
    split at hy
    · rcases List.mem_cons.1 hy with rfl | hy
      · exact .inl (List.mem_cons_self ..)
      · obtain ⟨r, hr, hyr⟩ := mem_labelsLL.1 hy
        rcases List.mem_or_eq_of_mem_set hr with hr | rfl
        · rcases ih y (mem_labelsLL.2 ⟨r, hr, hyr⟩) with h | h
          · exact .inl (List.mem_cons_of_mem _ h)
          · exact .inr h
        · exact .inr hyr
    · rcases List.mem_cons.1 hy with rfl | hy
      · exact .inl (List.mem_cons_self ..)
      · rcases ih y hy with h | h
        · exact .inl (List.mem_cons_of_mem _ h)
        · exact .inr h
  | .ptr M i o es, y, hy => by
    have ih := lab_upd2 es
    have hy : y ∈ V.labels (updP L j e M i o (V.travL V.nil (updS L j e) (updP L j e) es)) := hy
    unfold updP at hy
    split at hy
    · rcases List.mem_cons.1 hy with rfl | hy
      · exact .inl (List.mem_cons_self ..)
      · exact .inr hy
    · rcases List.mem_cons.1 hy with rfl | hy
      · exact .inl (List.mem_cons_self ..)
      · rcases ih y hy with h | h
        · exact .inl (List.mem_cons_of_mem _ h)
        · exact .inr h
  | .fn f cs, y, hy => lab_upd2 cs y hy
  | .agg cs, y, hy => lab_upd2 cs y hy
  | .tup cs, y, hy => lab_upd2 cs y hy
  | .any, y, hy => by cases hy
  | .bool _, y, hy => by cases hy
  | .int .., y, hy => by cases hy
  | .str _, y, hy => by cases hy
  | .nil _, y, hy => by cases hy
  | .nilP, y, hy => by cases hy
theorem lab_upd2 : ∀ l : List V, ∀ y ∈ V.labelsL (V.travL V.nil (updS L j e) (updP L j e) l), y ∈ V.labelsL l ∨ y ∈ V.labelsL e
  | [], y, hy => by cases hy
  | x :: l, y, hy => by
    have hy : y ∈ V.labels (V.trav V.nil (updS L j e) (updP L j e) x) ++ V.labelsL (V.travL V.nil (updS L j e) (updP L j e) l) := hy
    rcases List.mem_append.1 hy with h | h
    · exact (lab_upd1 x y h).imp (List.mem_append_left _) id
    · exact (lab_upd2 l y h).imp (List.mem_append_right _) id
theorem lab_upd3 : ∀ l : List (List V), ∀ y ∈ V.labelsLL (V.travLL V.nil (updS L j e) (updP L j e) l), y ∈ V.labelsLL l ∨ y ∈ V.labelsL e
  | [], y, hy => by cases hy
  | x :: l, y, hy => by
    have hy : y ∈ V.labelsL (V.travL V.nil (updS L j e) (updP L j e) x) ++ V.labelsLL (V.travLL V.nil (updS L j e) (updP L j e) l) := hy
    rcases List.mem_append.1 hy with h | h
    · exact (lab_upd2 x y h).imp (List.mem_append_left _) id
    · exact (lab_upd3 l y h).imp (List.mem_append_right _) id
end
end
abbrev Ahd (n : Nat) (h : List V) : Prop := ∀ y ∈ V.labelsL h, y < n
theorem Ahd.upd {n L j : Nat} {e h : List V} (hh : Ahd n h) (he : Ahd n e) : Ahd n (V.updL L j e h) := fun y hy => (lab_upd2 h y hy).elim (hh y) (he y)
theorem Ahd.mono {n m : Nat} {h : List V} (hh : Ahd n h) (hm : n ≤ m) : Ahd m h := fun y hy => Nat.lt_of_lt_of_le (hh y hy) hm
theorem Ahd.updL {m j : Nat} {e h : List V} (hh : Ahd m h) : V.updL m j e h = h :=
  far_trav (L := m) (fun M sz off es hM => if_neg fun q => hM q.1) (fun M i o e hM => if_neg fun q => hM q.1) fun q => Nat.lt_irrefl _ (hh m q)
theorem Ahd.killL {m : Nat} {h : List V} (hh : Ahd m h) : V.killL m h = h :=
  far_trav (L := m) (fun M sz off es hM => if_neg hM) (fun M i o e hM => if_neg hM) fun q => Nat.lt_irrefl _ (hh m q)
theorem Ahd.nil (n : Nat) : Ahd n [] := fun y hy => by cases hy
theorem Ahd.cur {n : Nat} (hn : 1 ≤ n) (c : Cur) : Ahd n (cCur c) := fun y hy => by
  simp [V.labelsL, V.labels, V.labelsLL, zz] at hy; omega
theorem Ahd.app {n : Nat} {a b : List V} (ha : Ahd n a) (hb : Ahd n b) : Ahd n (a ++ b) := fun y hy => by
  obtain ⟨x, hx, hy⟩ := mem_labelsL.1 hy
  rcases List.mem_append.1 hx with h | h
  · exact ha y (mem_labelsL.2 ⟨x, h, hy⟩)
  · exact hb y (mem_labelsL.2 ⟨x, h, hy⟩)
section
variable {P : Program} {ti : Tab} {n n' : Nat} {t t' h h' : List V} {Q : Exit → List V → List V → Nat → Prop} {ops : Array Oper} {o : Oper} {l : List Oper} {late : List Nat}
theorem OkOps.updF {fx : Operand} {args : Array Operand} {ts : Array TypeId} {f : FuncId} {caps ags : List V} {L j k : Nat} {e' : List V} {x : V} (hg : o.guard = none) (ho : o.op = .call ⟨.value fx, args, ts⟩) (hf : opnd t fx = .fn f caps) (ha : args.toList.map (opnd t) ++ caps = ags)
    (hcl : Callable P f) (h1 : Ahd n t) (h2 : Ahd n h) (hc : ∀ h, Ahd n h → OkCall P f ags h n fun r h1 n1 => r = x ∧ h1 = V.updL L j e' h ∧ n1 = n + k) (hn : n + k = n') (ht : putV (V.updL L j e' t) o.dst x = t') (hh : V.updL L j e' h = h') (hk : OkOps P ops l t' h' n' Q) : OkOps P ops (o :: l) t h n Q := by
  refine OkOps.step hg (t' := t') (h' := h') (n' := n') ?_ hk
  rw [← ht, ← hh]
  refine OpOk.call ho hf hcl ?_ ?_
  · unfold V.updL; rw [travL_len]
  · rw [ha]
    refine (hc (t ++ h) (h1.app h2)).mono ?_
    rintro r h1 n1 ⟨rfl, rfl, rfl⟩
    exact ⟨rfl, by unfold V.updL; rw [travL_eq, travL_eq, travL_eq, List.map_append], hn⟩
theorem maskP_ahd {f : Nat → Bool} : ∀ {t : List V} {i : Nat}, Ahd n t → Ahd n (maskP f i t)
  | [], i, h => h
  | x :: t, i, h => by
    have h0 : ∀ y ∈ V.labels x ++ V.labelsL t, y < n := h
    intro y hy
    have hy : y ∈ V.labels (if f i then x else .any) ++ V.labelsL (maskP f (i + 1) t) := hy
    rcases List.mem_append.1 hy with hy | hy
    · split at hy
      · exact h0 y (List.mem_append_left _ hy)
      · cases hy
    · exact maskP_ahd (i := i + 1) (fun z hz => h0 z (List.mem_append_right _ hz)) y hy
theorem TOps.updF {fx : Operand} {args : Array Operand} {ts : Array TypeId} {f : FuncId} {caps ags : List V} {L j k : Nat} {e' : List V} {x : V} (hg : o.guard = none) (ho : o.op = .call ⟨.value fx, args, ts⟩) (hf : opnd t fx = .fn f caps) (ha : args.toList.map (opnd t) ++ caps = ags)
    (hcl : Callable P f) (h1 : Ahd n t) (h2 : Ahd n h) (hc : ∀ h, Ahd n h → OkCall P f ags h n fun r h1 n1 => r = x ∧ h1 = V.updL L j e' h ∧ n1 = n + k) (hn : n + k = n') (ht : putV (V.updL L j e' t) o.dst x = t') (hh : V.updL L j e' h = h') (hl : LateOk P ops t' late) (hk : TOps P ops late Q l t' h' n') : TOps P ops late Q (o :: l) t h n := by
  refine ⟨t', h', n', hg, .inr fun f' hf' hd => ?_, hl, hk⟩
  have e1 : opnd (maskP f' 0 t) fx = opnd t fx := opnd_maskP M102 hf'
  have e2 : args.toList.map (opnd (maskP f' 0 t)) = args.toList.map (opnd t) := List.map_congr_left fun x hx => opnd_maskP M78 hf'
  have e3 : maskP f' 0 (V.updL L j e' t) = V.updL L j e' (maskP f' 0 t) := by
    unfold V.updL
    rw [travL_eq, travL_eq]
    exact maskP_map f' _ rfl t 0
  rw [← ht, ← hh, ← maskP_put hd, e3]
  refine OpOk.call ho (e1.trans hf) hcl ?_ ?_
  · unfold V.updL; rw [travL_len]
  · rw [e2, ha]
    refine (hc (maskP f' 0 t ++ h) ((maskP_ahd h1).app h2)).mono ?_
    rintro r h1 n1 ⟨rfl, rfl, rfl⟩
    exact ⟨rfl, by unfold V.updL; rw [travL_eq, travL_eq, travL_eq, List.map_append], hn⟩
end
end Go.Proofs.YtiipkeendfpddaaGreat.K

/- Plain laws: what is written as a number, a packet, is read again. -/
namespace Go.Proofs.YtiipkeendfpddaaGreat.K
open Go Go.RowKit
end Go.Proofs.YtiipkeendfpddaaGreat.K

/- Marks on data of the call's own: what becomes of the values is told by a map that keeps all else. -/
namespace Go.Proofs.YtiipkeendfpddaaGreat.K
open Go Go.RowKit
set_option linter.unusedVariables false
set_option linter.unusedSimpArgs false
theorem le_eqm {a b : V} (h : a = b) : V.le a b := h ▸ le_rfl' a
mutual
theorem trav_far {L : Nat} {fs : Nat → Nat → Nat → List (List V) → V} {fp : Nat → Nat → Nat → List V → V} (hs : ∀ M sz off es, M ≠ L → fs M sz off es = .sl M sz off es) (hp : ∀ M i o e, M ≠ L → fp M i o e = .ptr M i o e) : ∀ x : V, L ∉ V.labels x → V.trav V.nil fs fp x = x
  | .sl M sz off es, h => by
    simp only [V.labels, List.mem_cons, not_or] at h
    show fs M sz off (V.travLL V.nil fs fp es) = _
    rw [hs _ _ _ _ (Ne.symm h.1), travLL_far hs hp es h.2]
  | .ptr M i o e, h => by
    simp only [V.labels, List.mem_cons, not_or] at h
    show fp M i o (V.travL V.nil fs fp e) = _
    rw [hp _ _ _ _ (Ne.symm h.1), travL_far hs hp e h.2]
  | .fn f cs, h => by show V.fn f (V.travL V.nil fs fp cs) = _; rw [travL_far hs hp cs h]
  | .agg cs, h => by show V.agg (V.travL V.nil fs fp cs) = _; rw [travL_far hs hp cs h]
  | .tup cs, h => by show V.tup (V.travL V.nil fs fp cs) = _; rw [travL_far hs hp cs h]
  | .any, _ => rfl
  | .bool _, _ => rfl
  | .int .., _ => rfl
  | .str _, _ => rfl
  | .nil s, _ => rfl
  | .nilP, _ => rfl
theorem travL_far {L : Nat} {fs : Nat → Nat → Nat → List (List V) → V} {fp : Nat → Nat → Nat → List V → V} (hs : ∀ M sz off es, M ≠ L → fs M sz off es = .sl M sz off es) (hp : ∀ M i o e, M ≠ L → fp M i o e = .ptr M i o e) : ∀ l : List V, L ∉ V.labelsL l → V.travL V.nil fs fp l = l
  | [], _ => rfl
  | x :: l, h => by
    simp only [V.labelsL, List.mem_append, not_or] at h
    show V.trav V.nil fs fp x :: V.travL V.nil fs fp l = _
    rw [trav_far hs hp x h.1, travL_far hs hp l h.2]
theorem travLL_far {L : Nat} {fs : Nat → Nat → Nat → List (List V) → V} {fp : Nat → Nat → Nat → List V → V} (hs : ∀ M sz off es, M ≠ L → fs M sz off es = .sl M sz off es) (hp : ∀ M i o e, M ≠ L → fp M i o e = .ptr M i o e) : ∀ l : List (List V), L ∉ V.labelsLL l → V.travLL V.nil fs fp l = l
  | [], _ => rfl
  | x :: l, h => by
    simp only [V.labelsLL, List.mem_append, not_or] at h
    show V.travL V.nil fs fp x :: V.travLL V.nil fs fp l = _
    rw [travL_far hs hp x h.1, travLL_far hs hp l h.2]
end
structure Hom (f : V → V) (Ls : Nat → Prop) : Prop where
  far : ∀ v, (∀ L ∈ V.labels v, ¬ Ls L) → f v = v
  agg : ∀ cs, f (.agg cs) = .agg (cs.map f)
  ptr : ∀ L i o e, ¬ Ls L → f (.ptr L i o e) = .ptr L i o (e.map f)
  sl : ∀ L sz off es, ¬ Ls L → f (.sl L sz off es) = .sl L sz off (es.map (List.map f))
section
variable {f g : V → V} {A B : Nat → Prop}
theorem Hom.id' (A : Nat → Prop) : Hom id A :=
  ⟨fun _ _ => rfl, fun cs => by rw [List.map_id]; rfl, fun L i o e _ => by rw [List.map_id]; rfl, fun L sz off es _ => by rw [show (List.map id : List V → List V) = id from funext fun l => List.map_id l, List.map_id]; rfl⟩
theorem Hom.comp (hg : Hom g A) (hf : Hom f A) : Hom (g ∘ f) A :=
  ⟨fun v h => by show g (f v) = v; rw [hf.far v h, hg.far v h], fun cs => by show g (f _) = _; rw [hf.agg, hg.agg, List.map_map],
   fun L i o e h => by show g (f _) = _; rw [hf.ptr _ _ _ _ h, hg.ptr _ _ _ _ h, List.map_map],
   fun L sz off es h => by
    show g (f _) = _
    rw [hf.sl _ _ _ _ h, hg.sl _ _ _ _ h, List.map_map]
    congr 1
    refine List.map_congr_left fun e _ => ?_
    show List.map g (List.map f e) = _
    rw [List.map_map]⟩
theorem Hom.mono (hf : Hom f A) (h : ∀ L, A L → B L) : Hom f B :=
  ⟨fun v hv => hf.far v fun L hL hA => hv L hL (h L hA), hf.agg, fun L i o e hL => hf.ptr L i o e fun hA => hL (h L hA), fun L sz off es hL => hf.sl L sz off es fun hA => hL (h L hA)⟩
theorem Hom.int (hf : Hom f A) (k : IntKind) (n : Int) : f (.int k n) = .int k n := hf.far _ fun L h => by cases h
theorem Hom.str (hf : Hom f A) (s : List UInt8) : f (.str s) = .str s := hf.far _ fun L h => by cases h
theorem Hom.bool (hf : Hom f A) (b : Bool) : f (.bool b) = .bool b := hf.far _ fun L h => by cases h
theorem Hom.any (hf : Hom f A) : f .any = .any := hf.far _ fun L h => by cases h
theorem Hom.tup0 (hf : Hom f A) : f (.tup []) = .tup [] := hf.far _ fun L h => by cases h
theorem Hom.farL (hf : Hom f A) (l : List V) (h : ∀ L ∈ V.labelsL l, ¬ A L) : l.map f = l := by
  induction l with
  | nil => rfl
  | cons x xs ih =>
    simp only [V.labelsL, List.mem_append] at h
    rw [List.map_cons, hf.far x fun L hL => h L (.inl hL), ih fun L hL => h L (.inr hL)]
theorem Hom.farLL (hf : Hom f A) (l : List (List V)) (h : ∀ L ∈ V.labelsLL l, ¬ A L) : l.map (List.map f) = l := by
  induction l with
  | nil => rfl
  | cons x xs ih =>
    simp only [V.labelsLL, List.mem_append] at h
    rw [List.map_cons, hf.farL x fun L hL => h L (.inl hL), ih fun L hL => h L (.inr hL)]
end
theorem upd_hom (L j : Nat) (e' : List V) : Hom (V.upd L j e') (· = L) :=
  ⟨fun v h => trav_far (fun M sz off es hM => if_neg fun hh => hM hh.1) (fun M i o e hM => if_neg fun hh => hM hh.1) v fun hL => h L hL rfl,
   fun cs => by show V.agg (V.travL _ _ _ cs) = _; rw [travL_eq]; rfl,
   fun M i o e hM => by show updP L j e' M i o (V.travL _ _ _ e) = _; rw [updP, if_neg fun hh => hM hh.1, travL_eq]; rfl,
   fun M sz off es hM => by
    show updS L j e' M sz off (V.travLL _ _ _ es) = _
    rw [updS, if_neg fun hh => hM hh.1, travLL_eq]
    congr 1
    refine List.map_congr_left fun e _ => ?_
    rw [travL_eq]; rfl⟩
structure StoreF (W : V → V) (L j : Nat) (e' : List V) : Prop where
  sl : ∀ sz es, L ∉ V.labelsLL es → W (.sl L sz 0 es) = .sl L sz 0 (es.set j e')
  ptr : ∀ o e, W (.ptr L j o e) = .ptr L j o e'
theorem upd_storeF (L j : Nat) (e' : List V) : StoreF (V.upd L j e') L j e' :=
  ⟨fun sz es h => by
    show updS L j e' L sz 0 (V.travLL _ _ _ es) = _
    rw [travLL_far (L := L) (fs := updS L j e') (fp := updP L j e') (fun M sz off es hM => if_neg fun hh => hM hh.1) (fun M i o e hM => if_neg fun hh => hM hh.1) es h, updS, if_pos ⟨rfl, Nat.zero_le _⟩, Nat.sub_zero],
   fun o e => by show updP L j e' L j o (V.travL _ _ _ e) = _; rw [updP, if_pos ⟨rfl, rfl⟩]⟩
mutual
def V.mn : V → Nat
  | .sl _ _ _ es => V.mnLL es
  | .ptr .. => 0
  | .fn .. => 0
  | .agg _ => 0
  | .tup _ => 0
  | .any => 0
  | .bool _ => 1
  | .int .. => 1
  | .str _ => 1
  | .nil _ => 0
  | .nilP => 0
def V.mnL : List V → Nat
  | [] => 0
  | x :: xs => V.mn x + V.mnL xs
def V.mnLL : List (List V) → Nat
  | [] => 0
  | e :: es => V.mnL e + V.mnLL es
end
mutual
def V.mk (k : Nat) : V → V
  | .sl L sz off es => .sl L sz off (V.mkLL k es)
  | .ptr L i o e => .ptr L i o e
  | .fn f cs => .fn f cs
  | .agg cs => .agg cs
  | .tup cs => .tup cs
  | .any => .any
  | .bool _ => .bool (decide ((k : Int).tmod 3 = 0))
  | .int κ _ => .int κ (k : Int)
  | .str _ => .str (markT k)
  | .nil s => .nil s
  | .nilP => .nilP
def V.mkL (k : Nat) : List V → List V
  | [] => []
  | x :: xs => V.mk k x :: V.mkL (k + V.mn x) xs
def V.mkLL (k : Nat) : List (List V) → List (List V)
  | [] => []
  | e :: es => V.mkL k e :: V.mkLL (k + V.mnL e) es
end
mutual
theorem mk_labels : ∀ (x : V) (k : Nat), V.labels (V.mk k x) = V.labels x
  | .sl L sz off es, k => by show L :: V.labelsLL (V.mkLL k es) = _; rw [mkLL_labels es k]; rfl
  | .ptr L i o e, k => rfl
  | .fn f cs, k => rfl
  | .agg cs, k => rfl
  | .tup cs, k => rfl
  | .any, k => rfl
  | .bool _, k => rfl
  | .int .., k => rfl
  | .str _, k => rfl
  | .nil s, k => rfl
  | .nilP, k => rfl
theorem mkL_labels : ∀ (l : List V) (k : Nat), V.labelsL (V.mkL k l) = V.labelsL l
  | [], k => rfl
  | x :: l, k => by show V.labels (V.mk k x) ++ V.labelsL (V.mkL _ l) = _; rw [mk_labels x k, mkL_labels l]; rfl
theorem mkLL_labels : ∀ (l : List (List V)) (k : Nat), V.labelsLL (V.mkLL k l) = V.labelsLL l
  | [], k => rfl
  | x :: l, k => by show V.labelsL (V.mkL k x) ++ V.labelsLL (V.mkLL _ l) = _; rw [mkL_labels x k, mkLL_labels l]; rfl
end
mutual
theorem mn_erase : ∀ x : V, V.mn (V.erase x) = V.mn x
  | .sl L sz off es => by show V.mnLL (V.eraseLL es) = _; rw [mnLL_erase es]; rfl
  | .ptr L i o e => rfl
  | .fn f cs => rfl
  | .agg cs => rfl
  | .tup cs => rfl
  | .any => rfl
  | .bool _ => rfl
  | .int .. => rfl
  | .str _ => rfl
  | .nil s => rfl
  | .nilP => rfl
theorem mnL_erase : ∀ l : List V, V.mnL (V.eraseL l) = V.mnL l
  | [] => rfl
  | x :: l => by show V.mn (V.erase x) + V.mnL (V.eraseL l) = _; rw [mn_erase x, mnL_erase l]; rfl
theorem mnLL_erase : ∀ l : List (List V), V.mnLL (V.eraseLL l) = V.mnLL l
  | [] => rfl
  | x :: l => by show V.mnL (V.eraseL x) + V.mnLL (V.eraseLL l) = _; rw [mnL_erase x, mnLL_erase l]; rfl
end
mutual
def V.pl : V → Bool
  | .sl _ _ off es => off == 0 && V.plLL es
  | .bool _ => true
  | .int .. => true
  | .str _ => true
  | .ptr .. => false
  | .fn .. => false
  | .agg _ => false
  | .tup _ => false
  | .any => false
  | .nil _ => false
  | .nilP => false
def V.plL : List V → Bool
  | [] => true
  | x :: xs => V.pl x && V.plL xs
def V.plLL : List (List V) → Bool
  | [] => true
  | e :: es => V.plL e && V.plLL es
end
mutual
theorem mk_erase : ∀ (x : V) (k : Nat), V.pl x = true → V.erase (V.mk k x) = V.mk k (V.erase x)
  | .sl L sz off es, k, h => by
    simp only [V.pl, Bool.and_eq_true] at h
    show V.sl 0 sz 0 (V.eraseLL (V.mkLL k es)) = V.sl 0 sz 0 (V.mkLL k (V.eraseLL es))
    rw [mkLL_erase es k h.2]
  | .bool _, k, h => rfl
  | .int .., k, h => rfl
  | .str _, k, h => rfl
  | .ptr .., k, h => by cases h
  | .fn .., k, h => by cases h
  | .agg _, k, h => by cases h
  | .tup _, k, h => by cases h
  | .any, k, h => by cases h
  | .nil _, k, h => by cases h
  | .nilP, k, h => by cases h
theorem mkL_erase : ∀ (l : List V) (k : Nat), V.plL l = true → V.eraseL (V.mkL k l) = V.mkL k (V.eraseL l)
  | [], k, h => rfl
  | x :: l, k, h => by
    simp only [V.plL, Bool.and_eq_true] at h
    show V.erase (V.mk k x) :: V.eraseL (V.mkL _ l) = V.mk k (V.erase x) :: V.mkL (k + V.mn (V.erase x)) (V.eraseL l)
    rw [mk_erase x k h.1, mkL_erase l _ h.2, mn_erase]
theorem mkLL_erase : ∀ (l : List (List V)) (k : Nat), V.plLL l = true → V.eraseLL (V.mkLL k l) = V.mkLL k (V.eraseLL l)
  | [], k, h => rfl
  | x :: l, k, h => by
    simp only [V.plLL, Bool.and_eq_true] at h
    show V.eraseL (V.mkL k x) :: V.eraseLL (V.mkLL _ l) = V.mkL k (V.eraseL x) :: V.mkLL (k + V.mnL (V.eraseL x)) (V.eraseLL l)
    rw [mkL_erase x k h.1, mkLL_erase l _ h.2, mnL_erase]
end
theorem labelsLL_app (a b : List (List V)) : V.labelsLL (a ++ b) = V.labelsLL a ++ V.labelsLL b := by
  induction a with
  | nil => rfl
  | cons x a ih => rw [List.cons_append]; show V.labelsL x ++ V.labelsLL (a ++ b) = V.labelsL x ++ V.labelsLL a ++ V.labelsLL b; rw [ih, List.append_assoc]
def MarkQ (A : Nat → Prop) (a a' R : V) (h : List V) (m : Nat) : V → List V → Nat → Prop := fun r h1 n1 => r = R ∧ n1 = m ∧ ∃ U, Hom U A ∧ U a = a' ∧ h1 = h.map U
section
variable {P : Program} {ti : Tab} {t h h0 : List V} {n n' : Nat} {Q : Exit → List V → List V → Nat → Prop} {ops : Array Oper} {o : Oper} {l : List Oper} {t' : List V}
theorem setN_set : ∀ (t : List V) (d : Nat) (x : V), setN t d x = t.set d x
  | [], d, x => by cases d <;> rfl
  | y :: t, 0, x => rfl
  | y :: t, d + 1, x => by show y :: setN t d x = y :: t.set d x; rw [setN_set t d x]
theorem Ok.drop {c : Code} (dead : List Nat) (ht : overD dead t = t') (hk : Ok P c t' h n Q) : Ok P c t h n Q := by
  have hlen : ∀ (dead : List Nat) (t : List V), (overD dead t).length = t.length := by
    intro dead
    induction dead with
    | nil => intro t; rfl
    | cons d l ih => intro t; show (overD l (setN t d .any)).length = _; rw [ih, setN_set, List.length_set]
  have hget : ∀ (dead : List Nat) (t : List V) (i : Nat) (x y : V), t[i]? = some x → (overD dead t)[i]? = some y → y = x ∨ y = .any := by
    intro dead
    induction dead with
    | nil => intro t i x y hx hy; exact .inl (Option.some.inj (hy.symm.trans hx))
    | cons d l ih =>
      intro t i x y hx hy
      have hy' : (overD l (setN t d .any))[i]? = some y := hy
      by_cases hdi : d = i
      · subst hdi
        have hs : (setN t d .any)[d]? = some .any := by
          have hi := (List.getElem?_eq_some_iff.1 hx).1
          rw [setN_set, List.getElem?_set_self hi]
        rcases ih _ _ _ _ hs hy' with h | h
        · exact .inr h
        · exact .inr h
      · have hs : (setN t d .any)[i]? = some x := by rw [setN_set, List.getElem?_set_ne hdi, hx]
        exact ih _ _ _ _ hs hy'
  subst ht
  refine Ok.forget (hlen dead t).symm (fun i x y hx hy => ?_) hk
  rcases hget dead t i x y hx hy with rfl | rfl
  · exact le_rfl' _
  · exact le_any _
theorem OkOps.storeU {T : TypeId} {p q : Operand} {L j : Nat} {e' : List V} {U0 : V → V} {v0 x x' : V} {B : Nat → Prop} (hti : TabOk P ti) (hg : o.guard = none) (ho : o.op = .store T p q) (hs : Go.Proofs.YtiipkeendfpddaaGreat.K.storeE (ti T) (opnd t p) (opnd t q) = some (L, j, e')) (hc : ∃ y l, cellsV (opnd t q) = y :: l) (hfree : L ∉ V.labelsL e')
    (hU : Hom U0 B) (hv : U0 v0 = x) (hB : B L) (hx : ∀ W, Hom W (· = L) → StoreF W L j e' → W x = x') (ht : ∀ W, Hom W (· = L) → StoreF W L j e' → putV (t.map W) o.dst .any = t')
    (hk : ∀ U, Hom U B → U v0 = x' → OkOps P ops l t' (h0.map U) n Q) : OkOps P ops (o :: l) t (h0.map U0) n Q := by
  have hW := upd_hom L j e'
  have hF := upd_storeF L j e'
  refine OkOps.storeE hti hg ho hs hc hfree (t' := t') (h' := h0.map (V.upd L j e' ∘ U0)) ?_ ?_ ?_
  · unfold V.updL; rw [travL_eq]; exact ht _ hW hF
  · unfold V.updL; rw [travL_eq, List.map_map]; rfl
  · exact hk _ ((hW.mono fun M hM => by rw [hM]; exact hB).comp hU) (by show V.upd L j e' (U0 v0) = x'; rw [hv, hx _ hW hF])
end
end Go.Proofs.YtiipkeendfpddaaGreat.K

/- Plain laws: bytes laid one by one. -/
namespace Go.Proofs.YtiipkeendfpddaaGreat.K
open Go Go.RowKit
theorem set_repB {i n : Nat} {b d : UInt8} (h : i < n) : ((List.replicate i b ++ List.replicate (n - i) d).map cB).set i [.int .u8 (b.toNat : Int)] = (List.replicate (i + 1) b ++ List.replicate (n - (i + 1)) d).map cB := by
  rw [show ([V.int IntKind.u8 (b.toNat : Int)] : List V) = cB b from rfl, set_map cB]
  congr 1
  rw [show n - i = n - (i + 1) + 1 by omega, List.replicate_succ, List.set_append_right _ _ M119]
  simp [List.replicate_succ']
theorem longT_end {n : Nat} {b d : UInt8} : List.replicate n b ++ List.replicate (n - n) d = longT n b := by simp [longT]
theorem wrap_400 {x : Nat} (h : x ≤ 1000) : IntKind.i64.wrap (400 + (x : Int)) = ((400 + x : Nat) : Int) := by rw [IntKind.wrap_i64]; omega
theorem longT_len (n : Nat) (b : UInt8) : (longT n b).length = n := by simp [longT]
theorem byteD_b (c : Cur) : (byteD c).2.b = c.b := curByte_b c
theorem packD_0 {c : Cur} (h : (curBelow (pack0 c).2 12).1 = 0) : packD c = ({ (pack0 c).1 with seq := (pickI (curBelow (pack0 c).2 12).2 [-1, 1000000001, 9223372036854775807]).1 }, (pickI (curBelow (pack0 c).2 12).2 [-1, 1000000001, 9223372036854775807]).2) := if_pos h
theorem packD_1 {c : Cur} (h : (curBelow (pack0 c).2 12).1 = 1) : packD c = ({ (pack0 c).1 with ack := (pickI (curBelow (pack0 c).2 12).2 [-9223372036854775808, 9223372036854775807]).1 }, (pickI (curBelow (pack0 c).2 12).2 [-9223372036854775808, 9223372036854775807]).2) := by
  unfold packD; simp only []; rw [if_neg M58, if_pos h]
theorem packD_2 {c : Cur} (h : (curBelow (pack0 c).2 12).1 = 2) : packD c = ({ (pack0 c).1 with text := longT (400 + (curBelow (curBelow (pack0 c).2 12).2 2).1) 97 }, (curBelow (curBelow (pack0 c).2 12).2 2).2) := by
  unfold packD; simp only []; rw [if_neg M58, if_neg M58, if_pos h]
theorem packD_n {c : Cur} (h0 : ¬ (curBelow (pack0 c).2 12).1 = 0) (h1 : ¬ (curBelow (pack0 c).2 12).1 = 1) (h2 : ¬ (curBelow (pack0 c).2 12).1 = 2) : packD c = ((pack0 c).1, (curBelow (pack0 c).2 12).2) := by
  unfold packD; simp only []; rw [if_neg h0, if_neg h1, if_neg h2]
abbrev hearsK (code : Str) : Nat := (curBelow (curNew code) 3).1
abbrev hearsL (code : Str) : Link := (linkD (curBelow (curNew code) 3).2).1
abbrev hearsP0 (code : Str) : Packet := (packD (linkD (curBelow (curNew code) 3).2).2).1
def hearsP1 (code : Str) : Packet := if hearsK code > 0 then { hearsP0 code with epoch := (hearsL code).epoch } else hearsP0 code
def hearsD (code : Str) : Packet := if hearsK code > 1 then { hearsP1 code with seq := (hearsL code).want, ack := IntKind.i64.wrap ((hearsL code).next + 1) } else hearsP1 code
abbrev readK (code : Str) : Nat := (curBelow (curNew code) 3).1
abbrev readC (code : Str) : Cur := (packD (curBelow (curNew code) 3).2).2
abbrev readT (code : Str) : Str := (packetText (packD (curBelow (curNew code) 3).2).1).getD []
def readD (code : Str) : Str := if readK code = 0 ∧ (unsealed (readT code)).isSome = true then (sealed (spoilt (readC code) ((unsealed (readT code)).getD [])).1).getD [] else readT code
abbrev putW : List Int := [0, 1, 400, 401]
def putT (code : Str) : Str := longT (pickI (curNew code) putW).1.toNat 97
abbrev putC (code : Str) : Cur := (linkD (pickI (curNew code) putW).2).2
def putL (code : Str) : Link := if ((curBelow (putC code) 8).1 : Int) = 0 then { (linkD (pickI (curNew code) putW).2).1 with way := List.replicate 60 [] } else (linkD (pickI (curNew code) putW).2).1
def drops (l : Link) (p : Packet) : Bool := decide (l.way ≠ [] ∧ p.ack > 1 ∧ IntKind.i64.wrap (p.ack - 1) = l.next)
def wants (l : Link) (p : Packet) : Bool := !decide (p.seq = 0 ∨ p.seq ≠ l.want)
theorem drops_t {l : Link} {p : Packet} (h : drops l p = true) : l.way ≠ [] ∧ p.ack > 1 ∧ IntKind.i64.wrap (p.ack - 1) = l.next := of_decide_eq_true h
theorem hears_off {l : Link} {p : Packet} (h : p.epoch ≠ l.epoch) : hearsS l p = (l, [], false) := if_pos h
theorem hears_no {l : Link} {p : Packet} (h : p.epoch = l.epoch) (hd : drops l p = false) (hw : wants l p = false) : hearsS l p = (l, [], false) := by
  have h2 : ¬ (l.way ≠ [] ∧ p.ack > 1 ∧ IntKind.i64.wrap (p.ack - 1) = l.next) := of_decide_eq_false hd
  have h3 : p.seq = 0 ∨ p.seq ≠ l.want := by unfold wants at hw; rw [Bool.not_eq_false', decide_eq_true_eq] at hw; exact hw
  unfold hearsS
  rw [if_neg M124]
  simp only [if_neg h2, if_pos h3]
theorem hears_want {l : Link} {p : Packet} (h : p.epoch = l.epoch) (hd : drops l p = false) (hw : wants l p = true) : hearsS l p = ({ l with want := IntKind.i64.wrap (l.want + 1) }, p.text, true) := by
  have h2 : ¬ (l.way ≠ [] ∧ p.ack > 1 ∧ IntKind.i64.wrap (p.ack - 1) = l.next) := of_decide_eq_false hd
  have h3 : ¬ (p.seq = 0 ∨ p.seq ≠ l.want) := by unfold wants at hw; rw [Bool.not_eq_true', decide_eq_false_iff_not] at hw; exact hw
  unfold hearsS
  rw [if_neg M124]
  simp only [if_neg h2, if_neg h3]
end Go.Proofs.YtiipkeendfpddaaGreat.K

/- Plain: syncs that hear, as the reference has it. -/
namespace Go.Proofs.YtiipkeendfpddaaGreat.K
open Go Go.RowKit
set_option linter.unusedVariables false
theorem hears_dx {l : Link} {p : Packet} (h : p.epoch = l.epoch) (hd : drops l p = true) (hw : wants l p = false) : hearsS l p = ({ l with way := l.way.drop 1, next := IntKind.i64.wrap (l.next + 1) }, [], false) := by
  unfold hearsS
  rw [if_neg M124, if_pos (drops_t hd)]
  unfold wants at hw
  simp only [Bool.not_eq_false', decide_eq_true_eq] at hw
  exact if_pos hw
theorem hears_dw {l : Link} {p : Packet} (h : p.epoch = l.epoch) (hd : drops l p = true) (hw : wants l p = true) : hearsS l p = ({ l with way := l.way.drop 1, next := IntKind.i64.wrap (l.next + 1), want := IntKind.i64.wrap (l.want + 1) }, p.text, true) := by
  unfold hearsS
  rw [if_neg M124, if_pos (drops_t hd)]
  unfold wants at hw
  simp only [Bool.not_eq_true', decide_eq_false_iff_not] at hw
  exact if_neg hw
def syncHearsS (y : Sync) (p : Packet) : Sync × Str :=
  if (hearsS y.link p).2.2 = true then syncText { y with link := (hearsS y.link p).1 } (hearsS y.link p).2.1 else ({ y with link := (hearsS y.link p).1 }, [])
theorem syncHearsS_no {y : Sync} {p : Packet} {L : Link} {T : Str} (h : hearsS y.link p = (L, T, false)) : syncHearsS y p = ({ y with link := L }, []) := by unfold syncHearsS; rw [h]; rfl
theorem syncHearsS_yes {y : Sync} {p : Packet} {L : Link} {T : Str} (h : hearsS y.link p = (L, T, true)) : syncHearsS y p = syncText { y with link := L } T := by unfold syncHearsS; rw [h]; rfl
theorem syncHearsS_same {y : Sync} {p : Packet} (h : 1 ≤ y.link.next ∧ y.link.next ≤ 1000) (ha : p.ack ≤ 9223372036854775807) : syncHearsS y p = syncHears y p := by
  unfold syncHearsS syncHears; rw [hears_same h ha]
theorem hearsS_text (l : Link) (p : Packet) : (hearsS l p).2.1.length ≤ p.text.length := by
  unfold hearsS
  split
  · exact Nat.zero_le _
  · have hg : ∀ l1 : Link, (if p.seq = 0 ∨ p.seq ≠ l1.want then (l1, ([] : Str), false) else ({ l1 with want := IntKind.i64.wrap (l1.want + 1) }, p.text, true)).2.1.length ≤ p.text.length := by
      intro l1
      split
      · exact Nat.zero_le _
      · exact Nat.le_refl _
    exact hg _
theorem syncHearsS_empty {y : Sync} {p : Packet} {L : Link} (h : hearsS y.link p = (L, [], true)) : syncHearsS y p = ({ y with link := L, failed := true }, []) := by
  rw [syncHearsS_yes h, syncText_X rfl rfl]
end Go.Proofs.YtiipkeendfpddaaGreat.K
