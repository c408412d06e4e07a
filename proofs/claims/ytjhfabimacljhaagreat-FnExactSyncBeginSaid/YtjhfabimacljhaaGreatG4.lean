/- Links put, syncs ended, marks: plain functions. -/
import Derived.Test.YtjhfabimacljhaaGreatG2
import Derived.Test.YtjhfabimacljhaaGreatG3
import Derived.Test.YtjhfabimacljhaaGreatG1
namespace Go.Proofs.YtjhfabimacljhaaGreat.K
open Go Go.RowKit
set_option linter.unusedVariables false
set_option linter.unusedSimpArgs false
def linkFull (l : Link) (t : Str) : Bool := decide ((l.way.length : Int) ≥ 60) || !inR (t.length : Int) 1 400
def linkPut (l : Link) (t : Str) : Link × Bool := if linkFull l t = true then (l, false) else ({ l with way := l.way ++ [t] }, true)
theorem linkPut_t {l : Link} {t : Str} (h : linkFull l t = true) : linkPut l t = (l, false) := if_pos h
theorem linkPut_f {l : Link} {t : Str} (h : linkFull l t = false) : linkPut l t = ({ l with way := l.way ++ [t] }, true) := if_neg (by simp [h])
abbrev vLB (r : Link × Bool) : V := .tup [.agg (cLink r.1), .bool r.2]
def syncEnds (y : Sync) (b : Bool) : Sync := if b = true then { y with done := true } else { y with failed := true }
def decGo (m : Nat) (acc : Str) : Str := if h : 0 < m then decGo (m / 10) (UInt8.ofNat (48 + m % 10) :: acc) else acc
termination_by m
decreasing_by omega
theorem decGo_pos {m : Nat} {acc : Str} (h : 0 < m) : decGo m acc = decGo (m / 10) (UInt8.ofNat (48 + m % 10) :: acc) := by rw [decGo, dif_pos h]
theorem decGo_zero {m : Nat} {acc : Str} (h : ¬ 0 < m) : decGo m acc = acc := by rw [decGo, dif_neg h]
def markT (k : Nat) : Str := if k = 0 then [109, 48] else 109 :: decGo k []
theorem digit_byte {m : Nat} : IntKind.u8.wrap (IntKind.i64.wrap (48 + ((m : Int)).tmod 10)) = (((UInt8.ofNat (48 + m % 10)).toNat : Nat) : Int) := by
  rw [Int.tmod_eq_emod_of_nonneg (by omega), show (48 : Int) + (m : Int) % 10 = ((48 + m % 10 : Nat) : Int) by omega, wrap_nat (by omega), wrap_u8_nat]
theorem quo10 {n : Nat} (h : n ≤ 9223372036854775807) : IntKind.i64.wrap (((n : Int)).tdiv 10) = ((n / 10 : Nat) : Int) := by
  rw [Int.tdiv_eq_ediv_of_nonneg (by omega), IntKind.wrap_i64]; omega
def marks (k n : Nat) : List Str := (List.range' k n).map markT
theorem set_app {α : Type} {a b : List α} {i : Nat} {y : α} (h : a.length = i) (hb : b ≠ []) : (a ++ b).set i y = a ++ y :: b.drop 1 := by
  subst h
  rw [List.set_append_right _ _ (Nat.le_refl _), Nat.sub_self]
  cases b with
  | nil => exact absurd rfl hb
  | cons x b => rfl
end Go.Proofs.YtjhfabimacljhaaGreat.K

/- The program's data as plain data, and how it lies in cells. Printed by gendata.py. -/
namespace Go.Proofs.YtjhfabimacljhaaGreat.K
open Go Go.RowKit
set_option linter.unusedVariables false
set_option linter.unusedSimpArgs false
structure Stamp where
  time : Int
  by_ : Int
  deriving DecidableEq
abbrev cStamp (x : Stamp) : List V := [.int .i64 x.time, .int .i64 x.by_]
structure Reg where
  val : Int
  stamp : Stamp
  deriving DecidableEq
abbrev cReg (x : Reg) : List V := [.int .i64 x.val, .int .i64 x.stamp.time, .int .i64 x.stamp.by_]
structure Mail where
  gid : Int
  uid : Int
  flags : List Reg
  text : Str
  deriving DecidableEq
abbrev cMail (x : Mail) : List V := [.int .i64 x.gid, .int .i64 x.uid, .sl 0 3 0 (x.flags.map cReg), .str x.text]
structure Box where
  gid : Int
  name : Str
  named : Stamp
  next : Int
  mails : List Mail
  gone : List Int
  deriving DecidableEq
abbrev cBox (x : Box) : List V := [.int .i64 x.gid, .str x.name, .int .i64 x.named.time, .int .i64 x.named.by_, .int .i64 x.next, .sl 0 4 0 (x.mails.map cMail), .sl 0 1 0 (x.gone.map cZ)]
structure Store where
  by_ : Int
  time : Int
  boxes : List Box
  gone : List Int
  deriving DecidableEq
abbrev cStore (x : Store) : List V := [.int .i64 x.by_, .int .i64 x.time, .sl 0 7 0 (x.boxes.map cBox), .sl 0 1 0 (x.gone.map cZ)]
structure Kept where
  store : Store
  journal : Str
  saved : Int
  deriving DecidableEq
abbrev cKept (x : Kept) : List V := [.int .i64 x.store.by_, .int .i64 x.store.time, .sl 0 7 0 (x.store.boxes.map cBox), .sl 0 1 0 (x.store.gone.map cZ), .str x.journal, .int .i64 x.saved]
structure Session where
  inn : Str
  out : Str
  on : Bool
  over : Bool
  box : Int
  view : List Int
  deriving DecidableEq
abbrev cSession (x : Session) : List V := [.str x.inn, .str x.out, .bool x.on, .bool x.over, .int .i64 x.box, .sl 0 1 0 (x.view.map cZ)]
structure Server where
  kept : Kept
  session : Session
  up : Bool
  deriving DecidableEq
abbrev cServer (x : Server) : List V := [.int .i64 x.kept.store.by_, .int .i64 x.kept.store.time, .sl 0 7 0 (x.kept.store.boxes.map cBox), .sl 0 1 0 (x.kept.store.gone.map cZ), .str x.kept.journal, .int .i64 x.kept.saved, .str x.session.inn, .str x.session.out, .bool x.session.on, .bool x.session.over, .int .i64 x.session.box, .sl 0 1 0 (x.session.view.map cZ), .bool x.up]
structure Letter where
  to_ : Int
  text : Str
  deriving DecidableEq
abbrev cLetter (x : Letter) : List V := [.int .i64 x.to_, .str x.text]
structure Pair where
  servers : List Server
  syncs : List Sync
  net : List Letter
  epoch : Int
  deriving DecidableEq
abbrev cPair (x : Pair) : List V := [.sl 0 13 0 (x.servers.map cServer), .sl 0 9 0 (x.syncs.map cSync), .sl 0 2 0 (x.net.map cLetter), .int .i64 x.epoch]
structure Life where
  pair : Pair
  codes : List Int
  deriving DecidableEq
abbrev cLife (x : Life) : List V := [.sl 0 13 0 (x.pair.servers.map cServer), .sl 0 9 0 (x.pair.syncs.map cSync), .sl 0 2 0 (x.pair.net.map cLetter), .int .i64 x.pair.epoch, .sl 0 1 0 (x.codes.map cZ)]
structure Call where
  kind : Int
  box : Int
  gid : Int
  flags : Int
  text : Str
  deriving DecidableEq
abbrev cCall (x : Call) : List V := [.int .i64 x.kind, .int .i64 x.box, .int .i64 x.gid, .int .i64 x.flags, .str x.text]
structure Token where
  kind : Int
  text : Str
  deriving DecidableEq
abbrev cToken (x : Token) : List V := [.int .i64 x.kind, .str x.text]
structure Range where
  frm : Int
  to_ : Int
  deriving DecidableEq
abbrev cRange (x : Range) : List V := [.int .i64 x.frm, .int .i64 x.to_]
theorem labels0_map {α : Type} {f : α → List V} (hf : ∀ x, ∀ L ∈ V.labelsL (f x), L = 0) (xs : List α) : ∀ L ∈ V.labelsLL (xs.map f), L = 0 := by
  induction xs with
  | nil => intro L h; cases h
  | cons x xs ih =>
    intro L h
    simp only [List.map_cons, V.labelsLL, List.mem_append] at h
    rcases h with h | h
    · exact hf x L h
    · exact ih L h
theorem trav0_map {α : Type} {f : α → List V} {f0 : Nat → V} {fs : Nat → Nat → Nat → List (List V) → V} {fp : Nat → Nat → Nat → List V → V} (hf : ∀ x, V.travL f0 fs fp (f x) = f x) (xs : List α) : V.travLL f0 fs fp (xs.map f) = xs.map f := travLL_map hf xs
theorem zf : (∀ (f0 : Nat → V) (fs : Nat → Nat → Nat → List (List V) → V) (fp : Nat → Nat → Nat → List V → V) (xs : List Stamp), V.travLL f0 fs fp (xs.map cStamp) = xs.map cStamp) ∧ (∀ (xs : List Stamp), V.labelsLL (xs.map cStamp) = []) ∧ (∀ (xs : List Stamp), V.datLL (xs.map cStamp) = true) ∧ (∀ (n : Nat) (xs : List Stamp), V.tagLL n (xs.map cStamp) = xs.map cStamp) ∧ (∀ (xs : List Stamp), V.cntLL (xs.map cStamp) = 0) ∧ (∀ (f0 : Nat → V) (fs : Nat → Nat → Nat → List (List V) → V) (fp : Nat → Nat → Nat → List V → V) (xs : List Reg), V.travLL f0 fs fp (xs.map cReg) = xs.map cReg) ∧ (∀ (xs : List Reg), V.labelsLL (xs.map cReg) = []) ∧ (∀ (xs : List Reg), V.datLL (xs.map cReg) = true) ∧ (∀ (n : Nat) (xs : List Reg), V.tagLL n (xs.map cReg) = xs.map cReg) ∧ (∀ (xs : List Reg), V.cntLL (xs.map cReg) = 0) ∧ (∀ (f0 : Nat → V) (fs : Nat → Nat → Nat → List (List V) → V) (fp : Nat → Nat → Nat → List V → V) (xs : List Letter), V.travLL f0 fs fp (xs.map cLetter) = xs.map cLetter) ∧ (∀ (xs : List Letter), V.labelsLL (xs.map cLetter) = []) ∧ (∀ (xs : List Letter), V.datLL (xs.map cLetter) = true) ∧ (∀ (n : Nat) (xs : List Letter), V.tagLL n (xs.map cLetter) = xs.map cLetter) ∧ (∀ (xs : List Letter), V.cntLL (xs.map cLetter) = 0) ∧ (∀ (f0 : Nat → V) (fs : Nat → Nat → Nat → List (List V) → V) (fp : Nat → Nat → Nat → List V → V) (xs : List Call), V.travLL f0 fs fp (xs.map cCall) = xs.map cCall) ∧ (∀ (xs : List Call), V.labelsLL (xs.map cCall) = []) ∧ (∀ (xs : List Call), V.datLL (xs.map cCall) = true) ∧ (∀ (n : Nat) (xs : List Call), V.tagLL n (xs.map cCall) = xs.map cCall) ∧ (∀ (xs : List Call), V.cntLL (xs.map cCall) = 0) ∧ (∀ (f0 : Nat → V) (fs : Nat → Nat → Nat → List (List V) → V) (fp : Nat → Nat → Nat → List V → V) (xs : List Token), V.travLL f0 fs fp (xs.map cToken) = xs.map cToken) ∧ (∀ (xs : List Token), V.labelsLL (xs.map cToken) = []) ∧ (∀ (xs : List Token), V.datLL (xs.map cToken) = true) ∧ (∀ (n : Nat) (xs : List Token), V.tagLL n (xs.map cToken) = xs.map cToken) ∧ (∀ (xs : List Token), V.cntLL (xs.map cToken) = 0) ∧ (∀ (f0 : Nat → V) (fs : Nat → Nat → Nat → List (List V) → V) (fp : Nat → Nat → Nat → List V → V) (xs : List Range), V.travLL f0 fs fp (xs.map cRange) = xs.map cRange) ∧ (∀ (xs : List Range), V.labelsLL (xs.map cRange) = []) ∧ (∀ (xs : List Range), V.datLL (xs.map cRange) = true) ∧ (∀ (n : Nat) (xs : List Range), V.tagLL n (xs.map cRange) = xs.map cRange) ∧ (∀ (xs : List Range), V.cntLL (xs.map cRange) = 0) :=
  ⟨fun f0 fs fp xs => travLL_map (fun _ => rfl) xs, fun xs => labels_map (fun _ => rfl) xs, fun xs => dat_map (fun _ => rfl) xs, fun n xs => tag_map (fun _ _ => rfl) xs n, fun xs => cnt_map (fun _ => rfl) xs, fun f0 fs fp xs => travLL_map (fun _ => rfl) xs, fun xs => labels_map (fun _ => rfl) xs, fun xs => dat_map (fun _ => rfl) xs, fun n xs => tag_map (fun _ _ => rfl) xs n, fun xs => cnt_map (fun _ => rfl) xs, fun f0 fs fp xs => travLL_map (fun _ => rfl) xs, fun xs => labels_map (fun _ => rfl) xs, fun xs => dat_map (fun _ => rfl) xs, fun n xs => tag_map (fun _ _ => rfl) xs n, fun xs => cnt_map (fun _ => rfl) xs, fun f0 fs fp xs => travLL_map (fun _ => rfl) xs, fun xs => labels_map (fun _ => rfl) xs, fun xs => dat_map (fun _ => rfl) xs, fun n xs => tag_map (fun _ _ => rfl) xs n, fun xs => cnt_map (fun _ => rfl) xs, fun f0 fs fp xs => travLL_map (fun _ => rfl) xs, fun xs => labels_map (fun _ => rfl) xs, fun xs => dat_map (fun _ => rfl) xs, fun n xs => tag_map (fun _ _ => rfl) xs n, fun xs => cnt_map (fun _ => rfl) xs, fun f0 fs fp xs => travLL_map (fun _ => rfl) xs, fun xs => labels_map (fun _ => rfl) xs, fun xs => dat_map (fun _ => rfl) xs, fun n xs => tag_map (fun _ _ => rfl) xs n, fun xs => cnt_map (fun _ => rfl) xs⟩
theorem t0_Sync {f0 : Nat → V} {fs : Nat → Nat → Nat → List (List V) → V} {fp : Nat → Nat → Nat → List V → V} (h : ∀ sz es, fs 0 sz 0 es = .sl 0 sz 0 es) (x : Sync) : V.travL f0 fs fp (cSync x) = cSync x := by
  simp only [cSync, V.travL, V.trav, zz, zf, h]
theorem l0_Sync (x : Sync) : ∀ L ∈ V.labelsL (cSync x), L = 0 := by
  intro L hL
  simp only [cSync, V.labelsL, V.labels, zz, zf, List.mem_append, List.mem_cons, List.not_mem_nil, or_false, false_or, List.append_nil, List.nil_append] at hL
  first | exact hL | omega | (repeat (first | exact hL | exact absurd hL id | (rcases hL with hL | hL)))
theorem d0_Sync (x : Sync) : V.datL (cSync x) = true := by
  simp [cSync, V.datL, V.dat, zz, zf]
theorem t0_Mail {f0 : Nat → V} {fs : Nat → Nat → Nat → List (List V) → V} {fp : Nat → Nat → Nat → List V → V} (h : ∀ sz es, fs 0 sz 0 es = .sl 0 sz 0 es) (x : Mail) : V.travL f0 fs fp (cMail x) = cMail x := by
  simp only [cMail, V.travL, V.trav, zz, zf, h]
theorem l0_Mail (x : Mail) : ∀ L ∈ V.labelsL (cMail x), L = 0 := by
  intro L hL
  simp only [cMail, V.labelsL, V.labels, zz, zf, List.mem_append, List.mem_cons, List.not_mem_nil, or_false, false_or, List.append_nil, List.nil_append] at hL
  first | exact hL | omega | (repeat (first | exact hL | exact absurd hL id | (rcases hL with hL | hL)))
theorem d0_Mail (x : Mail) : V.datL (cMail x) = true := by
  simp [cMail, V.datL, V.dat, zz, zf]
theorem t0_Box {f0 : Nat → V} {fs : Nat → Nat → Nat → List (List V) → V} {fp : Nat → Nat → Nat → List V → V} (h : ∀ sz es, fs 0 sz 0 es = .sl 0 sz 0 es) (x : Box) : V.travL f0 fs fp (cBox x) = cBox x := by
  simp only [cBox, V.travL, V.trav, zz, zf, h, trav0_map (t0_Mail h)]
theorem l0_Box (x : Box) : ∀ L ∈ V.labelsL (cBox x), L = 0 := by
  intro L hL
  simp only [cBox, V.labelsL, V.labels, zz, zf, List.mem_append, List.mem_cons, List.not_mem_nil, or_false, false_or, List.append_nil, List.nil_append] at hL
  first | exact hL | omega | (repeat (first | exact hL | exact absurd hL id | (rcases hL with hL | hL) | exact labels0_map l0_Mail _ L hL))
theorem d0_Box (x : Box) : V.datL (cBox x) = true := by
  simp [cBox, V.datL, V.dat, zz, zf, dat_map d0_Mail]
theorem t0_Server {f0 : Nat → V} {fs : Nat → Nat → Nat → List (List V) → V} {fp : Nat → Nat → Nat → List V → V} (h : ∀ sz es, fs 0 sz 0 es = .sl 0 sz 0 es) (x : Server) : V.travL f0 fs fp (cServer x) = cServer x := by
  simp only [cServer, V.travL, V.trav, zz, zf, h, trav0_map (t0_Box h)]
theorem l0_Server (x : Server) : ∀ L ∈ V.labelsL (cServer x), L = 0 := by
  intro L hL
  simp only [cServer, V.labelsL, V.labels, zz, zf, List.mem_append, List.mem_cons, List.not_mem_nil, or_false, false_or, List.append_nil, List.nil_append] at hL
  first | exact hL | omega | (repeat (first | exact hL | exact absurd hL id | (rcases hL with hL | hL) | exact labels0_map l0_Box _ L hL))
theorem d0_Server (x : Server) : V.datL (cServer x) = true := by
  simp [cServer, V.datL, V.dat, zz, zf, dat_map d0_Box]
theorem zy : (∀ (xs : List Sync), V.travLL (fun sz => V.sl 0 sz 0 []) (fun _ sz _ es => V.sl 0 sz 0 es) (fun _ _ o e => V.ptr 0 0 o e) (xs.map cSync) = xs.map cSync) ∧ (∀ (L i : Nat) (e : List V) (xs : List Sync), V.travLL V.nil (updS (L + 1) i e) (updP (L + 1) i e) (xs.map cSync) = xs.map cSync) ∧ (∀ (L : Nat) (xs : List Sync), V.travLL V.nil (killS (L + 1)) (killP (L + 1)) (xs.map cSync) = xs.map cSync) ∧ (∀ (xs : List Sync), (∀ L ∈ V.labelsLL (xs.map cSync), L = 0) = True) ∧ (∀ (xs : List Sync), V.datLL (xs.map cSync) = true) ∧ (∀ (L : Nat) (xs : List Sync), (L + 1 ∈ V.labelsLL (xs.map cSync)) = False) ∧ (∀ (k : Nat) (xs : List Sync), V.travLL V.nil (fun L sz off es => V.sl (if k ≤ L then 0 else L) sz off es) (fun L i o e => V.ptr (if k ≤ L then 0 else L) i o e) (xs.map cSync) = xs.map cSync) ∧ (∀ (xs : List Mail), V.travLL (fun sz => V.sl 0 sz 0 []) (fun _ sz _ es => V.sl 0 sz 0 es) (fun _ _ o e => V.ptr 0 0 o e) (xs.map cMail) = xs.map cMail) ∧ (∀ (L i : Nat) (e : List V) (xs : List Mail), V.travLL V.nil (updS (L + 1) i e) (updP (L + 1) i e) (xs.map cMail) = xs.map cMail) ∧ (∀ (L : Nat) (xs : List Mail), V.travLL V.nil (killS (L + 1)) (killP (L + 1)) (xs.map cMail) = xs.map cMail) ∧ (∀ (xs : List Mail), (∀ L ∈ V.labelsLL (xs.map cMail), L = 0) = True) ∧ (∀ (xs : List Mail), V.datLL (xs.map cMail) = true) ∧ (∀ (L : Nat) (xs : List Mail), (L + 1 ∈ V.labelsLL (xs.map cMail)) = False) ∧ (∀ (k : Nat) (xs : List Mail), V.travLL V.nil (fun L sz off es => V.sl (if k ≤ L then 0 else L) sz off es) (fun L i o e => V.ptr (if k ≤ L then 0 else L) i o e) (xs.map cMail) = xs.map cMail) ∧ (∀ (xs : List Box), V.travLL (fun sz => V.sl 0 sz 0 []) (fun _ sz _ es => V.sl 0 sz 0 es) (fun _ _ o e => V.ptr 0 0 o e) (xs.map cBox) = xs.map cBox) ∧ (∀ (L i : Nat) (e : List V) (xs : List Box), V.travLL V.nil (updS (L + 1) i e) (updP (L + 1) i e) (xs.map cBox) = xs.map cBox) ∧ (∀ (L : Nat) (xs : List Box), V.travLL V.nil (killS (L + 1)) (killP (L + 1)) (xs.map cBox) = xs.map cBox) ∧ (∀ (xs : List Box), (∀ L ∈ V.labelsLL (xs.map cBox), L = 0) = True) ∧ (∀ (xs : List Box), V.datLL (xs.map cBox) = true) ∧ (∀ (L : Nat) (xs : List Box), (L + 1 ∈ V.labelsLL (xs.map cBox)) = False) ∧ (∀ (k : Nat) (xs : List Box), V.travLL V.nil (fun L sz off es => V.sl (if k ≤ L then 0 else L) sz off es) (fun L i o e => V.ptr (if k ≤ L then 0 else L) i o e) (xs.map cBox) = xs.map cBox) ∧ (∀ (xs : List Server), V.travLL (fun sz => V.sl 0 sz 0 []) (fun _ sz _ es => V.sl 0 sz 0 es) (fun _ _ o e => V.ptr 0 0 o e) (xs.map cServer) = xs.map cServer) ∧ (∀ (L i : Nat) (e : List V) (xs : List Server), V.travLL V.nil (updS (L + 1) i e) (updP (L + 1) i e) (xs.map cServer) = xs.map cServer) ∧ (∀ (L : Nat) (xs : List Server), V.travLL V.nil (killS (L + 1)) (killP (L + 1)) (xs.map cServer) = xs.map cServer) ∧ (∀ (xs : List Server), (∀ L ∈ V.labelsLL (xs.map cServer), L = 0) = True) ∧ (∀ (xs : List Server), V.datLL (xs.map cServer) = true) ∧ (∀ (L : Nat) (xs : List Server), (L + 1 ∈ V.labelsLL (xs.map cServer)) = False) ∧ (∀ (k : Nat) (xs : List Server), V.travLL V.nil (fun L sz off es => V.sl (if k ≤ L then 0 else L) sz off es) (fun L i o e => V.ptr (if k ≤ L then 0 else L) i o e) (xs.map cServer) = xs.map cServer) :=
  ⟨fun xs => trav0_map (t0_Sync (fs := fun _ sz _ es => V.sl 0 sz 0 es) (fun _ _ => rfl)) xs, fun L i e xs => trav0_map (t0_Sync (fun sz es => if_neg (fun h => by have := h.1; omega))) xs, fun L xs => trav0_map (t0_Sync (fun sz es => if_neg (fun h => by omega))) xs, fun xs => eq_true (labels0_map l0_Sync xs), fun xs => dat_map d0_Sync xs, fun L xs => eq_false (fun h => by have := labels0_map l0_Sync xs _ h; omega), fun k xs => trav0_map (t0_Sync (fs := fun L sz off es => V.sl (if k ≤ L then 0 else L) sz off es) (fun sz es => by simp)) xs, fun xs => trav0_map (t0_Mail (fs := fun _ sz _ es => V.sl 0 sz 0 es) (fun _ _ => rfl)) xs, fun L i e xs => trav0_map (t0_Mail (fun sz es => if_neg (fun h => by have := h.1; omega))) xs, fun L xs => trav0_map (t0_Mail (fun sz es => if_neg (fun h => by omega))) xs, fun xs => eq_true (labels0_map l0_Mail xs), fun xs => dat_map d0_Mail xs, fun L xs => eq_false (fun h => by have := labels0_map l0_Mail xs _ h; omega), fun k xs => trav0_map (t0_Mail (fs := fun L sz off es => V.sl (if k ≤ L then 0 else L) sz off es) (fun sz es => by simp)) xs, fun xs => trav0_map (t0_Box (fs := fun _ sz _ es => V.sl 0 sz 0 es) (fun _ _ => rfl)) xs, fun L i e xs => trav0_map (t0_Box (fun sz es => if_neg (fun h => by have := h.1; omega))) xs, fun L xs => trav0_map (t0_Box (fun sz es => if_neg (fun h => by omega))) xs, fun xs => eq_true (labels0_map l0_Box xs), fun xs => dat_map d0_Box xs, fun L xs => eq_false (fun h => by have := labels0_map l0_Box xs _ h; omega), fun k xs => trav0_map (t0_Box (fs := fun L sz off es => V.sl (if k ≤ L then 0 else L) sz off es) (fun sz es => by simp)) xs, fun xs => trav0_map (t0_Server (fs := fun _ sz _ es => V.sl 0 sz 0 es) (fun _ _ => rfl)) xs, fun L i e xs => trav0_map (t0_Server (fun sz es => if_neg (fun h => by have := h.1; omega))) xs, fun L xs => trav0_map (t0_Server (fun sz es => if_neg (fun h => by omega))) xs, fun xs => eq_true (labels0_map l0_Server xs), fun xs => dat_map d0_Server xs, fun L xs => eq_false (fun h => by have := labels0_map l0_Server xs _ h; omega), fun k xs => trav0_map (t0_Server (fs := fun L sz off es => V.sl (if k ≤ L then 0 else L) sz off es) (fun sz es => by simp)) xs⟩
end Go.Proofs.YtjhfabimacljhaaGreat.K

/- Arguments of the program's types. Printed by shapes.py. -/
namespace Go.Proofs.YtjhfabimacljhaaGreat.K
open Go Go.RowKit
set_option linter.unusedVariables false
set_option linter.unusedSimpArgs false
set_option maxRecDepth 20000
abbrev BB : Nat := 140737488351232
def StrsB (a : List Str) : Prop := a.length ≤ BB ∧ ∀ s ∈ a, s.length ≤ BB
theorem map_of {α : Type} {f : α → List V} {p : α → Prop} : ∀ {es : List (List V)}, (∀ c ∈ es, ∃ a, c = f a ∧ p a) → ∃ l : List α, es = l.map f ∧ ∀ a ∈ l, p a
  | [], _ => ⟨[], rfl, by simp⟩
  | c :: es, h => by
    obtain ⟨a, rfl, ha⟩ := h c (List.mem_cons_self ..)
    obtain ⟨l, rfl, hl⟩ := map_of (es := es) fun c hc => h c (List.mem_cons_of_mem _ hc)
    exact ⟨a :: l, rfl, by simpa using ⟨ha, hl⟩⟩
theorem shp_int {m : Nat} {xs : List V} (h : Shp tab BB (m + 1) 3 xs) : ∃ n, xs = [.int .i64 n] := by
  simp only [Shp, kT] at h
  obtain ⟨n, h, _⟩ := h
  exact ⟨n, h⟩
theorem shp_str {m : Nat} {xs : List V} (h : Shp tab BB (m + 1) 9 xs) : ∃ s : Str, xs = [.str s] ∧ s.length ≤ BB := by
  simp only [Shp, kT] at h
  exact h
theorem shp_sint {m : Nat} {xs : List V} (h : Shp tab BB (m + 2) 23 xs) : ∃ a : List Int, xs = [.sl 0 1 0 (a.map cZ)] ∧ a.length ≤ BB := by
  rw [Shp] at h
  simp only [kT, Option.map_some, Option.getD_some] at h
  obtain ⟨es, rfl, hl, hc⟩ := h
  obtain ⟨a, rfl, ha⟩ := map_of (f := cZ) (p := fun x => True) (es := es) fun c h => by
    obtain ⟨n, h⟩ := shp_int (m := m + 0) (hc c h); exact ⟨n, h, trivial⟩
  exact ⟨a, rfl, by rw [List.length_map] at hl; omega⟩
def okStamp (x : Stamp) : Prop := True
theorem stamp_of {m : Nat} {xs : List V} (h : Shp tab BB (m + 2) 159 xs) : ∃ x : Stamp, xs = cStamp x ∧ okStamp x := by
  rw [Shp] at h
  simp only [kT, ShpF] at h
  obtain ⟨a1, _, rfl, a2, b1, _, rfl, b2, rfl⟩ := h
  obtain ⟨a1, rfl⟩ := shp_int (m := m + 0) a2
  obtain ⟨b1, rfl⟩ := shp_int (m := m + 0) b2
  exact ⟨⟨a1, b1⟩, rfl, trivial⟩
def okReg (x : Reg) : Prop := (okStamp x.stamp)
theorem reg_of {m : Nat} {xs : List V} (h : Shp tab BB (m + 3) 279 xs) : ∃ x : Reg, xs = cReg x ∧ okReg x := by
  rw [Shp] at h
  simp only [kT, ShpF] at h
  obtain ⟨a1, _, rfl, a2, b1, _, rfl, b2, rfl⟩ := h
  obtain ⟨a1, rfl⟩ := shp_int (m := m + 1) a2
  obtain ⟨b1, rfl, b3⟩ := stamp_of (m := m + 0) b2
  exact ⟨⟨a1, b1⟩, rfl, b3⟩
theorem shp_sreg {m : Nat} {xs : List V} (h : Shp tab BB (m + 4) 251 xs) : ∃ a : List Reg, xs = [.sl 0 3 0 (a.map cReg)] ∧ a.length ≤ BB ∧ ∀ z ∈ a, okReg z := by
  rw [Shp] at h
  simp only [kT, Option.map_some, Option.getD_some] at h
  obtain ⟨es, rfl, hl, hc⟩ := h
  obtain ⟨a, rfl, ha⟩ := map_of (f := cReg) (p := fun x => okReg x) (es := es) fun c h => by
    exact reg_of (m := m) (hc c h)
  exact ⟨a, rfl, by rw [List.length_map] at hl; omega, ha⟩
def okMail (x : Mail) : Prop := (x.flags.length ≤ BB ∧ ∀ z ∈ x.flags, okReg z) ∧ (x.text.length ≤ BB)
theorem mail_of {m : Nat} {xs : List V} (h : Shp tab BB (m + 5) 253 xs) : ∃ x : Mail, xs = cMail x ∧ okMail x := by
  rw [Shp] at h
  simp only [kT, ShpF] at h
  obtain ⟨a1, _, rfl, a2, b1, _, rfl, b2, c1, _, rfl, c2, d1, _, rfl, d2, rfl⟩ := h
  obtain ⟨a1, rfl⟩ := shp_int (m := m + 3) a2
  obtain ⟨b1, rfl⟩ := shp_int (m := m + 3) b2
  obtain ⟨c1, rfl, c3⟩ := shp_sreg (m := m + 0) c2
  obtain ⟨d1, rfl, d3⟩ := shp_str (m := m + 3) d2
  exact ⟨⟨a1, b1, c1, d1⟩, rfl, ⟨c3, d3⟩⟩
theorem shp_smail {m : Nat} {xs : List V} (h : Shp tab BB (m + 6) 160 xs) : ∃ a : List Mail, xs = [.sl 0 4 0 (a.map cMail)] ∧ a.length ≤ BB ∧ ∀ z ∈ a, okMail z := by
  rw [Shp] at h
  simp only [kT, Option.map_some, Option.getD_some] at h
  obtain ⟨es, rfl, hl, hc⟩ := h
  obtain ⟨a, rfl, ha⟩ := map_of (f := cMail) (p := fun x => okMail x) (es := es) fun c h => by
    exact mail_of (m := m) (hc c h)
  exact ⟨a, rfl, by rw [List.length_map] at hl; omega, ha⟩
def okBox (x : Box) : Prop := (x.name.length ≤ BB) ∧ (okStamp x.named) ∧ (x.mails.length ≤ BB ∧ ∀ z ∈ x.mails, okMail z) ∧ (x.gone.length ≤ BB)
theorem box_of {m : Nat} {xs : List V} (h : Shp tab BB (m + 7) 162 xs) : ∃ x : Box, xs = cBox x ∧ okBox x := by
  rw [Shp] at h
  simp only [kT, ShpF] at h
  obtain ⟨a1, _, rfl, a2, b1, _, rfl, b2, c1, _, rfl, c2, d1, _, rfl, d2, e1, _, rfl, e2, f1, _, rfl, f2, rfl⟩ := h
  obtain ⟨a1, rfl⟩ := shp_int (m := m + 5) a2
  obtain ⟨b1, rfl, b3⟩ := shp_str (m := m + 5) b2
  obtain ⟨c1, rfl, c3⟩ := stamp_of (m := m + 4) c2
  obtain ⟨d1, rfl⟩ := shp_int (m := m + 5) d2
  obtain ⟨e1, rfl, e3⟩ := shp_smail (m := m + 0) e2
  obtain ⟨f1, rfl, f3⟩ := shp_sint (m := m + 4) f2
  exact ⟨⟨a1, b1, c1, d1, e1, f1⟩, rfl, ⟨b3, c3, e3, f3⟩⟩
theorem shp_sbox {m : Nat} {xs : List V} (h : Shp tab BB (m + 8) 22 xs) : ∃ a : List Box, xs = [.sl 0 7 0 (a.map cBox)] ∧ a.length ≤ BB ∧ ∀ z ∈ a, okBox z := by
  rw [Shp] at h
  simp only [kT, Option.map_some, Option.getD_some] at h
  obtain ⟨es, rfl, hl, hc⟩ := h
  obtain ⟨a, rfl, ha⟩ := map_of (f := cBox) (p := fun x => okBox x) (es := es) fun c h => by
    exact box_of (m := m) (hc c h)
  exact ⟨a, rfl, by rw [List.length_map] at hl; omega, ha⟩
def okStore (x : Store) : Prop := (x.boxes.length ≤ BB ∧ ∀ z ∈ x.boxes, okBox z) ∧ (x.gone.length ≤ BB)
theorem store_of {m : Nat} {xs : List V} (h : Shp tab BB (m + 9) 25 xs) : ∃ x : Store, xs = cStore x ∧ okStore x := by
  rw [Shp] at h
  simp only [kT, ShpF] at h
  obtain ⟨a1, _, rfl, a2, b1, _, rfl, b2, c1, _, rfl, c2, d1, _, rfl, d2, rfl⟩ := h
  obtain ⟨a1, rfl⟩ := shp_int (m := m + 7) a2
  obtain ⟨b1, rfl⟩ := shp_int (m := m + 7) b2
  obtain ⟨c1, rfl, c3⟩ := shp_sbox (m := m + 0) c2
  obtain ⟨d1, rfl, d3⟩ := shp_sint (m := m + 6) d2
  exact ⟨⟨a1, b1, c1, d1⟩, rfl, ⟨c3, d3⟩⟩
def okKept (x : Kept) : Prop := (okStore x.store) ∧ (x.journal.length ≤ BB)
def okSession (x : Session) : Prop := (x.inn.length ≤ BB) ∧ (x.out.length ≤ BB) ∧ (x.view.length ≤ BB)
def okServer (x : Server) : Prop := (okKept x.kept) ∧ (okSession x.session)
def okLetter (x : Letter) : Prop := (x.text.length ≤ BB)
def okLink (x : Link) : Prop := (x.way.length ≤ BB ∧ ∀ z ∈ x.way, z.length ≤ BB)
def okSync (x : Sync) : Prop := (okLink x.link) ∧ (x.pieces.length ≤ BB ∧ ∀ z ∈ x.pieces, z.length ≤ BB)
def okPair (x : Pair) : Prop := (x.servers.length ≤ BB ∧ ∀ z ∈ x.servers, okServer z) ∧ (x.syncs.length ≤ BB ∧ ∀ z ∈ x.syncs, okSync z) ∧ (x.net.length ≤ BB ∧ ∀ z ∈ x.net, okLetter z)
section
variable {K : Nat} {H : Type} {enc : TypeId × Value → H} {P : Program} {W : World} {ti : Tab} {B : Nat} {base : Base}
theorem arg_one (hti : TabOk P ti) {t : TypeId} (m : Nat) (hd : dataT ti m t = true) {v : Value} {d : DataW H} {ps : List MemPlace} (hv : v.cells = #[v])
    (h : DataW.Trod enc P W 0 (fun _ => true) true t v d ps) (hw : ∀ x ∈ d.weights P t, x ≤ B) : ∃ x, M (bare W.heap.size) noSig W x v ∧ Shp ti B m t [x] := by
  obtain ⟨n, hn⟩ := h
  obtain ⟨xs, h1, h2⟩ := trod_M (base := bare W.heap.size) hti m t hd n _ d ps (fun _ h => h) hn hw
  rw [hv] at h1
  have hl := h1.1
  match xs, h1, h2, hl with
  | [x], h1, h2, _ => exact ⟨x, h1.2 0 x v rfl rfl, h2⟩
  | [], _, _, hl => simp at hl
  | _ :: _ :: _, _, _, hl => simp at hl
theorem cells_of_basic {w : World} {r : Reach} {b0 : Nat} {t : TypeId} {v : Value} (hu : P.underlying t = some .string ∨ P.underlying t = some .bool ∨ (∃ k, P.underlying t = some (.int k)) ∨ ∃ e, P.underlying t = some (.slice e)) (h : Value.okWide P w r b0 t v) : v.cells = #[v] := by
  unfold Value.okWide at h
  rcases hu with hu | hu | ⟨k, hu⟩ | ⟨e, hu⟩ <;>
  · simp only [hu] at h
    cases v with
    | agg cs => exfalso; revert h; simp [Cell.okWide, hu, Cell.ok]
    | _ => rfl
end
end Go.Proofs.YtjhfabimacljhaaGreat.K

/- Sizes as the laws count them. Printed by gensz.py. -/
namespace Go.Proofs.YtjhfabimacljhaaGreat.K
open Go Go.RowKit
set_option linter.unusedVariables false
set_option linter.unusedSimpArgs false
def szCut (n : Nat) (left : Int) : Int := IntKind.i64.wrap (left - (n : Int))
def szLen (n : Nat) (left : Int) : Int := if IntKind.i64.wrap (left - (n : Int)) < 0 then -1 else IntKind.i64.wrap (left - (n : Int))
def szFold {α : Type} (f : α → Int → Int) : List α → Int → Int
  | [], left => left
  | a :: l, left => if f a left < 0 then -1 else szFold f l (f a left)
def szAll {α : Type} (f : α → Int → Int) (l : List α) (left : Int) : Int := if IntKind.i64.wrap (left - (l.length : Int)) < 0 then -1 else szFold f l (IntKind.i64.wrap (left - (l.length : Int)))
def szSeq : List (Int → Int) → Int → Int
  | [], left => left
  | f :: fs, left => if f left < 0 then -1 else szSeq fs (f left)
def Cnt (f : Int → Int) (p : Prop) : Prop := ∀ left, 0 ≤ left → left ≤ 1048576 → ¬ f left < 0 → f left ≤ left ∧ p
def StrsS (a : List Str) : Prop := a.length ≤ 1048576 ∧ ∀ s ∈ a, s.length ≤ 1048576
theorem wrap_sub {left : Int} {n : Nat} (h0 : 0 ≤ left) (h1 : left ≤ 1048576) (hn : n ≤ BB) : IntKind.i64.wrap (left - n) = left - n := by rw [IntKind.wrap_i64]; unfold BB at hn; omega
theorem cut_cnt {n : Nat} (hn : n ≤ BB) : Cnt (szCut n) (n ≤ 1048576) := by
  intro left h0 h1 h
  unfold szCut at *
  rw [wrap_sub h0 h1 hn] at *
  exact ⟨by omega, by omega⟩
theorem len_cnt {n : Nat} (hn : n ≤ BB) : Cnt (szLen n) (n ≤ 1048576) := by
  intro left h0 h1 h
  unfold szLen at *
  rw [wrap_sub h0 h1 hn] at *
  split at h
  · omega
  · rename_i hl
    rw [if_neg hl]
    exact ⟨by omega, by omega⟩
theorem fold_cnt {α : Type} {f : α → Int → Int} {p : α → Prop} : ∀ {l : List α}, (∀ a ∈ l, Cnt (f a) (p a)) → Cnt (szFold f l) (∀ a ∈ l, p a)
  | [], _ => fun left _ _ _ => ⟨Int.le_refl _, fun a h => by cases h⟩
  | a :: l, hp => by
    intro left h0 h1 h
    simp only [szFold] at *
    split at h
    · omega
    · rename_i hl
      rw [if_neg hl]
      have h2 := hp a (List.mem_cons_self ..) left h0 h1 hl
      have h3 := fold_cnt (fun b hb => hp b (List.mem_cons_of_mem _ hb)) (f a left) (by omega) (by omega) h
      refine ⟨by omega, fun b hb => ?_⟩
      rcases List.mem_cons.1 hb with rfl | hb
      · exact h2.2
      · exact h3.2 b hb
theorem all_cnt {α : Type} {f : α → Int → Int} {p : α → Prop} {l : List α} (hl : l.length ≤ BB) (hp : ∀ a ∈ l, Cnt (f a) (p a)) : Cnt (szAll f l) (l.length ≤ 1048576 ∧ ∀ a ∈ l, p a) := by
  intro left h0 h1 h
  unfold szAll at *
  rw [wrap_sub h0 h1 hl] at *
  split at h
  · omega
  · rename_i hc
    rw [if_neg hc]
    have := fold_cnt hp (left - l.length) (by omega) (by omega) h
    exact ⟨by omega, by omega, this.2⟩
theorem seq_nil : Cnt (szSeq []) True := fun left _ _ _ => ⟨Int.le_refl _, trivial⟩
theorem seq_cnt {f : Int → Int} {fs : List (Int → Int)} {p q : Prop} (hp : Cnt f p) (hq : Cnt (szSeq fs) q) : Cnt (szSeq (f :: fs)) (p ∧ q) := by
  intro left h0 h1 h
  simp only [szSeq] at *
  split at h
  · omega
  · rename_i hl
    rw [if_neg hl]
    have h2 := hp left h0 h1 hl
    have h3 := hq (f left) (by omega) (by omega) h
    exact ⟨by omega, h2.2, h3.2⟩
theorem seq_one {f : Int → Int} {p : Prop} (hp : Cnt f p) : Cnt (szSeq [f]) p := by
  intro left h0 h1 h
  have := seq_cnt hp seq_nil left h0 h1 h
  exact ⟨this.1, this.2.1⟩
def szMail (x : Mail) : Int → Int := szSeq [szLen x.flags.length, szCut x.text.length]
def smMail (x : Mail) : Prop := (x.flags.length ≤ 1048576) ∧ (x.text.length ≤ 1048576)
def szBox (x : Box) : Int → Int := szSeq [szCut x.name.length, szAll szMail x.mails, szLen x.gone.length]
def smBox (x : Box) : Prop := (x.name.length ≤ 1048576) ∧ (x.mails.length ≤ 1048576 ∧ ∀ z ∈ x.mails, smMail z) ∧ (x.gone.length ≤ 1048576)
def szStore (x : Store) : Int → Int := szSeq [szAll szBox x.boxes, szLen x.gone.length]
def smStore (x : Store) : Prop := (x.boxes.length ≤ 1048576 ∧ ∀ z ∈ x.boxes, smBox z) ∧ (x.gone.length ≤ 1048576)
def szKept (x : Kept) : Int → Int := szSeq [szStore x.store, szCut x.journal.length]
def smKept (x : Kept) : Prop := (smStore x.store) ∧ (x.journal.length ≤ 1048576)
def szSession (x : Session) : Int → Int := szSeq [szCut x.inn.length, szCut x.out.length, szLen x.view.length]
def smSession (x : Session) : Prop := (x.inn.length ≤ 1048576) ∧ (x.out.length ≤ 1048576) ∧ (x.view.length ≤ 1048576)
def szServer (x : Server) : Int → Int := szSeq [szKept x.kept, szSession x.session]
def smServer (x : Server) : Prop := (smKept x.kept) ∧ (smSession x.session)
def szLetter (x : Letter) : Int → Int := szSeq [szCut x.text.length]
def smLetter (x : Letter) : Prop := (x.text.length ≤ 1048576)
def szLink_ (x : Link) : Int → Int := szSeq [szStrs x.way]
def smLink (x : Link) : Prop := (StrsS x.way)
def smSync (x : Sync) : Prop := (smLink x.link) ∧ (StrsS x.pieces)
def szPair (x : Pair) : Int → Int := szSeq [szAll szServer x.servers, szAll szSync x.syncs, szAll szLetter x.net]
def smPair (x : Pair) : Prop := (x.servers.length ≤ 1048576 ∧ ∀ z ∈ x.servers, smServer z) ∧ (x.syncs.length ≤ 1048576 ∧ ∀ z ∈ x.syncs, smSync z) ∧ (x.net.length ≤ 1048576 ∧ ∀ z ∈ x.net, smLetter z)
theorem szMail_cnt {x : Mail} (h : okMail x) : Cnt (szMail x) (smMail x) := seq_cnt (len_cnt (h.1).1) (seq_one (cut_cnt (h.2)))
theorem szBox_cnt {x : Box} (h : okBox x) : Cnt (szBox x) (smBox x) := seq_cnt (cut_cnt (h.1)) (seq_cnt (all_cnt (h.2.2.1).1 fun z hz => szMail_cnt ((h.2.2.1).2 z hz)) (seq_one (len_cnt (h.2.2.2))))
theorem szStore_cnt {x : Store} (h : okStore x) : Cnt (szStore x) (smStore x) := seq_cnt (all_cnt (h.1).1 fun z hz => szBox_cnt ((h.1).2 z hz)) (seq_one (len_cnt (h.2)))
end Go.Proofs.YtjhfabimacljhaaGreat.K

/- Numbers and texts read: plain functions; and that both readers of packets tell the same. -/
namespace Go.Proofs.YtjhfabimacljhaaGreat.K
open Go Go.RowKit
set_option linter.unusedVariables false
set_option linter.unusedSimpArgs false

def rdV (s : Str) (p : Nat) : Nat → Nat → Nat → Option (Nat × Nat)
  | 0, _, _ => none
  | f + 1, i, n => if h : p + i < s.length then
      (if s[p + i].toNat < 128 then (if n + s[p + i].toNat % 128 * 128 ^ i ≤ 1000000000 ∧ varT (n + s[p + i].toNat % 128 * 128 ^ i) = (s.take (p + i + 1)).drop p then some (n + s[p + i].toNat % 128 * 128 ^ i, p + i + 1) else none)
        else rdV s p f (i + 1) (n + s[p + i].toNat % 128 * 128 ^ i)) else none
def readVar (s : Str) (z : Int) : Option (Nat × Nat) := if inR z 0 s.length = true then rdV s z.toNat 5 0 0 else none
abbrev vR (r : Option (Nat × Nat)) : V := .tup [.int .i64 ((r.getD (0, 0)).1 : Int), .int .i64 ((r.getD (0, 0)).2 : Int), .bool r.isSome]
theorem wrap_add_one {a : Nat} (h : a + 1 ≤ 9223372036854775807) : IntKind.i64.wrap ((a : Int) + 1) = ((a + 1 : Nat) : Int) := by rw [IntKind.wrap_i64]; omega
def readShort (s : Str) (z : Int) : Option (Str × Nat) := match readVar s z with
  | some (n, e) => if n ≤ 20000 ∧ n + e ≤ s.length then some ((s.take (e + n)).drop e, e + n) else none
  | none => none
abbrev vS (r : Option (Str × Nat)) : V := .tup [.str (r.getD ([], 0)).1, .int .i64 ((r.getD ([], 0)).2 : Int), .bool r.isSome]
def unsealed (t : Str) : Option Str := if 4 ≤ t.length ∧ t.length ≤ 20004 ∧ t.drop (t.length - 4) = fourT (sumOf (t.take (t.length - 4))) then some (t.take (t.length - 4)) else none
structure Scan where
  text : Str
  pos : Int
  bad : Bool
abbrev cScan (c : Scan) : List V := [.str c.text, .int .i64 c.pos, .bool c.bad]
def scanNum (c : Scan) : Nat × Scan := match readVar c.text c.pos with
  | some (n, e) => if c.bad = true then (0, { c with bad := true }) else (n, { c with pos := (e : Int) })
  | none => (0, { c with bad := true })
def scanShort (c : Scan) : Str × Scan := match readShort c.text c.pos with
  | some (n, e) => if c.bad = true then ([], { c with bad := true }) else (n, { c with pos := (e : Int) })
  | none => ([], { c with bad := true })
def scan1 (b : Str) (bad : Bool) : Nat × Scan := scanNum ⟨b, 0, bad⟩
def scan2 (b : Str) (bad : Bool) : Nat × Scan := scanNum (scan1 b bad).2
def scan3 (b : Str) (bad : Bool) : Nat × Scan := scanNum (scan2 b bad).2
def scan4 (b : Str) (bad : Bool) : Str × Scan := scanShort (scan3 b bad).2
def scanP (b : Str) (bad : Bool) : Packet := ⟨((scan1 b bad).1 : Int), ((scan2 b bad).1 : Int), ((scan3 b bad).1 : Int), (scan4 b bad).1⟩
def readI (t : Str) : Option Packet :=
  if (unsealed t).isSome = true ∧ (scan4 ((unsealed t).getD []) false).2.bad = false ∧ (scan4 ((unsealed t).getD []) false).2.pos = (((unsealed t).getD []).length : Int) ∧ (scan4 ((unsealed t).getD []) false).1.length ≤ 400 then some (scanP ((unsealed t).getD []) false) else none
def readS (t : Str) : Option Packet :=
  if (scan4 ((unsealed t).getD []) (unsealed t).isNone).2.bad = false ∧ packetText (scanP ((unsealed t).getD []) (unsealed t).isNone) = some t then some (scanP ((unsealed t).getD []) (unsealed t).isNone) else none
abbrev vP (r : Option Packet) : V := .tup [.agg (cPacket (r.getD ⟨0, 0, 0, []⟩)), .bool r.isSome]
def fourN (l : Str) : Nat := match l with | a :: b :: c :: d :: _ => a.toNat * 16777216 + b.toNat * 65536 + c.toNat * 256 + d.toNat | _ => 0
end Go.Proofs.YtjhfabimacljhaaGreat.K

/- What is right of stores, as plain data: what both programs ask. -/
namespace Go.Proofs.YtjhfabimacljhaaGreat.K
open Go Go.RowKit
set_option linter.unusedVariables false
set_option linter.unusedSimpArgs false
def allUp (n : Nat) (f : Nat → Bool) : Bool := (List.range n).all f
theorem allUp_no {n i : Nat} {f : Nat → Bool} (h : i < n) (hf : f i = false) : allUp n f = false := by
  unfold allUp
  rw [Bool.eq_false_iff]
  intro ha
  have := (List.all_eq_true.1 ha) i (List.mem_range.2 h)
  rw [hf] at this; cases this
theorem allUp_yes {n : Nat} {f : Nat → Bool} (h : ∀ k, k < n → f k = true) : allUp n f = true :=
  List.all_eq_true.2 fun k hk => h k (List.mem_range.1 hk)
theorem allUp_of {n : Nat} {f : Nat → Bool} (h : allUp n f = true) {k : Nat} (hk : k < n) : f k = true := List.all_eq_true.1 h k (List.mem_range.2 hk)
theorem up_next {i : Nat} {f : Nat → Bool} (h : ∀ k, k < i → f k = true) (hi : f i = true) : ∀ k, k < i + 1 → f k = true := by
  intro k hk
  rcases Nat.lt_or_ge k i with h1 | h1
  · exact h k h1
  · obtain rfl : k = i := by omega
    exact hi
def atB {α : Type} (l : List α) (p : α → Bool) (i : Nat) : Bool := match l[i]? with | some x => p x | none => true
theorem atB_get {α : Type} {l : List α} {p : α → Bool} {i : Nat} (h : i < l.length) : atB l p i = p l[i] := by unfold atB; rw [List.getElem?_eq_getElem h]
def stampOk (s : Stamp) : Bool := inR s.time 0 100000 && inR s.by_ 0 2
def regOk (r : Reg) : Bool := stampOk r.stamp && inR r.val 0 1000000000
def flagOk (r : Reg) : Bool := regOk r && decide (r.val ≤ 1)
def flagsOk (l : List Reg) : Bool := allUp l.length (atB l flagOk) && decide ((l.length : Int) = 3)
def nameB (b : UInt8) : Bool := (decide (97 ≤ b.toNat) && decide (b.toNat ≤ 122)) || (decide (48 ≤ b.toNat) && decide (b.toNat ≤ 57))
def nameOk (s : Str) : Bool := allUp s.length (atB s nameB) && inR (s.length : Int) 1 12
def gidOk (n : Int) : Bool := inR n 1 9999
def beforeB {α : Type} (l : List α) (p : α → α → Bool) (i : Nat) : Bool := match i with | 0 => true | j + 1 => (match l[j]?, l[j + 1]? with | some x, some y => p x y | _, _ => true)
theorem beforeB_get {α : Type} {l : List α} {p : α → α → Bool} {i : Nat} (h : i < l.length) (h0 : 0 < i) : beforeB l p i = p (l[i - 1]'(by omega)) l[i] := by
  cases i with
  | zero => omega
  | succ j =>
    show (match l[j]?, l[j + 1]? with | some x, some y => p x y | _, _ => true) = _
    rw [List.getElem?_eq_getElem (show j < l.length by omega), List.getElem?_eq_getElem h]; rfl
def gidAt (l : List Int) (i : Nat) : Bool := atB l gidOk i && beforeB l (fun a b => decide (a < b)) i
def gidsOk (l : List Int) (most : Int) : Bool := allUp l.length (gidAt l) && decide ((l.length : Int) ≤ most)
def mailOk (m : Mail) : Bool := gidOk m.gid && gidOk m.uid && flagsOk m.flags && decide ((m.text.length : Int) ≤ 60)
def idxI (o : Option Nat) : Int := match o with | some i => (i : Int) | none => -1
theorem find_here {α : Type} {p : α → Bool} : ∀ {l : List α} {i : Nat} (hi : i < l.length), (∀ k (hk : k < l.length), k < i → p l[k] = false) → p l[i] = true → l.findIdx? p = some i
  | x :: l, 0, hi, h, hp => by rw [List.findIdx?_cons]; rw [show p x = true from hp]; rfl
  | x :: l, i + 1, hi, h, hp => by
    rw [List.findIdx?_cons, show p x = false from h 0 (by simp) (by omega)]
    have := find_here (l := l) (i := i) (by simpa using hi) (fun k hk hki => h (k + 1) (by simpa using hk) (by omega)) hp
    rw [this]; rfl
theorem find_none {α : Type} {p : α → Bool} : ∀ {l : List α}, (∀ k (hk : k < l.length), p l[k] = false) → l.findIdx? p = none
  | [], h => rfl
  | x :: l, h => by
    rw [List.findIdx?_cons, show p x = false from h 0 (by simp)]
    rw [find_none (l := l) fun k hk => h (k + 1) (by simpa using hk)]; rfl
theorem no_next {α : Type} {l : List α} {p : α → Bool} {i : Nat} (h : ∀ k (hk : k < l.length), k < i → p l[k] = false) (hi : i < l.length) (hp : p l[i] = false) : ∀ k (hk : k < l.length), k < i + 1 → p l[k] = false := by
  intro k hk hki
  rcases Nat.lt_or_ge k i with h1 | h1
  · exact h k hk h1
  · obtain rfl : k = i := by omega
    exact hp
theorem find_some {α : Type} {p : α → Bool} : ∀ {l : List α} {i : Nat}, l.findIdx? p = some i → ∃ h : i < l.length, p l[i] = true
  | [], i, h => by cases h
  | x :: l, i, h => by
    rw [List.findIdx?_cons] at h
    by_cases hx : p x = true
    · rw [if_pos hx] at h
      obtain rfl := Option.some.inj h
      exact ⟨by simp, hx⟩
    · rw [if_neg hx] at h
      obtain ⟨j, hj, rfl⟩ := Option.map_eq_some_iff.1 h
      obtain ⟨h1, h2⟩ := find_some hj
      exact ⟨by simpa using h1, h2⟩
def hasGid (g : Int) (m : Mail) : Bool := decide (m.gid = g)
def mailAt (b : Box) (g : Int) : Option Nat := b.mails.findIdx? (hasGid g)
def boxIs (g : Int) (b : Box) : Bool := decide (b.gid = g)
def boxAt (s : Store) (g : Int) : Option Nat := s.boxes.findIdx? (boxIs g)
def isNamed (n : Str) (b : Box) : Bool := decide (b.name = n)
def boxNamed (s : Store) (n : Str) : Option Nat := s.boxes.findIdx? (isNamed n)
def mailFine (b : Box) (i : Nat) : Bool :=
  atB b.mails (fun m => mailOk m && decide (m.uid < b.next) && decide (idxI (mailAt b m.gid) = (i : Int)) && !decide (m.gid ∈ b.gone)) i && beforeB b.mails (fun x y => decide (x.uid < y.uid)) i
def boxHead (b : Box) : Bool := gidOk b.gid && nameOk b.name && stampOk b.named && inR b.next 1 10000 && decide ((b.mails.length : Int) ≤ 10) && gidsOk b.gone 40
def boxOk (b : Box) : Bool := boxHead b && allUp b.mails.length (mailFine b)
def lateR (t : Int) (r : Reg) : Bool := decide (r.stamp.time > t)
def lateM (t : Int) (m : Mail) : Bool := m.flags.any (lateR t)
def lateB (b : Box) (t : Int) : Bool := b.mails.any (lateM t) || decide (b.named.time > t)
def gidsL (l : List Box) : List Int := l.flatMap (fun b => b.mails.map Mail.gid)
def gidsK (l : List Box) (i k : Nat) : List Int := match l[i]? with | some b => (b.mails.take k).map Mail.gid | none => []
def seenG (s : Store) (i k : Nat) : List Int := gidsL (s.boxes.take i) ++ gidsK s.boxes i k
theorem seen_zero (s : Store) : seenG s 0 0 = [] := by
  unfold seenG gidsK gidsL
  split <;> simp
theorem seen_mail {s : Store} {i j : Nat} (hi : i < s.boxes.length) (hj : j < s.boxes[i].mails.length) : seenG s i (j + 1) = seenG s i j ++ [s.boxes[i].mails[j].gid] := by
  unfold seenG gidsK
  rw [List.getElem?_eq_getElem hi, List.append_assoc]
  show _ ++ (List.take (j + 1) _).map _ = _
  rw [List.take_succ_eq_append_getElem hj, List.map_append]; rfl
theorem seen_box {s : Store} {i : Nat} (hi : i < s.boxes.length) : seenG s (i + 1) 0 = seenG s i s.boxes[i].mails.length := by
  unfold seenG gidsK
  rw [List.getElem?_eq_getElem hi]
  show gidsL (s.boxes.take (i + 1)) ++ _ = _ ++ (List.take _ _).map _
  rw [List.take_length, List.take_succ_eq_append_getElem hi]
  unfold gidsL
  rw [List.flatMap_append]
  split <;> simp
theorem gidsL_len {l : List Box} {n : Nat} (h : ∀ b ∈ l, b.mails.length ≤ n) : (gidsL l).length ≤ l.length * n := by
  induction l with
  | nil => simp [gidsL]
  | cons b l ih =>
    have h1 := h b (List.mem_cons_self ..)
    have h2 := ih fun x hx => h x (List.mem_cons_of_mem _ hx)
    unfold gidsL at *
    rw [List.flatMap_cons, List.length_append, List.length_map, List.length_cons, Nat.succ_mul]
    omega
theorem seen_len {s : Store} {i j : Nat} (h : smStore s) (hi : i < s.boxes.length) (hj : j < s.boxes[i].mails.length) : (seenG s i j).length ≤ 1099512676352 := by
  unfold seenG gidsK
  rw [List.getElem?_eq_getElem hi]
  show (_ ++ (List.take j _).map _).length ≤ _
  rw [List.length_append, List.length_map, List.length_take]
  have g1 := gidsL_len (l := s.boxes.take i) (n := 1048576) (fun x hx => (h.1.2 x (List.mem_of_mem_take hx)).2.1.1)
  have g2 : (s.boxes.take i).length ≤ 1048576 := by rw [List.length_take]; have := h.1.1; omega
  have g3 := (h.1.2 _ (List.getElem_mem hi)).2.1.1
  have g4 : (s.boxes.take i).length * 1048576 ≤ 1048576 * 1048576 := Nat.mul_le_mul_right _ g2
  omega
def newAt (s : Store) (i k : Nat) : Bool := match s.boxes[i]? with | some b => atB b.mails (fun m => !decide (m.gid ∈ seenG s i k)) k | none => true
theorem newAt_get {s : Store} {i j : Nat} (hi : i < s.boxes.length) (hj : j < s.boxes[i].mails.length) : newAt s i j = !decide (s.boxes[i].mails[j].gid ∈ seenG s i j) := by
  unfold newAt; rw [List.getElem?_eq_getElem hi]; exact atB_get hj
def boxNew (s : Store) (i : Nat) : Bool := match s.boxes[i]? with | some b => allUp b.mails.length (newAt s i) | none => true
theorem boxNew_get {s : Store} {i : Nat} (hi : i < s.boxes.length) : boxNew s i = allUp s.boxes[i].mails.length (newAt s i) := by
  unfold boxNew; rw [List.getElem?_eq_getElem hi]
theorem mailFine_at {b : Box} {i : Nat} (h : i < b.mails.length) : mailFine b i = (mailOk b.mails[i] && decide (b.mails[i].uid < b.next) && decide (idxI (mailAt b b.mails[i].gid) = (i : Int)) && !decide (b.mails[i].gid ∈ b.gone) && beforeB b.mails (fun x y => decide (x.uid < y.uid)) i) := by
  unfold mailFine; rw [atB_get h]
def boxFine (s : Store) (i : Nat) : Bool :=
  atB s.boxes (fun b => boxOk b && decide (idxI (boxNamed s b.name) = (i : Int)) && !decide (b.gid ∈ s.gone) && !lateB b s.time) i && beforeB s.boxes (fun x y => decide (x.gid < y.gid)) i
theorem boxFine_at {s : Store} {i : Nat} (h : i < s.boxes.length) : boxFine s i = (boxOk s.boxes[i] && decide (idxI (boxNamed s s.boxes[i].name) = (i : Int)) && !decide (s.boxes[i].gid ∈ s.gone) && !lateB s.boxes[i] s.time && beforeB s.boxes (fun x y => decide (x.gid < y.gid)) i) := by
  unfold boxFine; rw [atB_get h]
def storeHead (s : Store) : Bool := inR s.by_ 1 2 && inR s.time 0 100000 && decide ((s.boxes.length : Int) ≤ 5) && gidsOk s.gone 20
def boxGood (s : Store) (i : Nat) : Bool := boxFine s i && boxNew s i
def storeOk (s : Store) : Bool := storeHead s && allUp s.boxes.length (boxGood s)
def regT (r : Reg) : Str := varT r.val.toNat ++ varT r.stamp.time.toNat ++ varT r.stamp.by_.toNat
def mailT (m : Mail) : Str := varT m.gid.toNat ++ varT m.uid.toNat ++ m.flags.flatMap regT ++ (varT m.text.length ++ m.text)
def goneT (l : List Int) : Str := varT l.length ++ l.flatMap (fun g => varT g.toNat)
def boxT (b : Box) : Str := varT b.gid.toNat ++ (varT b.name.length ++ b.name) ++ varT b.named.time.toNat ++ varT b.named.by_.toNat ++ varT b.next.toNat ++ varT b.mails.length ++ b.mails.flatMap mailT ++ goneT b.gone
def storeB (s : Store) : Str := varT s.by_.toNat ++ varT s.time.toNat ++ varT s.boxes.length ++ s.boxes.flatMap boxT ++ goneT s.gone
def storeText (s : Store) : Option Str := if storeOk s = true then sealed (storeB s) else none
end Go.Proofs.YtjhfabimacljhaaGreat.K

/- Rows of copies and of zeros. -/
namespace Go.Proofs.YtjhfabimacljhaaGreat.K
open Go Go.RowKit
set_option linter.unusedVariables false
set_option linter.unusedSimpArgs false
theorem take_map_next' {α β : Type} {f : α → β} {a : List α} {i : Nat} (h : i < a.length) : (a.take (i + 1)).map f = (a.take i).map f ++ [f a[i]] := by
  rw [List.take_succ_eq_append_getElem h, List.map_append]; rfl
theorem set_rep {α : Type} {f : α → List V} {z : List V} {a : List α} {i : Nat} (hi : i < a.length) : ((a.take i).map f ++ List.replicate (a.length - i) z).set i (f a[i]) = (a.take (i + 1)).map f ++ List.replicate (a.length - (i + 1)) z := by
  refine (set_app (by rw [List.length_map, List.length_take]; omega) (by intro h; have := congrArg List.length h; simp only [List.length_replicate, List.length_nil] at this; omega)).trans ?_
  rw [List.drop_replicate, take_map_next' hi, List.append_assoc, Nat.sub_sub]
  rfl
theorem get_rep {α : Type} {f : α → List V} {z : List V} {a : List α} {i : Nat} (hi : i < a.length) : ((a.take i).map f ++ List.replicate (a.length - i) z)[i]? = some z := by
  have hl : ((a.take i).map f).length = i := by rw [List.length_map, List.length_take]; omega
  rw [List.getElem?_append_right (by omega), hl, Nat.sub_self, List.getElem?_replicate, if_pos (by omega)]
abbrev zcI : List V := [.int .i64 0]
abbrev zcT : List V := [.str []]
abbrev zcReg : List V := [.int .i64 0, .int .i64 0, .int .i64 0]
abbrev zcMail : List V := [.int .i64 0, .int .i64 0, .nil 3, .str []]
abbrev zcBox : List V := [.int .i64 0, .str [], .int .i64 0, .int .i64 0, .int .i64 0, .nil 4, .nil 1]
abbrev zcLetter : List V := [.int .i64 0, .str []]
abbrev zcSync : List V := [.int .i64 0, .int .i64 0, .nil 1, .int .i64 0, .int .i64 0, .int .i64 0, .nil 1, .bool false, .bool false]
abbrev zcServer : List V := [.int .i64 0, .int .i64 0, .nil 7, .nil 1, .str [], .int .i64 0, .str [], .str [], .bool false, .bool false, .int .i64 0, .nil 1, .bool false]
theorem trav_rep (f0 : Nat → V) (fs : Nat → Nat → Nat → List (List V) → V) (fp : Nat → Nat → Nat → List V → V) (n : Nat) (e : List V) : V.travLL f0 fs fp (List.replicate n e) = List.replicate n (V.travL f0 fs fp e) := by
  rw [travLL_eq, List.map_replicate]
end Go.Proofs.YtjhfabimacljhaaGreat.K

/- Walks: sizes, copies, comparisons of all data. Printed by w2.py. -/
namespace Go.Proofs.YtjhfabimacljhaaGreat.K
open Go Go.RowKit
set_option linter.unusedVariables false
set_option linter.unusedSimpArgs false
set_option maxHeartbeats 4000000
set_option maxRecDepth 20000
theorem w_laws_eqStamp (a b : Stamp) : Weak Tryz.prog 175 [.agg (cStamp a), .agg (cStamp b)] (.bool (decide (a = b))) := by
 refine Weak.enter tab_ok Tryz.func175 rfl (.inr (by simp [V.labelsL, V.labels, V.labelsLL, zz, zf, zy, or_imp, forall_and])) (t := [.agg (cStamp a), .agg (cStamp b), .any, .any, .any, .any, .any, .any, .any, .any, .any, .any, .any, .any, .any]) rfl ?_
 refine OQ ?_
 iterate 3 (refine EV ?_)
 refine ON ?_
 refine Ok.seq ?_
 refine OQ ?_
 iterate 5 (refine EV ?_)
 refine ON ?_
 refine Ok.cond (b := _) (by simp only [kE, kT, kL, kC] <;> rfl) (fun hb1 => ?_) (fun hb1 => ?_)
 ·
  try simp only [bsimp] at hb1
  refine OQ ?_
  refine EV ?_
  refine ON ?_
  refine Ok.ret ?_
  with_reducible repeat (first | refine thenQ_ret ?_ | refine blockQ_ret ?_)
  refine RT ?_
  first | (rw [decide_eq_true (by cases a; cases b; simp_all)]; rfl) | (rw [decide_eq_false (by intro h; subst h; simp_all)]; rfl)
 ·
  try simp only [bsimp] at hb1
  refine Ok.skip ?_
  refine Ok.seq ?_
  refine OQ ?_
  iterate 5 (refine EV ?_)
  refine ON ?_
  refine Ok.cond (b := _) (by simp only [kE, kT, kL, kC] <;> rfl) (fun hb3 => ?_) (fun hb3 => ?_)
  ·
   try simp only [bsimp] at hb3
   refine OQ ?_
   refine EV ?_
   refine ON ?_
   refine Ok.ret ?_
   with_reducible repeat (first | refine thenQ_ret ?_ | refine blockQ_ret ?_)
   refine RT ?_
   first | (rw [decide_eq_true (by cases a; cases b; simp_all)]; rfl) | (rw [decide_eq_false (by intro h; subst h; simp_all)]; rfl)
  ·
   try simp only [bsimp] at hb3
   refine Ok.skip ?_
   refine OQ ?_
   refine EV ?_
   refine ON ?_
   refine Ok.ret ?_
   with_reducible repeat (first | refine thenQ_ret ?_ | refine blockQ_ret ?_)
   refine RT ?_
   first | (rw [decide_eq_true (by cases a; cases b; simp_all)]; rfl) | (rw [decide_eq_false (by intro h; subst h; simp_all)]; rfl)
theorem w_laws_eqReg (a b : Reg) : Weak Tryz.prog 255 [.agg (cReg a), .agg (cReg b)] (.bool (decide (a = b))) := by
 refine Weak.enter tab_ok Tryz.func255 rfl (.inr (by simp [V.labelsL, V.labels, V.labelsLL, zz, zf, zy, or_imp, forall_and])) (t := [.agg (cReg a), .agg (cReg b), .any, .any, .any, .any, .any, .any, .any, .any, .any, .any, .any, .any, .any, .any]) rfl ?_
 refine OQ ?_
 iterate 3 (refine EV ?_)
 refine ON ?_
 refine Ok.seq ?_
 refine OQ ?_
 iterate 5 (refine EV ?_)
 refine ON ?_
 refine Ok.cond (b := _) (by simp only [kE, kT, kL, kC] <;> rfl) (fun hb1 => ?_) (fun hb1 => ?_)
 ·
  try simp only [bsimp] at hb1
  refine OQ ?_
  refine EV ?_
  refine ON ?_
  refine Ok.ret ?_
  with_reducible repeat (first | refine thenQ_ret ?_ | refine blockQ_ret ?_)
  refine RT ?_
  first | (rw [decide_eq_true (by cases a; cases b; simp_all)]; rfl) | (rw [decide_eq_false (by intro h; subst h; simp_all)]; rfl)
 ·
  try simp only [bsimp] at hb1
  refine Ok.skip ?_
  refine Ok.seq ?_
  refine OQ ?_
  iterate 4 (refine EV ?_)
  refine OkOps.S0 rfl (OpS.weak' rfl (by simp only [kE, kT, kL, kC] <;> rfl) (by simp only [kE, kT, kL, kC] <;> rfl) cl175 (w_laws_eqStamp a.stamp b.stamp)) (by simp only [kP] <;> rfl) ?_
  refine EV ?_
  refine ON ?_
  refine Ok.cond (b := _) (by simp only [kE, kT, kL, kC] <;> rfl) (fun hb3 => ?_) (fun hb3 => ?_)
  ·
   try simp only [bsimp] at hb3
   refine OQ ?_
   refine EV ?_
   refine ON ?_
   refine Ok.ret ?_
   with_reducible repeat (first | refine thenQ_ret ?_ | refine blockQ_ret ?_)
   refine RT ?_
   first | (rw [decide_eq_true (by cases a; cases b; simp_all)]; rfl) | (rw [decide_eq_false (by intro h; subst h; simp_all)]; rfl)
  ·
   try simp only [bsimp] at hb3
   refine Ok.skip ?_
   refine OQ ?_
   refine EV ?_
   refine ON ?_
   refine Ok.ret ?_
   with_reducible repeat (first | refine thenQ_ret ?_ | refine blockQ_ret ?_)
   refine RT ?_
   first | (rw [decide_eq_true (by cases a; cases b; simp_all)]; rfl) | (rw [decide_eq_false (by intro h; subst h; simp_all)]; rfl)
theorem w_laws_eqRegS (a b : List Reg) : Weak Tryz.prog 245 [.sl 0 3 0 (a.map cReg), .sl 0 3 0 (b.map cReg)] (.bool (decide (a = b))) := by
 refine Weak.len 0 rfl fun ha => ?_
 refine Weak.enter tab_ok Tryz.func245 rfl (.inr (by simp [V.labelsL, V.labels, V.labelsLL, zz, zf, zy, or_imp, forall_and])) (t := [.sl 0 3 0 (a.map cReg), .sl 0 3 0 (b.map cReg), .any, .any, .any, .any, .any, .any, .any, .any, .any, .any, .any, .any, .any, .any, .any, .any, .any, .any, .any, .any, .any, .any, .any, .any, .any]) rfl ?_
 refine OQ ?_
 refine EV ?_
 refine ON ?_
 refine Ok.seq ?_
 refine OQ ?_
 iterate 5 (refine EV ?_)
 refine ON ?_
 refine Ok.cond (b := _) (by simp only [kE, kT, kL, kC] <;> rfl) (fun hb1 => ?_) (fun hb1 => ?_)
 ·
  try simp only [bsimp] at hb1
  refine OQ ?_
  refine EV ?_
  refine ON ?_
  refine Ok.ret ?_
  with_reducible repeat (first | refine thenQ_ret ?_ | refine blockQ_ret ?_)
  refine RT ?_
  rw [decide_eq_false (fun h => hb1 (by rw [h]))]; rfl
 ·
  try simp only [bsimp] at hb1
  have hb1 : (a.length : Int) = b.length := by simpa using hb1
  refine Ok.skip ?_
  refine Ok.seq ?_
  refine OQ ?_
  refine EV ?_
  refine ON ?_
  refine Ok.block ?_
  refine Ok.loopW (τ := Nat) (fun x => [(5, .int .i64 (x : Int))]) [4, 11, 12, 13, 14, 15, 16, 17, 18, 19, 20, 21, 22, 23, 24, 25, 26] (fun x => by simp only [kover] <;> rfl) (fun x => x ≤ a.length ∧ a.take x = b.take x) (fun x => a.length - x) 0 (by refine ⟨?_, ?_, ?_, ?_, ?_, ?_, ?_, ?_, ?_, ?_, ?_, ?_, ?_, ?_, ?_, ?_, ?_, ?_, ?_, ?_, ?_, ?_, ?_, ?_, ?_, ?_, ?_, trivial⟩ <;> first | exact le_any _ | with_reducible exact le_rfl' _ | (exact le_rfl' _) | exact le_rfl' _) (⟨Nat.zero_le _, rfl⟩) ?_
  rintro i ⟨h1, h2⟩
  refine Ok.seq ?_
  refine OQ ?_
  iterate 4 (refine EV ?_)
  refine ON ?_
  refine Ok.cond (b := _) (by simp only [kE, kT, kL, kC] <;> rfl) (fun hb4 => ?_) (fun hb4 => ?_)
  ·
   try simp only [bsimp] at hb4
   have hi : i < a.length := by omega
   have hj : i < b.length := by omega
   refine Ok.skip ?_
   refine Ok.seq ?_
   refine Ok.block ?_
   refine Ok.seq ?_
   refine Ok.drawn 10 27 [] (by kernel_rfl) (by kernel_rfl) rfl ?_
   iterate 2 (refine SV ?_)
   refine SOps.ev tab_ok rfl (ev_idx_map (by simp only [kE, kT, kL, kC] <;> rfl) (by simp only [kE, kT, kL, kC] <;> rfl) (by omega) (by simp only [kE, kT, kL, kC] <;> rfl)) (by simp only [kP] <;> rfl) ?_
   iterate 3 (refine SV ?_)
   refine SOps.ev tab_ok rfl (ev_idx_map (by simp only [kE, kT, kL, kC] <;> rfl) (by simp only [kE, kT, kL, kC] <;> rfl) (by omega) (by simp only [kE, kT, kL, kC] <;> rfl)) (by simp only [kP] <;> rfl) ?_
   refine SV ?_
   refine SOps.S0 rfl (OpS.weakM rfl (by simp only [kE, kT, kL, kC] <;> rfl) (by simp only [kE, kT, kL, kC] <;> rfl) cl255 (w_laws_eqReg a[i] b[i])) (by simp only [kP] <;> rfl) ?_
   refine SV ?_
   refine SOps.nil ?_
   refine TOps.nil ?_
   refine Ok.cond (b := _) (by simp only [kE, kT, kL, kC] <;> rfl) (fun hb6 => ?_) (fun hb6 => ?_)
   ·
    try simp only [bsimp] at hb6
    refine OQ ?_
    refine EV ?_
    refine ON ?_
    refine Ok.ret ?_
    with_reducible repeat (first | refine thenQ_ret ?_ | refine blockQ_ret ?_)
    refine RT ?_
    rw [decide_eq_false (fun h => hb6 (by subst h; rfl))]; rfl
   ·
    try simp only [bsimp] at hb6
    refine Ok.skip ?_
    refine Ok.region ?_
    iterate 3 (refine EV ?_)
    refine ON ?_
    refine ⟨i + 1, ?_, rfl, rfl, ⟨by omega, take_next h2 hi hj hb6⟩, by omega⟩
    refine ⟨?_, ?_, ?_, ?_, ?_, ?_, ?_, ?_, ?_, ?_, ?_, ?_, ?_, ?_, ?_, ?_, ?_, ?_, ?_, ?_, ?_, ?_, ?_, ?_, ?_, ?_, ?_, trivial⟩ <;> first | exact le_any _ | with_reducible exact le_rfl' _ | ((rw [wrap_succ (by simp only [List.length_map] at ha; unfold maxLen at ha; omega)]; exact le_rfl' _)) | exact le_rfl' _
  ·
   try simp only [bsimp] at hb4
   refine Ok.exit ?_
   refine OQ ?_
   refine EV ?_
   refine ON ?_
   refine Ok.ret ?_
   with_reducible repeat (first | refine thenQ_ret ?_ | refine blockQ_ret ?_)
   refine RT ?_
   rw [decide_eq_true (eq_of_take (by omega) (by omega) h2)]; rfl
theorem w_laws_eqIntS (a b : List Int) : Weak Tryz.prog 62 [.sl 0 1 0 (a.map cZ), .sl 0 1 0 (b.map cZ)] (.bool (decide (a = b))) := by
 refine Weak.len 0 rfl fun ha => ?_
 refine Weak.enter tab_ok Tryz.func62 rfl (.inr (by simp [V.labelsL, V.labels, V.labelsLL, zz, zf, zy, or_imp, forall_and])) (t := [.sl 0 1 0 (a.map cZ), .sl 0 1 0 (b.map cZ), .any, .any, .any, .any, .any, .any, .any, .any, .any, .any, .any, .any, .any, .any, .any, .any, .any, .any, .any, .any, .any, .any, .any, .any]) rfl ?_
 refine OQ ?_
 refine EV ?_
 refine ON ?_
 refine Ok.seq ?_
 refine OQ ?_
 iterate 5 (refine EV ?_)
 refine ON ?_
 refine Ok.cond (b := _) (by simp only [kE, kT, kL, kC] <;> rfl) (fun hb1 => ?_) (fun hb1 => ?_)
 ·
  try simp only [bsimp] at hb1
  refine OQ ?_
  refine EV ?_
  refine ON ?_
  refine Ok.ret ?_
  with_reducible repeat (first | refine thenQ_ret ?_ | refine blockQ_ret ?_)
  refine RT ?_
  rw [decide_eq_false (fun h => hb1 (by rw [h]))]; rfl
 ·
  try simp only [bsimp] at hb1
  have hb1 : (a.length : Int) = b.length := by simpa using hb1
  refine Ok.skip ?_
  refine Ok.seq ?_
  refine OQ ?_
  refine EV ?_
  refine ON ?_
  refine Ok.block ?_
  refine Ok.loopW (τ := Nat) (fun x => [(5, .int .i64 (x : Int))]) [4, 11, 12, 13, 14, 15, 16, 17, 18, 19, 20, 21, 22, 23, 24, 25] (fun x => by simp only [kover] <;> rfl) (fun x => x ≤ a.length ∧ a.take x = b.take x) (fun x => a.length - x) 0 (by refine ⟨?_, ?_, ?_, ?_, ?_, ?_, ?_, ?_, ?_, ?_, ?_, ?_, ?_, ?_, ?_, ?_, ?_, ?_, ?_, ?_, ?_, ?_, ?_, ?_, ?_, ?_, trivial⟩ <;> first | exact le_any _ | with_reducible exact le_rfl' _ | (exact le_rfl' _) | exact le_rfl' _) (⟨Nat.zero_le _, rfl⟩) ?_
  rintro i ⟨h1, h2⟩
  refine Ok.seq ?_
  refine OQ ?_
  iterate 4 (refine EV ?_)
  refine ON ?_
  refine Ok.cond (b := _) (by simp only [kE, kT, kL, kC] <;> rfl) (fun hb4 => ?_) (fun hb4 => ?_)
  ·
   try simp only [bsimp] at hb4
   have hi : i < a.length := by omega
   have hj : i < b.length := by omega
   refine Ok.skip ?_
   refine Ok.seq ?_
   refine Ok.block ?_
   refine Ok.seq ?_
   refine Ok.drawn 9 26 [] (by kernel_rfl) (by kernel_rfl) rfl ?_
   iterate 2 (refine SV ?_)
   refine SOps.ev tab_ok rfl (ev_idx_map (by simp only [kE, kT, kL, kC] <;> rfl) (by simp only [kE, kT, kL, kC] <;> rfl) (by omega) (by simp only [kE, kT, kL, kC] <;> rfl)) (by simp only [kP] <;> rfl) ?_
   iterate 3 (refine SV ?_)
   refine SOps.ev tab_ok rfl (ev_idx_map (by simp only [kE, kT, kL, kC] <;> rfl) (by simp only [kE, kT, kL, kC] <;> rfl) (by omega) (by simp only [kE, kT, kL, kC] <;> rfl)) (by simp only [kP] <;> rfl) ?_
   iterate 2 (refine SV ?_)
   refine SOps.nil ?_
   refine TOps.nil ?_
   refine Ok.cond (b := _) (by simp only [kE, kT, kL, kC] <;> rfl) (fun hb6 => ?_) (fun hb6 => ?_)
   ·
    try simp only [bsimp] at hb6
    refine OQ ?_
    refine EV ?_
    refine ON ?_
    refine Ok.ret ?_
    with_reducible repeat (first | refine thenQ_ret ?_ | refine blockQ_ret ?_)
    refine RT ?_
    rw [decide_eq_false (fun h => hb6 (by subst h; rfl))]; rfl
   ·
    try simp only [bsimp] at hb6
    refine Ok.skip ?_
    refine Ok.region ?_
    iterate 3 (refine EV ?_)
    refine ON ?_
    refine ⟨i + 1, ?_, rfl, rfl, ⟨by omega, take_next h2 hi hj hb6⟩, by omega⟩
    refine ⟨?_, ?_, ?_, ?_, ?_, ?_, ?_, ?_, ?_, ?_, ?_, ?_, ?_, ?_, ?_, ?_, ?_, ?_, ?_, ?_, ?_, ?_, ?_, ?_, ?_, ?_, trivial⟩ <;> first | exact le_any _ | with_reducible exact le_rfl' _ | ((rw [wrap_succ (by simp only [List.length_map] at ha; unfold maxLen at ha; omega)]; exact le_rfl' _)) | exact le_rfl' _
  ·
   try simp only [bsimp] at hb4
   refine Ok.exit ?_
   refine OQ ?_
   refine EV ?_
   refine ON ?_
   refine Ok.ret ?_
   with_reducible repeat (first | refine thenQ_ret ?_ | refine blockQ_ret ?_)
   refine RT ?_
   rw [decide_eq_true (eq_of_take (by omega) (by omega) h2)]; rfl
theorem w_laws_eqStringS (a b : List Str) : Weak Tryz.prog 60 [.sl 0 1 0 (a.map cS), .sl 0 1 0 (b.map cS)] (.bool (decide (a = b))) := by
 refine Weak.len 0 rfl fun ha => ?_
 refine Weak.enter tab_ok Tryz.func60 rfl (.inr (by simp [V.labelsL, V.labels, V.labelsLL, zz, zf, zy, or_imp, forall_and])) (t := [.sl 0 1 0 (a.map cS), .sl 0 1 0 (b.map cS), .any, .any, .any, .any, .any, .any, .any, .any, .any, .any, .any, .any, .any, .any, .any, .any, .any, .any, .any, .any, .any, .any, .any, .any]) rfl ?_
 refine OQ ?_
 refine EV ?_
 refine ON ?_
 refine Ok.seq ?_
 refine OQ ?_
 iterate 5 (refine EV ?_)
 refine ON ?_
 refine Ok.cond (b := _) (by simp only [kE, kT, kL, kC] <;> rfl) (fun hb1 => ?_) (fun hb1 => ?_)
 ·
  try simp only [bsimp] at hb1
  refine OQ ?_
  refine EV ?_
  refine ON ?_
  refine Ok.ret ?_
  with_reducible repeat (first | refine thenQ_ret ?_ | refine blockQ_ret ?_)
  refine RT ?_
  rw [decide_eq_false (fun h => hb1 (by rw [h]))]; rfl
 ·
  try simp only [bsimp] at hb1
  have hb1 : (a.length : Int) = b.length := by simpa using hb1
  refine Ok.skip ?_
  refine Ok.seq ?_
  refine OQ ?_
  refine EV ?_
  refine ON ?_
  refine Ok.block ?_
  refine Ok.loopW (τ := Nat) (fun x => [(5, .int .i64 (x : Int))]) [4, 11, 12, 13, 14, 15, 16, 17, 18, 19, 20, 21, 22, 23, 24, 25] (fun x => by simp only [kover] <;> rfl) (fun x => x ≤ a.length ∧ a.take x = b.take x) (fun x => a.length - x) 0 (by refine ⟨?_, ?_, ?_, ?_, ?_, ?_, ?_, ?_, ?_, ?_, ?_, ?_, ?_, ?_, ?_, ?_, ?_, ?_, ?_, ?_, ?_, ?_, ?_, ?_, ?_, ?_, trivial⟩ <;> first | exact le_any _ | with_reducible exact le_rfl' _ | (exact le_rfl' _) | exact le_rfl' _) (⟨Nat.zero_le _, rfl⟩) ?_
  rintro i ⟨h1, h2⟩
  refine Ok.seq ?_
  refine OQ ?_
  iterate 4 (refine EV ?_)
  refine ON ?_
  refine Ok.cond (b := _) (by simp only [kE, kT, kL, kC] <;> rfl) (fun hb4 => ?_) (fun hb4 => ?_)
  ·
   try simp only [bsimp] at hb4
   have hi : i < a.length := by omega
   have hj : i < b.length := by omega
   refine Ok.skip ?_
   refine Ok.seq ?_
   refine Ok.block ?_
   refine Ok.seq ?_
   refine Ok.drawn 9 26 [] (by kernel_rfl) (by kernel_rfl) rfl ?_
   iterate 2 (refine SV ?_)
   refine SOps.ev tab_ok rfl (ev_idx_map (by simp only [kE, kT, kL, kC] <;> rfl) (by simp only [kE, kT, kL, kC] <;> rfl) (by omega) (by simp only [kE, kT, kL, kC] <;> rfl)) (by simp only [kP] <;> rfl) ?_
   iterate 3 (refine SV ?_)
   refine SOps.ev tab_ok rfl (ev_idx_map (by simp only [kE, kT, kL, kC] <;> rfl) (by simp only [kE, kT, kL, kC] <;> rfl) (by omega) (by simp only [kE, kT, kL, kC] <;> rfl)) (by simp only [kP] <;> rfl) ?_
   iterate 2 (refine SV ?_)
   refine SOps.nil ?_
   refine TOps.nil ?_
   refine Ok.cond (b := _) (by simp only [kE, kT, kL, kC] <;> rfl) (fun hb6 => ?_) (fun hb6 => ?_)
   ·
    try simp only [bsimp] at hb6
    refine OQ ?_
    refine EV ?_
    refine ON ?_
    refine Ok.ret ?_
    with_reducible repeat (first | refine thenQ_ret ?_ | refine blockQ_ret ?_)
    refine RT ?_
    rw [decide_eq_false (fun h => hb6 (by subst h; rfl))]; rfl
   ·
    try simp only [bsimp] at hb6
    refine Ok.skip ?_
    refine Ok.region ?_
    iterate 3 (refine EV ?_)
    refine ON ?_
    refine ⟨i + 1, ?_, rfl, rfl, ⟨by omega, take_next h2 hi hj hb6⟩, by omega⟩
    refine ⟨?_, ?_, ?_, ?_, ?_, ?_, ?_, ?_, ?_, ?_, ?_, ?_, ?_, ?_, ?_, ?_, ?_, ?_, ?_, ?_, ?_, ?_, ?_, ?_, ?_, ?_, trivial⟩ <;> first | exact le_any _ | with_reducible exact le_rfl' _ | ((rw [wrap_succ (by simp only [List.length_map] at ha; unfold maxLen at ha; omega)]; exact le_rfl' _)) | exact le_rfl' _
  ·
   try simp only [bsimp] at hb4
   refine Ok.exit ?_
   refine OQ ?_
   refine EV ?_
   refine ON ?_
   refine Ok.ret ?_
   with_reducible repeat (first | refine thenQ_ret ?_ | refine blockQ_ret ?_)
   refine RT ?_
   rw [decide_eq_true (eq_of_take (by omega) (by omega) h2)]; rfl
theorem w_laws_eqMail (a b : Mail) : Weak Tryz.prog 223 [.agg (cMail a), .agg (cMail b)] (.bool (decide (a = b))) := by
 refine Weak.enter tab_ok Tryz.func223 rfl (.inr (by simp [V.labelsL, V.labels, V.labelsLL, zz, zf, zy, or_imp, forall_and])) (t := [.agg (cMail a), .agg (cMail b), .any, .any, .any, .any, .any, .any, .any, .any, .any, .any, .any, .any, .any, .any, .any, .any, .any, .any, .any, .any, .any, .any, .any, .any]) rfl ?_
 refine OQ ?_
 iterate 3 (refine EV ?_)
 refine ON ?_
 refine Ok.seq ?_
 refine OQ ?_
 iterate 5 (refine EV ?_)
 refine ON ?_
 refine Ok.cond (b := _) (by simp only [kE, kT, kL, kC] <;> rfl) (fun hb1 => ?_) (fun hb1 => ?_)
 ·
  try simp only [bsimp] at hb1
  refine OQ ?_
  refine EV ?_
  refine ON ?_
  refine Ok.ret ?_
  with_reducible repeat (first | refine thenQ_ret ?_ | refine blockQ_ret ?_)
  refine RT ?_
  first | (rw [decide_eq_true (by cases a; cases b; simp_all)]; rfl) | (rw [decide_eq_false (by intro h; subst h; simp_all)]; rfl)
 ·
  try simp only [bsimp] at hb1
  refine Ok.skip ?_
  refine Ok.seq ?_
  refine OQ ?_
  iterate 5 (refine EV ?_)
  refine ON ?_
  refine Ok.cond (b := _) (by simp only [kE, kT, kL, kC] <;> rfl) (fun hb3 => ?_) (fun hb3 => ?_)
  ·
   try simp only [bsimp] at hb3
   refine OQ ?_
   refine EV ?_
   refine ON ?_
   refine Ok.ret ?_
   with_reducible repeat (first | refine thenQ_ret ?_ | refine blockQ_ret ?_)
   refine RT ?_
   first | (rw [decide_eq_true (by cases a; cases b; simp_all)]; rfl) | (rw [decide_eq_false (by intro h; subst h; simp_all)]; rfl)
  ·
   try simp only [bsimp] at hb3
   refine Ok.skip ?_
   refine Ok.seq ?_
   refine OQ ?_
   iterate 4 (refine EV ?_)
   refine OkOps.S0 rfl (OpS.weak' rfl (by simp only [kE, kT, kL, kC] <;> rfl) (by simp only [kE, kT, kL, kC] <;> rfl) cl245 (w_laws_eqRegS a.flags b.flags)) (by simp only [kP] <;> rfl) ?_
   refine EV ?_
   refine ON ?_
   refine Ok.cond (b := _) (by simp only [kE, kT, kL, kC] <;> rfl) (fun hb5 => ?_) (fun hb5 => ?_)
   ·
    try simp only [bsimp] at hb5
    refine OQ ?_
    refine EV ?_
    refine ON ?_
    refine Ok.ret ?_
    with_reducible repeat (first | refine thenQ_ret ?_ | refine blockQ_ret ?_)
    refine RT ?_
    first | (rw [decide_eq_true (by cases a; cases b; simp_all)]; rfl) | (rw [decide_eq_false (by intro h; subst h; simp_all)]; rfl)
   ·
    try simp only [bsimp] at hb5
    refine Ok.skip ?_
    refine Ok.seq ?_
    refine OQ ?_
    iterate 5 (refine EV ?_)
    refine ON ?_
    refine Ok.cond (b := _) (by simp only [kE, kT, kL, kC] <;> rfl) (fun hb7 => ?_) (fun hb7 => ?_)
    ·
     try simp only [bsimp] at hb7
     refine OQ ?_
     refine EV ?_
     refine ON ?_
     refine Ok.ret ?_
     with_reducible repeat (first | refine thenQ_ret ?_ | refine blockQ_ret ?_)
     refine RT ?_
     first | (rw [decide_eq_true (by cases a; cases b; simp_all)]; rfl) | (rw [decide_eq_false (by intro h; subst h; simp_all)]; rfl)
    ·
     try simp only [bsimp] at hb7
     refine Ok.skip ?_
     refine OQ ?_
     refine EV ?_
     refine ON ?_
     refine Ok.ret ?_
     with_reducible repeat (first | refine thenQ_ret ?_ | refine blockQ_ret ?_)
     refine RT ?_
     first | (rw [decide_eq_true (by cases a; cases b; simp_all)]; rfl) | (rw [decide_eq_false (by intro h; subst h; simp_all)]; rfl)
theorem w_laws_eqMailS (a b : List Mail) : Weak Tryz.prog 176 [.sl 0 4 0 (a.map cMail), .sl 0 4 0 (b.map cMail)] (.bool (decide (a = b))) := by
 refine Weak.len 0 rfl fun ha => ?_
 refine Weak.enter tab_ok Tryz.func176 rfl (.inr (by simp [V.labelsL, V.labels, V.labelsLL, zz, zf, zy, or_imp, forall_and])) (t := [.sl 0 4 0 (a.map cMail), .sl 0 4 0 (b.map cMail), .any, .any, .any, .any, .any, .any, .any, .any, .any, .any, .any, .any, .any, .any, .any, .any, .any, .any, .any, .any, .any, .any, .any, .any, .any]) rfl ?_
 refine OQ ?_
 refine EV ?_
 refine ON ?_
 refine Ok.seq ?_
 refine OQ ?_
 iterate 5 (refine EV ?_)
 refine ON ?_
 refine Ok.cond (b := _) (by simp only [kE, kT, kL, kC] <;> rfl) (fun hb1 => ?_) (fun hb1 => ?_)
 ·
  try simp only [bsimp] at hb1
  refine OQ ?_
  refine EV ?_
  refine ON ?_
  refine Ok.ret ?_
  with_reducible repeat (first | refine thenQ_ret ?_ | refine blockQ_ret ?_)
  refine RT ?_
  rw [decide_eq_false (fun h => hb1 (by rw [h]))]; rfl
 ·
  try simp only [bsimp] at hb1
  have hb1 : (a.length : Int) = b.length := by simpa using hb1
  refine Ok.skip ?_
  refine Ok.seq ?_
  refine OQ ?_
  refine EV ?_
  refine ON ?_
  refine Ok.block ?_
  refine Ok.loopW (τ := Nat) (fun x => [(5, .int .i64 (x : Int))]) [4, 11, 12, 13, 14, 15, 16, 17, 18, 19, 20, 21, 22, 23, 24, 25, 26] (fun x => by simp only [kover] <;> rfl) (fun x => x ≤ a.length ∧ a.take x = b.take x) (fun x => a.length - x) 0 (by refine ⟨?_, ?_, ?_, ?_, ?_, ?_, ?_, ?_, ?_, ?_, ?_, ?_, ?_, ?_, ?_, ?_, ?_, ?_, ?_, ?_, ?_, ?_, ?_, ?_, ?_, ?_, ?_, trivial⟩ <;> first | exact le_any _ | with_reducible exact le_rfl' _ | (exact le_rfl' _) | exact le_rfl' _) (⟨Nat.zero_le _, rfl⟩) ?_
  rintro i ⟨h1, h2⟩
  refine Ok.seq ?_
  refine OQ ?_
  iterate 4 (refine EV ?_)
  refine ON ?_
  refine Ok.cond (b := _) (by simp only [kE, kT, kL, kC] <;> rfl) (fun hb4 => ?_) (fun hb4 => ?_)
  ·
   try simp only [bsimp] at hb4
   have hi : i < a.length := by omega
   have hj : i < b.length := by omega
   refine Ok.skip ?_
   refine Ok.seq ?_
   refine Ok.block ?_
   refine Ok.seq ?_
   refine Ok.drawn 10 27 [] (by kernel_rfl) (by kernel_rfl) rfl ?_
   iterate 2 (refine SV ?_)
   refine SOps.ev tab_ok rfl (ev_idx_map (by simp only [kE, kT, kL, kC] <;> rfl) (by simp only [kE, kT, kL, kC] <;> rfl) (by omega) (by simp only [kE, kT, kL, kC] <;> rfl)) (by simp only [kP] <;> rfl) ?_
   iterate 3 (refine SV ?_)
   refine SOps.ev tab_ok rfl (ev_idx_map (by simp only [kE, kT, kL, kC] <;> rfl) (by simp only [kE, kT, kL, kC] <;> rfl) (by omega) (by simp only [kE, kT, kL, kC] <;> rfl)) (by simp only [kP] <;> rfl) ?_
   refine SV ?_
   refine SOps.S0 rfl (OpS.weakM rfl (by simp only [kE, kT, kL, kC] <;> rfl) (by simp only [kE, kT, kL, kC] <;> rfl) cl223 (w_laws_eqMail a[i] b[i])) (by simp only [kP] <;> rfl) ?_
   refine SV ?_
   refine SOps.nil ?_
   refine TOps.nil ?_
   refine Ok.cond (b := _) (by simp only [kE, kT, kL, kC] <;> rfl) (fun hb6 => ?_) (fun hb6 => ?_)
   ·
    try simp only [bsimp] at hb6
    refine OQ ?_
    refine EV ?_
    refine ON ?_
    refine Ok.ret ?_
    with_reducible repeat (first | refine thenQ_ret ?_ | refine blockQ_ret ?_)
    refine RT ?_
    rw [decide_eq_false (fun h => hb6 (by subst h; rfl))]; rfl
   ·
    try simp only [bsimp] at hb6
    refine Ok.skip ?_
    refine Ok.region ?_
    iterate 3 (refine EV ?_)
    refine ON ?_
    refine ⟨i + 1, ?_, rfl, rfl, ⟨by omega, take_next h2 hi hj hb6⟩, by omega⟩
    refine ⟨?_, ?_, ?_, ?_, ?_, ?_, ?_, ?_, ?_, ?_, ?_, ?_, ?_, ?_, ?_, ?_, ?_, ?_, ?_, ?_, ?_, ?_, ?_, ?_, ?_, ?_, ?_, trivial⟩ <;> first | exact le_any _ | with_reducible exact le_rfl' _ | ((rw [wrap_succ (by simp only [List.length_map] at ha; unfold maxLen at ha; omega)]; exact le_rfl' _)) | exact le_rfl' _
  ·
   try simp only [bsimp] at hb4
   refine Ok.exit ?_
   refine OQ ?_
   refine EV ?_
   refine ON ?_
   refine Ok.ret ?_
   with_reducible repeat (first | refine thenQ_ret ?_ | refine blockQ_ret ?_)
   refine RT ?_
   rw [decide_eq_true (eq_of_take (by omega) (by omega) h2)]; rfl
theorem w_laws_eqBox (a b : Box) : Weak Tryz.prog 126 [.agg (cBox a), .agg (cBox b)] (.bool (decide (a = b))) := by
 refine Weak.enter tab_ok Tryz.func126 rfl (.inr (by simp [V.labelsL, V.labels, V.labelsLL, zz, zf, zy, or_imp, forall_and])) (t := [.agg (cBox a), .agg (cBox b), .any, .any, .any, .any, .any, .any, .any, .any, .any, .any, .any, .any, .any, .any, .any, .any, .any, .any, .any, .any, .any, .any, .any, .any, .any, .any, .any, .any, .any, .any, .any, .any, .any, .any, .any, .any]) rfl ?_
 refine OQ ?_
 iterate 3 (refine EV ?_)
 refine ON ?_
 refine Ok.seq ?_
 refine OQ ?_
 iterate 5 (refine EV ?_)
 refine ON ?_
 refine Ok.cond (b := _) (by simp only [kE, kT, kL, kC] <;> rfl) (fun hb1 => ?_) (fun hb1 => ?_)
 ·
  try simp only [bsimp] at hb1
  refine OQ ?_
  refine EV ?_
  refine ON ?_
  refine Ok.ret ?_
  with_reducible repeat (first | refine thenQ_ret ?_ | refine blockQ_ret ?_)
  refine RT ?_
  first | (rw [decide_eq_true (by cases a; cases b; simp_all)]; rfl) | (rw [decide_eq_false (by intro h; subst h; simp_all)]; rfl)
 ·
  try simp only [bsimp] at hb1
  refine Ok.skip ?_
  refine Ok.seq ?_
  refine OQ ?_
  iterate 5 (refine EV ?_)
  refine ON ?_
  refine Ok.cond (b := _) (by simp only [kE, kT, kL, kC] <;> rfl) (fun hb3 => ?_) (fun hb3 => ?_)
  ·
   try simp only [bsimp] at hb3
   refine OQ ?_
   refine EV ?_
   refine ON ?_
   refine Ok.ret ?_
   with_reducible repeat (first | refine thenQ_ret ?_ | refine blockQ_ret ?_)
   refine RT ?_
   first | (rw [decide_eq_true (by cases a; cases b; simp_all)]; rfl) | (rw [decide_eq_false (by intro h; subst h; simp_all)]; rfl)
  ·
   try simp only [bsimp] at hb3
   refine Ok.skip ?_
   refine Ok.seq ?_
   refine OQ ?_
   iterate 4 (refine EV ?_)
   refine OkOps.S0 rfl (OpS.weak' rfl (by simp only [kE, kT, kL, kC] <;> rfl) (by simp only [kE, kT, kL, kC] <;> rfl) cl175 (w_laws_eqStamp a.named b.named)) (by simp only [kP] <;> rfl) ?_
   refine EV ?_
   refine ON ?_
   refine Ok.cond (b := _) (by simp only [kE, kT, kL, kC] <;> rfl) (fun hb5 => ?_) (fun hb5 => ?_)
   ·
    try simp only [bsimp] at hb5
    refine OQ ?_
    refine EV ?_
    refine ON ?_
    refine Ok.ret ?_
    with_reducible repeat (first | refine thenQ_ret ?_ | refine blockQ_ret ?_)
    refine RT ?_
    first | (rw [decide_eq_true (by cases a; cases b; simp_all)]; rfl) | (rw [decide_eq_false (by intro h; subst h; simp_all)]; rfl)
   ·
    try simp only [bsimp] at hb5
    refine Ok.skip ?_
    refine Ok.seq ?_
    refine OQ ?_
    iterate 5 (refine EV ?_)
    refine ON ?_
    refine Ok.cond (b := _) (by simp only [kE, kT, kL, kC] <;> rfl) (fun hb7 => ?_) (fun hb7 => ?_)
    ·
     try simp only [bsimp] at hb7
     refine OQ ?_
     refine EV ?_
     refine ON ?_
     refine Ok.ret ?_
     with_reducible repeat (first | refine thenQ_ret ?_ | refine blockQ_ret ?_)
     refine RT ?_
     first | (rw [decide_eq_true (by cases a; cases b; simp_all)]; rfl) | (rw [decide_eq_false (by intro h; subst h; simp_all)]; rfl)
    ·
     try simp only [bsimp] at hb7
     refine Ok.skip ?_
     refine Ok.seq ?_
     refine OQ ?_
     iterate 4 (refine EV ?_)
     refine OkOps.S0 rfl (OpS.weak' rfl (by simp only [kE, kT, kL, kC] <;> rfl) (by simp only [kE, kT, kL, kC] <;> rfl) cl176 (w_laws_eqMailS a.mails b.mails)) (by simp only [kP] <;> rfl) ?_
     refine EV ?_
     refine ON ?_
     refine Ok.cond (b := _) (by simp only [kE, kT, kL, kC] <;> rfl) (fun hb9 => ?_) (fun hb9 => ?_)
     ·
      try simp only [bsimp] at hb9
      refine OQ ?_
      refine EV ?_
      refine ON ?_
      refine Ok.ret ?_
      with_reducible repeat (first | refine thenQ_ret ?_ | refine blockQ_ret ?_)
      refine RT ?_
      first | (rw [decide_eq_true (by cases a; cases b; simp_all)]; rfl) | (rw [decide_eq_false (by intro h; subst h; simp_all)]; rfl)
     ·
      try simp only [bsimp] at hb9
      refine Ok.skip ?_
      refine Ok.seq ?_
      refine OQ ?_
      iterate 4 (refine EV ?_)
      refine OkOps.S0 rfl (OpS.weak' rfl (by simp only [kE, kT, kL, kC] <;> rfl) (by simp only [kE, kT, kL, kC] <;> rfl) cl62 (w_laws_eqIntS a.gone b.gone)) (by simp only [kP] <;> rfl) ?_
      refine EV ?_
      refine ON ?_
      refine Ok.cond (b := _) (by simp only [kE, kT, kL, kC] <;> rfl) (fun hb11 => ?_) (fun hb11 => ?_)
      ·
       try simp only [bsimp] at hb11
       refine OQ ?_
       refine EV ?_
       refine ON ?_
       refine Ok.ret ?_
       with_reducible repeat (first | refine thenQ_ret ?_ | refine blockQ_ret ?_)
       refine RT ?_
       first | (rw [decide_eq_true (by cases a; cases b; simp_all)]; rfl) | (rw [decide_eq_false (by intro h; subst h; simp_all)]; rfl)
      ·
       try simp only [bsimp] at hb11
       refine Ok.skip ?_
       refine OQ ?_
       refine EV ?_
       refine ON ?_
       refine Ok.ret ?_
       with_reducible repeat (first | refine thenQ_ret ?_ | refine blockQ_ret ?_)
       refine RT ?_
       first | (rw [decide_eq_true (by cases a; cases b; simp_all)]; rfl) | (rw [decide_eq_false (by intro h; subst h; simp_all)]; rfl)
theorem w_laws_eqBoxS (a b : List Box) : Weak Tryz.prog 61 [.sl 0 7 0 (a.map cBox), .sl 0 7 0 (b.map cBox)] (.bool (decide (a = b))) := by
 refine Weak.len 0 rfl fun ha => ?_
 refine Weak.enter tab_ok Tryz.func61 rfl (.inr (by simp [V.labelsL, V.labels, V.labelsLL, zz, zf, zy, or_imp, forall_and])) (t := [.sl 0 7 0 (a.map cBox), .sl 0 7 0 (b.map cBox), .any, .any, .any, .any, .any, .any, .any, .any, .any, .any, .any, .any, .any, .any, .any, .any, .any, .any, .any, .any, .any, .any, .any, .any, .any]) rfl ?_
 refine OQ ?_
 refine EV ?_
 refine ON ?_
 refine Ok.seq ?_
 refine OQ ?_
 iterate 5 (refine EV ?_)
 refine ON ?_
 refine Ok.cond (b := _) (by simp only [kE, kT, kL, kC] <;> rfl) (fun hb1 => ?_) (fun hb1 => ?_)
 ·
  try simp only [bsimp] at hb1
  refine OQ ?_
  refine EV ?_
  refine ON ?_
  refine Ok.ret ?_
  with_reducible repeat (first | refine thenQ_ret ?_ | refine blockQ_ret ?_)
  refine RT ?_
  rw [decide_eq_false (fun h => hb1 (by rw [h]))]; rfl
 ·
  try simp only [bsimp] at hb1
  have hb1 : (a.length : Int) = b.length := by simpa using hb1
  refine Ok.skip ?_
  refine Ok.seq ?_
  refine OQ ?_
  refine EV ?_
  refine ON ?_
  refine Ok.block ?_
  refine Ok.loopW (τ := Nat) (fun x => [(5, .int .i64 (x : Int))]) [4, 11, 12, 13, 14, 15, 16, 17, 18, 19, 20, 21, 22, 23, 24, 25, 26] (fun x => by simp only [kover] <;> rfl) (fun x => x ≤ a.length ∧ a.take x = b.take x) (fun x => a.length - x) 0 (by refine ⟨?_, ?_, ?_, ?_, ?_, ?_, ?_, ?_, ?_, ?_, ?_, ?_, ?_, ?_, ?_, ?_, ?_, ?_, ?_, ?_, ?_, ?_, ?_, ?_, ?_, ?_, ?_, trivial⟩ <;> first | exact le_any _ | with_reducible exact le_rfl' _ | (exact le_rfl' _) | exact le_rfl' _) (⟨Nat.zero_le _, rfl⟩) ?_
  rintro i ⟨h1, h2⟩
  refine Ok.seq ?_
  refine OQ ?_
  iterate 4 (refine EV ?_)
  refine ON ?_
  refine Ok.cond (b := _) (by simp only [kE, kT, kL, kC] <;> rfl) (fun hb4 => ?_) (fun hb4 => ?_)
  ·
   try simp only [bsimp] at hb4
   have hi : i < a.length := by omega
   have hj : i < b.length := by omega
   refine Ok.skip ?_
   refine Ok.seq ?_
   refine Ok.block ?_
   refine Ok.seq ?_
   refine Ok.drawn 10 27 [] (by kernel_rfl) (by kernel_rfl) rfl ?_
   iterate 2 (refine SV ?_)
   refine SOps.ev tab_ok rfl (ev_idx_map (by simp only [kE, kT, kL, kC] <;> rfl) (by simp only [kE, kT, kL, kC] <;> rfl) (by omega) (by simp only [kE, kT, kL, kC] <;> rfl)) (by simp only [kP] <;> rfl) ?_
   iterate 3 (refine SV ?_)
   refine SOps.ev tab_ok rfl (ev_idx_map (by simp only [kE, kT, kL, kC] <;> rfl) (by simp only [kE, kT, kL, kC] <;> rfl) (by omega) (by simp only [kE, kT, kL, kC] <;> rfl)) (by simp only [kP] <;> rfl) ?_
   refine SV ?_
   refine SOps.S0 rfl (OpS.weakM rfl (by simp only [kE, kT, kL, kC] <;> rfl) (by simp only [kE, kT, kL, kC] <;> rfl) cl126 (w_laws_eqBox a[i] b[i])) (by simp only [kP] <;> rfl) ?_
   refine SV ?_
   refine SOps.nil ?_
   refine TOps.nil ?_
   refine Ok.cond (b := _) (by simp only [kE, kT, kL, kC] <;> rfl) (fun hb6 => ?_) (fun hb6 => ?_)
   ·
    try simp only [bsimp] at hb6
    refine OQ ?_
    refine EV ?_
    refine ON ?_
    refine Ok.ret ?_
    with_reducible repeat (first | refine thenQ_ret ?_ | refine blockQ_ret ?_)
    refine RT ?_
    rw [decide_eq_false (fun h => hb6 (by subst h; rfl))]; rfl
   ·
    try simp only [bsimp] at hb6
    refine Ok.skip ?_
    refine Ok.region ?_
    iterate 3 (refine EV ?_)
    refine ON ?_
    refine ⟨i + 1, ?_, rfl, rfl, ⟨by omega, take_next h2 hi hj hb6⟩, by omega⟩
    refine ⟨?_, ?_, ?_, ?_, ?_, ?_, ?_, ?_, ?_, ?_, ?_, ?_, ?_, ?_, ?_, ?_, ?_, ?_, ?_, ?_, ?_, ?_, ?_, ?_, ?_, ?_, ?_, trivial⟩ <;> first | exact le_any _ | with_reducible exact le_rfl' _ | ((rw [wrap_succ (by simp only [List.length_map] at ha; unfold maxLen at ha; omega)]; exact le_rfl' _)) | exact le_rfl' _
  ·
   try simp only [bsimp] at hb4
   refine Ok.exit ?_
   refine OQ ?_
   refine EV ?_
   refine ON ?_
   refine Ok.ret ?_
   with_reducible repeat (first | refine thenQ_ret ?_ | refine blockQ_ret ?_)
   refine RT ?_
   rw [decide_eq_true (eq_of_take (by omega) (by omega) h2)]; rfl
theorem w_laws_eqStore (a b : Store) : Weak Tryz.prog 13 [.agg (cStore a), .agg (cStore b)] (.bool (decide (a = b))) := by
 refine Weak.enter tab_ok Tryz.func13 rfl (.inr (by simp [V.labelsL, V.labels, V.labelsLL, zz, zf, zy, or_imp, forall_and])) (t := [.agg (cStore a), .agg (cStore b), .any, .any, .any, .any, .any, .any, .any, .any, .any, .any, .any, .any, .any, .any, .any, .any, .any, .any, .any, .any, .any, .any, .any, .any, .any]) rfl ?_
 refine OQ ?_
 iterate 3 (refine EV ?_)
 refine ON ?_
 refine Ok.seq ?_
 refine OQ ?_
 iterate 5 (refine EV ?_)
 refine ON ?_
 refine Ok.cond (b := _) (by simp only [kE, kT, kL, kC] <;> rfl) (fun hb1 => ?_) (fun hb1 => ?_)
 ·
  try simp only [bsimp] at hb1
  refine OQ ?_
  refine EV ?_
  refine ON ?_
  refine Ok.ret ?_
  with_reducible repeat (first | refine thenQ_ret ?_ | refine blockQ_ret ?_)
  refine RT ?_
  first | (rw [decide_eq_true (by cases a; cases b; simp_all)]; rfl) | (rw [decide_eq_false (by intro h; subst h; simp_all)]; rfl)
 ·
  try simp only [bsimp] at hb1
  refine Ok.skip ?_
  refine Ok.seq ?_
  refine OQ ?_
  iterate 5 (refine EV ?_)
  refine ON ?_
  refine Ok.cond (b := _) (by simp only [kE, kT, kL, kC] <;> rfl) (fun hb3 => ?_) (fun hb3 => ?_)
  ·
   try simp only [bsimp] at hb3
   refine OQ ?_
   refine EV ?_
   refine ON ?_
   refine Ok.ret ?_
   with_reducible repeat (first | refine thenQ_ret ?_ | refine blockQ_ret ?_)
   refine RT ?_
   first | (rw [decide_eq_true (by cases a; cases b; simp_all)]; rfl) | (rw [decide_eq_false (by intro h; subst h; simp_all)]; rfl)
  ·
   try simp only [bsimp] at hb3
   refine Ok.skip ?_
   refine Ok.seq ?_
   refine OQ ?_
   iterate 4 (refine EV ?_)
   refine OkOps.S0 rfl (OpS.weak' rfl (by simp only [kE, kT, kL, kC] <;> rfl) (by simp only [kE, kT, kL, kC] <;> rfl) cl61 (w_laws_eqBoxS a.boxes b.boxes)) (by simp only [kP] <;> rfl) ?_
   refine EV ?_
   refine ON ?_
   refine Ok.cond (b := _) (by simp only [kE, kT, kL, kC] <;> rfl) (fun hb5 => ?_) (fun hb5 => ?_)
   ·
    try simp only [bsimp] at hb5
    refine OQ ?_
    refine EV ?_
    refine ON ?_
    refine Ok.ret ?_
    with_reducible repeat (first | refine thenQ_ret ?_ | refine blockQ_ret ?_)
    refine RT ?_
    first | (rw [decide_eq_true (by cases a; cases b; simp_all)]; rfl) | (rw [decide_eq_false (by intro h; subst h; simp_all)]; rfl)
   ·
    try simp only [bsimp] at hb5
    refine Ok.skip ?_
    refine Ok.seq ?_
    refine OQ ?_
    iterate 4 (refine EV ?_)
    refine OkOps.S0 rfl (OpS.weak' rfl (by simp only [kE, kT, kL, kC] <;> rfl) (by simp only [kE, kT, kL, kC] <;> rfl) cl62 (w_laws_eqIntS a.gone b.gone)) (by simp only [kP] <;> rfl) ?_
    refine EV ?_
    refine ON ?_
    refine Ok.cond (b := _) (by simp only [kE, kT, kL, kC] <;> rfl) (fun hb7 => ?_) (fun hb7 => ?_)
    ·
     try simp only [bsimp] at hb7
     refine OQ ?_
     refine EV ?_
     refine ON ?_
     refine Ok.ret ?_
     with_reducible repeat (first | refine thenQ_ret ?_ | refine blockQ_ret ?_)
     refine RT ?_
     first | (rw [decide_eq_true (by cases a; cases b; simp_all)]; rfl) | (rw [decide_eq_false (by intro h; subst h; simp_all)]; rfl)
    ·
     try simp only [bsimp] at hb7
     refine Ok.skip ?_
     refine OQ ?_
     refine EV ?_
     refine ON ?_
     refine Ok.ret ?_
     with_reducible repeat (first | refine thenQ_ret ?_ | refine blockQ_ret ?_)
     refine RT ?_
     first | (rw [decide_eq_true (by cases a; cases b; simp_all)]; rfl) | (rw [decide_eq_false (by intro h; subst h; simp_all)]; rfl)
theorem w_laws_eqLink (a b : Link) : Weak Tryz.prog 59 [.agg (cLink a), .agg (cLink b)] (.bool (decide (a = b))) := by
 refine Weak.enter tab_ok Tryz.func59 rfl (.inr (by simp [V.labelsL, V.labels, V.labelsLL, zz, zf, zy, or_imp, forall_and])) (t := [.agg (cLink a), .agg (cLink b), .any, .any, .any, .any, .any, .any, .any, .any, .any, .any, .any, .any, .any, .any, .any, .any, .any, .any, .any, .any, .any, .any, .any, .any]) rfl ?_
 refine OQ ?_
 iterate 3 (refine EV ?_)
 refine ON ?_
 refine Ok.seq ?_
 refine OQ ?_
 iterate 5 (refine EV ?_)
 refine ON ?_
 refine Ok.cond (b := _) (by simp only [kE, kT, kL, kC] <;> rfl) (fun hb1 => ?_) (fun hb1 => ?_)
 ·
  try simp only [bsimp] at hb1
  refine OQ ?_
  refine EV ?_
  refine ON ?_
  refine Ok.ret ?_
  with_reducible repeat (first | refine thenQ_ret ?_ | refine blockQ_ret ?_)
  refine RT ?_
  first | (rw [decide_eq_true (by cases a; cases b; simp_all)]; rfl) | (rw [decide_eq_false (by intro h; subst h; simp_all)]; rfl)
 ·
  try simp only [bsimp] at hb1
  refine Ok.skip ?_
  refine Ok.seq ?_
  refine OQ ?_
  iterate 4 (refine EV ?_)
  refine OkOps.S0 rfl (OpS.weak' rfl (by simp only [kE, kT, kL, kC] <;> rfl) (by simp only [kE, kT, kL, kC] <;> rfl) cl60 (w_laws_eqStringS a.way b.way)) (by simp only [kP] <;> rfl) ?_
  refine EV ?_
  refine ON ?_
  refine Ok.cond (b := _) (by simp only [kE, kT, kL, kC] <;> rfl) (fun hb3 => ?_) (fun hb3 => ?_)
  ·
   try simp only [bsimp] at hb3
   refine OQ ?_
   refine EV ?_
   refine ON ?_
   refine Ok.ret ?_
   with_reducible repeat (first | refine thenQ_ret ?_ | refine blockQ_ret ?_)
   refine RT ?_
   first | (rw [decide_eq_true (by cases a; cases b; simp_all)]; rfl) | (rw [decide_eq_false (by intro h; subst h; simp_all)]; rfl)
  ·
   try simp only [bsimp] at hb3
   refine Ok.skip ?_
   refine Ok.seq ?_
   refine OQ ?_
   iterate 5 (refine EV ?_)
   refine ON ?_
   refine Ok.cond (b := _) (by simp only [kE, kT, kL, kC] <;> rfl) (fun hb5 => ?_) (fun hb5 => ?_)
   ·
    try simp only [bsimp] at hb5
    refine OQ ?_
    refine EV ?_
    refine ON ?_
    refine Ok.ret ?_
    with_reducible repeat (first | refine thenQ_ret ?_ | refine blockQ_ret ?_)
    refine RT ?_
    first | (rw [decide_eq_true (by cases a; cases b; simp_all)]; rfl) | (rw [decide_eq_false (by intro h; subst h; simp_all)]; rfl)
   ·
    try simp only [bsimp] at hb5
    refine Ok.skip ?_
    refine Ok.seq ?_
    refine OQ ?_
    iterate 5 (refine EV ?_)
    refine ON ?_
    refine Ok.cond (b := _) (by simp only [kE, kT, kL, kC] <;> rfl) (fun hb7 => ?_) (fun hb7 => ?_)
    ·
     try simp only [bsimp] at hb7
     refine OQ ?_
     refine EV ?_
     refine ON ?_
     refine Ok.ret ?_
     with_reducible repeat (first | refine thenQ_ret ?_ | refine blockQ_ret ?_)
     refine RT ?_
     first | (rw [decide_eq_true (by cases a; cases b; simp_all)]; rfl) | (rw [decide_eq_false (by intro h; subst h; simp_all)]; rfl)
    ·
     try simp only [bsimp] at hb7
     refine Ok.skip ?_
     refine OQ ?_
     refine EV ?_
     refine ON ?_
     refine Ok.ret ?_
     with_reducible repeat (first | refine thenQ_ret ?_ | refine blockQ_ret ?_)
     refine RT ?_
     first | (rw [decide_eq_true (by cases a; cases b; simp_all)]; rfl) | (rw [decide_eq_false (by intro h; subst h; simp_all)]; rfl)
theorem w_laws_eqSync (a b : Sync) : Weak Tryz.prog 12 [.agg (cSync a), .agg (cSync b)] (.bool (decide (a = b))) := by
 refine Weak.enter tab_ok Tryz.func12 rfl (.inr (by simp [V.labelsL, V.labels, V.labelsLL, zz, zf, zy, or_imp, forall_and])) (t := [.agg (cSync a), .agg (cSync b), .any, .any, .any, .any, .any, .any, .any, .any, .any, .any, .any, .any, .any, .any, .any, .any, .any, .any, .any, .any, .any, .any, .any, .any, .any, .any, .any, .any, .any, .any, .any, .any, .any, .any, .any]) rfl ?_
 refine OQ ?_
 iterate 3 (refine EV ?_)
 refine ON ?_
 refine Ok.seq ?_
 refine OQ ?_
 iterate 5 (refine EV ?_)
 refine ON ?_
 refine Ok.cond (b := _) (by simp only [kE, kT, kL, kC] <;> rfl) (fun hb1 => ?_) (fun hb1 => ?_)
 ·
  try simp only [bsimp] at hb1
  refine OQ ?_
  refine EV ?_
  refine ON ?_
  refine Ok.ret ?_
  with_reducible repeat (first | refine thenQ_ret ?_ | refine blockQ_ret ?_)
  refine RT ?_
  first | (rw [decide_eq_true (by cases a; cases b; simp_all)]; rfl) | (rw [decide_eq_false (by intro h; subst h; simp_all)]; rfl)
 ·
  try simp only [bsimp] at hb1
  refine Ok.skip ?_
  refine Ok.seq ?_
  refine OQ ?_
  iterate 4 (refine EV ?_)
  refine OkOps.S0 rfl (OpS.weak' rfl (by simp only [kE, kT, kL, kC] <;> rfl) (by simp only [kE, kT, kL, kC] <;> rfl) cl59 (w_laws_eqLink a.link b.link)) (by simp only [kP] <;> rfl) ?_
  refine EV ?_
  refine ON ?_
  refine Ok.cond (b := _) (by simp only [kE, kT, kL, kC] <;> rfl) (fun hb3 => ?_) (fun hb3 => ?_)
  ·
   try simp only [bsimp] at hb3
   refine OQ ?_
   refine EV ?_
   refine ON ?_
   refine Ok.ret ?_
   with_reducible repeat (first | refine thenQ_ret ?_ | refine blockQ_ret ?_)
   refine RT ?_
   first | (rw [decide_eq_true (by cases a; cases b; simp_all)]; rfl) | (rw [decide_eq_false (by intro h; subst h; simp_all)]; rfl)
  ·
   try simp only [bsimp] at hb3
   refine Ok.skip ?_
   refine Ok.seq ?_
   refine OQ ?_
   iterate 5 (refine EV ?_)
   refine ON ?_
   refine Ok.cond (b := _) (by simp only [kE, kT, kL, kC] <;> rfl) (fun hb5 => ?_) (fun hb5 => ?_)
   ·
    try simp only [bsimp] at hb5
    refine OQ ?_
    refine EV ?_
    refine ON ?_
    refine Ok.ret ?_
    with_reducible repeat (first | refine thenQ_ret ?_ | refine blockQ_ret ?_)
    refine RT ?_
    first | (rw [decide_eq_true (by cases a; cases b; simp_all)]; rfl) | (rw [decide_eq_false (by intro h; subst h; simp_all)]; rfl)
   ·
    try simp only [bsimp] at hb5
    refine Ok.skip ?_
    refine Ok.seq ?_
    refine OQ ?_
    iterate 4 (refine EV ?_)
    refine OkOps.S0 rfl (OpS.weak' rfl (by simp only [kE, kT, kL, kC] <;> rfl) (by simp only [kE, kT, kL, kC] <;> rfl) cl60 (w_laws_eqStringS a.pieces b.pieces)) (by simp only [kP] <;> rfl) ?_
    refine EV ?_
    refine ON ?_
    refine Ok.cond (b := _) (by simp only [kE, kT, kL, kC] <;> rfl) (fun hb7 => ?_) (fun hb7 => ?_)
    ·
     try simp only [bsimp] at hb7
     refine OQ ?_
     refine EV ?_
     refine ON ?_
     refine Ok.ret ?_
     with_reducible repeat (first | refine thenQ_ret ?_ | refine blockQ_ret ?_)
     refine RT ?_
     first | (rw [decide_eq_true (by cases a; cases b; simp_all)]; rfl) | (rw [decide_eq_false (by intro h; subst h; simp_all)]; rfl)
    ·
     try simp only [bsimp] at hb7
     refine Ok.skip ?_
     refine Ok.seq ?_
     refine OQ ?_
     iterate 5 (refine EV ?_)
     refine ON ?_
     refine Ok.cond (b := _) (by simp only [kE, kT, kL, kC] <;> rfl) (fun hb9 => ?_) (fun hb9 => ?_)
     ·
      try simp only [bsimp] at hb9
      refine OQ ?_
      refine EV ?_
      refine ON ?_
      refine Ok.ret ?_
      with_reducible repeat (first | refine thenQ_ret ?_ | refine blockQ_ret ?_)
      refine RT ?_
      first | (rw [decide_eq_true (by cases a; cases b; simp_all)]; rfl) | (rw [decide_eq_false (by intro h; subst h; simp_all)]; rfl)
     ·
      try simp only [bsimp] at hb9
      refine Ok.skip ?_
      refine Ok.seq ?_
      refine OQ ?_
      iterate 5 (refine EV ?_)
      refine ON ?_
      refine Ok.cond (b := _) (by simp only [kE, kT, kL, kC] <;> rfl) (fun hb11 => ?_) (fun hb11 => ?_)
      ·
       try simp only [bsimp] at hb11
       refine OQ ?_
       refine EV ?_
       refine ON ?_
       refine Ok.ret ?_
       with_reducible repeat (first | refine thenQ_ret ?_ | refine blockQ_ret ?_)
       refine RT ?_
       first | (rw [decide_eq_true (by cases a; cases b; simp_all)]; rfl) | (rw [decide_eq_false (by intro h; subst h; simp_all)]; rfl)
      ·
       try simp only [bsimp] at hb11
       refine Ok.skip ?_
       refine OQ ?_
       refine EV ?_
       refine ON ?_
       refine Ok.ret ?_
       with_reducible repeat (first | refine thenQ_ret ?_ | refine blockQ_ret ?_)
       refine RT ?_
       first | (rw [decide_eq_true (by cases a; cases b; simp_all)]; rfl) | (rw [decide_eq_false (by intro h; subst h; simp_all)]; rfl)
end Go.Proofs.YtjhfabimacljhaaGreat.K

/- What a server and a pair show: plain functions. -/
namespace Go.Proofs.YtjhfabimacljhaaGreat.K
open Go Go.RowKit
set_option linter.unusedVariables false
set_option linter.unusedSimpArgs false
section
variable {P : Program} {ti : Tab} {ops : Array Oper} {o : Oper} {l : List Oper} {t t' h h' : List V} {n n' : Nat} {Q : Exit → List V → List V → Nat → Prop}
theorem TOps.append {T e : TypeId} {i : TInfo} {s x : Operand} {L off : Nat} {es es2 es3 : List (List V)} {s1 b1 : Nat} {z1 : List V} (hti : TabOk P ti) (hg : o.guard = none) (ho : o.op = .call ⟨.builtin .append, #[s, x], #[T, T]⟩) (hT : ti T = some ⟨.slice e, s1, b1, z1⟩) (he : ti e = some i)
    (hi : 0 < i.size) (hz : i.zero.length = i.size) (hs : opnd t s = .sl L i.size off es) (hx : (∃ L2 off2, opnd t x = .sl L2 i.size off2 es2) ∨ (es2 = [] ∧ ∃ q, opnd t x = .nil q)) (hL : L ≠ 0) (hLn : L < n)
    (hb : (es.length + es2.length) * i.bytes ≤ 140737488355328) (hb2 : es.length + es2.length ≤ 9223372036854775807) (hone : ∀ e ∈ es2, ∀ y ∈ e, V.one y = true) (he3 : V.killLL L (es ++ es2) = es3) (ht : putV (V.killL L t) o.dst (.sl L i.size 0 es3) = t') (hh : V.killL L h = h')
    (hk : TOps P ops [] Q l t' h' n) : TOps P ops [] Q (o :: l) t h n :=
  TOps.ok h' hg (ht ▸ hh ▸ he3 ▸ ok_append hti hT he hi hz ho hs hx hL hLn hb hb2 hone) hk
end
def fig (d : Nat) : UInt8 := if d < 10 then UInt8.ofNat (48 + d) else UInt8.ofNat (87 + d)
abbrev figT : Str := [48,49,50,51,52,53,54,55,56,57,97,98,99,100,101,102]
def dg (v : Int) : Nat := (v.tmod 10).natAbs
theorem wrap_abs (x : Int) : (IntKind.i64.wrap x).natAbs ≤ x.natAbs := by rw [IntKind.wrap_i64]; omega
theorem quo_abs (v : Int) : (IntKind.i64.wrap (v.tdiv 10)).natAbs ≤ v.natAbs / 10 := by
  have h := wrap_abs (v.tdiv 10)
  rw [Int.natAbs_tdiv] at h
  exact h
def decV (v : Int) (acc : Str) : Str := if h : v = 0 then acc else decV (IntKind.i64.wrap (v.tdiv 10)) (fig (dg v) :: acc)
termination_by v.natAbs
decreasing_by have := quo_abs v; omega
def decimal (v : Int) : Str := if v = 0 then [48] else if v < 0 then 45 :: decV v [] else decV v []
def numS (v : Int) : Str := decimal (if v > 0 then v else 0)
def hexC (c : UInt8) : Str := [fig (c.toNat / 16), fig (c.toNat % 16)]
def hexL (s : Str) : Str := s.flatMap hexC
theorem flat_next {α : Type} {f : α → Str} {a : List α} {i : Nat} (h : i < a.length) : (a.take (i + 1)).flatMap f = (a.take i).flatMap f ++ f a[i] := by
  rw [List.take_succ_eq_append_getElem h, List.flatMap_append]
  simp
def hexS (s : Str) : Str := if s.length > 20000 then [] else hexL s
def flB (r : Reg) : Nat := (r.val % 2).toNat
def flN : Nat → List Reg → Nat
  | _, [] => 0
  | i, r :: l => flB r * 2 ^ i + flN (i + 1) l
def mailS (m : Mail) : Str := [32] ++ numS m.uid ++ [32] ++ decimal (flN 0 (m.flags.take 3) : Int) ++ [32] ++ hexS m.text ++ [10]
def boxH (b : Box) : Str := b.name ++ [32] ++ numS b.next ++ [10]
def boxS (b : Box) : Str := boxH b ++ b.mails.flatMap mailS
def saidS (s : Store) : Str := s.boxes.flatMap boxS
def serverS (v : Server) : Str := [115,101,114,118,101,114,32] ++ numS v.kept.store.by_ ++ [32] ++ (if v.up then [117,112] else [100,111,119,110]) ++ [10] ++ saidS v.kept.store
theorem min2 {n : Nat} : (if (n : Int) < 2 then (n : Int) else 2) = ((min 2 n : Nat) : Int) := by split <;> omega
def pairS (p : Pair) (b : Bool) : Str := (p.servers.take 2).flatMap serverS ++ (if b then [97,103,114,101,101,10] else [97,112,97,114,116,10])
end Go.Proofs.YtjhfabimacljhaaGreat.K

/- Texts of what is right: how long they are. -/
namespace Go.Proofs.YtjhfabimacljhaaGreat.K
open Go Go.RowKit
set_option linter.unusedVariables false
set_option linter.unusedSimpArgs false
theorem flat_le {α : Type} {f : α → Str} {k : Nat} : ∀ {l : List α}, (∀ a ∈ l, (f a).length ≤ k) → (l.flatMap f).length ≤ l.length * k
  | [], _ => by simp
  | a :: l, h => by
    have h1 := h a (List.mem_cons_self ..)
    have h2 := flat_le (l := l) fun b hb => h b (List.mem_cons_of_mem _ hb)
    rw [List.flatMap_cons, List.length_append, List.length_cons, Nat.succ_mul]
    omega
theorem stampOk_is {s : Stamp} (h : stampOk s = true) : 0 ≤ s.time ∧ s.time ≤ 100000 ∧ 0 ≤ s.by_ ∧ s.by_ ≤ 2 := by
  simp only [stampOk, Bool.and_eq_true, inR_t] at h
  omega
theorem regOk_is {r : Reg} (h : regOk r = true) : 0 ≤ r.val ∧ r.val ≤ 1000000000 ∧ 0 ≤ r.stamp.time ∧ r.stamp.time ≤ 100000 ∧ 0 ≤ r.stamp.by_ ∧ r.stamp.by_ ≤ 2 := by
  simp only [regOk, Bool.and_eq_true, inR_t] at h
  have := stampOk_is h.1
  omega
theorem flagOk_is {r : Reg} (h : flagOk r = true) : regOk r = true ∧ r.val ≤ 1 := by
  simp only [flagOk, Bool.and_eq_true, decide_eq_true_eq] at h
  exact h
theorem atB_all {α : Type} {l : List α} {p : α → Bool} (h : ∀ k, k < l.length → atB l p k = true) : ∀ a ∈ l, p a = true := by
  intro a ha
  obtain ⟨i, hi, rfl⟩ := List.mem_iff_getElem.1 ha
  exact (atB_get (p := p) hi).symm.trans (h i hi)
theorem flagsOk_is {l : List Reg} (h : flagsOk l = true) : (∀ r ∈ l, flagOk r = true) ∧ l.length = 3 := by
  simp only [flagsOk, Bool.and_eq_true, decide_eq_true_eq] at h
  exact ⟨atB_all fun k hk => allUp_of h.1 hk, by omega⟩
theorem gidOk_is {n : Int} (h : gidOk n = true) : 1 ≤ n ∧ n ≤ 9999 := inR_t.1 h
theorem gidsOk_is {l : List Int} {m : Int} (h : gidsOk l m = true) : (∀ g ∈ l, 1 ≤ g ∧ g ≤ 9999) ∧ (l.length : Int) ≤ m := by
  simp only [gidsOk, Bool.and_eq_true, decide_eq_true_eq] at h
  refine ⟨fun g hg => gidOk_is (atB_all (p := gidOk) (fun k hk => ?_) g hg), h.2⟩
  have := allUp_of h.1 hk
  simp only [gidAt, Bool.and_eq_true] at this
  exact this.1
theorem mailOk_is {m : Mail} (h : mailOk m = true) : (1 ≤ m.gid ∧ m.gid ≤ 9999) ∧ (1 ≤ m.uid ∧ m.uid ≤ 9999) ∧ (∀ r ∈ m.flags, flagOk r = true) ∧ m.flags.length = 3 ∧ m.text.length ≤ 60 := by
  simp only [mailOk, Bool.and_eq_true, decide_eq_true_eq] at h
  exact ⟨gidOk_is h.1.1.1, gidOk_is h.1.1.2, (flagsOk_is h.1.2).1, (flagsOk_is h.1.2).2, by omega⟩
theorem varI_len {z : Int} (h : z ≤ 1000000000) : (varT z.toNat).length ≤ 5 := varT_len5 (by omega)
theorem regT_len {r : Reg} (h : regOk r = true) : (regT r).length ≤ 15 := by
  have h0 := regOk_is h
  have h1 := varI_len (z := r.val) (by omega)
  have h2 := varI_len (z := r.stamp.time) (by omega)
  have h3 := varI_len (z := r.stamp.by_) (by omega)
  simp only [regT, List.length_append]; omega
theorem regs_len {l : List Reg} (h : ∀ r ∈ l, flagOk r = true) : (l.flatMap regT).length ≤ l.length * 15 := flat_le fun r hr => regT_len (flagOk_is (h r hr)).1
theorem mailT_len {m : Mail} (h : mailOk m = true) : (mailT m).length ≤ 200 := by
  obtain ⟨h1, h2, h3, h4, h5⟩ := mailOk_is h
  have q1 := varI_len (z := m.gid) (by omega)
  have q2 := varI_len (z := m.uid) (by omega)
  have q3 := regs_len h3
  have q4 := varT_len5 (n := m.text.length) (by omega)
  simp only [mailT, List.length_append]; omega
def gT (g : Int) : Str := varT g.toNat
theorem gT_len {g : Int} (h : g ≤ 9999) : (gT g).length ≤ 5 := varI_len (by omega)
theorem goneT_eq (l : List Int) : goneT l = varT l.length ++ l.flatMap gT := rfl
theorem gone_len {l : List Int} (h : ∀ g ∈ l, 1 ≤ g ∧ g ≤ 9999) : (l.flatMap gT).length ≤ l.length * 5 := flat_le fun g hg => gT_len (h g hg).2
theorem boxOk_is {b : Box} (h : boxOk b = true) : (1 ≤ b.gid ∧ b.gid ≤ 9999) ∧ b.name.length ≤ 12 ∧ (0 ≤ b.named.time ∧ b.named.time ≤ 100000 ∧ 0 ≤ b.named.by_ ∧ b.named.by_ ≤ 2) ∧ (1 ≤ b.next ∧ b.next ≤ 10000) ∧ b.mails.length ≤ 10 ∧ (∀ m ∈ b.mails, mailOk m = true) ∧ (∀ g ∈ b.gone, 1 ≤ g ∧ g ≤ 9999) ∧ b.gone.length ≤ 40 := by
  simp only [boxOk, boxHead, Bool.and_eq_true, decide_eq_true_eq, inR_t] at h
  obtain ⟨⟨⟨⟨⟨⟨h1, h2⟩, h3⟩, h4⟩, h5⟩, h6⟩, h7⟩ := h
  have g := gidsOk_is h6
  simp only [nameOk, Bool.and_eq_true, inR_t] at h2
  refine ⟨gidOk_is h1, by omega, stampOk_is h3, h4, by omega, fun m hm => ?_, g.1, by omega⟩
  obtain ⟨i, hi, rfl⟩ := List.mem_iff_getElem.1 hm
  have := allUp_of h7 hi
  rw [mailFine_at hi] at this
  simp only [Bool.and_eq_true] at this
  exact this.1.1.1.1
theorem mails_le {l : List Mail} (h : ∀ m ∈ l, mailOk m = true) : (l.flatMap mailT).length ≤ l.length * 200 := flat_le fun m hm => mailT_len (h m hm)
theorem boxT_len {b : Box} (h : boxOk b = true) : (boxT b).length ≤ 3000 := by
  obtain ⟨h1, h2, h3, h4, h5, h6, h7, h8⟩ := boxOk_is h
  have q1 := varI_len (z := b.gid) (by omega)
  have q2 := varI_len (z := b.named.time) (by omega)
  have q3 := varI_len (z := b.named.by_) (by omega)
  have q4 := varI_len (z := b.next) (by omega)
  have q5 := varT_len5 (n := b.name.length) (by omega)
  have q6 := varT_len5 (n := b.mails.length) (by omega)
  have q7 := varT_len5 (n := b.gone.length) (by omega)
  have q8 := mails_le h6
  have q9 := gone_len h7
  simp only [boxT, goneT_eq, List.length_append]; omega
theorem storeOk_is {s : Store} (h : storeOk s = true) : (1 ≤ s.by_ ∧ s.by_ ≤ 2) ∧ (0 ≤ s.time ∧ s.time ≤ 100000) ∧ s.boxes.length ≤ 5 ∧ (∀ b ∈ s.boxes, boxOk b = true) ∧ (∀ g ∈ s.gone, 1 ≤ g ∧ g ≤ 9999) ∧ s.gone.length ≤ 20 := by
  simp only [storeOk, storeHead, Bool.and_eq_true, decide_eq_true_eq, inR_t] at h
  obtain ⟨⟨⟨⟨h1, h2⟩, h3⟩, h4⟩, h5⟩ := h
  have g := gidsOk_is h4
  refine ⟨h1, h2, by omega, fun b hb => ?_, g.1, by omega⟩
  obtain ⟨i, hi, rfl⟩ := List.mem_iff_getElem.1 hb
  have := allUp_of h5 hi
  simp only [boxGood, Bool.and_eq_true] at this
  have := this.1
  rw [boxFine_at hi] at this
  simp only [Bool.and_eq_true] at this
  exact this.1.1.1.1
theorem boxes_le {l : List Box} (h : ∀ b ∈ l, boxOk b = true) : (l.flatMap boxT).length ≤ l.length * 3000 := flat_le fun b hb => boxT_len (h b hb)
theorem storeB_len {s : Store} (h : storeOk s = true) : (storeB s).length ≤ 16000 := by
  obtain ⟨h1, h2, h3, h4, h5, h6⟩ := storeOk_is h
  have q1 := varI_len (z := s.by_) (by omega)
  have q2 := varI_len (z := s.time) (by omega)
  have q3 := varT_len5 (n := s.boxes.length) (by omega)
  have q4 := varT_len5 (n := s.gone.length) (by omega)
  have q5 := boxes_le h4
  have q6 := gone_len h5
  simp only [storeB, goneT_eq, List.length_append]; omega
theorem storeText_no {s : Store} (h : storeOk s = false) : storeText s = none := by unfold storeText; rw [h]; rfl
theorem storeText_ok {s : Store} (h : storeOk s = true) : storeText s = sealed (storeB s) := if_pos h
theorem storeText_yes {s : Store} (h : storeOk s = true) : storeText s = some (sealT (storeB s)) := by
  have := storeB_len h
  unfold storeText; rw [if_pos h]; unfold sealed; rw [if_neg (by omega)]
def mailText (m : Mail) : Option Str := if mailOk m = true then some (mailT m) else none
theorem mailText_no {m : Mail} (h : mailOk m = false) : mailText m = none := by unfold mailText; rw [h]; rfl
theorem mailText_yes {m : Mail} (h : mailOk m = true) : mailText m = some (mailT m) := if_pos h
def boxText (b : Box) : Option Str := if boxOk b = true then some (boxT b) else none
theorem boxText_no {b : Box} (h : boxOk b = false) : boxText b = none := by unfold boxText; rw [h]; rfl
theorem boxText_yes {b : Box} (h : boxOk b = true) : boxText b = some (boxT b) := if_pos h
theorem varsZ_flat : ∀ l : List Int, varsZ l = l.flatMap gT
  | [] => rfl
  | z :: l => by rw [List.flatMap_cons, ← varsZ_flat l]; rfl
theorem in9 {z : Int} (h : 0 ≤ z ∧ z ≤ 1000000000) : inR z 0 1000000000 = true := inR_t.2 h
end Go.Proofs.YtjhfabimacljhaaGreat.K

/- Plain laws: texts cut into pieces, syncs begun. -/
namespace Go.Proofs.YtjhfabimacljhaaGreat.K
open Go Go.RowKit
def pieceT (t : Str) (k : Nat) : Str := (t.drop (120 * k)).take 120
def pieceN (t : Str) : Nat := (t.length + 119) / 120
def piecesT (t : Str) (i : Nat) : List Str := (List.range i).map (pieceT t)
theorem pieces_next (t : Str) (i : Nat) : piecesT t (i + 1) = piecesT t i ++ [pieceT t i] := by
  unfold piecesT; rw [List.range_succ, List.map_append]; rfl
theorem pieces_len (t : Str) (i : Nat) : (piecesT t i).length = i := by simp [piecesT]
theorem pieces_get {t : Str} {i n : Nat} (h : i < n) : (piecesT t n)[i]? = some (pieceT t i) := by
  simp [piecesT, h]
theorem pieces_getE {t : Str} {i n : Nat} {h : i < (piecesT t n).length} : (piecesT t n)[i] = pieceT t i := by simp [piecesT]
theorem piece_len (t : Str) (k : Nat) : (pieceT t k).length ≤ 120 := by unfold pieceT; rw [List.length_take]; omega
theorem piece_min (t : Str) (i : Nat) : (if (t.length : Int) < ((120 * i + 120 : Nat) : Int) then (t.length : Int) else ((120 * i + 120 : Nat) : Int)) = ((min (120 * i + 120) t.length : Nat) : Int) := by split <;> omega
theorem piece_cut {t : Str} {i b : Nat} (h : min b t.length = min (120 * i + 120) t.length) : (t.take b).drop (120 * i) = pieceT t i := by
  unfold pieceT
  rw [List.drop_take, List.take_eq_take_iff, List.length_drop]; omega
theorem pieceN_lt {t : Str} {k : Nat} (h : 120 * k < t.length) : k < pieceN t := by unfold pieceN; omega
theorem pieceN_ge {t : Str} {k : Nat} (h : ¬ 120 * k < t.length) (h2 : k ≤ pieceN t) : k = pieceN t := by unfold pieceN at *; omega
def begH (t : Str) : Str := 84 :: varT (pieceN t)
def begT (t : Str) (i : Nat) : List Str := begH t :: (piecesT t i).map (fun p => 80 :: p)
theorem begT_len (t : Str) (i : Nat) : (begT t i).length = i + 1 := by simp [begT, pieces_len]
theorem begT_next (t : Str) (i : Nat) : begT t (i + 1) = begT t i ++ [80 :: pieceT t i] := by simp [begT, pieces_next]
def begL (e : Int) (t : Str) (i : Nat) : Link := ⟨e, (begT t i).take 60, 1, 1⟩
theorem begL_way (e : Int) (t : Str) (i : Nat) : (begL e t i).way.length ≤ 60 := by show ((begT t i).take 60).length ≤ 60; rw [List.length_take]; omega
theorem beg_put0 (e : Int) {t : Str} (h : pieceN t ≤ 1000) : linkPut ⟨e, [], 1, 1⟩ (begH t) = (begL e t 0, true) := by
  have q := varT_len5 (n := pieceN t) (by omega)
  rw [linkPut_f]
  · simp [begL, begT, piecesT]
  · unfold linkFull
    rw [Bool.or_eq_false_iff]
    refine ⟨by simp, ?_⟩
    have : inR ((begH t).length : Int) 1 400 = true := inR_t.2 (by unfold begH; rw [List.length_cons]; omega)
    rw [this]; rfl
theorem beg_put (e : Int) (t : Str) (i : Nat) : linkPut (begL e t i) (80 :: pieceT t i) = (begL e t (i + 1), decide (i + 1 < 60)) := by
  have q := piece_len t i
  have hl : ((begT t i).take 60).length = min 60 (i + 1) := by rw [List.length_take, begT_len]
  by_cases hi : i + 1 < 60
  · rw [linkPut_f, decide_eq_true hi]
    · unfold begL
      rw [List.take_of_length_le (by rw [begT_len]; omega), List.take_of_length_le (by rw [begT_len]; omega), begT_next]
    · unfold linkFull
      rw [Bool.or_eq_false_iff]
      refine ⟨decide_eq_false (by show ¬ (((begT t i).take 60).length : Int) ≥ 60; rw [hl]; omega), ?_⟩
      have : inR ((80 :: pieceT t i : Str).length : Int) 1 400 = true := inR_t.2 (by rw [List.length_cons]; omega)
      rw [this]; rfl
  · rw [linkPut_t, decide_eq_false hi]
    · unfold begL
      rw [begT_next, List.take_append_of_le_length (by rw [begT_len]; omega)]
    · unfold linkFull
      rw [Bool.or_eq_true]
      exact .inl (decide_eq_true (by show (((begT t i).take 60).length : Int) ≥ 60; rw [hl]; omega))
def zSync : Sync := ⟨0, ⟨0, [], 0, 0⟩, 0, [], false, false⟩
def stT (s : Store) : Str := (storeText s).getD []
def begOk (s : Store) : Bool := (storeText s).isSome && decide (pieceN (stT s) < 60)
def begY (s : Store) (e : Int) : Sync := if begOk s = true then { zSync with epoch := e, link := begL e (stT s) (pieceN (stT s)) } else zSync
theorem begY_no {s : Store} (e : Int) (h : begOk s = false) : begY s e = zSync := if_neg (by simp [h])
theorem begY_yes {s : Store} (e : Int) (h : begOk s = true) : begY s e = { zSync with epoch := e, link := begL e (stT s) (pieceN (stT s)) } := if_pos h
theorem sealT_len (s : Str) : (sealT s).length ≤ s.length + 4 := by
  unfold sealT; rw [List.length_append]; have : (fourT (sumOf s)).length = 4 := rfl; omega
theorem stT_len (s : Store) : (stT s).length ≤ 16004 := by
  unfold stT
  cases hk : storeOk s with
  | false => rw [storeText_no hk]; simp
  | true => rw [storeText_yes hk]; have := storeB_len hk; have := sealT_len (storeB s); simp only [Option.getD_some]; omega
theorem begY_way (s : Store) (e : Int) : (begY s e).link.way.length ≤ 60 ∧ (begY s e).pieces.length = 0 := by
  unfold begY; split
  · exact ⟨begL_way _ _ _, rfl⟩
  · exact ⟨Nat.zero_le _, rfl⟩
end Go.Proofs.YtjhfabimacljhaaGreat.K

/- Walks: events. Printed by w2.py. -/
namespace Go.Proofs.YtjhfabimacljhaaGreat.K
open Go Go.RowKit
set_option linter.unusedVariables false
set_option linter.unusedSimpArgs false
set_option maxHeartbeats 4000000
set_option maxRecDepth 20000
theorem w_impl_within (x lo hi : Int) : Weak Tryz.prog 124 [.int .i64 x, .int .i64 lo, .int .i64 hi] (.bool (inR x lo hi)) := by
 refine Weak.enter tab_ok Tryz.func124 rfl (.inr (by simp [V.labelsL, V.labels, zz])) (t := [.int .i64 x, .int .i64 lo, .int .i64 hi, .any, .any, .any, .any, .any, .any, .any, .any, .any, .any, .any, .any]) rfl ?_
 refine OQ ?_
 refine EV ?_
 refine ON ?_
 refine OQ ?_
 iterate 4 (refine EV ?_)
 refine OkOps.split (d := 10) (by simp only [kE, kT, kL, kC] <;> rfl) (by simp only [kP] <;> rfl) (by simp only [kP] <;> rfl) (fun hg1_3 => ?_) (fun hg1_3 => ?_)
 ·
  try simp only [bsimp] at hg1_3
  refine OO ?_
  refine EV ?_
  refine OO ?_
  refine EV ?_
  refine OO ?_
  iterate 3 (refine EV ?_)
  refine ON ?_
  refine Ok.ret ?_
  with_reducible repeat (first | refine thenQ_ret ?_ | refine blockQ_ret ?_)
  refine RT ?_
  first | (simp_all [inR, V.erase, V.trav, packV]; done) | (simp_all [inR, V.erase, V.trav, packV] <;> omega)
 ·
  try simp only [bsimp] at hg1_3
  refine OkOps.offU rfl rfl (.inl (by simp only [kE, kT, kL, kC, Bool.not_true, Bool.not_false])) (by simp only [kP] <;> rfl) ?_
  refine OkOps.offU rfl rfl (.inl (by simp only [kE, kT, kL, kC, Bool.not_true, Bool.not_false])) (by simp only [kP] <;> rfl) ?_
  refine OkOps.offU rfl rfl (.inl (by simp only [kE, kT, kL, kC, Bool.not_true, Bool.not_false])) (by simp only [kP] <;> rfl) ?_
  iterate 2 (refine EV ?_)
  refine ON ?_
  refine Ok.ret ?_
  with_reducible repeat (first | refine thenQ_ret ?_ | refine blockQ_ret ?_)
  refine RT ?_
  first | (simp_all [inR, V.erase, V.trav, packV]; done) | (simp_all [inR, V.erase, V.trav, packV] <;> omega)
theorem w_spec_l01In (x lo hi : Int) : Weak Tryz.prog 118 [.int .i64 x, .int .i64 lo, .int .i64 hi] (.bool (inR x lo hi)) := by
 refine Weak.enter tab_ok Tryz.func118 rfl (.inr (by simp [V.labelsL, V.labels, zz])) (t := [.int .i64 x, .int .i64 lo, .int .i64 hi, .any, .any, .any, .any, .any, .any, .any, .any, .any, .any, .any, .any]) rfl ?_
 refine OQ ?_
 refine EV ?_
 refine ON ?_
 refine OQ ?_
 iterate 4 (refine EV ?_)
 refine OkOps.split (d := 10) (by simp only [kE, kT, kL, kC] <;> rfl) (by simp only [kP] <;> rfl) (by simp only [kP] <;> rfl) (fun hg1_3 => ?_) (fun hg1_3 => ?_)
 ·
  try simp only [bsimp] at hg1_3
  refine OO ?_
  refine EV ?_
  refine OO ?_
  refine EV ?_
  refine OO ?_
  iterate 3 (refine EV ?_)
  refine ON ?_
  refine Ok.ret ?_
  with_reducible repeat (first | refine thenQ_ret ?_ | refine blockQ_ret ?_)
  refine RT ?_
  first | (simp_all [inR, V.erase, V.trav, packV]; done) | (simp_all [inR, V.erase, V.trav, packV] <;> omega)
 ·
  try simp only [bsimp] at hg1_3
  refine OkOps.offU rfl rfl (.inl (by simp only [kE, kT, kL, kC, Bool.not_true, Bool.not_false])) (by simp only [kP] <;> rfl) ?_
  refine OkOps.offU rfl rfl (.inl (by simp only [kE, kT, kL, kC, Bool.not_true, Bool.not_false])) (by simp only [kP] <;> rfl) ?_
  refine OkOps.offU rfl rfl (.inl (by simp only [kE, kT, kL, kC, Bool.not_true, Bool.not_false])) (by simp only [kP] <;> rfl) ?_
  iterate 2 (refine EV ?_)
  refine ON ?_
  refine Ok.ret ?_
  with_reducible repeat (first | refine thenQ_ret ?_ | refine blockQ_ret ?_)
  refine RT ?_
  first | (simp_all [inR, V.erase, V.trav, packV]; done) | (simp_all [inR, V.erase, V.trav, packV] <;> omega)
end Go.Proofs.YtjhfabimacljhaaGreat.K
