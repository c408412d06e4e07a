/- The program's data as plain data, and how it lies in cells. Printed by gendata.py. -/
import Derived.Test.YtjhfabimacljhaaY4
namespace Go.Proofs.Ytjhfabimacljhaa.K
open Go Go.RowKit
set_option linter.unusedVariables false
set_option linter.unusedSimpArgs false
structure Stamp where
  time : Int
  by_ : Int
  deriving DecidableEq
abbrev cStamp (x : Stamp) : List V := [.int .i64 x.time, .int .i64 x.by_]
structure Reg where
  val : Int
  stamp : Stamp
  deriving DecidableEq
abbrev cReg (x : Reg) : List V := [.int .i64 x.val, .int .i64 x.stamp.time, .int .i64 x.stamp.by_]
structure Mail where
  gid : Int
  uid : Int
  flags : List Reg
  text : Str
  deriving DecidableEq
abbrev cMail (x : Mail) : List V := [.int .i64 x.gid, .int .i64 x.uid, .sl 0 3 0 (x.flags.map cReg), .str x.text]
structure Box where
  gid : Int
  name : Str
  named : Stamp
  next : Int
  mails : List Mail
  gone : List Int
  deriving DecidableEq
abbrev cBox (x : Box) : List V := [.int .i64 x.gid, .str x.name, .int .i64 x.named.time, .int .i64 x.named.by_, .int .i64 x.next, .sl 0 4 0 (x.mails.map cMail), .sl 0 1 0 (x.gone.map cZ)]
structure Store where
  by_ : Int
  time : Int
  boxes : List Box
  gone : List Int
  deriving DecidableEq
abbrev cStore (x : Store) : List V := [.int .i64 x.by_, .int .i64 x.time, .sl 0 7 0 (x.boxes.map cBox), .sl 0 1 0 (x.gone.map cZ)]
structure Kept where
  store : Store
  journal : Str
  saved : Int
  deriving DecidableEq
abbrev cKept (x : Kept) : List V := [.int .i64 x.store.by_, .int .i64 x.store.time, .sl 0 7 0 (x.store.boxes.map cBox), .sl 0 1 0 (x.store.gone.map cZ), .str x.journal, .int .i64 x.saved]
structure Session where
  inn : Str
  out : Str
  on : Bool
  over : Bool
  box : Int
  view : List Int
  deriving DecidableEq
abbrev cSession (x : Session) : List V := [.str x.inn, .str x.out, .bool x.on, .bool x.over, .int .i64 x.box, .sl 0 1 0 (x.view.map cZ)]
structure Server where
  kept : Kept
  session : Session
  up : Bool
  deriving DecidableEq
abbrev cServer (x : Server) : List V := [.int .i64 x.kept.store.by_, .int .i64 x.kept.store.time, .sl 0 7 0 (x.kept.store.boxes.map cBox), .sl 0 1 0 (x.kept.store.gone.map cZ), .str x.kept.journal, .int .i64 x.kept.saved, .str x.session.inn, .str x.session.out, .bool x.session.on, .bool x.session.over, .int .i64 x.session.box, .sl 0 1 0 (x.session.view.map cZ), .bool x.up]
structure Letter where
  to_ : Int
  text : Str
  deriving DecidableEq
abbrev cLetter (x : Letter) : List V := [.int .i64 x.to_, .str x.text]
structure Pair where
  servers : List Server
  syncs : List Sync
  net : List Letter
  epoch : Int
  deriving DecidableEq
abbrev cPair (x : Pair) : List V := [.sl 0 13 0 (x.servers.map cServer), .sl 0 9 0 (x.syncs.map cSync), .sl 0 2 0 (x.net.map cLetter), .int .i64 x.epoch]
structure Life where
  pair : Pair
  codes : List Int
  deriving DecidableEq
abbrev cLife (x : Life) : List V := [.sl 0 13 0 (x.pair.servers.map cServer), .sl 0 9 0 (x.pair.syncs.map cSync), .sl 0 2 0 (x.pair.net.map cLetter), .int .i64 x.pair.epoch, .sl 0 1 0 (x.codes.map cZ)]
structure Call where
  kind : Int
  box : Int
  gid : Int
  flags : Int
  text : Str
  deriving DecidableEq
abbrev cCall (x : Call) : List V := [.int .i64 x.kind, .int .i64 x.box, .int .i64 x.gid, .int .i64 x.flags, .str x.text]
structure Token where
  kind : Int
  text : Str
  deriving DecidableEq
abbrev cToken (x : Token) : List V := [.int .i64 x.kind, .str x.text]
structure Range where
  frm : Int
  to_ : Int
  deriving DecidableEq
abbrev cRange (x : Range) : List V := [.int .i64 x.frm, .int .i64 x.to_]
theorem labels0_map {α : Type} {f : α → List V} (hf : ∀ x, ∀ L ∈ V.labelsL (f x), L = 0) (xs : List α) : ∀ L ∈ V.labelsLL (xs.map f), L = 0 := by
  induction xs with
  | nil => intro L h; cases h
  | cons x xs ih =>
    intro L h
    simp only [List.map_cons, V.labelsLL, List.mem_append] at h
    rcases h with h | h
    · exact hf x L h
    · exact ih L h
theorem trav0_map {α : Type} {f : α → List V} {f0 : Nat → V} {fs : Nat → Nat → Nat → List (List V) → V} {fp : Nat → Nat → Nat → List V → V} (hf : ∀ x, V.travL f0 fs fp (f x) = f x) (xs : List α) : V.travLL f0 fs fp (xs.map f) = xs.map f := travLL_map hf xs
theorem zf : (∀ (f0 : Nat → V) (fs : Nat → Nat → Nat → List (List V) → V) (fp : Nat → Nat → Nat → List V → V) (xs : List Stamp), V.travLL f0 fs fp (xs.map cStamp) = xs.map cStamp) ∧ (∀ (xs : List Stamp), V.labelsLL (xs.map cStamp) = []) ∧ (∀ (xs : List Stamp), V.datLL (xs.map cStamp) = true) ∧ (∀ (n : Nat) (xs : List Stamp), V.tagLL n (xs.map cStamp) = xs.map cStamp) ∧ (∀ (xs : List Stamp), V.cntLL (xs.map cStamp) = 0) ∧ (∀ (f0 : Nat → V) (fs : Nat → Nat → Nat → List (List V) → V) (fp : Nat → Nat → Nat → List V → V) (xs : List Reg), V.travLL f0 fs fp (xs.map cReg) = xs.map cReg) ∧ (∀ (xs : List Reg), V.labelsLL (xs.map cReg) = []) ∧ (∀ (xs : List Reg), V.datLL (xs.map cReg) = true) ∧ (∀ (n : Nat) (xs : List Reg), V.tagLL n (xs.map cReg) = xs.map cReg) ∧ (∀ (xs : List Reg), V.cntLL (xs.map cReg) = 0) ∧ (∀ (f0 : Nat → V) (fs : Nat → Nat → Nat → List (List V) → V) (fp : Nat → Nat → Nat → List V → V) (xs : List Letter), V.travLL f0 fs fp (xs.map cLetter) = xs.map cLetter) ∧ (∀ (xs : List Letter), V.labelsLL (xs.map cLetter) = []) ∧ (∀ (xs : List Letter), V.datLL (xs.map cLetter) = true) ∧ (∀ (n : Nat) (xs : List Letter), V.tagLL n (xs.map cLetter) = xs.map cLetter) ∧ (∀ (xs : List Letter), V.cntLL (xs.map cLetter) = 0) ∧ (∀ (f0 : Nat → V) (fs : Nat → Nat → Nat → List (List V) → V) (fp : Nat → Nat → Nat → List V → V) (xs : List Call), V.travLL f0 fs fp (xs.map cCall) = xs.map cCall) ∧ (∀ (xs : List Call), V.labelsLL (xs.map cCall) = []) ∧ (∀ (xs : List Call), V.datLL (xs.map cCall) = true) ∧ (∀ (n : Nat) (xs : List Call), V.tagLL n (xs.map cCall) = xs.map cCall) ∧ (∀ (xs : List Call), V.cntLL (xs.map cCall) = 0) ∧ (∀ (f0 : Nat → V) (fs : Nat → Nat → Nat → List (List V) → V) (fp : Nat → Nat → Nat → List V → V) (xs : List Token), V.travLL f0 fs fp (xs.map cToken) = xs.map cToken) ∧ (∀ (xs : List Token), V.labelsLL (xs.map cToken) = []) ∧ (∀ (xs : List Token), V.datLL (xs.map cToken) = true) ∧ (∀ (n : Nat) (xs : List Token), V.tagLL n (xs.map cToken) = xs.map cToken) ∧ (∀ (xs : List Token), V.cntLL (xs.map cToken) = 0) ∧ (∀ (f0 : Nat → V) (fs : Nat → Nat → Nat → List (List V) → V) (fp : Nat → Nat → Nat → List V → V) (xs : List Range), V.travLL f0 fs fp (xs.map cRange) = xs.map cRange) ∧ (∀ (xs : List Range), V.labelsLL (xs.map cRange) = []) ∧ (∀ (xs : List Range), V.datLL (xs.map cRange) = true) ∧ (∀ (n : Nat) (xs : List Range), V.tagLL n (xs.map cRange) = xs.map cRange) ∧ (∀ (xs : List Range), V.cntLL (xs.map cRange) = 0) :=
  ⟨fun f0 fs fp xs => travLL_map (fun _ => rfl) xs, fun xs => labels_map (fun _ => rfl) xs, fun xs => dat_map (fun _ => rfl) xs, fun n xs => tag_map (fun _ _ => rfl) xs n, fun xs => cnt_map (fun _ => rfl) xs, fun f0 fs fp xs => travLL_map (fun _ => rfl) xs, fun xs => labels_map (fun _ => rfl) xs, fun xs => dat_map (fun _ => rfl) xs, fun n xs => tag_map (fun _ _ => rfl) xs n, fun xs => cnt_map (fun _ => rfl) xs, fun f0 fs fp xs => travLL_map (fun _ => rfl) xs, fun xs => labels_map (fun _ => rfl) xs, fun xs => dat_map (fun _ => rfl) xs, fun n xs => tag_map (fun _ _ => rfl) xs n, fun xs => cnt_map (fun _ => rfl) xs, fun f0 fs fp xs => travLL_map (fun _ => rfl) xs, fun xs => labels_map (fun _ => rfl) xs, fun xs => dat_map (fun _ => rfl) xs, fun n xs => tag_map (fun _ _ => rfl) xs n, fun xs => cnt_map (fun _ => rfl) xs, fun f0 fs fp xs => travLL_map (fun _ => rfl) xs, fun xs => labels_map (fun _ => rfl) xs, fun xs => dat_map (fun _ => rfl) xs, fun n xs => tag_map (fun _ _ => rfl) xs n, fun xs => cnt_map (fun _ => rfl) xs, fun f0 fs fp xs => travLL_map (fun _ => rfl) xs, fun xs => labels_map (fun _ => rfl) xs, fun xs => dat_map (fun _ => rfl) xs, fun n xs => tag_map (fun _ _ => rfl) xs n, fun xs => cnt_map (fun _ => rfl) xs⟩
theorem t0_Sync {f0 : Nat → V} {fs : Nat → Nat → Nat → List (List V) → V} {fp : Nat → Nat → Nat → List V → V} (h : ∀ sz es, fs 0 sz 0 es = .sl 0 sz 0 es) (x : Sync) : V.travL f0 fs fp (cSync x) = cSync x := by
  simp only [cSync, V.travL, V.trav, zz, zf, h]
theorem l0_Sync (x : Sync) : ∀ L ∈ V.labelsL (cSync x), L = 0 := by
  intro L hL
  simp only [cSync, V.labelsL, V.labels, zz, zf, List.mem_append, List.mem_cons, List.not_mem_nil, or_false, false_or, List.append_nil, List.nil_append] at hL
  first | exact hL | omega | (repeat (first | exact hL | exact absurd hL id | (rcases hL with hL | hL)))
theorem d0_Sync (x : Sync) : V.datL (cSync x) = true := by
  simp [cSync, V.datL, V.dat, zz, zf]
theorem t0_Mail {f0 : Nat → V} {fs : Nat → Nat → Nat → List (List V) → V} {fp : Nat → Nat → Nat → List V → V} (h : ∀ sz es, fs 0 sz 0 es = .sl 0 sz 0 es) (x : Mail) : V.travL f0 fs fp (cMail x) = cMail x := by
  simp only [cMail, V.travL, V.trav, zz, zf, h]
theorem l0_Mail (x : Mail) : ∀ L ∈ V.labelsL (cMail x), L = 0 := by
  intro L hL
  simp only [cMail, V.labelsL, V.labels, zz, zf, List.mem_append, List.mem_cons, List.not_mem_nil, or_false, false_or, List.append_nil, List.nil_append] at hL
  first | exact hL | omega | (repeat (first | exact hL | exact absurd hL id | (rcases hL with hL | hL)))
theorem d0_Mail (x : Mail) : V.datL (cMail x) = true := by
  simp [cMail, V.datL, V.dat, zz, zf]
theorem t0_Box {f0 : Nat → V} {fs : Nat → Nat → Nat → List (List V) → V} {fp : Nat → Nat → Nat → List V → V} (h : ∀ sz es, fs 0 sz 0 es = .sl 0 sz 0 es) (x : Box) : V.travL f0 fs fp (cBox x) = cBox x := by
  simp only [cBox, V.travL, V.trav, zz, zf, h, trav0_map (t0_Mail h)]
theorem l0_Box (x : Box) : ∀ L ∈ V.labelsL (cBox x), L = 0 := by
  intro L hL
  simp only [cBox, V.labelsL, V.labels, zz, zf, List.mem_append, List.mem_cons, List.not_mem_nil, or_false, false_or, List.append_nil, List.nil_append] at hL
  first | exact hL | omega | (repeat (first | exact hL | exact absurd hL id | (rcases hL with hL | hL) | exact labels0_map l0_Mail _ L hL))
theorem d0_Box (x : Box) : V.datL (cBox x) = true := by
  simp [cBox, V.datL, V.dat, zz, zf, dat_map d0_Mail]
theorem t0_Server {f0 : Nat → V} {fs : Nat → Nat → Nat → List (List V) → V} {fp : Nat → Nat → Nat → List V → V} (h : ∀ sz es, fs 0 sz 0 es = .sl 0 sz 0 es) (x : Server) : V.travL f0 fs fp (cServer x) = cServer x := by
  simp only [cServer, V.travL, V.trav, zz, zf, h, trav0_map (t0_Box h)]
theorem l0_Server (x : Server) : ∀ L ∈ V.labelsL (cServer x), L = 0 := by
  intro L hL
  simp only [cServer, V.labelsL, V.labels, zz, zf, List.mem_append, List.mem_cons, List.not_mem_nil, or_false, false_or, List.append_nil, List.nil_append] at hL
  first | exact hL | omega | (repeat (first | exact hL | exact absurd hL id | (rcases hL with hL | hL) | exact labels0_map l0_Box _ L hL))
theorem d0_Server (x : Server) : V.datL (cServer x) = true := by
  simp [cServer, V.datL, V.dat, zz, zf, dat_map d0_Box]
theorem zy : (∀ (xs : List Sync), V.travLL (fun sz => V.sl 0 sz 0 []) (fun _ sz _ es => V.sl 0 sz 0 es) (fun _ _ o e => V.ptr 0 0 o e) (xs.map cSync) = xs.map cSync) ∧ (∀ (L i : Nat) (e : List V) (xs : List Sync), V.travLL V.nil (updS (L + 1) i e) (updP (L + 1) i e) (xs.map cSync) = xs.map cSync) ∧ (∀ (L : Nat) (xs : List Sync), V.travLL V.nil (killS (L + 1)) (killP (L + 1)) (xs.map cSync) = xs.map cSync) ∧ (∀ (xs : List Sync), (∀ L ∈ V.labelsLL (xs.map cSync), L = 0) = True) ∧ (∀ (xs : List Sync), V.datLL (xs.map cSync) = true) ∧ (∀ (L : Nat) (xs : List Sync), (L + 1 ∈ V.labelsLL (xs.map cSync)) = False) ∧ (∀ (k : Nat) (xs : List Sync), V.travLL V.nil (fun L sz off es => V.sl (if k ≤ L then 0 else L) sz off es) (fun L i o e => V.ptr (if k ≤ L then 0 else L) i o e) (xs.map cSync) = xs.map cSync) ∧ (∀ (xs : List Mail), V.travLL (fun sz => V.sl 0 sz 0 []) (fun _ sz _ es => V.sl 0 sz 0 es) (fun _ _ o e => V.ptr 0 0 o e) (xs.map cMail) = xs.map cMail) ∧ (∀ (L i : Nat) (e : List V) (xs : List Mail), V.travLL V.nil (updS (L + 1) i e) (updP (L + 1) i e) (xs.map cMail) = xs.map cMail) ∧ (∀ (L : Nat) (xs : List Mail), V.travLL V.nil (killS (L + 1)) (killP (L + 1)) (xs.map cMail) = xs.map cMail) ∧ (∀ (xs : List Mail), (∀ L ∈ V.labelsLL (xs.map cMail), L = 0) = True) ∧ (∀ (xs : List Mail), V.datLL (xs.map cMail) = true) ∧ (∀ (L : Nat) (xs : List Mail), (L + 1 ∈ V.labelsLL (xs.map cMail)) = False) ∧ (∀ (k : Nat) (xs : List Mail), V.travLL V.nil (fun L sz off es => V.sl (if k ≤ L then 0 else L) sz off es) (fun L i o e => V.ptr (if k ≤ L then 0 else L) i o e) (xs.map cMail) = xs.map cMail) ∧ (∀ (xs : List Box), V.travLL (fun sz => V.sl 0 sz 0 []) (fun _ sz _ es => V.sl 0 sz 0 es) (fun _ _ o e => V.ptr 0 0 o e) (xs.map cBox) = xs.map cBox) ∧ (∀ (L i : Nat) (e : List V) (xs : List Box), V.travLL V.nil (updS (L + 1) i e) (updP (L + 1) i e) (xs.map cBox) = xs.map cBox) ∧ (∀ (L : Nat) (xs : List Box), V.travLL V.nil (killS (L + 1)) (killP (L + 1)) (xs.map cBox) = xs.map cBox) ∧ (∀ (xs : List Box), (∀ L ∈ V.labelsLL (xs.map cBox), L = 0) = True) ∧ (∀ (xs : List Box), V.datLL (xs.map cBox) = true) ∧ (∀ (L : Nat) (xs : List Box), (L + 1 ∈ V.labelsLL (xs.map cBox)) = False) ∧ (∀ (k : Nat) (xs : List Box), V.travLL V.nil (fun L sz off es => V.sl (if k ≤ L then 0 else L) sz off es) (fun L i o e => V.ptr (if k ≤ L then 0 else L) i o e) (xs.map cBox) = xs.map cBox) ∧ (∀ (xs : List Server), V.travLL (fun sz => V.sl 0 sz 0 []) (fun _ sz _ es => V.sl 0 sz 0 es) (fun _ _ o e => V.ptr 0 0 o e) (xs.map cServer) = xs.map cServer) ∧ (∀ (L i : Nat) (e : List V) (xs : List Server), V.travLL V.nil (updS (L + 1) i e) (updP (L + 1) i e) (xs.map cServer) = xs.map cServer) ∧ (∀ (L : Nat) (xs : List Server), V.travLL V.nil (killS (L + 1)) (killP (L + 1)) (xs.map cServer) = xs.map cServer) ∧ (∀ (xs : List Server), (∀ L ∈ V.labelsLL (xs.map cServer), L = 0) = True) ∧ (∀ (xs : List Server), V.datLL (xs.map cServer) = true) ∧ (∀ (L : Nat) (xs : List Server), (L + 1 ∈ V.labelsLL (xs.map cServer)) = False) ∧ (∀ (k : Nat) (xs : List Server), V.travLL V.nil (fun L sz off es => V.sl (if k ≤ L then 0 else L) sz off es) (fun L i o e => V.ptr (if k ≤ L then 0 else L) i o e) (xs.map cServer) = xs.map cServer) :=
  ⟨fun xs => trav0_map (t0_Sync (fs := fun _ sz _ es => V.sl 0 sz 0 es) (fun _ _ => rfl)) xs, fun L i e xs => trav0_map (t0_Sync (fun sz es => if_neg (fun h => by have := h.1; omega))) xs, fun L xs => trav0_map (t0_Sync (fun sz es => if_neg (fun h => by omega))) xs, fun xs => eq_true (labels0_map l0_Sync xs), fun xs => dat_map d0_Sync xs, fun L xs => eq_false (fun h => by have := labels0_map l0_Sync xs _ h; omega), fun k xs => trav0_map (t0_Sync (fs := fun L sz off es => V.sl (if k ≤ L then 0 else L) sz off es) (fun sz es => by simp)) xs, fun xs => trav0_map (t0_Mail (fs := fun _ sz _ es => V.sl 0 sz 0 es) (fun _ _ => rfl)) xs, fun L i e xs => trav0_map (t0_Mail (fun sz es => if_neg (fun h => by have := h.1; omega))) xs, fun L xs => trav0_map (t0_Mail (fun sz es => if_neg (fun h => by omega))) xs, fun xs => eq_true (labels0_map l0_Mail xs), fun xs => dat_map d0_Mail xs, fun L xs => eq_false (fun h => by have := labels0_map l0_Mail xs _ h; omega), fun k xs => trav0_map (t0_Mail (fs := fun L sz off es => V.sl (if k ≤ L then 0 else L) sz off es) (fun sz es => by simp)) xs, fun xs => trav0_map (t0_Box (fs := fun _ sz _ es => V.sl 0 sz 0 es) (fun _ _ => rfl)) xs, fun L i e xs => trav0_map (t0_Box (fun sz es => if_neg (fun h => by have := h.1; omega))) xs, fun L xs => trav0_map (t0_Box (fun sz es => if_neg (fun h => by omega))) xs, fun xs => eq_true (labels0_map l0_Box xs), fun xs => dat_map d0_Box xs, fun L xs => eq_false (fun h => by have := labels0_map l0_Box xs _ h; omega), fun k xs => trav0_map (t0_Box (fs := fun L sz off es => V.sl (if k ≤ L then 0 else L) sz off es) (fun sz es => by simp)) xs, fun xs => trav0_map (t0_Server (fs := fun _ sz _ es => V.sl 0 sz 0 es) (fun _ _ => rfl)) xs, fun L i e xs => trav0_map (t0_Server (fun sz es => if_neg (fun h => by have := h.1; omega))) xs, fun L xs => trav0_map (t0_Server (fun sz es => if_neg (fun h => by omega))) xs, fun xs => eq_true (labels0_map l0_Server xs), fun xs => dat_map d0_Server xs, fun L xs => eq_false (fun h => by have := labels0_map l0_Server xs _ h; omega), fun k xs => trav0_map (t0_Server (fs := fun L sz off es => V.sl (if k ≤ L then 0 else L) sz off es) (fun sz es => by simp)) xs⟩
end Go.Proofs.Ytjhfabimacljhaa.K
