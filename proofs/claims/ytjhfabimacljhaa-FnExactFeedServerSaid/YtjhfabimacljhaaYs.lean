/- Arguments of the program's types. Printed by shapes.py. -/
import Derived.Test.YtjhfabimacljhaaKz
import Derived.Test.YtjhfabimacljhaaYd
namespace Go.Proofs.Ytjhfabimacljhaa.K
open Go Go.RowKit
set_option linter.unusedVariables false
set_option linter.unusedSimpArgs false
set_option maxRecDepth 20000
abbrev BB : Nat := 140737488351232
def StrsB (a : List Str) : Prop := a.length ≤ BB ∧ ∀ s ∈ a, s.length ≤ BB
theorem map_of {α : Type} {f : α → List V} {p : α → Prop} : ∀ {es : List (List V)}, (∀ c ∈ es, ∃ a, c = f a ∧ p a) → ∃ l : List α, es = l.map f ∧ ∀ a ∈ l, p a
  | [], _ => ⟨[], rfl, by simp⟩
  | c :: es, h => by
    obtain ⟨a, rfl, ha⟩ := h c (List.mem_cons_self ..)
    obtain ⟨l, rfl, hl⟩ := map_of (es := es) fun c hc => h c (List.mem_cons_of_mem _ hc)
    exact ⟨a :: l, rfl, by simpa using ⟨ha, hl⟩⟩
theorem shp_int {m : Nat} {xs : List V} (h : Shp tab BB (m + 1) 3 xs) : ∃ n, xs = [.int .i64 n] := by
  simp only [Shp, ktab] at h
  obtain ⟨n, h, _⟩ := h
  exact ⟨n, h⟩
theorem shp_bool {m : Nat} {xs : List V} (h : Shp tab BB (m + 1) 4 xs) : ∃ b, xs = [.bool b] := by
  simp only [Shp, ktab] at h
  exact h
theorem shp_str {m : Nat} {xs : List V} (h : Shp tab BB (m + 1) 9 xs) : ∃ s : Str, xs = [.str s] ∧ s.length ≤ BB := by
  simp only [Shp, ktab] at h
  exact h
theorem shp_sint {m : Nat} {xs : List V} (h : Shp tab BB (m + 2) 32 xs) : ∃ a : List Int, xs = [.sl 0 1 0 (a.map cZ)] ∧ a.length ≤ BB := by
  rw [Shp] at h
  simp only [ktab, Option.map_some, Option.getD_some] at h
  obtain ⟨es, rfl, hl, hc⟩ := h
  obtain ⟨a, rfl, ha⟩ := map_of (f := cZ) (p := fun x => True) (es := es) fun c h => by
    obtain ⟨n, h⟩ := shp_int (m := m + 0) (hc c h); exact ⟨n, h, trivial⟩
  exact ⟨a, rfl, by rw [List.length_map] at hl; omega⟩
def okStamp (x : Stamp) : Prop := True
theorem stamp_of {m : Nat} {xs : List V} (h : Shp tab BB (m + 2) 158 xs) : ∃ x : Stamp, xs = cStamp x ∧ okStamp x := by
  rw [Shp] at h
  simp only [ktab, ShpF] at h
  obtain ⟨a1, _, rfl, a2, b1, _, rfl, b2, rfl⟩ := h
  obtain ⟨a1, rfl⟩ := shp_int (m := m + 0) a2
  obtain ⟨b1, rfl⟩ := shp_int (m := m + 0) b2
  exact ⟨⟨a1, b1⟩, rfl, trivial⟩
def okReg (x : Reg) : Prop := (okStamp x.stamp)
theorem reg_of {m : Nat} {xs : List V} (h : Shp tab BB (m + 3) 186 xs) : ∃ x : Reg, xs = cReg x ∧ okReg x := by
  rw [Shp] at h
  simp only [ktab, ShpF] at h
  obtain ⟨a1, _, rfl, a2, b1, _, rfl, b2, rfl⟩ := h
  obtain ⟨a1, rfl⟩ := shp_int (m := m + 1) a2
  obtain ⟨b1, rfl, b3⟩ := stamp_of (m := m + 0) b2
  exact ⟨⟨a1, b1⟩, rfl, b3⟩
theorem shp_sreg {m : Nat} {xs : List V} (h : Shp tab BB (m + 4) 177 xs) : ∃ a : List Reg, xs = [.sl 0 3 0 (a.map cReg)] ∧ a.length ≤ BB ∧ ∀ z ∈ a, okReg z := by
  rw [Shp] at h
  simp only [ktab, Option.map_some, Option.getD_some] at h
  obtain ⟨es, rfl, hl, hc⟩ := h
  obtain ⟨a, rfl, ha⟩ := map_of (f := cReg) (p := fun x => okReg x) (es := es) fun c h => by
    exact reg_of (m := m) (hc c h)
  exact ⟨a, rfl, by rw [List.length_map] at hl; omega, ha⟩
def okMail (x : Mail) : Prop := (x.flags.length ≤ BB ∧ ∀ z ∈ x.flags, okReg z) ∧ (x.text.length ≤ BB)
theorem mail_of {m : Nat} {xs : List V} (h : Shp tab BB (m + 5) 179 xs) : ∃ x : Mail, xs = cMail x ∧ okMail x := by
  rw [Shp] at h
  simp only [ktab, ShpF] at h
  obtain ⟨a1, _, rfl, a2, b1, _, rfl, b2, c1, _, rfl, c2, d1, _, rfl, d2, rfl⟩ := h
  obtain ⟨a1, rfl⟩ := shp_int (m := m + 3) a2
  obtain ⟨b1, rfl⟩ := shp_int (m := m + 3) b2
  obtain ⟨c1, rfl, c3⟩ := shp_sreg (m := m + 0) c2
  obtain ⟨d1, rfl, d3⟩ := shp_str (m := m + 3) d2
  exact ⟨⟨a1, b1, c1, d1⟩, rfl, ⟨c3, d3⟩⟩
theorem shp_smail {m : Nat} {xs : List V} (h : Shp tab BB (m + 6) 159 xs) : ∃ a : List Mail, xs = [.sl 0 4 0 (a.map cMail)] ∧ a.length ≤ BB ∧ ∀ z ∈ a, okMail z := by
  rw [Shp] at h
  simp only [ktab, Option.map_some, Option.getD_some] at h
  obtain ⟨es, rfl, hl, hc⟩ := h
  obtain ⟨a, rfl, ha⟩ := map_of (f := cMail) (p := fun x => okMail x) (es := es) fun c h => by
    exact mail_of (m := m) (hc c h)
  exact ⟨a, rfl, by rw [List.length_map] at hl; omega, ha⟩
def okBox (x : Box) : Prop := (x.name.length ≤ BB) ∧ (okStamp x.named) ∧ (x.mails.length ≤ BB ∧ ∀ z ∈ x.mails, okMail z) ∧ (x.gone.length ≤ BB)
theorem box_of {m : Nat} {xs : List V} (h : Shp tab BB (m + 7) 161 xs) : ∃ x : Box, xs = cBox x ∧ okBox x := by
  rw [Shp] at h
  simp only [ktab, ShpF] at h
  obtain ⟨a1, _, rfl, a2, b1, _, rfl, b2, c1, _, rfl, c2, d1, _, rfl, d2, e1, _, rfl, e2, f1, _, rfl, f2, rfl⟩ := h
  obtain ⟨a1, rfl⟩ := shp_int (m := m + 5) a2
  obtain ⟨b1, rfl, b3⟩ := shp_str (m := m + 5) b2
  obtain ⟨c1, rfl, c3⟩ := stamp_of (m := m + 4) c2
  obtain ⟨d1, rfl⟩ := shp_int (m := m + 5) d2
  obtain ⟨e1, rfl, e3⟩ := shp_smail (m := m + 0) e2
  obtain ⟨f1, rfl, f3⟩ := shp_sint (m := m + 4) f2
  exact ⟨⟨a1, b1, c1, d1, e1, f1⟩, rfl, ⟨b3, c3, e3, f3⟩⟩
theorem shp_sbox {m : Nat} {xs : List V} (h : Shp tab BB (m + 8) 31 xs) : ∃ a : List Box, xs = [.sl 0 7 0 (a.map cBox)] ∧ a.length ≤ BB ∧ ∀ z ∈ a, okBox z := by
  rw [Shp] at h
  simp only [ktab, Option.map_some, Option.getD_some] at h
  obtain ⟨es, rfl, hl, hc⟩ := h
  obtain ⟨a, rfl, ha⟩ := map_of (f := cBox) (p := fun x => okBox x) (es := es) fun c h => by
    exact box_of (m := m) (hc c h)
  exact ⟨a, rfl, by rw [List.length_map] at hl; omega, ha⟩
def okStore (x : Store) : Prop := (x.boxes.length ≤ BB ∧ ∀ z ∈ x.boxes, okBox z) ∧ (x.gone.length ≤ BB)
theorem store_of {m : Nat} {xs : List V} (h : Shp tab BB (m + 9) 34 xs) : ∃ x : Store, xs = cStore x ∧ okStore x := by
  rw [Shp] at h
  simp only [ktab, ShpF] at h
  obtain ⟨a1, _, rfl, a2, b1, _, rfl, b2, c1, _, rfl, c2, d1, _, rfl, d2, rfl⟩ := h
  obtain ⟨a1, rfl⟩ := shp_int (m := m + 7) a2
  obtain ⟨b1, rfl⟩ := shp_int (m := m + 7) b2
  obtain ⟨c1, rfl, c3⟩ := shp_sbox (m := m + 0) c2
  obtain ⟨d1, rfl, d3⟩ := shp_sint (m := m + 6) d2
  exact ⟨⟨a1, b1, c1, d1⟩, rfl, ⟨c3, d3⟩⟩
def okKept (x : Kept) : Prop := (okStore x.store) ∧ (x.journal.length ≤ BB)
theorem kept_of {m : Nat} {xs : List V} (h : Shp tab BB (m + 10) 36 xs) : ∃ x : Kept, xs = cKept x ∧ okKept x := by
  rw [Shp] at h
  simp only [ktab, ShpF] at h
  obtain ⟨a1, _, rfl, a2, b1, _, rfl, b2, c1, _, rfl, c2, rfl⟩ := h
  obtain ⟨a1, rfl, a3⟩ := store_of (m := m + 0) a2
  obtain ⟨b1, rfl, b3⟩ := shp_str (m := m + 8) b2
  obtain ⟨c1, rfl⟩ := shp_int (m := m + 8) c2
  exact ⟨⟨a1, b1, c1⟩, rfl, ⟨a3, b3⟩⟩
def okSession (x : Session) : Prop := (x.inn.length ≤ BB) ∧ (x.out.length ≤ BB) ∧ (x.view.length ≤ BB)
theorem session_of {m : Nat} {xs : List V} (h : Shp tab BB (m + 3) 38 xs) : ∃ x : Session, xs = cSession x ∧ okSession x := by
  rw [Shp] at h
  simp only [ktab, ShpF] at h
  obtain ⟨a1, _, rfl, a2, b1, _, rfl, b2, c1, _, rfl, c2, d1, _, rfl, d2, e1, _, rfl, e2, f1, _, rfl, f2, rfl⟩ := h
  obtain ⟨a1, rfl, a3⟩ := shp_str (m := m + 1) a2
  obtain ⟨b1, rfl, b3⟩ := shp_str (m := m + 1) b2
  obtain ⟨c1, rfl⟩ := shp_bool (m := m + 1) c2
  obtain ⟨d1, rfl⟩ := shp_bool (m := m + 1) d2
  obtain ⟨e1, rfl⟩ := shp_int (m := m + 1) e2
  obtain ⟨f1, rfl, f3⟩ := shp_sint (m := m + 0) f2
  exact ⟨⟨a1, b1, c1, d1, e1, f1⟩, rfl, ⟨a3, b3, f3⟩⟩
def okServer (x : Server) : Prop := (okKept x.kept) ∧ (okSession x.session)
theorem server_of {m : Nat} {xs : List V} (h : Shp tab BB (m + 11) 40 xs) : ∃ x : Server, xs = cServer x ∧ okServer x := by
  rw [Shp] at h
  simp only [ktab, ShpF] at h
  obtain ⟨a1, _, rfl, a2, b1, _, rfl, b2, c1, _, rfl, c2, rfl⟩ := h
  obtain ⟨a1, rfl, a3⟩ := kept_of (m := m + 0) a2
  obtain ⟨b1, rfl, b3⟩ := session_of (m := m + 7) b2
  obtain ⟨c1, rfl⟩ := shp_bool (m := m + 9) c2
  exact ⟨⟨a1, b1, c1⟩, rfl, ⟨a3, b3⟩⟩
def okLetter (x : Letter) : Prop := (x.text.length ≤ BB)
def okLink (x : Link) : Prop := (x.way.length ≤ BB ∧ ∀ z ∈ x.way, z.length ≤ BB)
def okSync (x : Sync) : Prop := (okLink x.link) ∧ (x.pieces.length ≤ BB ∧ ∀ z ∈ x.pieces, z.length ≤ BB)
def okPair (x : Pair) : Prop := (x.servers.length ≤ BB ∧ ∀ z ∈ x.servers, okServer z) ∧ (x.syncs.length ≤ BB ∧ ∀ z ∈ x.syncs, okSync z) ∧ (x.net.length ≤ BB ∧ ∀ z ∈ x.net, okLetter z)
section
variable {K : Nat} {H : Type} {enc : TypeId × Value → H} {P : Program} {W : World} {ti : Tab} {B : Nat} {base : Base}
theorem arg_one (hti : TabOk P ti) {t : TypeId} (m : Nat) (hd : dataT ti m t = true) {v : Value} {d : DataW H} {ps : List MemPlace} (hv : v.cells = #[v])
    (h : DataW.Trod enc P W 0 (fun _ => true) true t v d ps) (hw : ∀ x ∈ d.weights P t, x ≤ B) : ∃ x, M (bare W.heap.size) noSig W x v ∧ Shp ti B m t [x] := by
  obtain ⟨n, hn⟩ := h
  obtain ⟨xs, h1, h2⟩ := trod_M (base := bare W.heap.size) hti m t hd n _ d ps (fun _ h => h) hn hw
  rw [hv] at h1
  have hl := h1.1
  match xs, h1, h2, hl with
  | [x], h1, h2, _ => exact ⟨x, h1.2 0 x v rfl rfl, h2⟩
  | [], _, _, hl => simp at hl
  | _ :: _ :: _, _, _, hl => simp at hl
theorem cells_of_basic {w : World} {r : Reach} {b0 : Nat} {t : TypeId} {v : Value} (hu : P.underlying t = some .string ∨ P.underlying t = some .bool ∨ (∃ k, P.underlying t = some (.int k)) ∨ ∃ e, P.underlying t = some (.slice e)) (h : Value.okWide P w r b0 t v) : v.cells = #[v] := by
  unfold Value.okWide at h
  rcases hu with hu | hu | ⟨k, hu⟩ | ⟨e, hu⟩ <;>
  · simp only [hu] at h
    cases v with
    | agg cs => exfalso; revert h; simp [Cell.okWide, hu, Cell.ok]
    | _ => rfl
end
end Go.Proofs.Ytjhfabimacljhaa.K
