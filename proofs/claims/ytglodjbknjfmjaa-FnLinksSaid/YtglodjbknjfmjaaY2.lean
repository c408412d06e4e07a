/- Arguments of a row that are no structs; events, packets. -/
import Derived.Test.YtglodjbknjfmjaaK2
import Derived.Test.YtglodjbknjfmjaaY1
namespace Go.Proofs.Ytglodjbknjfmjaa.K
open Go Go.RowKit
set_option linter.unusedVariables false
set_option linter.unusedSimpArgs false
section
variable {K : Nat} {H : Type} {enc : TypeId × Value → H} {P : Program} {W : World} {ti : Tab} {B : Nat} {base : Base}
theorem arg_one (hti : TabOk P ti) {t : TypeId} (m : Nat) (hd : dataT ti m t = true) {v : Value} {d : DataW H} {ps : List MemPlace} (hv : v.cells = #[v])
    (h : DataW.Trod enc P W 0 (fun _ => true) true t v d ps) (hw : ∀ x ∈ d.weights P t, x ≤ B) : ∃ x, M (bare W.heap.size) noSig W x v ∧ Shp ti B m t [x] := by
  obtain ⟨n, hn⟩ := h
  obtain ⟨xs, h1, h2⟩ := trod_M (base := bare W.heap.size) hti m t hd n _ d ps (fun _ h => h) hn hw
  rw [hv] at h1
  have hl := h1.1
  match xs, h1, h2, hl with
  | [x], h1, h2, _ => exact ⟨x, h1.2 0 x v rfl rfl, h2⟩
  | [], _, _, hl => simp at hl
  | _ :: _ :: _, _, _, hl => simp at hl
theorem cells_of_basic {w : World} {r : Reach} {b0 : Nat} {t : TypeId} {v : Value} (hu : P.underlying t = some .string ∨ P.underlying t = some .bool ∨ (∃ k, P.underlying t = some (.int k)) ∨ ∃ e, P.underlying t = some (.slice e)) (h : Value.okWide P w r b0 t v) : v.cells = #[v] := by
  unfold Value.okWide at h
  rcases hu with hu | hu | ⟨k, hu⟩ | ⟨e, hu⟩ <;>
  · simp only [hu] at h
    cases v with
    | agg cs => exfalso; revert h; simp [Cell.okWide, hu, Cell.ok]
    | _ => rfl
end
theorem event_of {m : Nat} {xs : List V} (h : Shp tab BB (m + 3) 23 xs) : ∃ e : Event, xs = cEvent e ∧ e.text.length ≤ BB := by
  rw [Shp] at h
  simp only [ktab, ShpF] at h
  obtain ⟨a, _, rfl, ha, b, _, rfl, hb, c, _, rfl, hc, d, _, rfl, hd, rfl⟩ := h
  obtain ⟨a, rfl⟩ := shp_int ha
  obtain ⟨b, rfl⟩ := shp_int hb
  obtain ⟨c, rfl⟩ := shp_int hc
  obtain ⟨d, rfl, hd2⟩ := shp_str hd
  exact ⟨⟨a, b, c, d⟩, rfl, hd2⟩
theorem packet_of {m : Nat} {xs : List V} (h : Shp tab BB (m + 3) 66 xs) : ∃ e : Packet, xs = cPacket e ∧ e.text.length ≤ BB := by
  rw [Shp] at h
  simp only [ktab, ShpF] at h
  obtain ⟨a, _, rfl, ha, b, _, rfl, hb, c, _, rfl, hc, d, _, rfl, hd, rfl⟩ := h
  obtain ⟨a, rfl⟩ := shp_int ha
  obtain ⟨b, rfl⟩ := shp_int hb
  obtain ⟨c, rfl⟩ := shp_int hc
  obtain ⟨d, rfl, hd2⟩ := shp_str hd
  exact ⟨⟨a, b, c, d⟩, rfl, hd2⟩
end Go.Proofs.Ytglodjbknjfmjaa.K
