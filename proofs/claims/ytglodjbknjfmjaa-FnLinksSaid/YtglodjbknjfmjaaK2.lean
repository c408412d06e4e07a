/- Arguments of the program's types. -/
import Derived.Test.YtglodjbknjfmjaaKz
import Derived.Test.YtglodjbknjfmjaaKw
namespace Go.Proofs.Ytglodjbknjfmjaa.K
open Go Go.RowKit
set_option linter.unusedVariables false
set_option linter.unusedSimpArgs false
abbrev BB : Nat := 140737488351232
def StrsB (a : List Str) : Prop := a.length ≤ BB ∧ ∀ s ∈ a, s.length ≤ BB
theorem shp_int {m : Nat} {xs : List V} (h : Shp tab BB (m + 1) 3 xs) : ∃ n, xs = [.int .i64 n] := by
  simp only [Shp, ktab] at h
  obtain ⟨n, h, _⟩ := h
  exact ⟨n, h⟩
theorem shp_bool {m : Nat} {xs : List V} (h : Shp tab BB (m + 1) 4 xs) : ∃ b, xs = [.bool b] := by
  simp only [Shp, ktab] at h
  exact h
theorem shp_str {m : Nat} {xs : List V} (h : Shp tab BB (m + 1) 9 xs) : ∃ s : Str, xs = [.str s] ∧ s.length ≤ BB := by
  simp only [Shp, ktab] at h
  exact h
theorem map_of {α : Type} {f : α → List V} {p : α → Prop} : ∀ {es : List (List V)}, (∀ c ∈ es, ∃ a, c = f a ∧ p a) → ∃ l : List α, es = l.map f ∧ ∀ a ∈ l, p a
  | [], _ => ⟨[], rfl, by simp⟩
  | c :: es, h => by
    obtain ⟨a, rfl, ha⟩ := h c (List.mem_cons_self ..)
    obtain ⟨l, rfl, hl⟩ := map_of (es := es) fun c hc => h c (List.mem_cons_of_mem _ hc)
    exact ⟨a :: l, rfl, by simpa using ⟨ha, hl⟩⟩
theorem shp_strs {m : Nat} {xs : List V} (h : Shp tab BB (m + 2) 29 xs) : ∃ a : List Str, xs = [.sl 0 1 0 (a.map cS)] ∧ StrsB a := by
  simp only [Shp, ktab, Option.map_some, Option.getD_some] at h
  obtain ⟨es, rfl, hl, hc⟩ := h
  obtain ⟨a, rfl, ha⟩ := map_of (f := cS) (p := fun s => s.length ≤ BB) (es := es) fun c h => hc c h
  exact ⟨a, rfl, by rw [List.length_map] at hl; omega, ha⟩
theorem link_of {m : Nat} {xs : List V} (h : Shp tab BB (m + 3) 40 xs) : ∃ l : Link, xs = cLink l ∧ StrsB l.way := by
  rw [Shp] at h
  simp only [ktab, ShpF] at h
  obtain ⟨a, _, rfl, ha, b, _, rfl, hb, c, _, rfl, hc, d, _, rfl, hd, rfl⟩ := h
  obtain ⟨a, rfl⟩ := shp_int ha
  obtain ⟨b, rfl, hb2⟩ := shp_strs hb
  obtain ⟨c, rfl⟩ := shp_int hc
  obtain ⟨d, rfl⟩ := shp_int hd
  exact ⟨⟨a, b, c, d⟩, rfl, hb2⟩
theorem sync_of {m : Nat} {xs : List V} (h : Shp tab BB (m + 4) 49 xs) : ∃ y : Sync, xs = cSync y ∧ StrsB y.link.way ∧ StrsB y.pieces := by
  rw [Shp] at h
  simp only [ktab, ShpF] at h
  obtain ⟨a, _, rfl, ha, b, _, rfl, hb, c, _, rfl, hc, d, _, rfl, hd, e, _, rfl, he, f, _, rfl, hf, rfl⟩ := h
  obtain ⟨a, rfl⟩ := shp_int ha
  obtain ⟨b, rfl, hb2⟩ := link_of hb
  obtain ⟨c, rfl⟩ := shp_int hc
  obtain ⟨d, rfl, hd2⟩ := shp_strs hd
  obtain ⟨e, rfl⟩ := shp_bool he
  obtain ⟨f, rfl⟩ := shp_bool hf
  exact ⟨⟨a, b, c, d, e, f⟩, rfl, hb2, hd2⟩
theorem wrap_sub {x : Int} {n : Nat} (h0 : 0 ≤ x) (h1 : x ≤ 1048576) (hn : n ≤ BB) : IntKind.i64.wrap (x - n) = x - n := by
  unfold BB at hn
  rw [IntKind.wrap_i64]; omega
theorem szLoop_le : ∀ (a : List Str) (left : Int), 0 ≤ left → left ≤ 1048576 → (∀ s ∈ a, s.length ≤ BB) → 0 ≤ szLoop a left → szLoop a left ≤ left ∧ ∀ s ∈ a, s.length ≤ 1048576
  | [], left, _, _, _, _ => ⟨Int.le_refl _, by simp⟩
  | s :: r, left, h0, h1, hs, h => by
    have hw := wrap_sub h0 h1 (hs s (List.mem_cons_self ..))
    rw [szLoop] at h ⊢
    rw [hw] at h ⊢
    split at h
    · omega
    · rename_i hlt
      rw [if_neg hlt]
      have := szLoop_le r (left - s.length) (by omega) (by omega) (fun x hx => hs x (List.mem_cons_of_mem _ hx)) h
      refine ⟨by omega, fun x hx => ?_⟩
      rcases List.mem_cons.1 hx with rfl | hx
      · omega
      · exact this.2 x hx
/-- Small. -/
def StrsS (a : List Str) : Prop := a.length ≤ 1048576 ∧ ∀ s ∈ a, s.length ≤ 1048576
theorem szStrs_ok {a : List Str} {left : Int} (h0 : 0 ≤ left) (h1 : left ≤ 1048576) (ha : StrsB a) (h : ¬ szStrs a left < 0) : szStrs a left ≤ left ∧ StrsS a := by
  unfold szStrs at h ⊢
  rw [wrap_sub h0 h1 ha.1] at h ⊢
  split at h
  · omega
  · rename_i hlt
    rw [if_neg hlt]
    have := szLoop_le a (left - a.length) (by omega) (by omega) ha.2 (by omega)
    exact ⟨by omega, by omega, this.2⟩
theorem szLink_ok {l : Link} {left : Int} (h0 : 0 ≤ left) (h1 : left ≤ 1048576) (ha : StrsB l.way) (h : ¬ szLink l left < 0) : szLink l left ≤ left ∧ StrsS l.way := by
  unfold szLink at h ⊢
  split at h
  · omega
  · rename_i hlt
    rw [if_neg hlt]
    exact szStrs_ok h0 h1 ha hlt
theorem szSync_ok {y : Sync} {left : Int} (h0 : 0 ≤ left) (h1 : left ≤ 1048576) (ha : StrsB y.link.way) (hb : StrsB y.pieces) (h : ¬ szSync y left < 0) : szSync y left ≤ left ∧ StrsS y.link.way ∧ StrsS y.pieces := by
  unfold szSync at h ⊢
  split at h
  · omega
  · rename_i hlt
    rw [if_neg hlt]
    have h3 := szLink_ok h0 h1 ha hlt
    split at h
    · omega
    · rename_i hlt2
      rw [if_neg hlt2]
      have h4 := szStrs_ok (by omega) (by omega) hb hlt2
      exact ⟨by omega, h3.2, h4.2⟩
end Go.Proofs.Ytglodjbknjfmjaa.K
