/- Arguments that are bytes. -/
import Derived.Test.YtglodjbknjfmjaaY2
import Derived.Test.YtglodjbknjfmjaaYl
namespace Go.Proofs.Ytglodjbknjfmjaa.K
open Go Go.RowKit
set_option linter.unusedVariables false
set_option linter.unusedSimpArgs false
theorem shp_bytes {m : Nat} {xs : List V} (h : Shp tab BB (m + 2) 57 xs) : ∃ a : Str, xs = [.sl 0 1 0 (a.map cB)] ∧ a.length ≤ BB := by
  simp only [Shp, ktab, Option.map_some, Option.getD_some] at h
  obtain ⟨es, rfl, hl, hc⟩ := h
  obtain ⟨a, rfl, ha⟩ := map_of (f := cB) (p := fun _ => True) (es := es) fun c hcm => by
    obtain ⟨n, rfl, hw⟩ := hc c hcm
    have hr : 0 ≤ n ∧ n ≤ 255 := by simp only [Lit.wf, Bool.and_eq_true, decide_eq_true_eq] at hw; exact hw
    refine ⟨UInt8.ofNat n.toNat, ?_, trivial⟩
    show [V.int IntKind.u8 n] = [V.int IntKind.u8 _]
    rw [UInt8.toNat_ofNat', show ((n.toNat % 2 ^ 8 : Nat) : Int) = n by omega]
  exact ⟨a, rfl, by rw [List.length_map] at hl; omega⟩
end Go.Proofs.Ytglodjbknjfmjaa.K
