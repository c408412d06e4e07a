/- How many marks a server's data takes. -/
import Derived.Test.YtjhfabimacljhaaYm
import Derived.Test.YtjhfabimacljhaaYz
namespace Go.Proofs.Ytjhfabimacljhaa.K
open Go Go.RowKit
set_option linter.unusedVariables false
set_option linter.unusedSimpArgs false
theorem mn_le {α : Type} {f : α → List V} {k : Nat} : ∀ {l : List α}, (∀ a ∈ l, V.mnL (f a) ≤ k) → V.mnLL (l.map f) ≤ l.length * k
  | [], _ => by simp [V.mnLL]
  | a :: l, h => by
    have h1 := h a (List.mem_cons_self ..)
    have h2 := mn_le (l := l) fun b hb => h b (List.mem_cons_of_mem _ hb)
    rw [List.map_cons, List.length_cons, Nat.succ_mul]
    show V.mnL (f a) + V.mnLL _ ≤ _
    omega
theorem mn_le' {α : Type} {f : α → List V} {k : Nat} {l : List α} (hl : l.length ≤ 1048576) (h : ∀ a ∈ l, V.mnL (f a) ≤ k) : V.mnLL (l.map f) ≤ 1048576 * k :=
  Nat.le_trans (mn_le h) (Nat.mul_le_mul_right _ hl)
theorem mn_ints {l : List Int} (hl : l.length ≤ 1048576) : V.mnLL (l.map cZ) ≤ 1048576 := by
  have := mn_le' (f := cZ) (k := 1) hl (fun a _ => by simp [cZ, V.mnL, V.mn])
  omega
theorem mn_mail {x : Mail} (h : smMail x) : V.mnL (cMail x) ≤ 3145731 := by
  have := mn_le' (f := cReg) (k := 3) h.1 (fun a _ => by simp [cReg, V.mnL, V.mn])
  simp only [cMail, V.mnL, V.mn]
  omega
theorem mn_box {x : Box} (h : smBox x) : V.mnL (cBox x) ≤ 3298539077637 := by
  have h1 := mn_le' (f := cMail) (k := 3145731) h.2.1.1 (fun a ha => mn_mail (h.2.1.2 a ha))
  have h2 := mn_ints h.2.2
  simp only [cBox, V.mnL, V.mn]
  omega
theorem mn_server {x : Server} (h : smServer x) : V.mnLL (x.kept.store.boxes.map cBox) + V.mnLL (x.kept.store.gone.map cZ) + V.mnLL (x.session.view.map cZ) ≤ 4000000000000000000 := by
  have h1 := mn_le' (f := cBox) (k := 3298539077637) h.1.1.1.1 (fun a ha => mn_box (h.1.1.1.2 a ha))
  have h2 := mn_ints h.1.1.2
  have h3 := mn_ints h.2.2.2
  omega
end Go.Proofs.Ytjhfabimacljhaa.K
