/- Rows of data of the call's own. Printed by genis.py. -/
import Derived.Test.YtjhfabimacljhaaYm
namespace Go.Proofs.Ytjhfabimacljhaa.K
open Go Go.RowKit
set_option linter.unusedVariables false
set_option linter.unusedSimpArgs false
def isInt (c : List V) : Prop := ∃ n : Int, c = [.int .i64 n]
def isText (c : List V) : Prop := ∃ s : Str, c = [.str s]
theorem nd_split {x : Nat} {A C B : List Nat} (h : (x :: (A ++ (C ++ B))).Nodup) : x ∉ A ∧ x ∉ C ∧ x ∉ B ∧ (∀ y ∈ A, ¬ y ∈ C) ∧ (∀ y ∈ B, ¬ y ∈ C) ∧ C.Nodup := by
  simp only [List.nodup_cons, List.nodup_append, List.mem_append, not_or] at h
  obtain ⟨⟨h1, h2, h3⟩, h4, ⟨h5, h6, h7⟩, h8⟩ := h
  exact ⟨h1, h2, h3, fun y hy hc => h8 y hy y (.inl hc) rfl, fun y hy hc => h7 y hc y hy rfl, h5⟩
theorem nd_app {A B : List Nat} (h : (A ++ B).Nodup) : A.Nodup ∧ B.Nodup ∧ (∀ y ∈ A, ¬ y ∈ B) ∧ (∀ y ∈ B, ¬ y ∈ A) := by
  rw [List.nodup_append] at h
  exact ⟨h.1, h.2.1, fun y ha hb => h.2.2 y ha y hb rfl, fun y hb ha => h.2.2 y ha y hb rfl⟩
theorem lab_split {L : Nat} {a b : List (List V)} {c : List V} (h : (L :: V.labelsLL (a ++ c :: b)).Nodup) : L ∉ V.labelsLL a ∧ L ∉ V.labelsL c ∧ L ∉ V.labelsLL b ∧ (∀ y ∈ V.labelsLL a, ¬ y ∈ V.labelsL c) ∧ (∀ y ∈ V.labelsLL b, ¬ y ∈ V.labelsL c) ∧ (V.labelsL c).Nodup := by
  rw [labelsLL_app] at h
  exact nd_split h
def isReg (c : List V) : Prop := ∃ (v0 : Int) (v1 : Int) (v2 : Int), c = [.int .i64 v0, .int .i64 v1, .int .i64 v2]
def isMail (c : List V) : Prop := ∃ (v0 : Int) (v1 : Int) (L2 : Nat) (e2 : List (List V)) (v3 : Str), c = [.int .i64 v0, .int .i64 v1, .sl (L2 + 1) 3 0 e2, .str v3] ∧ (∀ r ∈ e2, isReg r)
def isBox (c : List V) : Prop := ∃ (v0 : Int) (v1 : Str) (v2 : Int) (v3 : Int) (v4 : Int) (L5 : Nat) (e5 : List (List V)) (L6 : Nat) (e6 : List (List V)), c = [.int .i64 v0, .str v1, .int .i64 v2, .int .i64 v3, .int .i64 v4, .sl (L5 + 1) 4 0 e5, .sl (L6 + 1) 1 0 e6] ∧ (∀ r ∈ e5, isMail r) ∧ (∀ r ∈ e6, isInt r)
def isServer (c : List V) : Prop := ∃ (v0 : Int) (v1 : Int) (L2 : Nat) (e2 : List (List V)) (L3 : Nat) (e3 : List (List V)) (v4 : Str) (v5 : Int) (v6 : Str) (v7 : Str) (v8 : Bool) (v9 : Bool) (v10 : Int) (L11 : Nat) (e11 : List (List V)) (v12 : Bool), c = [.int .i64 v0, .int .i64 v1, .sl (L2 + 1) 7 0 e2, .sl (L3 + 1) 1 0 e3, .str v4, .int .i64 v5, .str v6, .str v7, .bool v8, .bool v9, .int .i64 v10, .sl (L11 + 1) 1 0 e11, .bool v12] ∧ (∀ r ∈ e2, isBox r) ∧ (∀ r ∈ e3, isInt r) ∧ (∀ r ∈ e11, isInt r)
def isSync (c : List V) : Prop := ∃ (v0 : Int) (v1 : Int) (L2 : Nat) (e2 : List (List V)) (v3 : Int) (v4 : Int) (v5 : Int) (L6 : Nat) (e6 : List (List V)) (v7 : Bool) (v8 : Bool), c = [.int .i64 v0, .int .i64 v1, .sl (L2 + 1) 1 0 e2, .int .i64 v3, .int .i64 v4, .int .i64 v5, .sl (L6 + 1) 1 0 e6, .bool v7, .bool v8] ∧ (∀ r ∈ e2, isText r) ∧ (∀ r ∈ e6, isText r)
def isLetter (c : List V) : Prop := ∃ (v0 : Int) (v1 : Str), c = [.int .i64 v0, .str v1]
theorem len_mn : ∀ (es : List (List V)), (∀ r ∈ es, 1 ≤ V.mnL r) → es.length ≤ V.mnLL es
  | [], _ => Nat.le_refl _
  | x :: es, h => by
    have h1 := h x (List.mem_cons_self ..)
    have h2 := len_mn es fun r hr => h r (List.mem_cons_of_mem _ hr)
    show es.length + 1 ≤ V.mnL x + V.mnLL es
    omega
theorem isInt_mn {c : List V} (h : isInt c) : 1 ≤ V.mnL c := by
  obtain ⟨v0, rfl⟩ := h
  simp only [V.mnL, V.mn]; omega
theorem isReg_mn {c : List V} (h : isReg c) : 1 ≤ V.mnL c := by
  obtain ⟨v0, v1, v2, rfl⟩ := h
  simp only [V.mnL, V.mn]; omega
theorem isMail_mn {c : List V} (h : isMail c) : 1 ≤ V.mnL c := by
  obtain ⟨v0, v1, L2, e2, v3, rfl, _⟩ := h
  simp only [V.mnL, V.mn]; omega
theorem isBox_mn {c : List V} (h : isBox c) : 1 ≤ V.mnL c := by
  obtain ⟨v0, v1, v2, v3, v4, L5, e5, L6, e6, rfl, _, _⟩ := h
  simp only [V.mnL, V.mn]; omega
end Go.Proofs.Ytjhfabimacljhaa.K
