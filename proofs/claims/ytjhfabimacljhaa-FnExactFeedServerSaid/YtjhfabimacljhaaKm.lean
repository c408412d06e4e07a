/- All of ev1; stores; make; append. Nothing here depends on the program. -/
import Derived.Test.YtjhfabimacljhaaKl
import Derived.Laws.CopyRow
namespace Go.Proofs.Ytjhfabimacljhaa.K
open Go Go.RowKit

section
variable {P : Program} {ti : Tab} {t h : List V} {n : Nat} {o : Oper}

theorem ev1_S (hti : TabOk P ti) {op : Op} {x : V} {n' : Nat} (ho : o.op = op) (he : ev1 ti t n o.type op = some (x, n')) : ∃ c, n' = n + c ∧ OpS P o t n x c := by
  cases op with
  | move y =>
    simp only [ev1, Option.some.injEq, Prod.mk.injEq] at he
    obtain ⟨rfl, rfl⟩ := he
    exact ⟨0, rfl, ok_move (.inl ho)⟩
  | assign y =>
    simp only [ev1, Option.some.injEq, Prod.mk.injEq] at he
    obtain ⟨rfl, rfl⟩ := he
    exact ⟨0, rfl, ok_move (.inr ho)⟩
  | pick c a b =>
    simp only [ev1] at he
    split at he
    · rename_i hc
      simp only [Option.some.injEq, Prod.mk.injEq] at he
      obtain ⟨rfl, rfl⟩ := he
      exact ⟨0, rfl, ok_pick ho (.inl ⟨hc, rfl⟩)⟩
    · rename_i hc
      simp only [Option.some.injEq, Prod.mk.injEq] at he
      obtain ⟨rfl, rfl⟩ := he
      exact ⟨0, rfl, ok_pick ho (.inr ⟨hc, rfl⟩)⟩
    · cases he
  | alloc T =>
    simp only [ev1] at he
    split at he
    · rename_i i hi
      split at he
      · rename_i hc
        simp only [Option.some.injEq, Prod.mk.injEq] at he
        obtain ⟨rfl, rfl⟩ := he
        exact ⟨1, rfl, ok_alloc (hti _ _ hi) ho hc.2⟩
      · cases he
    · cases he
  | box T y =>
    simp only [ev1] at he
    split at he
    · rename_i hk
      simp only [Option.some.injEq, Prod.mk.injEq] at he
      obtain ⟨rfl, rfl⟩ := he
      exact ⟨1, rfl, ok_box ho hk⟩
    · cases he
  | build T parts =>
    simp only [ev1] at he
    split at he
    · rename_i fs sz by_ z hT
      split at he
      · rename_i hc
        obtain ⟨cs, hcs, he⟩ := Option.map_eq_some_iff.1 he
        simp only [Prod.mk.injEq] at he
        obtain ⟨rfl, rfl⟩ := he
        exact ⟨0, rfl, ok_build hti hT ho hc.1 hc.2 hcs⟩
      · cases he
    · cases he
  | buildSlice T len parts =>
    simp only [ev1] at he
    split at he
    · rename_i e s1 b1 z1 hT
      split at he
      · rename_i i hi
        split at he
        · rename_i hl0
          subst hl0
          split at he
          · rename_i hc
            simp only [Option.some.injEq, Prod.mk.injEq] at he
            obtain ⟨rfl, rfl⟩ := he
            exact ⟨0, rfl, ok_buildSlice0 hti hT hi ho hc.1⟩
          · cases he
        split at he
        · rename_i hc
          obtain ⟨es, hes, he⟩ := Option.map_eq_some_iff.1 he
          simp only [Prod.mk.injEq] at he
          obtain ⟨rfl, rfl⟩ := he
          exact ⟨1, rfl, ok_buildSlice hti hT hi ho hc.1 hc.2.1 hc.2.2 hes⟩
        · cases he
      · cases he
    · cases he
  | load T a =>
    simp only [ev1] at he
    split at he
    · rename_i i hi
      obtain ⟨z, hz, he⟩ := Option.map_eq_some_iff.1 he
      simp only [Prod.mk.injEq] at he
      obtain ⟨rfl, rfl⟩ := he
      exact ⟨0, rfl, ok_load (hti _ _ hi) ho hz⟩
    · cases he
  | nilCheck y =>
    simp only [ev1] at he
    split at he
    · rename_i L i o' e hx
      simp only [Option.some.injEq, Prod.mk.injEq] at he
      obtain ⟨rfl, rfl⟩ := he
      exact ⟨0, rfl, ok_nilCheck ho hx (.inl ⟨_, _, _, _, rfl⟩)⟩
    · rename_i f cs hx
      simp only [Option.some.injEq, Prod.mk.injEq] at he
      obtain ⟨rfl, rfl⟩ := he
      exact ⟨0, rfl, ok_nilCheck ho hx (.inr ⟨_, _, rfl⟩)⟩
    · cases he
  | binOp op T x y T' =>
    simp only [ev1] at he
    obtain ⟨z, hz, he⟩ := Option.map_eq_some_iff.1 he
    simp only [Prod.mk.injEq] at he
    obtain ⟨rfl, rfl⟩ := he
    exact ⟨0, rfl, ok_bin hti ho hz⟩
  | unOp op T x =>
    simp only [ev1] at he
    obtain ⟨z, hz, he⟩ := Option.map_eq_some_iff.1 he
    simp only [Prod.mk.injEq] at he
    obtain ⟨rfl, rfl⟩ := he
    exact ⟨0, rfl, ok_un ho hz⟩
  | convert s d x =>
    simp only [ev1] at he
    obtain ⟨z, hz, he⟩ := Option.map_eq_some_iff.1 he
    simp only [Prod.mk.injEq] at he
    obtain ⟨rfl, rfl⟩ := he
    exact ⟨0, rfl, ok_convert hti ho hz⟩
  | fieldAddr T x f =>
    simp only [ev1] at he
    split at he
    · rename_i L i o' e off fty hx hf
      split at he
      · rename_i inf hi
        split at he
        · cases he
        · rename_i hs
          simp only [Option.some.injEq, Prod.mk.injEq] at he
          obtain ⟨rfl, rfl⟩ := he
          exact ⟨0, rfl, ok_fieldAddr hti ho hx hf hi hs⟩
      · cases he
    · cases he
  | field T x f =>
    simp only [ev1] at he
    split at he
    · rename_i cs off fty hx hf
      split at he
      · rename_i inf hi
        obtain ⟨z, hz, he⟩ := Option.map_eq_some_iff.1 he
        simp only [Prod.mk.injEq] at he
        obtain ⟨rfl, rfl⟩ := he
        exact ⟨0, rfl, ok_field hti ho hx hf hi hz⟩
      · cases he
    · cases he
  | indexAddr T x ix =>
    simp only [ev1] at he
    obtain ⟨z, hz, he⟩ := Option.map_eq_some_iff.1 he
    simp only [Prod.mk.injEq] at he
    obtain ⟨rfl, rfl⟩ := he
    exact ⟨0, rfl, ok_indexAddr hti ho hz⟩
  | index T x ix =>
    simp only [ev1] at he
    obtain ⟨z, hz, he⟩ := Option.map_eq_some_iff.1 he
    simp only [Prod.mk.injEq] at he
    obtain ⟨rfl, rfl⟩ := he
    exact ⟨0, rfl, ok_index hti ho hz⟩
  | slice T x lo hi mx =>
    cases mx with
    | some m => simp [ev1] at he
    | none =>
      simp only [ev1] at he
      obtain ⟨z, hz, he⟩ := Option.map_eq_some_iff.1 he
      simp only [Prod.mk.injEq] at he
      obtain ⟨rfl, rfl⟩ := he
      exact ⟨0, rfl, ok_slice hti ho hz⟩
  | extract y i =>
    simp only [ev1] at he
    split at he
    · rename_i vs hx
      obtain ⟨z, hz, he⟩ := Option.map_eq_some_iff.1 he
      simp only [Prod.mk.injEq] at he
      obtain ⟨rfl, rfl⟩ := he
      exact ⟨0, rfl, ok_extract ho hx hz⟩
    · cases he
  | makeFunc fn first caps =>
    cases fn with
    | func f =>
      simp only [ev1] at he
      split at he
      · rename_i hf
        simp only [Option.some.injEq, Prod.mk.injEq] at he
        obtain ⟨rfl, rfl⟩ := he
        exact ⟨0, rfl, ok_makeFunc ho hf⟩
      · cases he
    | _ => simp [ev1] at he
  | call c =>
    simp only [ev1] at he
    obtain ⟨z, hz, he⟩ := Option.map_eq_some_iff.1 he
    simp only [Prod.mk.injEq] at he
    obtain ⟨rfl, rfl⟩ := he
    obtain ⟨callee, args, argTypes⟩ := c
    cases callee with
    | builtin b =>
      simp only [bltV] at hz
      split at hz
      · rename_i y T h1 h2
        split at hz
        · rename_i hf
          have e1 : args = #[y] := by apply Array.ext'; simpa using h1
          have e2 : argTypes = #[T] := by apply Array.ext'; simpa using h2
          subst e1 e2
          exact ⟨0, rfl, ok_len hti ho hf hz⟩
        · cases hz
      · rename_i y y2 h1
        have e1 : args = #[y, y2] := by apply Array.ext'; simpa using h1
        subst e1
        exact ⟨0, rfl, ok_minmax (mx := false) ho hz⟩
      · rename_i y y2 h1
        have e1 : args = #[y, y2] := by apply Array.ext'; simpa using h1
        subst e1
        exact ⟨0, rfl, ok_minmax (mx := true) ho hz⟩
      · cases hz
    | _ => simp [bltV] at hz
  | _ => simp [ev1] at he
theorem ev1_ok (hti : TabOk P ti) {op : Op} {x : V} {n' : Nat} (ho : o.op = op) (he : ev1 ti t n o.type op = some (x, n')) : OpOk P o t h n (putV t o.dst x) h n' := by
  obtain ⟨c, rfl, hs⟩ := ev1_S hti ho he
  exact hs.ok
end
end Go.Proofs.Ytjhfabimacljhaa.K
