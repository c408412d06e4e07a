/- Rows of copies and of zeros. -/
import Derived.Test.YtjhfabimacljhaaYz
namespace Go.Proofs.Ytjhfabimacljhaa.K
open Go Go.RowKit
set_option linter.unusedVariables false
set_option linter.unusedSimpArgs false
theorem take_map_next' {α β : Type} {f : α → β} {a : List α} {i : Nat} (h : i < a.length) : (a.take (i + 1)).map f = (a.take i).map f ++ [f a[i]] := by
  rw [List.take_succ_eq_append_getElem h, List.map_append]; rfl
theorem set_rep {α : Type} {f : α → List V} {z : List V} {a : List α} {i : Nat} (hi : i < a.length) : ((a.take i).map f ++ List.replicate (a.length - i) z).set i (f a[i]) = (a.take (i + 1)).map f ++ List.replicate (a.length - (i + 1)) z := by
  refine (set_app (by rw [List.length_map, List.length_take]; omega) (by intro h; have := congrArg List.length h; simp only [List.length_replicate, List.length_nil] at this; omega)).trans ?_
  rw [List.drop_replicate, take_map_next' hi, List.append_assoc, Nat.sub_sub]
  rfl
theorem get_rep {α : Type} {f : α → List V} {z : List V} {a : List α} {i : Nat} (hi : i < a.length) : ((a.take i).map f ++ List.replicate (a.length - i) z)[i]? = some z := by
  have hl : ((a.take i).map f).length = i := by rw [List.length_map, List.length_take]; omega
  rw [List.getElem?_append_right (by omega), hl, Nat.sub_self, List.getElem?_replicate, if_pos (by omega)]
abbrev zcI : List V := [.int .i64 0]
abbrev zcT : List V := [.str []]
abbrev zcReg : List V := [.int .i64 0, .int .i64 0, .int .i64 0]
abbrev zcMail : List V := [.int .i64 0, .int .i64 0, .nil 3, .str []]
abbrev zcBox : List V := [.int .i64 0, .str [], .int .i64 0, .int .i64 0, .int .i64 0, .nil 4, .nil 1]
abbrev zcLetter : List V := [.int .i64 0, .str []]
abbrev zcSync : List V := [.int .i64 0, .int .i64 0, .nil 1, .int .i64 0, .int .i64 0, .int .i64 0, .nil 1, .bool false, .bool false]
abbrev zcServer : List V := [.int .i64 0, .int .i64 0, .nil 7, .nil 1, .str [], .int .i64 0, .str [], .str [], .bool false, .bool false, .int .i64 0, .nil 1, .bool false]
theorem trav_rep (f0 : Nat → V) (fs : Nat → Nat → Nat → List (List V) → V) (fp : Nat → Nat → Nat → List V → V) (n : Nat) (e : List V) : V.travLL f0 fs fp (List.replicate n e) = List.replicate n (V.travL f0 fs fp e) := by
  rw [travLL_eq, List.map_replicate]
end Go.Proofs.Ytjhfabimacljhaa.K
