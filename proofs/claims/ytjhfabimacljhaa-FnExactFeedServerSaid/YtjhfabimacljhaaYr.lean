/- Slots forgotten within a region; a record and a bool as data of the call's own; what is fed. -/
import Derived.Test.YtjhfabimacljhaaYo
import Derived.Test.YtjhfabimacljhaaYz
namespace Go.Proofs.Ytjhfabimacljhaa.K
open Go Go.RowKit
set_option linter.unusedVariables false
set_option linter.unusedSimpArgs false
section
variable {P : Program} {ti : Tab} {t t' h : List V} {n n' : Nat} {Q : Exit → List V → List V → Nat → Prop} {ops : Array Oper} {o : Oper} {l : List Oper}
theorem over_le : ∀ (dead : List Nat) (t : List V), (overD dead t).length = t.length ∧ ∀ (i : Nat) (x y : V), t[i]? = some x → (overD dead t)[i]? = some y → y = x ∨ y = .any
  | [], t => ⟨rfl, fun i x y hx hy => .inl (Option.some.inj (hy.symm.trans hx))⟩
  | d :: dead, t => by
    have ih := over_le dead (setN t d .any)
    refine ⟨by show (overD dead (setN t d .any)).length = _; rw [ih.1, setN_set, List.length_set], fun i x y hx hy => ?_⟩
    have hy' : (overD dead (setN t d .any))[i]? = some y := hy
    by_cases hdi : d = i
    · subst hdi
      have hs : (setN t d .any)[d]? = some .any := by
        have hi := (List.getElem?_eq_some_iff.1 hx).1
        rw [setN_set, List.getElem?_set_self hi]
      rcases ih.2 _ _ _ hs hy' with h | h <;> exact .inr h
    · exact ih.2 _ _ _ (by rw [setN_set, List.getElem?_set_ne hdi, hx]) hy'
theorem OkOps.drop (dead : List Nat) (ht : overD dead t = t') (hk : OkOps P ops l t' h n Q) : OkOps P ops l t h n Q := by
  subst ht
  intro base w0 hv σ a w g
  refine hk base w0 hv σ a w ⟨⟨by rw [(over_le dead t).1]; exact g.ts.1, fun i y u hy hu => ?_⟩, g.hs, g.dfr, g.bel, g.inv⟩
  have hi : i < t.length := by have := (List.getElem?_eq_some_iff.1 hy).1; rw [(over_le dead t).1] at this; exact this
  have h1 : t[i]? = some t[i] := List.getElem?_eq_getElem hi
  rcases (over_le dead t).2 i _ y h1 hy with rfl | rfl
  · exact g.ts.2 i _ u h1 hu
  · exact .any _
end
theorem nd_app2 {A B : List Nat} (hA : A.Nodup) (hB : B.Nodup) (h : ∀ y ∈ A, ¬ y ∈ B) : (A ++ B).Nodup := by
  rw [List.nodup_append]
  exact ⟨hA, hB, fun y hy z hz e => h y hy (e ▸ hz)⟩
theorem cnt_tup (c : List V) (b : Bool) : V.cnt (.tup [.agg c, .bool b]) = V.cnt (.agg c) := by
  show V.cntL c + (0 + 0) = V.cntL c; omega
theorem tag_tup (n : Nat) (c : List V) (b : Bool) : V.tag n (.tup [.agg c, .bool b]) = .tup [V.tag n (.agg c), .bool b] := rfl
/-- What a session takes in. -/
def fits (x : Session) (t : Str) : Bool := !x.over && decide (x.inn.length + t.length ≤ 400)
def feedS (x : Session) (t : Str) : Session := if fits x t = true then { x with inn := x.inn ++ t } else x
theorem fits_over {x : Session} (t : Str) (h : x.over = true) : fits x t = false := by simp [fits, h]
theorem fits_long {x : Session} {t : Str} (h : 400 < x.inn.length + t.length) : fits x t = false := by
  simp only [fits, Bool.and_eq_false_iff, decide_eq_false_iff_not]; exact .inr (by omega)
theorem fits_ok {x : Session} {t : Str} (h : x.over = false) (h2 : ¬ 400 < x.inn.length + t.length) : fits x t = true := by
  simp only [fits, h, Bool.not_false, Bool.true_and, decide_eq_true_eq]; omega
theorem feedS_no {x : Session} {t : Str} (h : fits x t = false) : feedS x t = x := if_neg (by simp [h])
theorem feedS_ok {x : Session} {t : Str} (h : fits x t = true) : feedS x t = { x with inn := x.inn ++ t } := if_pos h
def feedB (v : Server) (t : Str) : Bool := v.up && fits v.session t
def feedV (v : Server) (t : Str) : Server := if feedB v t = true then { v with session := feedS v.session t } else v
theorem feed_no {v : Server} {t : Str} (h : feedB v t = false) : feedV v t = v := if_neg (by simp [h])
theorem feed_ok {v : Server} {t : Str} (h : feedB v t = true) : feedV v t = { v with session := feedS v.session t } := if_pos h
theorem smFeedS {x : Session} {t : Str} (h : smSession x) (ht : t.length ≤ 1048576) : smSession (feedS x t) := by
  unfold feedS; split
  · next hf =>
    refine ⟨?_, h.2⟩
    simp only [fits, Bool.and_eq_true, decide_eq_true_eq] at hf
    show (x.inn ++ t).length ≤ _
    rw [List.length_append]; omega
  · exact h
theorem smFeed {v : Server} {t : Str} (h : smServer v) (ht : t.length ≤ 1048576) : smServer (feedV v t) := by
  unfold feedV; split
  · exact ⟨h.1, smFeedS h.2 ht⟩
  · exact h
theorem ownTSession (n : Nat) (x : Session) (b : Bool) : ∃ (L5 : Nat) (e5 : List (List V)), V.tag (n + 1) (.tup [.agg (cSession x), .bool b]) = .tup [.agg [.str x.inn, .str x.out, .bool x.on, .bool x.over, .int .i64 x.box, .sl (L5 + 1) 1 0 e5], .bool b] ∧ (∀ r ∈ e5, isInt r) ∧ V.travLL (fun sz => V.sl 0 sz 0 []) (fun _ sz _ es => V.sl 0 sz 0 es) (fun _ _ o e => V.ptr 0 0 o e) e5 = x.view.map cZ ∧ (∀ K, V.travLL (fun sz => V.sl 0 sz 0 []) (fun _ sz _ es => V.sl 0 sz 0 es) (fun _ _ o e => V.ptr 0 0 o e) (V.mkLL K e5) = V.mkLL K (x.view.map cZ)) ∧ V.mnLL e5 = V.mnLL (x.view.map cZ) ∧ (V.labelsL [.str x.inn, .str x.out, .bool x.on, .bool x.over, .int .i64 x.box, .sl (L5 + 1) 1 0 e5]).Nodup ∧ (∀ z ∈ V.labelsL [.str x.inn, .str x.out, .bool x.on, .bool x.over, .int .i64 x.box, .sl (L5 + 1) 1 0 e5], n + 1 ≤ z ∧ z < n + 1 + V.cnt (.tup [.agg (cSession x), .bool b])) := by
  obtain ⟨L5, e5, hX, q5, E5, M5, N5, nd, rg⟩ := ownSession n x
  exact ⟨L5, e5, by rw [tag_tup, hX], q5, E5, M5, N5, nd, fun z hz => by rw [cnt_tup]; exact rg z hz⟩
theorem ownTServer (n : Nat) (x : Server) (b : Bool) : ∃ (L2 : Nat) (e2 : List (List V)) (L3 : Nat) (e3 : List (List V)) (L11 : Nat) (e11 : List (List V)), V.tag (n + 1) (.tup [.agg (cServer x), .bool b]) = .tup [.agg [.int .i64 x.kept.store.by_, .int .i64 x.kept.store.time, .sl (L2 + 1) 7 0 e2, .sl (L3 + 1) 1 0 e3, .str x.kept.journal, .int .i64 x.kept.saved, .str x.session.inn, .str x.session.out, .bool x.session.on, .bool x.session.over, .int .i64 x.session.box, .sl (L11 + 1) 1 0 e11, .bool x.up], .bool b] ∧ (∀ r ∈ e2, isBox r) ∧ V.travLL (fun sz => V.sl 0 sz 0 []) (fun _ sz _ es => V.sl 0 sz 0 es) (fun _ _ o e => V.ptr 0 0 o e) e2 = x.kept.store.boxes.map cBox ∧ (∀ K, V.travLL (fun sz => V.sl 0 sz 0 []) (fun _ sz _ es => V.sl 0 sz 0 es) (fun _ _ o e => V.ptr 0 0 o e) (V.mkLL K e2) = V.mkLL K (x.kept.store.boxes.map cBox)) ∧ V.mnLL e2 = V.mnLL (x.kept.store.boxes.map cBox) ∧ (∀ r ∈ e3, isInt r) ∧ V.travLL (fun sz => V.sl 0 sz 0 []) (fun _ sz _ es => V.sl 0 sz 0 es) (fun _ _ o e => V.ptr 0 0 o e) e3 = x.kept.store.gone.map cZ ∧ (∀ K, V.travLL (fun sz => V.sl 0 sz 0 []) (fun _ sz _ es => V.sl 0 sz 0 es) (fun _ _ o e => V.ptr 0 0 o e) (V.mkLL K e3) = V.mkLL K (x.kept.store.gone.map cZ)) ∧ V.mnLL e3 = V.mnLL (x.kept.store.gone.map cZ) ∧ (∀ r ∈ e11, isInt r) ∧ V.travLL (fun sz => V.sl 0 sz 0 []) (fun _ sz _ es => V.sl 0 sz 0 es) (fun _ _ o e => V.ptr 0 0 o e) e11 = x.session.view.map cZ ∧ (∀ K, V.travLL (fun sz => V.sl 0 sz 0 []) (fun _ sz _ es => V.sl 0 sz 0 es) (fun _ _ o e => V.ptr 0 0 o e) (V.mkLL K e11) = V.mkLL K (x.session.view.map cZ)) ∧ V.mnLL e11 = V.mnLL (x.session.view.map cZ) ∧ (V.labelsL [.int .i64 x.kept.store.by_, .int .i64 x.kept.store.time, .sl (L2 + 1) 7 0 e2, .sl (L3 + 1) 1 0 e3, .str x.kept.journal, .int .i64 x.kept.saved, .str x.session.inn, .str x.session.out, .bool x.session.on, .bool x.session.over, .int .i64 x.session.box, .sl (L11 + 1) 1 0 e11, .bool x.up]).Nodup ∧ (∀ z ∈ V.labelsL [.int .i64 x.kept.store.by_, .int .i64 x.kept.store.time, .sl (L2 + 1) 7 0 e2, .sl (L3 + 1) 1 0 e3, .str x.kept.journal, .int .i64 x.kept.saved, .str x.session.inn, .str x.session.out, .bool x.session.on, .bool x.session.over, .int .i64 x.session.box, .sl (L11 + 1) 1 0 e11, .bool x.up], n + 1 ≤ z ∧ z < n + 1 + V.cnt (.tup [.agg (cServer x), .bool b])) := by
  obtain ⟨L2, e2, L3, e3, L11, e11, hX, q2, E2, M2, N2, q3, E3, M3, N3, q11, E11, M11, N11, nd, rg⟩ := ownServer n x
  exact ⟨L2, e2, L3, e3, L11, e11, by rw [tag_tup, hX], q2, E2, M2, N2, q3, E3, M3, N3, q11, E11, M11, N11, nd, fun z hz => by rw [cnt_tup]; exact rg z hz⟩
end Go.Proofs.Ytjhfabimacljhaa.K
