/- Walks: marks of records. Printed by w2.py. -/
import Derived.Test.YtjhfabimacljhaaY24
namespace Go.Proofs.Ytjhfabimacljhaa.K
open Go Go.RowKit
set_option linter.unusedVariables false
set_option linter.unusedSimpArgs false
theorem labelsL_app (a b : List V) : V.labelsL (a ++ b) = V.labelsL a ++ V.labelsL b := by
  induction a with
  | nil => rfl
  | cons x a ih => rw [List.cons_append]; show V.labels x ++ V.labelsL (a ++ b) = V.labels x ++ V.labelsL a ++ V.labelsL b; rw [ih, List.append_assoc]
theorem lab_mid {a c b : List V} (h : (V.labelsL (a ++ (c ++ b))).Nodup) : (V.labelsL c).Nodup ∧ (∀ y ∈ V.labelsL a, ¬ y ∈ V.labelsL c) ∧ (∀ y ∈ V.labelsL b, ¬ y ∈ V.labelsL c) ∧ (∀ y ∈ V.labelsL c, y ∈ V.labelsL (a ++ (c ++ b))) := by
  rw [labelsL_app, labelsL_app] at h ⊢
  rw [List.nodup_append, List.nodup_append] at h
  obtain ⟨h1, ⟨h2, h3, h4⟩, h5⟩ := h
  exact ⟨h2, fun y hy hc => h5 y hy y (List.mem_append_left _ hc) rfl, fun y hy hc => h4 y hc y hy rfl, fun y hy => List.mem_append_right _ (List.mem_append_left _ hy)⟩
theorem OkOps.ofMap {P : Program} {t h : List V} {n : Nat} {Q : Exit → List V → List V → Nat → Prop} {ops : Array Oper} {l : List Oper} (hk : OkOps P ops l t (h.map id) n Q) : OkOps P ops l t h n Q := by
  rw [List.map_id] at hk; exact hk
set_option maxHeartbeats 4000000
set_option maxRecDepth 20000
theorem c_laws_markStore (v0 : Int) (v1 : Int) (L2 : Nat) (e2 : List (List V)) (L3 : Nat) (e3 : List (List V)) (k : Nat) (q2 : ∀ r ∈ e2, isBox r) (q3 : ∀ r ∈ e3, isInt r) (hn : (V.labelsL [.int .i64 v0, .int .i64 v1, .sl (L2 + 1) 7 0 e2, .sl (L3 + 1) 1 0 e3]).Nodup) (hk : k + V.mnLL e2 + V.mnLL e3 ≤ 4611686018427387904) {h : List V} {n : Nat} (hlt : ∀ y ∈ V.labelsL [.int .i64 v0, .int .i64 v1, .sl (L2 + 1) 7 0 e2, .sl (L3 + 1) 1 0 e3], y < n) : OkCall Try.prog 92 [.agg [.int .i64 v0, .int .i64 v1, .sl (L2 + 1) 7 0 e2, .sl (L3 + 1) 1 0 e3], .int .i64 (k : Int)] h n (MarkQ (· ∈ V.labelsL [.int .i64 v0, .int .i64 v1, .sl (L2 + 1) 7 0 e2, .sl (L3 + 1) 1 0 e3]) (.agg [.int .i64 v0, .int .i64 v1, .sl (L2 + 1) 7 0 e2, .sl (L3 + 1) 1 0 e3]) (.agg [.int .i64 v0, .int .i64 v1, .sl (L2 + 1) 7 0 (V.mkLL (k) e2), .sl (L3 + 1) 1 0 (V.mkLL (k + V.mnLL e2) e3)]) (.int .i64 ((k + V.mnLL e2 + V.mnLL e3 : Nat) : Int)) h (n + 1)) := by
  refine OkCall.enter' tab_ok Try.func92 rfl (t := [.agg [.int .i64 v0, .int .i64 v1, .sl (L2 + 1) 7 0 e2, .sl (L3 + 1) 1 0 e3], .int .i64 (k : Int), .any, .any, .any, .any, .any, .any, .any, .any, .any, .any, .any, .any]) rfl ?_
  refine Ok.seq ?_
  refine Ok.region ?_
  iterate 2 (refine OkOps.ev tab_ok rfl (by simp only [kev, ktab, klen, kcv] <;> rfl) (by simp only [kput] <;> rfl) ?_)
  refine OkOps.nil ?_
  refine Ok.seq ?_
  refine Ok.region ?_
  refine OkOps.ofMap ?_
  have hU := Hom.id' (· ∈ V.labelsL [.int .i64 v0, .int .i64 v1, .sl (L2 + 1) 7 0 e2, .sl (L3 + 1) 1 0 e3])
  have hv : id (V.agg [.int .i64 v0, .int .i64 v1, .sl (L2 + 1) 7 0 e2, .sl (L3 + 1) 1 0 e3]) = .agg [.int .i64 v0, .int .i64 v1, .sl (L2 + 1) 7 0 e2, .sl (L3 + 1) 1 0 e3] := rfl
  obtain ⟨nc0, da0, db0, du0⟩ := lab_mid (a := [.int .i64 v0, .int .i64 v1]) (c := [.sl (L2 + 1) 7 0 e2]) (b := [.sl (L3 + 1) 1 0 e3]) hn
  have no0 : ¬ n ∈ V.labelsL [.sl (L2 + 1) 7 0 e2] := fun h => Nat.lt_irrefl _ (hlt n (du0 n h))
  have ncs0 : ((L2 + 1) :: V.labelsLL e2).Nodup := by have := nc0; simp only [V.labelsL, V.labels, List.append_nil] at this; exact this
  have sm0 : ∀ y, y ∈ (L2 + 1) :: V.labelsLL e2 → y ∈ V.labelsL [.sl (L2 + 1) 7 0 e2] := fun y hy => by simp only [V.labelsL, V.labels, List.append_nil]; exact hy
  obtain ⟨nc1, da1, db1, du1⟩ := lab_mid (a := [.int .i64 v0, .int .i64 v1, .sl (L2 + 1) 7 0 e2]) (c := [.sl (L3 + 1) 1 0 e3]) (b := []) hn
  have no1 : ¬ n ∈ V.labelsL [.sl (L3 + 1) 1 0 e3] := fun h => Nat.lt_irrefl _ (hlt n (du1 n h))
  have ncs1 : ((L3 + 1) :: V.labelsLL e3).Nodup := by have := nc1; simp only [V.labelsL, V.labels, List.append_nil] at this; exact this
  have sm1 : ∀ y, y ∈ (L3 + 1) :: V.labelsLL e3 → y ∈ V.labelsL [.sl (L3 + 1) 1 0 e3] := fun y hy => by simp only [V.labelsL, V.labels, List.append_nil]; exact hy
  iterate 3 (refine OkOps.ev tab_ok rfl (by simp only [kev, ktab, klen, kcv] <;> rfl) (by simp only [kput] <;> rfl) ?_)
  refine OkOps.turnU 0 rfl rfl (by simp only [kev, ktab, klen, kcv] <;> rfl) (by simp only [kev, ktab, klen, kcv] <;> rfl) cl78 (fun h => c_laws_markBoxS e2 _ L2 q2 ncs0 (by omega)) (by first | rfl | (simp only [Nat.add_zero, Nat.reduceAdd] <;> rfl)) hU hv (fun y hy => du0 y (sm0 y hy)) (fun W hW ha => by have z3 := hW.far (.sl (L3 + 1) 1 0 e3) (fun y hy => (fun y hy h => db0 y hy (sm0 y h)) y (by simp only [V.labelsL, List.mem_append]; simp only [hy, true_or, or_true])); have zz3 := fun K => hW.far (.sl (L3 + 1) 1 0 (V.mkLL K e3)) (fun y hy => (fun y hy h => db0 y hy (sm0 y h)) y (by simp only [V.labels, mkLL_labels] at hy; simp only [V.labelsL, V.labels, List.mem_append]; simp only [hy, true_or, or_true])); simp only [List.map_cons, List.map_nil, List.map_append, hW.int, hW.str, hW.bool, hW.any, hW.tup0, hW.agg, ha, kput, hW.ptr n _ _ _ (fun h => no0 (sm0 n h)), z3, zz3] <;> rfl) (fun W hW ha => by have z3 := hW.far (.sl (L3 + 1) 1 0 e3) (fun y hy => (fun y hy h => db0 y hy (sm0 y h)) y (by simp only [V.labelsL, List.mem_append]; simp only [hy, true_or, or_true])); have zz3 := fun K => hW.far (.sl (L3 + 1) 1 0 (V.mkLL K e3)) (fun y hy => (fun y hy h => db0 y hy (sm0 y h)) y (by simp only [V.labels, mkLL_labels] at hy; simp only [V.labelsL, V.labels, List.mem_append]; simp only [hy, true_or, or_true])); simp only [List.map_cons, List.map_nil, List.map_append, hW.int, hW.str, hW.bool, hW.any, hW.tup0, hW.agg, ha, kput, hW.ptr n _ _ _ (fun h => no0 (sm0 n h)), z3, zz3] <;> rfl) ?_
  intro U hU hv
  refine OkOps.ev tab_ok rfl (by simp only [kev, ktab, klen, kcv] <;> rfl) (by simp only [kput] <;> rfl) ?_
  refine OkOps.nil ?_
  refine Ok.seq ?_
  refine Ok.drop [5, 6, 7, 8] (by simp only [kover] <;> rfl) ?_
  refine Ok.region ?_
  iterate 3 (refine OkOps.ev tab_ok rfl (by simp only [kev, ktab, klen, kcv] <;> rfl) (by simp only [kput] <;> rfl) ?_)
  refine OkOps.turnU 0 rfl rfl (by simp only [kev, ktab, klen, kcv] <;> rfl) (by simp only [kev, ktab, klen, kcv] <;> rfl) cl58 (fun h => c_laws_markIntS e3 _ L3 q3 ncs1 (by omega)) (by first | rfl | (simp only [Nat.add_zero, Nat.reduceAdd] <;> rfl)) hU hv (fun y hy => du1 y (sm1 y hy)) (fun W hW ha => by have z2 := hW.far (.sl (L2 + 1) 7 0 e2) (fun y hy => (fun y hy h => da1 y hy (sm1 y h)) y (by simp only [V.labelsL, List.mem_append]; simp only [hy, true_or, or_true])); have zz2 := fun K => hW.far (.sl (L2 + 1) 7 0 (V.mkLL K e2)) (fun y hy => (fun y hy h => da1 y hy (sm1 y h)) y (by simp only [V.labels, mkLL_labels] at hy; simp only [V.labelsL, V.labels, List.mem_append]; simp only [hy, true_or, or_true])); simp only [List.map_cons, List.map_nil, List.map_append, hW.int, hW.str, hW.bool, hW.any, hW.tup0, hW.agg, ha, kput, hW.ptr n _ _ _ (fun h => no1 (sm1 n h)), z2, zz2] <;> rfl) (fun W hW ha => by have z2 := hW.far (.sl (L2 + 1) 7 0 e2) (fun y hy => (fun y hy h => da1 y hy (sm1 y h)) y (by simp only [V.labelsL, List.mem_append]; simp only [hy, true_or, or_true])); have zz2 := fun K => hW.far (.sl (L2 + 1) 7 0 (V.mkLL K e2)) (fun y hy => (fun y hy h => da1 y hy (sm1 y h)) y (by simp only [V.labels, mkLL_labels] at hy; simp only [V.labelsL, V.labels, List.mem_append]; simp only [hy, true_or, or_true])); simp only [List.map_cons, List.map_nil, List.map_append, hW.int, hW.str, hW.bool, hW.any, hW.tup0, hW.agg, ha, kput, hW.ptr n _ _ _ (fun h => no1 (sm1 n h)), z2, zz2] <;> rfl) ?_
  intro U hU hv
  refine OkOps.ev tab_ok rfl (by simp only [kev, ktab, klen, kcv] <;> rfl) (by simp only [kput] <;> rfl) ?_
  refine OkOps.nil ?_
  refine Ok.seq ?_
  refine Ok.drop [9, 10, 11, 12] (by simp only [kover] <;> rfl) ?_
  refine Ok.region ?_
  iterate 2 (refine OkOps.ev tab_ok rfl (by simp only [kev, ktab, klen, kcv] <;> rfl) (by simp only [kput] <;> rfl) ?_)
  refine OkOps.nil ?_
  refine Ok.ret ?_
  repeat (first | with_reducible refine thenQ_ret ?_ | with_reducible refine blockQ_ret ?_)
  refine retQ.end (by show resVs tab _ [.tmp 4] = _; simp only [kev, ktab, klen, kcv] <;> rfl) rfl ?_
  exact ⟨rfl, rfl, U, hU, hv, rfl⟩
theorem c_laws_markKept (v0 : Int) (v1 : Int) (L2 : Nat) (e2 : List (List V)) (L3 : Nat) (e3 : List (List V)) (v4 : Str) (v5 : Int) (k : Nat) (q2 : ∀ r ∈ e2, isBox r) (q3 : ∀ r ∈ e3, isInt r) (hn : (V.labelsL [.int .i64 v0, .int .i64 v1, .sl (L2 + 1) 7 0 e2, .sl (L3 + 1) 1 0 e3, .str v4, .int .i64 v5]).Nodup) (hk : k + V.mnLL e2 + V.mnLL e3 ≤ 4611686018427387904) {h : List V} {n : Nat} (hlt : ∀ y ∈ V.labelsL [.int .i64 v0, .int .i64 v1, .sl (L2 + 1) 7 0 e2, .sl (L3 + 1) 1 0 e3, .str v4, .int .i64 v5], y < n) : OkCall Try.prog 53 [.agg [.int .i64 v0, .int .i64 v1, .sl (L2 + 1) 7 0 e2, .sl (L3 + 1) 1 0 e3, .str v4, .int .i64 v5], .int .i64 (k : Int)] h n (MarkQ (· ∈ V.labelsL [.int .i64 v0, .int .i64 v1, .sl (L2 + 1) 7 0 e2, .sl (L3 + 1) 1 0 e3, .str v4, .int .i64 v5]) (.agg [.int .i64 v0, .int .i64 v1, .sl (L2 + 1) 7 0 e2, .sl (L3 + 1) 1 0 e3, .str v4, .int .i64 v5]) (.agg [.int .i64 v0, .int .i64 v1, .sl (L2 + 1) 7 0 (V.mkLL (k) e2), .sl (L3 + 1) 1 0 (V.mkLL (k + V.mnLL e2) e3), .str v4, .int .i64 v5]) (.int .i64 ((k + V.mnLL e2 + V.mnLL e3 : Nat) : Int)) h (n + 2)) := by
  refine OkCall.enter' tab_ok Try.func53 rfl (t := [.agg [.int .i64 v0, .int .i64 v1, .sl (L2 + 1) 7 0 e2, .sl (L3 + 1) 1 0 e3, .str v4, .int .i64 v5], .int .i64 (k : Int), .any, .any, .any, .any, .any, .any, .any, .any]) rfl ?_
  refine Ok.seq ?_
  refine Ok.region ?_
  iterate 2 (refine OkOps.ev tab_ok rfl (by simp only [kev, ktab, klen, kcv] <;> rfl) (by simp only [kput] <;> rfl) ?_)
  refine OkOps.nil ?_
  refine Ok.seq ?_
  refine Ok.region ?_
  refine OkOps.ofMap ?_
  have hU := Hom.id' (· ∈ V.labelsL [.int .i64 v0, .int .i64 v1, .sl (L2 + 1) 7 0 e2, .sl (L3 + 1) 1 0 e3, .str v4, .int .i64 v5])
  have hv : id (V.agg [.int .i64 v0, .int .i64 v1, .sl (L2 + 1) 7 0 e2, .sl (L3 + 1) 1 0 e3, .str v4, .int .i64 v5]) = .agg [.int .i64 v0, .int .i64 v1, .sl (L2 + 1) 7 0 e2, .sl (L3 + 1) 1 0 e3, .str v4, .int .i64 v5] := rfl
  obtain ⟨nc0, da0, db0, du0⟩ := lab_mid (a := []) (c := [.int .i64 v0, .int .i64 v1, .sl (L2 + 1) 7 0 e2, .sl (L3 + 1) 1 0 e3]) (b := [.str v4, .int .i64 v5]) hn
  have no0 : ¬ n ∈ V.labelsL [.int .i64 v0, .int .i64 v1, .sl (L2 + 1) 7 0 e2, .sl (L3 + 1) 1 0 e3] := fun h => Nat.lt_irrefl _ (hlt n (du0 n h))
  iterate 3 (refine OkOps.ev tab_ok rfl (by simp only [kev, ktab, klen, kcv] <;> rfl) (by simp only [kput] <;> rfl) ?_)
  refine OkOps.turnU 1 rfl rfl (by simp only [kev, ktab, klen, kcv] <;> rfl) (by simp only [kev, ktab, klen, kcv] <;> rfl) cl92 (fun h => c_laws_markStore v0 v1 L2 e2 L3 e3 _ q2 q3 nc0 (by omega) (fun y hy => by have := hlt y (du0 y hy); omega)) (by first | rfl | (simp only [Nat.add_zero, Nat.reduceAdd] <;> rfl)) hU hv (fun y hy => du0 y hy) (fun W hW ha => by have ha2 := ha; simp only [hW.agg, List.map_cons, List.map_nil, hW.int, hW.str, hW.bool, V.agg.injEq, List.cons.injEq, and_true, true_and] at ha2; simp only [List.map_cons, List.map_nil, List.map_append, hW.int, hW.str, hW.bool, hW.any, hW.tup0, hW.agg, ha, kput, hW.ptr n _ _ _ no0, ha2] <;> rfl) (fun W hW ha => by have ha2 := ha; simp only [hW.agg, List.map_cons, List.map_nil, hW.int, hW.str, hW.bool, V.agg.injEq, List.cons.injEq, and_true, true_and] at ha2; simp only [List.map_cons, List.map_nil, List.map_append, hW.int, hW.str, hW.bool, hW.any, hW.tup0, hW.agg, ha, kput, hW.ptr n _ _ _ no0, ha2] <;> rfl) ?_
  intro U hU hv
  refine OkOps.ev tab_ok rfl (by simp only [kev, ktab, klen, kcv] <;> rfl) (by simp only [kput] <;> rfl) ?_
  refine OkOps.nil ?_
  refine Ok.seq ?_
  refine Ok.drop [5, 6, 7, 8] (by simp only [kover] <;> rfl) ?_
  refine Ok.region ?_
  iterate 2 (refine OkOps.ev tab_ok rfl (by simp only [kev, ktab, klen, kcv] <;> rfl) (by simp only [kput] <;> rfl) ?_)
  refine OkOps.nil ?_
  refine Ok.ret ?_
  repeat (first | with_reducible refine thenQ_ret ?_ | with_reducible refine blockQ_ret ?_)
  refine retQ.end (by show resVs tab _ [.tmp 4] = _; simp only [kev, ktab, klen, kcv] <;> rfl) rfl ?_
  exact ⟨rfl, rfl, U, hU, hv, rfl⟩
theorem c_laws_markSession (v0 : Str) (v1 : Str) (v2 : Bool) (v3 : Bool) (v4 : Int) (L5 : Nat) (e5 : List (List V)) (k : Nat) (q5 : ∀ r ∈ e5, isInt r) (hn : (V.labelsL [.str v0, .str v1, .bool v2, .bool v3, .int .i64 v4, .sl (L5 + 1) 1 0 e5]).Nodup) (hk : k + V.mnLL e5 ≤ 4611686018427387904) {h : List V} {n : Nat} (hlt : ∀ y ∈ V.labelsL [.str v0, .str v1, .bool v2, .bool v3, .int .i64 v4, .sl (L5 + 1) 1 0 e5], y < n) : OkCall Try.prog 54 [.agg [.str v0, .str v1, .bool v2, .bool v3, .int .i64 v4, .sl (L5 + 1) 1 0 e5], .int .i64 (k : Int)] h n (MarkQ (· ∈ V.labelsL [.str v0, .str v1, .bool v2, .bool v3, .int .i64 v4, .sl (L5 + 1) 1 0 e5]) (.agg [.str v0, .str v1, .bool v2, .bool v3, .int .i64 v4, .sl (L5 + 1) 1 0 e5]) (.agg [.str v0, .str v1, .bool v2, .bool v3, .int .i64 v4, .sl (L5 + 1) 1 0 (V.mkLL (k) e5)]) (.int .i64 ((k + V.mnLL e5 : Nat) : Int)) h (n + 1)) := by
  refine OkCall.enter' tab_ok Try.func54 rfl (t := [.agg [.str v0, .str v1, .bool v2, .bool v3, .int .i64 v4, .sl (L5 + 1) 1 0 e5], .int .i64 (k : Int), .any, .any, .any, .any, .any, .any, .any, .any]) rfl ?_
  refine Ok.seq ?_
  refine Ok.region ?_
  iterate 2 (refine OkOps.ev tab_ok rfl (by simp only [kev, ktab, klen, kcv] <;> rfl) (by simp only [kput] <;> rfl) ?_)
  refine OkOps.nil ?_
  refine Ok.seq ?_
  refine Ok.region ?_
  refine OkOps.ofMap ?_
  have hU := Hom.id' (· ∈ V.labelsL [.str v0, .str v1, .bool v2, .bool v3, .int .i64 v4, .sl (L5 + 1) 1 0 e5])
  have hv : id (V.agg [.str v0, .str v1, .bool v2, .bool v3, .int .i64 v4, .sl (L5 + 1) 1 0 e5]) = .agg [.str v0, .str v1, .bool v2, .bool v3, .int .i64 v4, .sl (L5 + 1) 1 0 e5] := rfl
  obtain ⟨nc0, da0, db0, du0⟩ := lab_mid (a := [.str v0, .str v1, .bool v2, .bool v3, .int .i64 v4]) (c := [.sl (L5 + 1) 1 0 e5]) (b := []) hn
  have no0 : ¬ n ∈ V.labelsL [.sl (L5 + 1) 1 0 e5] := fun h => Nat.lt_irrefl _ (hlt n (du0 n h))
  have ncs0 : ((L5 + 1) :: V.labelsLL e5).Nodup := by have := nc0; simp only [V.labelsL, V.labels, List.append_nil] at this; exact this
  have sm0 : ∀ y, y ∈ (L5 + 1) :: V.labelsLL e5 → y ∈ V.labelsL [.sl (L5 + 1) 1 0 e5] := fun y hy => by simp only [V.labelsL, V.labels, List.append_nil]; exact hy
  iterate 3 (refine OkOps.ev tab_ok rfl (by simp only [kev, ktab, klen, kcv] <;> rfl) (by simp only [kput] <;> rfl) ?_)
  refine OkOps.turnU 0 rfl rfl (by simp only [kev, ktab, klen, kcv] <;> rfl) (by simp only [kev, ktab, klen, kcv] <;> rfl) cl58 (fun h => c_laws_markIntS e5 _ L5 q5 ncs0 (by omega)) (by first | rfl | (simp only [Nat.add_zero, Nat.reduceAdd] <;> rfl)) hU hv (fun y hy => du0 y (sm0 y hy)) (fun W hW ha => by simp only [List.map_cons, List.map_nil, List.map_append, hW.int, hW.str, hW.bool, hW.any, hW.tup0, hW.agg, ha, kput, hW.ptr n _ _ _ (fun h => no0 (sm0 n h))] <;> rfl) (fun W hW ha => by simp only [List.map_cons, List.map_nil, List.map_append, hW.int, hW.str, hW.bool, hW.any, hW.tup0, hW.agg, ha, kput, hW.ptr n _ _ _ (fun h => no0 (sm0 n h))] <;> rfl) ?_
  intro U hU hv
  refine OkOps.ev tab_ok rfl (by simp only [kev, ktab, klen, kcv] <;> rfl) (by simp only [kput] <;> rfl) ?_
  refine OkOps.nil ?_
  refine Ok.seq ?_
  refine Ok.drop [5, 6, 7, 8] (by simp only [kover] <;> rfl) ?_
  refine Ok.region ?_
  iterate 2 (refine OkOps.ev tab_ok rfl (by simp only [kev, ktab, klen, kcv] <;> rfl) (by simp only [kput] <;> rfl) ?_)
  refine OkOps.nil ?_
  refine Ok.ret ?_
  repeat (first | with_reducible refine thenQ_ret ?_ | with_reducible refine blockQ_ret ?_)
  refine retQ.end (by show resVs tab _ [.tmp 4] = _; simp only [kev, ktab, klen, kcv] <;> rfl) rfl ?_
  exact ⟨rfl, rfl, U, hU, hv, rfl⟩
theorem c_laws_markServer (v0 : Int) (v1 : Int) (L2 : Nat) (e2 : List (List V)) (L3 : Nat) (e3 : List (List V)) (v4 : Str) (v5 : Int) (v6 : Str) (v7 : Str) (v8 : Bool) (v9 : Bool) (v10 : Int) (L11 : Nat) (e11 : List (List V)) (v12 : Bool) (k : Nat) (q2 : ∀ r ∈ e2, isBox r) (q3 : ∀ r ∈ e3, isInt r) (q11 : ∀ r ∈ e11, isInt r) (hn : (V.labelsL [.int .i64 v0, .int .i64 v1, .sl (L2 + 1) 7 0 e2, .sl (L3 + 1) 1 0 e3, .str v4, .int .i64 v5, .str v6, .str v7, .bool v8, .bool v9, .int .i64 v10, .sl (L11 + 1) 1 0 e11, .bool v12]).Nodup) (hk : k + V.mnLL e2 + V.mnLL e3 + V.mnLL e11 ≤ 4611686018427387904) {h : List V} {n : Nat} (hlt : ∀ y ∈ V.labelsL [.int .i64 v0, .int .i64 v1, .sl (L2 + 1) 7 0 e2, .sl (L3 + 1) 1 0 e3, .str v4, .int .i64 v5, .str v6, .str v7, .bool v8, .bool v9, .int .i64 v10, .sl (L11 + 1) 1 0 e11, .bool v12], y < n) : OkCall Try.prog 19 [.agg [.int .i64 v0, .int .i64 v1, .sl (L2 + 1) 7 0 e2, .sl (L3 + 1) 1 0 e3, .str v4, .int .i64 v5, .str v6, .str v7, .bool v8, .bool v9, .int .i64 v10, .sl (L11 + 1) 1 0 e11, .bool v12], .int .i64 (k : Int)] h n (MarkQ (· ∈ V.labelsL [.int .i64 v0, .int .i64 v1, .sl (L2 + 1) 7 0 e2, .sl (L3 + 1) 1 0 e3, .str v4, .int .i64 v5, .str v6, .str v7, .bool v8, .bool v9, .int .i64 v10, .sl (L11 + 1) 1 0 e11, .bool v12]) (.agg [.int .i64 v0, .int .i64 v1, .sl (L2 + 1) 7 0 e2, .sl (L3 + 1) 1 0 e3, .str v4, .int .i64 v5, .str v6, .str v7, .bool v8, .bool v9, .int .i64 v10, .sl (L11 + 1) 1 0 e11, .bool v12]) (.agg [.int .i64 v0, .int .i64 v1, .sl (L2 + 1) 7 0 (V.mkLL (k) e2), .sl (L3 + 1) 1 0 (V.mkLL (k + V.mnLL e2) e3), .str v4, .int .i64 v5, .str v6, .str v7, .bool v8, .bool v9, .int .i64 v10, .sl (L11 + 1) 1 0 (V.mkLL (k + V.mnLL e2 + V.mnLL e3) e11), .bool v12]) (.int .i64 ((k + V.mnLL e2 + V.mnLL e3 + V.mnLL e11 : Nat) : Int)) h (n + 4)) := by
  refine OkCall.enter' tab_ok Try.func19 rfl (t := [.agg [.int .i64 v0, .int .i64 v1, .sl (L2 + 1) 7 0 e2, .sl (L3 + 1) 1 0 e3, .str v4, .int .i64 v5, .str v6, .str v7, .bool v8, .bool v9, .int .i64 v10, .sl (L11 + 1) 1 0 e11, .bool v12], .int .i64 (k : Int), .any, .any, .any, .any, .any, .any, .any, .any, .any, .any, .any, .any]) rfl ?_
  refine Ok.seq ?_
  refine Ok.region ?_
  iterate 2 (refine OkOps.ev tab_ok rfl (by simp only [kev, ktab, klen, kcv] <;> rfl) (by simp only [kput] <;> rfl) ?_)
  refine OkOps.nil ?_
  refine Ok.seq ?_
  refine Ok.region ?_
  refine OkOps.ofMap ?_
  have hU := Hom.id' (· ∈ V.labelsL [.int .i64 v0, .int .i64 v1, .sl (L2 + 1) 7 0 e2, .sl (L3 + 1) 1 0 e3, .str v4, .int .i64 v5, .str v6, .str v7, .bool v8, .bool v9, .int .i64 v10, .sl (L11 + 1) 1 0 e11, .bool v12])
  have hv : id (V.agg [.int .i64 v0, .int .i64 v1, .sl (L2 + 1) 7 0 e2, .sl (L3 + 1) 1 0 e3, .str v4, .int .i64 v5, .str v6, .str v7, .bool v8, .bool v9, .int .i64 v10, .sl (L11 + 1) 1 0 e11, .bool v12]) = .agg [.int .i64 v0, .int .i64 v1, .sl (L2 + 1) 7 0 e2, .sl (L3 + 1) 1 0 e3, .str v4, .int .i64 v5, .str v6, .str v7, .bool v8, .bool v9, .int .i64 v10, .sl (L11 + 1) 1 0 e11, .bool v12] := rfl
  obtain ⟨nc0, da0, db0, du0⟩ := lab_mid (a := []) (c := [.int .i64 v0, .int .i64 v1, .sl (L2 + 1) 7 0 e2, .sl (L3 + 1) 1 0 e3, .str v4, .int .i64 v5]) (b := [.str v6, .str v7, .bool v8, .bool v9, .int .i64 v10, .sl (L11 + 1) 1 0 e11, .bool v12]) hn
  have no0 : ¬ n ∈ V.labelsL [.int .i64 v0, .int .i64 v1, .sl (L2 + 1) 7 0 e2, .sl (L3 + 1) 1 0 e3, .str v4, .int .i64 v5] := fun h => Nat.lt_irrefl _ (hlt n (du0 n h))
  obtain ⟨nc1, da1, db1, du1⟩ := lab_mid (a := [.int .i64 v0, .int .i64 v1, .sl (L2 + 1) 7 0 e2, .sl (L3 + 1) 1 0 e3, .str v4, .int .i64 v5]) (c := [.str v6, .str v7, .bool v8, .bool v9, .int .i64 v10, .sl (L11 + 1) 1 0 e11]) (b := [.bool v12]) hn
  have no1 : ¬ n ∈ V.labelsL [.str v6, .str v7, .bool v8, .bool v9, .int .i64 v10, .sl (L11 + 1) 1 0 e11] := fun h => Nat.lt_irrefl _ (hlt n (du1 n h))
  iterate 3 (refine OkOps.ev tab_ok rfl (by simp only [kev, ktab, klen, kcv] <;> rfl) (by simp only [kput] <;> rfl) ?_)
  refine OkOps.turnU 2 rfl rfl (by simp only [kev, ktab, klen, kcv] <;> rfl) (by simp only [kev, ktab, klen, kcv] <;> rfl) cl53 (fun h => c_laws_markKept v0 v1 L2 e2 L3 e3 v4 v5 _ q2 q3 nc0 (by omega) (fun y hy => by have := hlt y (du0 y hy); omega)) (by first | rfl | (simp only [Nat.add_zero, Nat.reduceAdd] <;> rfl)) hU hv (fun y hy => du0 y hy) (fun W hW ha => by have z11 := hW.far (.sl (L11 + 1) 1 0 e11) (fun y hy => db0 y (by simp only [V.labelsL, List.mem_append]; simp only [hy, true_or, or_true])); have zz11 := fun K => hW.far (.sl (L11 + 1) 1 0 (V.mkLL K e11)) (fun y hy => db0 y (by simp only [V.labels, mkLL_labels] at hy; simp only [V.labelsL, V.labels, List.mem_append]; simp only [hy, true_or, or_true])); have ha2 := ha; simp only [hW.agg, List.map_cons, List.map_nil, hW.int, hW.str, hW.bool, V.agg.injEq, List.cons.injEq, and_true, true_and] at ha2; simp only [List.map_cons, List.map_nil, List.map_append, hW.int, hW.str, hW.bool, hW.any, hW.tup0, hW.agg, ha, kput, hW.ptr n _ _ _ no0, z11, zz11, ha2] <;> rfl) (fun W hW ha => by have z11 := hW.far (.sl (L11 + 1) 1 0 e11) (fun y hy => db0 y (by simp only [V.labelsL, List.mem_append]; simp only [hy, true_or, or_true])); have zz11 := fun K => hW.far (.sl (L11 + 1) 1 0 (V.mkLL K e11)) (fun y hy => db0 y (by simp only [V.labels, mkLL_labels] at hy; simp only [V.labelsL, V.labels, List.mem_append]; simp only [hy, true_or, or_true])); have ha2 := ha; simp only [hW.agg, List.map_cons, List.map_nil, hW.int, hW.str, hW.bool, V.agg.injEq, List.cons.injEq, and_true, true_and] at ha2; simp only [List.map_cons, List.map_nil, List.map_append, hW.int, hW.str, hW.bool, hW.any, hW.tup0, hW.agg, ha, kput, hW.ptr n _ _ _ no0, z11, zz11, ha2] <;> rfl) ?_
  intro U hU hv
  refine OkOps.ev tab_ok rfl (by simp only [kev, ktab, klen, kcv] <;> rfl) (by simp only [kput] <;> rfl) ?_
  refine OkOps.nil ?_
  refine Ok.seq ?_
  refine Ok.drop [5, 6, 7, 8] (by simp only [kover] <;> rfl) ?_
  refine Ok.region ?_
  iterate 3 (refine OkOps.ev tab_ok rfl (by simp only [kev, ktab, klen, kcv] <;> rfl) (by simp only [kput] <;> rfl) ?_)
  refine OkOps.turnU 1 rfl rfl (by simp only [kev, ktab, klen, kcv] <;> rfl) (by simp only [kev, ktab, klen, kcv] <;> rfl) cl54 (fun h => c_laws_markSession v6 v7 v8 v9 v10 L11 e11 _ q11 nc1 (by omega) (fun y hy => by have := hlt y (du1 y hy); omega)) (by first | rfl | (simp only [Nat.add_zero, Nat.reduceAdd] <;> rfl)) hU hv (fun y hy => du1 y hy) (fun W hW ha => by have z2 := hW.far (.sl (L2 + 1) 7 0 e2) (fun y hy => da1 y (by simp only [V.labelsL, List.mem_append]; simp only [hy, true_or, or_true])); have zz2 := fun K => hW.far (.sl (L2 + 1) 7 0 (V.mkLL K e2)) (fun y hy => da1 y (by simp only [V.labels, mkLL_labels] at hy; simp only [V.labelsL, V.labels, List.mem_append]; simp only [hy, true_or, or_true])); have z3 := hW.far (.sl (L3 + 1) 1 0 e3) (fun y hy => da1 y (by simp only [V.labelsL, List.mem_append]; simp only [hy, true_or, or_true])); have zz3 := fun K => hW.far (.sl (L3 + 1) 1 0 (V.mkLL K e3)) (fun y hy => da1 y (by simp only [V.labels, mkLL_labels] at hy; simp only [V.labelsL, V.labels, List.mem_append]; simp only [hy, true_or, or_true])); have ha2 := ha; simp only [hW.agg, List.map_cons, List.map_nil, hW.int, hW.str, hW.bool, V.agg.injEq, List.cons.injEq, and_true, true_and] at ha2; simp only [List.map_cons, List.map_nil, List.map_append, hW.int, hW.str, hW.bool, hW.any, hW.tup0, hW.agg, ha, kput, hW.ptr n _ _ _ no1, z2, zz2, z3, zz3, ha2] <;> rfl) (fun W hW ha => by have z2 := hW.far (.sl (L2 + 1) 7 0 e2) (fun y hy => da1 y (by simp only [V.labelsL, List.mem_append]; simp only [hy, true_or, or_true])); have zz2 := fun K => hW.far (.sl (L2 + 1) 7 0 (V.mkLL K e2)) (fun y hy => da1 y (by simp only [V.labels, mkLL_labels] at hy; simp only [V.labelsL, V.labels, List.mem_append]; simp only [hy, true_or, or_true])); have z3 := hW.far (.sl (L3 + 1) 1 0 e3) (fun y hy => da1 y (by simp only [V.labelsL, List.mem_append]; simp only [hy, true_or, or_true])); have zz3 := fun K => hW.far (.sl (L3 + 1) 1 0 (V.mkLL K e3)) (fun y hy => da1 y (by simp only [V.labels, mkLL_labels] at hy; simp only [V.labelsL, V.labels, List.mem_append]; simp only [hy, true_or, or_true])); have ha2 := ha; simp only [hW.agg, List.map_cons, List.map_nil, hW.int, hW.str, hW.bool, V.agg.injEq, List.cons.injEq, and_true, true_and] at ha2; simp only [List.map_cons, List.map_nil, List.map_append, hW.int, hW.str, hW.bool, hW.any, hW.tup0, hW.agg, ha, kput, hW.ptr n _ _ _ no1, z2, zz2, z3, zz3, ha2] <;> rfl) ?_
  intro U hU hv
  refine OkOps.ev tab_ok rfl (by simp only [kev, ktab, klen, kcv] <;> rfl) (by simp only [kput] <;> rfl) ?_
  refine OkOps.nil ?_
  refine Ok.seq ?_
  refine Ok.drop [9, 10, 11, 12] (by simp only [kover] <;> rfl) ?_
  refine Ok.region ?_
  iterate 2 (refine OkOps.ev tab_ok rfl (by simp only [kev, ktab, klen, kcv] <;> rfl) (by simp only [kput] <;> rfl) ?_)
  refine OkOps.nil ?_
  refine Ok.ret ?_
  repeat (first | with_reducible refine thenQ_ret ?_ | with_reducible refine blockQ_ret ?_)
  refine retQ.end (by show resVs tab _ [.tmp 4] = _; simp only [kev, ktab, klen, kcv] <;> rfl) rfl ?_
  exact ⟨rfl, rfl, U, hU, hv, rfl⟩
end Go.Proofs.Ytjhfabimacljhaa.K
