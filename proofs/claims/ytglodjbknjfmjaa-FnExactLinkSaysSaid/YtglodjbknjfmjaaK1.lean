/- Walks: sizes, copies, comparisons. Printed by walk.py. -/
import Derived.Test.YtglodjbknjfmjaaKw
namespace Go.Proofs.Ytglodjbknjfmjaa.K
open Go Go.RowKit
set_option linter.unusedVariables false
set_option linter.unusedSimpArgs false
theorem f70 (a : List Str) (left : Int) : Weak Try.prog 70 [.sl 0 1 0 (a.map cS), .int .i64 left] (.int .i64 (szStrs a left)) := by
  refine Weak.len 0 rfl fun ha => ?_
  refine Weak.enter tab_ok Try.func70 rfl (.inr (by simp [V.labelsL, V.labels, zl])) (t := [.sl 0 1 0 (a.map cS), .int .i64 left, .any, .any, .any, .any, .any, .any, .any, .any, .any, .any, .any, .any, .any, .any, .any, .any, .any, .any, .any, .any, .any, .any, .any, .any, .any, .any]) rfl ?_
  refine Ok.seq ?_
  refine Ok.region ?_
  refine OkOps.ev tab_ok rfl (by simp only [kev, ktab, klen] <;> rfl) (by simp only [kput] <;> rfl) ?_
  refine OkOps.nil ?_
  refine Ok.seq ?_
  refine Ok.region ?_
  iterate 5 (refine OkOps.ev tab_ok rfl (by simp only [kev, ktab, klen] <;> rfl) (by simp only [kput] <;> rfl) ?_)
  refine OkOps.nil ?_
  refine Ok.seq ?_
  refine Ok.seq ?_
  refine Ok.region ?_
  iterate 2 (refine OkOps.ev tab_ok rfl (by simp only [kev, ktab, klen] <;> rfl) (by simp only [kput] <;> rfl) ?_)
  refine OkOps.nil ?_
  refine Ok.cond (b := _) (by simp only [kev, ktab, klen] <;> rfl) (fun hb2 => ?_) (fun hb2 => ?_)
  · simp only [bsimp] at hb2
    refine Ok.seq ?_
    refine Ok.region ?_
    refine OkOps.ev tab_ok rfl (by simp only [kev, ktab, klen] <;> rfl) (by simp only [kput] <;> rfl) ?_
    refine OkOps.nil ?_
    refine Ok.ret ?_
    repeat (first | with_reducible refine thenQ_ret ?_ | with_reducible refine blockQ_ret ?_)
    refine retQ.end (by show resVs tab _ [.tmp 4] = _; simp only [kev, ktab, klen] <;> rfl) rfl ?_
    simp only [szStrs, if_pos hb2]; rfl
  · simp only [bsimp] at hb2
    refine Ok.skip ?_
    refine Ok.seq ?_
    refine Ok.seq ?_
    refine Ok.region ?_
    refine OkOps.ev tab_ok rfl (by simp only [kev, ktab, klen] <;> rfl) (by simp only [kput] <;> rfl) ?_
    refine OkOps.nil ?_
    refine Ok.block ?_
    refine Ok.loopF (τ := Nat × Int) (fun x => [.sl 0 1 0 (a.map cS), .int .i64 x.2, .any, .any, .any, .int .i64 (x.1 : Int), .any, .any, .any, .any, .any, .any, .any, .any, .any, .any, .any, .any, .any, .any, .any, .any, .any, .any, .any, .any, .any, .any]) (fun x => x.1 ≤ a.length ∧ szLoop (a.drop x.1) x.2 = szLoop a (IntKind.i64.wrap (left - a.length))) (fun x => a.length - x.1) (0, IntKind.i64.wrap (left - a.length)) (by refine ⟨?_, ?_, ?_, ?_, ?_, ?_, ?_, ?_, ?_, ?_, ?_, ?_, ?_, ?_, ?_, ?_, ?_, ?_, ?_, ?_, ?_, ?_, ?_, ?_, ?_, ?_, ?_, ?_, trivial⟩ <;> first | exact le_any _ | exact le_rfl' _ | (fail)) (⟨Nat.zero_le _, rfl⟩) ?_
    rintro ⟨i, l⟩ ⟨h1, h4⟩
    refine Ok.seq ?_
    refine Ok.seq ?_
    refine Ok.region ?_
    iterate 4 (refine OkOps.ev tab_ok rfl (by simp only [kev, ktab, klen] <;> rfl) (by simp only [kput] <;> rfl) ?_)
    refine OkOps.nil ?_
    refine Ok.cond (b := _) (by simp only [kev, ktab, klen] <;> rfl) (fun hb5 => ?_) (fun hb5 => ?_)
    · simp only [bsimp] at hb5
      have hi : i < a.length := by omega
      have h3 : a.drop i = a[i] :: a.drop (i + 1) := List.drop_eq_getElem_cons hi
      refine Ok.skip ?_
      refine Ok.seq ?_
      refine Ok.block ?_
      refine Ok.seq ?_
      refine Ok.region ?_
      iterate 3 (refine OkOps.ev tab_ok rfl (by simp only [kev, ktab, klen] <;> rfl) (by simp only [kput] <;> rfl) ?_)
      refine OkOps.ev tab_ok rfl (ev_idx (by simp only [kev, ktab, klen] <;> rfl) (by simp only [kev, ktab, klen] <;> rfl) (by rw [List.getElem?_map, List.getElem?_eq_getElem hi]; rfl) (by simp only [kev, ktab, klen] <;> rfl)) (by simp only [kput] <;> rfl) ?_
      iterate 4 (refine OkOps.ev tab_ok rfl (by simp only [kev, ktab, klen] <;> rfl) (by simp only [kput] <;> rfl) ?_)
      refine OkOps.nil ?_
      refine Ok.seq ?_
      refine Ok.region ?_
      iterate 2 (refine OkOps.ev tab_ok rfl (by simp only [kev, ktab, klen] <;> rfl) (by simp only [kput] <;> rfl) ?_)
      refine OkOps.nil ?_
      refine Ok.cond (b := _) (by simp only [kev, ktab, klen] <;> rfl) (fun hb8 => ?_) (fun hb8 => ?_)
      · simp only [bsimp] at hb8
        refine Ok.seq ?_
        refine Ok.region ?_
        refine OkOps.ev tab_ok rfl (by simp only [kev, ktab, klen] <;> rfl) (by simp only [kput] <;> rfl) ?_
        refine OkOps.nil ?_
        refine Ok.ret ?_
        repeat (first | with_reducible refine thenQ_ret ?_ | with_reducible refine blockQ_ret ?_)
        refine retQ.end (by show resVs tab _ [.tmp 4] = _; simp only [kev, ktab, klen] <;> rfl) rfl ?_
        simp only [szStrs, if_neg hb2, ← h4]; rw [h3, szLoop, if_pos hb8]; rfl
      · simp only [bsimp] at hb8
        refine Ok.skip ?_
        refine Ok.region ?_
        iterate 3 (refine OkOps.ev tab_ok rfl (by simp only [kev, ktab, klen] <;> rfl) (by simp only [kput] <;> rfl) ?_)
        refine OkOps.nil ?_
        refine ⟨(i + 1, _), ?_, rfl, rfl, ⟨by omega, by rw [← h4, h3, szLoop, if_neg hb8]⟩, by simp only; omega⟩
        refine ⟨?_, ?_, ?_, ?_, ?_, ?_, ?_, ?_, ?_, ?_, ?_, ?_, ?_, ?_, ?_, ?_, ?_, ?_, ?_, ?_, ?_, ?_, ?_, ?_, ?_, ?_, ?_, ?_, trivial⟩ <;> first | exact le_any _ | exact le_rfl' _ | ((rw [wrap_succ (by simp only [List.length_map] at ha; unfold maxLen at ha; omega)]; exact le_rfl' _))
    · simp only [bsimp] at hb5
      refine Ok.exit ?_
      refine Ok.seq ?_
      refine Ok.region ?_
      iterate 2 (refine OkOps.ev tab_ok rfl (by simp only [kev, ktab, klen] <;> rfl) (by simp only [kput] <;> rfl) ?_)
      refine OkOps.nil ?_
      refine Ok.ret ?_
      repeat (first | with_reducible refine thenQ_ret ?_ | with_reducible refine blockQ_ret ?_)
      refine retQ.end (by show resVs tab _ [.tmp 4] = _; simp only [kev, ktab, klen] <;> rfl) rfl ?_
      simp only [szStrs, if_neg hb2, ← h4]; rw [List.drop_eq_nil_of_le (by omega)]; rfl
theorem f29 (l : Link) (left : Int) : Weak Try.prog 29 [.agg (cLink l), .int .i64 left] (.int .i64 (szLink l left)) := by
  refine Weak.enter tab_ok Try.func29 rfl (.inr (by simp [V.labelsL, V.labels, zl])) (t := [.agg (cLink l), .int .i64 left, .any, .any, .any, .any, .any, .any, .any, .any, .any, .any]) rfl ?_
  refine Ok.seq ?_
  refine Ok.region ?_
  iterate 2 (refine OkOps.ev tab_ok rfl (by simp only [kev, ktab, klen] <;> rfl) (by simp only [kput] <;> rfl) ?_)
  refine OkOps.nil ?_
  refine Ok.seq ?_
  refine Ok.region ?_
  iterate 3 (refine OkOps.ev tab_ok rfl (by simp only [kev, ktab, klen] <;> rfl) (by simp only [kput] <;> rfl) ?_)
  refine OkOps.S rfl (OpS.weak' rfl (by simp only [kev, ktab, klen] <;> rfl) (by simp only [kev, ktab, klen] <;> rfl) cl70 (f70 _ _)) (by simp only [kput] <;> rfl) ?_
  refine OkOps.ev tab_ok rfl (by simp only [kev, ktab, klen] <;> rfl) (by simp only [kput] <;> rfl) ?_
  refine OkOps.nil ?_
  refine Ok.seq ?_
  refine Ok.seq ?_
  refine Ok.region ?_
  iterate 2 (refine OkOps.ev tab_ok rfl (by simp only [kev, ktab, klen] <;> rfl) (by simp only [kput] <;> rfl) ?_)
  refine OkOps.nil ?_
  refine Ok.cond (b := _) (by simp only [kev, ktab, klen] <;> rfl) (fun hb2 => ?_) (fun hb2 => ?_)
  · simp only [bsimp] at hb2
    refine Ok.seq ?_
    refine Ok.region ?_
    refine OkOps.ev tab_ok rfl (by simp only [kev, ktab, klen] <;> rfl) (by simp only [kput] <;> rfl) ?_
    refine OkOps.nil ?_
    refine Ok.ret ?_
    repeat (first | with_reducible refine thenQ_ret ?_ | with_reducible refine blockQ_ret ?_)
    refine retQ.end (by show resVs tab _ [.tmp 4] = _; simp only [kev, ktab, klen] <;> rfl) rfl ?_
    simp only [szLink, if_pos hb2]; rfl
  · simp only [bsimp] at hb2
    refine Ok.skip ?_
    refine Ok.seq ?_
    refine Ok.region ?_
    iterate 2 (refine OkOps.ev tab_ok rfl (by simp only [kev, ktab, klen] <;> rfl) (by simp only [kput] <;> rfl) ?_)
    refine OkOps.nil ?_
    refine Ok.ret ?_
    repeat (first | with_reducible refine thenQ_ret ?_ | with_reducible refine blockQ_ret ?_)
    refine retQ.end (by show resVs tab _ [.tmp 4] = _; simp only [kev, ktab, klen] <;> rfl) rfl ?_
    simp only [szLink, if_neg hb2]; rfl
theorem f34 (y : Sync) (left : Int) : Weak Try.prog 34 [.agg (cSync y), .int .i64 left] (.int .i64 (szSync y left)) := by
  refine Weak.enter tab_ok Try.func34 rfl (.inr (by simp [V.labelsL, V.labels, zl])) (t := [.agg (cSync y), .int .i64 left, .any, .any, .any, .any, .any, .any, .any, .any, .any, .any, .any, .any, .any, .any, .any, .any]) rfl ?_
  refine Ok.seq ?_
  refine Ok.region ?_
  iterate 2 (refine OkOps.ev tab_ok rfl (by simp only [kev, ktab, klen] <;> rfl) (by simp only [kput] <;> rfl) ?_)
  refine OkOps.nil ?_
  refine Ok.seq ?_
  refine Ok.region ?_
  iterate 3 (refine OkOps.ev tab_ok rfl (by simp only [kev, ktab, klen] <;> rfl) (by simp only [kput] <;> rfl) ?_)
  refine OkOps.S rfl (OpS.weak' rfl (by simp only [kev, ktab, klen] <;> rfl) (by simp only [kev, ktab, klen] <;> rfl) cl29 (f29 y.link _)) (by simp only [kput] <;> rfl) ?_
  refine OkOps.ev tab_ok rfl (by simp only [kev, ktab, klen] <;> rfl) (by simp only [kput] <;> rfl) ?_
  refine OkOps.nil ?_
  refine Ok.seq ?_
  refine Ok.seq ?_
  refine Ok.region ?_
  iterate 2 (refine OkOps.ev tab_ok rfl (by simp only [kev, ktab, klen] <;> rfl) (by simp only [kput] <;> rfl) ?_)
  refine OkOps.nil ?_
  refine Ok.cond (b := _) (by simp only [kev, ktab, klen] <;> rfl) (fun hb2 => ?_) (fun hb2 => ?_)
  · simp only [bsimp] at hb2
    refine Ok.seq ?_
    refine Ok.region ?_
    refine OkOps.ev tab_ok rfl (by simp only [kev, ktab, klen] <;> rfl) (by simp only [kput] <;> rfl) ?_
    refine OkOps.nil ?_
    refine Ok.ret ?_
    repeat (first | with_reducible refine thenQ_ret ?_ | with_reducible refine blockQ_ret ?_)
    refine retQ.end (by show resVs tab _ [.tmp 4] = _; simp only [kev, ktab, klen] <;> rfl) rfl ?_
    simp only [szSync, if_pos hb2]; rfl
  · simp only [bsimp] at hb2
    refine Ok.skip ?_
    refine Ok.seq ?_
    refine Ok.region ?_
    iterate 3 (refine OkOps.ev tab_ok rfl (by simp only [kev, ktab, klen] <;> rfl) (by simp only [kput] <;> rfl) ?_)
    refine OkOps.S rfl (OpS.weak' rfl (by simp only [kev, ktab, klen] <;> rfl) (by simp only [kev, ktab, klen] <;> rfl) cl70 (f70 _ _)) (by simp only [kput] <;> rfl) ?_
    refine OkOps.ev tab_ok rfl (by simp only [kev, ktab, klen] <;> rfl) (by simp only [kput] <;> rfl) ?_
    refine OkOps.nil ?_
    refine Ok.seq ?_
    refine Ok.seq ?_
    refine Ok.region ?_
    iterate 2 (refine OkOps.ev tab_ok rfl (by simp only [kev, ktab, klen] <;> rfl) (by simp only [kput] <;> rfl) ?_)
    refine OkOps.nil ?_
    refine Ok.cond (b := _) (by simp only [kev, ktab, klen] <;> rfl) (fun hb5 => ?_) (fun hb5 => ?_)
    · simp only [bsimp] at hb5
      refine Ok.seq ?_
      refine Ok.region ?_
      refine OkOps.ev tab_ok rfl (by simp only [kev, ktab, klen] <;> rfl) (by simp only [kput] <;> rfl) ?_
      refine OkOps.nil ?_
      refine Ok.ret ?_
      repeat (first | with_reducible refine thenQ_ret ?_ | with_reducible refine blockQ_ret ?_)
      refine retQ.end (by show resVs tab _ [.tmp 4] = _; simp only [kev, ktab, klen] <;> rfl) rfl ?_
      simp only [szSync, if_neg hb2, if_pos hb5]; rfl
    · simp only [bsimp] at hb5
      refine Ok.skip ?_
      refine Ok.seq ?_
      refine Ok.region ?_
      iterate 2 (refine OkOps.ev tab_ok rfl (by simp only [kev, ktab, klen] <;> rfl) (by simp only [kput] <;> rfl) ?_)
      refine OkOps.nil ?_
      refine Ok.ret ?_
      repeat (first | with_reducible refine thenQ_ret ?_ | with_reducible refine blockQ_ret ?_)
      refine retQ.end (by show resVs tab _ [.tmp 4] = _; simp only [kev, ktab, klen] <;> rfl) rfl ?_
      simp only [szSync, if_neg hb2, if_neg hb5]; rfl
theorem f71 (a : List Str) (ha : StrsOk a) : Weak Try.prog 71 [.sl 0 1 0 (a.map cS)] (.sl 0 1 0 (a.map cS)) := by
  refine Weak.enter tab_ok Try.func71 rfl (.inr (by simp [V.labelsL, V.labels, zl])) (t := [.sl 0 1 0 (a.map cS), .any, .any, .any, .any, .any, .any, .any, .any, .any, .any, .any, .any, .any, .any, .any, .any, .any, .any, .any, .any, .any]) rfl ?_
  refine Ok.seq ?_
  refine Ok.region ?_
  refine OkOps.ev tab_ok rfl (by simp only [kev, ktab, klen] <;> rfl) (by simp only [kput] <;> rfl) ?_
  refine OkOps.nil ?_
  refine Ok.seq ?_
  refine Ok.region ?_
  iterate 2 (refine OkOps.ev tab_ok rfl (by simp only [kev, ktab, klen] <;> rfl) (by simp only [kput] <;> rfl) ?_)
  refine OkOps.S rfl (ok_makeSlice (e := 9) (i := ty9) (s1 := 1) (b1 := 24) (z1 := [.nil 1]) (k := .i64) (k' := .i64) (a := a.length) (b := a.length) tab_ok rfl rfl (by decide) rfl rfl (by simp only [kev, klen]) (by simp only [kev, klen]) (by omega) (by omega) (by unfold StrsOk at ha; omega) (by show ((16 : Nat) : Int) * _ ≤ _; unfold StrsOk at ha; omega)) (by simp only [kput, Int.toNat_natCast]; rfl) ?_
  refine OkOps.ev tab_ok rfl (by simp only [kev, ktab, klen] <;> rfl) (by simp only [kput] <;> rfl) ?_
  refine OkOps.nil ?_
  refine Ok.seq ?_
  refine Ok.seq ?_
  refine Ok.region ?_
  refine OkOps.ev tab_ok rfl (by simp only [kev, ktab, klen] <;> rfl) (by simp only [kput] <;> rfl) ?_
  refine OkOps.nil ?_
  refine Ok.block ?_
  refine Ok.loopF (τ := Nat) (fun x => [.sl 0 1 0 (a.map cS), .any, .nil 1, .sl 1 1 0 ((a.take x ++ List.replicate (a.length - x) []).map cS), .int .i64 (x : Int), .any, .any, .any, .any, .any, .any, .any, .any, .any, .any, .any, .any, .any, .any, .any, .any, .any]) (fun x => x ≤ a.length) (fun x => a.length - x) 0 (by refine ⟨?_, ?_, ?_, ?_, ?_, ?_, ?_, ?_, ?_, ?_, ?_, ?_, ?_, ?_, ?_, ?_, ?_, ?_, ?_, ?_, ?_, ?_, trivial⟩ <;> first | exact le_any _ | exact le_rfl' _ | ((simp only [List.take_zero, List.nil_append, Nat.sub_zero, List.map_replicate]; exact le_rfl' _))) (Nat.zero_le _) ?_
  rintro i h1
  refine Ok.seq ?_
  refine Ok.seq ?_
  refine Ok.region ?_
  iterate 4 (refine OkOps.ev tab_ok rfl (by simp only [kev, ktab, klen] <;> rfl) (by simp only [kput] <;> rfl) ?_)
  refine OkOps.nil ?_
  refine Ok.cond (b := _) (by simp only [kev, ktab, klen] <;> rfl) (fun hb3 => ?_) (fun hb3 => ?_)
  · simp only [bsimp] at hb3
    have hi : i < a.length := by omega
    have hs := set_next (d := ([] : Str)) hi rfl
    refine Ok.skip ?_
    refine Ok.seq ?_
    refine Ok.block ?_
    refine Ok.region ?_
    iterate 4 (refine OkOps.ev tab_ok rfl (by simp only [kev, ktab, klen] <;> rfl) (by simp only [kput] <;> rfl) ?_)
    refine OkOps.ev tab_ok rfl (ev_idx (by simp only [kev, ktab, klen] <;> rfl) (by simp only [kev, ktab, klen] <;> rfl) (by rw [List.getElem?_map, List.getElem?_eq_getElem hi]; rfl) (by simp only [kev, ktab, klen] <;> rfl)) (by simp only [kput] <;> rfl) ?_
    refine OkOps.ev tab_ok rfl (by simp only [kev, ktab, klen] <;> rfl) (by simp only [kput] <;> rfl) ?_
    refine OkOps.ev tab_ok rfl (ev_idx (by simp only [kev, ktab, klen] <;> rfl) (by simp only [kev, ktab, klen] <;> rfl) (by rw [List.getElem?_map, List.getElem?_eq_getElem (by simp; omega)]; rfl) (by simp only [kev, ktab, klen] <;> rfl)) (by simp only [kput] <;> rfl) ?_
    refine OkOps.storeE tab_ok rfl rfl (by simp only [kev, ktab, klen] <;> rfl) ⟨_, _, by simp only [kev]; rfl⟩ (by simp [V.labelsL, V.labels, zl]) (by simp only [V.updL, V.travL, V.travLL, V.trav, updS, updP, and_self, true_and, and_true, false_and, and_false, Nat.reduceEqDiff, Nat.reduceSub, Nat.le_refl, Nat.zero_le, ↓reduceIte, if_true, if_false, kput, zu, set_mapS, hs, Nat.sub_zero, Nat.sub_sub] <;> rfl) rfl ?_
    refine OkOps.nil ?_
    refine Ok.region ?_
    iterate 3 (refine OkOps.ev tab_ok rfl (by simp only [kev, ktab, klen] <;> rfl) (by simp only [kput] <;> rfl) ?_)
    refine OkOps.nil ?_
    refine ⟨i + 1, ?_, rfl, rfl, by omega, by omega⟩
    refine ⟨?_, ?_, ?_, ?_, ?_, ?_, ?_, ?_, ?_, ?_, ?_, ?_, ?_, ?_, ?_, ?_, ?_, ?_, ?_, ?_, ?_, ?_, trivial⟩ <;> first | exact le_any _ | exact le_rfl' _ | ((rw [wrap_succ (by unfold StrsOk at ha; omega)]; exact le_rfl' _))
  · simp only [bsimp] at hb3
    refine Ok.exit ?_
    refine Ok.seq ?_
    refine Ok.region ?_
    iterate 2 (refine OkOps.ev tab_ok rfl (by simp only [kev, ktab, klen] <;> rfl) (by simp only [kput] <;> rfl) ?_)
    refine OkOps.nil ?_
    refine Ok.ret ?_
    repeat (first | with_reducible refine thenQ_ret ?_ | with_reducible refine blockQ_ret ?_)
    refine retQ.end (by show resVs tab _ [.tmp 2] = _; simp only [kev, ktab, klen] <;> rfl) rfl ?_
    rw [show i = a.length by omega]; simp only [packV, V.erase, V.trav, zu]; simp
theorem f31 (l : Link) (h : StrsOk l.way) : Weak Try.prog 31 [.agg (cLink l)] (.agg (cLink l)) := by
  refine Weak.enter tab_ok Try.func31 rfl (.inr (by simp [V.labelsL, V.labels, zl])) (t := [.agg (cLink l), .any, .any, .any, .any, .any, .any, .any, .any, .any, .any, .any, .any, .any, .any, .any, .any, .any]) rfl ?_
  refine Ok.seq ?_
  refine Ok.region ?_
  iterate 2 (refine OkOps.ev tab_ok rfl (by simp only [kev, ktab, klen] <;> rfl) (by simp only [kput] <;> rfl) ?_)
  refine OkOps.nil ?_
  refine Ok.seq ?_
  refine Ok.region ?_
  refine OkOps.ev tab_ok rfl (by simp only [kev, ktab, klen] <;> rfl) (by simp only [kput] <;> rfl) ?_
  refine OkOps.nil ?_
  refine Ok.seq ?_
  refine Ok.region ?_
  iterate 3 (refine OkOps.ev tab_ok rfl (by simp only [kev, ktab, klen] <;> rfl) (by simp only [kput] <;> rfl) ?_)
  refine OkOps.storeE tab_ok rfl rfl (by simp only [kev, ktab, klen] <;> rfl) ⟨_, _, by simp only [kev]; rfl⟩ (by simp [V.labelsL, V.labels, zl]) (by simp only [V.updL, V.travL, V.travLL, V.trav, updS, updP, and_self, true_and, and_true, false_and, and_false, Nat.reduceEqDiff, Nat.reduceSub, Nat.le_refl, Nat.zero_le, ↓reduceIte, if_true, if_false, kput, zu] <;> rfl) rfl ?_
  refine OkOps.nil ?_
  refine Ok.seq ?_
  refine Ok.region ?_
  iterate 2 (refine OkOps.ev tab_ok rfl (by simp only [kev, ktab, klen] <;> rfl) (by simp only [kput] <;> rfl) ?_)
  refine OkOps.S rfl (OpS.weak' rfl (by simp only [kev, ktab, klen] <;> rfl) (by simp only [kev, ktab, klen] <;> rfl) cl71 (f71 _ h)) (by simp only [kput] <;> rfl) ?_
  refine OkOps.ev tab_ok rfl (by simp only [kev, ktab, klen] <;> rfl) (by simp only [kput] <;> rfl) ?_
  refine OkOps.storeE tab_ok rfl rfl (by simp only [kev, ktab, klen] <;> rfl) ⟨_, _, by simp only [kev]; rfl⟩ (by simp [V.labelsL, V.labels, zl]) (by simp only [V.updL, V.travL, V.travLL, V.trav, updS, updP, and_self, true_and, and_true, false_and, and_false, Nat.reduceEqDiff, Nat.reduceSub, Nat.le_refl, Nat.zero_le, ↓reduceIte, if_true, if_false, kput, zu] <;> rfl) rfl ?_
  refine OkOps.nil ?_
  refine Ok.seq ?_
  refine Ok.region ?_
  iterate 3 (refine OkOps.ev tab_ok rfl (by simp only [kev, ktab, klen] <;> rfl) (by simp only [kput] <;> rfl) ?_)
  refine OkOps.storeE tab_ok rfl rfl (by simp only [kev, ktab, klen] <;> rfl) ⟨_, _, by simp only [kev]; rfl⟩ (by simp [V.labelsL, V.labels, zl]) (by simp only [V.updL, V.travL, V.travLL, V.trav, updS, updP, and_self, true_and, and_true, false_and, and_false, Nat.reduceEqDiff, Nat.reduceSub, Nat.le_refl, Nat.zero_le, ↓reduceIte, if_true, if_false, kput, zu] <;> rfl) rfl ?_
  refine OkOps.nil ?_
  refine Ok.seq ?_
  refine Ok.region ?_
  iterate 3 (refine OkOps.ev tab_ok rfl (by simp only [kev, ktab, klen] <;> rfl) (by simp only [kput] <;> rfl) ?_)
  refine OkOps.storeE tab_ok rfl rfl (by simp only [kev, ktab, klen] <;> rfl) ⟨_, _, by simp only [kev]; rfl⟩ (by simp [V.labelsL, V.labels, zl]) (by simp only [V.updL, V.travL, V.travLL, V.trav, updS, updP, and_self, true_and, and_true, false_and, and_false, Nat.reduceEqDiff, Nat.reduceSub, Nat.le_refl, Nat.zero_le, ↓reduceIte, if_true, if_false, kput, zu] <;> rfl) rfl ?_
  refine OkOps.nil ?_
  refine Ok.seq ?_
  refine Ok.region ?_
  refine OkOps.ev tab_ok rfl (by simp only [kev, ktab, klen] <;> rfl) (by simp only [kput] <;> rfl) ?_
  refine OkOps.storeE tab_ok rfl rfl (by simp only [kev, ktab, klen] <;> rfl) ⟨_, _, by simp only [kev]; rfl⟩ (by simp [V.labelsL, V.labels, zl]) (by simp only [V.updL, V.travL, V.travLL, V.trav, updS, updP, and_self, true_and, and_true, false_and, and_false, Nat.reduceEqDiff, Nat.reduceSub, Nat.le_refl, Nat.zero_le, ↓reduceIte, if_true, if_false, kput, zu] <;> rfl) rfl ?_
  refine OkOps.nil ?_
  refine Ok.ret ?_
  repeat (first | with_reducible refine thenQ_ret ?_ | with_reducible refine blockQ_ret ?_)
  refine retQ.end (by show resVs tab _ [.cell 2 35] = _; simp only [kev, ktab, klen] <;> rfl) rfl ?_
  simp only [packV, V.erase, V.trav, V.travL, zu]
theorem f36 (y : Sync) (h : StrsOk y.link.way) (h2 : StrsOk y.pieces) : Weak Try.prog 36 [.agg (cSync y)] (.agg (cSync y)) := by
  refine Weak.enter tab_ok Try.func36 rfl (.inr (by simp [V.labelsL, V.labels, zl])) (t := [.agg (cSync y), .any, .any, .any, .any, .any, .any, .any, .any, .any, .any, .any, .any, .any, .any, .any, .any, .any, .any, .any, .any, .any, .any, .any, .any]) rfl ?_
  refine Ok.seq ?_
  refine Ok.region ?_
  iterate 2 (refine OkOps.ev tab_ok rfl (by simp only [kev, ktab, klen] <;> rfl) (by simp only [kput] <;> rfl) ?_)
  refine OkOps.nil ?_
  refine Ok.seq ?_
  refine Ok.region ?_
  refine OkOps.ev tab_ok rfl (by simp only [kev, ktab, klen] <;> rfl) (by simp only [kput] <;> rfl) ?_
  refine OkOps.nil ?_
  refine Ok.seq ?_
  refine Ok.region ?_
  iterate 3 (refine OkOps.ev tab_ok rfl (by simp only [kev, ktab, klen] <;> rfl) (by simp only [kput] <;> rfl) ?_)
  refine OkOps.storeE tab_ok rfl rfl (by simp only [kev, ktab, klen] <;> rfl) ⟨_, _, by simp only [kev]; rfl⟩ (by simp [V.labelsL, V.labels, zl]) (by simp only [V.updL, V.travL, V.travLL, V.trav, updS, updP, and_self, true_and, and_true, false_and, and_false, Nat.reduceEqDiff, Nat.reduceSub, Nat.le_refl, Nat.zero_le, ↓reduceIte, if_true, if_false, kput, zu] <;> rfl) rfl ?_
  refine OkOps.nil ?_
  refine Ok.seq ?_
  refine Ok.region ?_
  iterate 2 (refine OkOps.ev tab_ok rfl (by simp only [kev, ktab, klen] <;> rfl) (by simp only [kput] <;> rfl) ?_)
  refine OkOps.S rfl (OpS.weak' rfl (by simp only [kev, ktab, klen] <;> rfl) (by simp only [kev, ktab, klen] <;> rfl) cl31 (f31 y.link h)) (by simp only [kput] <;> rfl) ?_
  refine OkOps.ev tab_ok rfl (by simp only [kev, ktab, klen] <;> rfl) (by simp only [kput] <;> rfl) ?_
  refine OkOps.storeE tab_ok rfl rfl (by simp only [kev, ktab, klen] <;> rfl) ⟨_, _, by simp only [kev]; rfl⟩ (by simp [V.labelsL, V.labels, zl]) (by simp only [V.updL, V.travL, V.travLL, V.trav, updS, updP, and_self, true_and, and_true, false_and, and_false, Nat.reduceEqDiff, Nat.reduceSub, Nat.le_refl, Nat.zero_le, ↓reduceIte, if_true, if_false, kput, zu] <;> rfl) rfl ?_
  refine OkOps.nil ?_
  refine Ok.seq ?_
  refine Ok.region ?_
  iterate 3 (refine OkOps.ev tab_ok rfl (by simp only [kev, ktab, klen] <;> rfl) (by simp only [kput] <;> rfl) ?_)
  refine OkOps.storeE tab_ok rfl rfl (by simp only [kev, ktab, klen] <;> rfl) ⟨_, _, by simp only [kev]; rfl⟩ (by simp [V.labelsL, V.labels, zl]) (by simp only [V.updL, V.travL, V.travLL, V.trav, updS, updP, and_self, true_and, and_true, false_and, and_false, Nat.reduceEqDiff, Nat.reduceSub, Nat.le_refl, Nat.zero_le, ↓reduceIte, if_true, if_false, kput, zu] <;> rfl) rfl ?_
  refine OkOps.nil ?_
  refine Ok.seq ?_
  refine Ok.region ?_
  iterate 2 (refine OkOps.ev tab_ok rfl (by simp only [kev, ktab, klen] <;> rfl) (by simp only [kput] <;> rfl) ?_)
  refine OkOps.S rfl (OpS.weak' rfl (by simp only [kev, ktab, klen] <;> rfl) (by simp only [kev, ktab, klen] <;> rfl) cl71 (f71 _ h2)) (by simp only [kput] <;> rfl) ?_
  refine OkOps.ev tab_ok rfl (by simp only [kev, ktab, klen] <;> rfl) (by simp only [kput] <;> rfl) ?_
  refine OkOps.storeE tab_ok rfl rfl (by simp only [kev, ktab, klen] <;> rfl) ⟨_, _, by simp only [kev]; rfl⟩ (by simp [V.labelsL, V.labels, zl]) (by simp only [V.updL, V.travL, V.travLL, V.trav, updS, updP, and_self, true_and, and_true, false_and, and_false, Nat.reduceEqDiff, Nat.reduceSub, Nat.le_refl, Nat.zero_le, ↓reduceIte, if_true, if_false, kput, zu] <;> rfl) rfl ?_
  refine OkOps.nil ?_
  refine Ok.seq ?_
  refine Ok.region ?_
  iterate 3 (refine OkOps.ev tab_ok rfl (by simp only [kev, ktab, klen] <;> rfl) (by simp only [kput] <;> rfl) ?_)
  refine OkOps.storeE tab_ok rfl rfl (by simp only [kev, ktab, klen] <;> rfl) ⟨_, _, by simp only [kev]; rfl⟩ (by simp [V.labelsL, V.labels, zl]) (by simp only [V.updL, V.travL, V.travLL, V.trav, updS, updP, and_self, true_and, and_true, false_and, and_false, Nat.reduceEqDiff, Nat.reduceSub, Nat.le_refl, Nat.zero_le, ↓reduceIte, if_true, if_false, kput, zu] <;> rfl) rfl ?_
  refine OkOps.nil ?_
  refine Ok.seq ?_
  refine Ok.region ?_
  iterate 3 (refine OkOps.ev tab_ok rfl (by simp only [kev, ktab, klen] <;> rfl) (by simp only [kput] <;> rfl) ?_)
  refine OkOps.storeE tab_ok rfl rfl (by simp only [kev, ktab, klen] <;> rfl) ⟨_, _, by simp only [kev]; rfl⟩ (by simp [V.labelsL, V.labels, zl]) (by simp only [V.updL, V.travL, V.travLL, V.trav, updS, updP, and_self, true_and, and_true, false_and, and_false, Nat.reduceEqDiff, Nat.reduceSub, Nat.le_refl, Nat.zero_le, ↓reduceIte, if_true, if_false, kput, zu] <;> rfl) rfl ?_
  refine OkOps.nil ?_
  refine Ok.seq ?_
  refine Ok.region ?_
  refine OkOps.ev tab_ok rfl (by simp only [kev, ktab, klen] <;> rfl) (by simp only [kput] <;> rfl) ?_
  refine OkOps.storeE tab_ok rfl rfl (by simp only [kev, ktab, klen] <;> rfl) ⟨_, _, by simp only [kev]; rfl⟩ (by simp [V.labelsL, V.labels, zl]) (by simp only [V.updL, V.travL, V.travLL, V.trav, updS, updP, and_self, true_and, and_true, false_and, and_false, Nat.reduceEqDiff, Nat.reduceSub, Nat.le_refl, Nat.zero_le, ↓reduceIte, if_true, if_false, kput, zu] <;> rfl) rfl ?_
  refine OkOps.nil ?_
  refine Ok.ret ?_
  repeat (first | with_reducible refine thenQ_ret ?_ | with_reducible refine blockQ_ret ?_)
  refine retQ.end (by show resVs tab _ [.cell 2 53] = _; simp only [kev, ktab, klen] <;> rfl) rfl ?_
  simp only [packV, V.erase, V.trav, V.travL, zu]
theorem f35 (y : Sync) : Weak Try.prog 35 [.agg (cSync y)] (.bool (syncOver y)) := by
  refine Weak.enter tab_ok Try.func35 rfl (.inr (by simp [V.labelsL, V.labels, zl])) (t := [.agg (cSync y), .any, .any, .any, .any, .any, .any, .any, .any, .any, .any, .any]) rfl ?_
  refine Ok.seq ?_
  refine Ok.region ?_
  iterate 2 (refine OkOps.ev tab_ok rfl (by simp only [kev, ktab, klen] <;> rfl) (by simp only [kput] <;> rfl) ?_)
  refine OkOps.nil ?_
  refine Ok.seq ?_
  refine Ok.region ?_
  iterate 3 (refine OkOps.ev tab_ok rfl (by simp only [kev, ktab, klen] <;> rfl) (by simp only [kput] <;> rfl) ?_)
  refine OkOps.split (d := 5) (by simp only [kev, ktab, klen] <;> rfl) (by simp only [kput] <;> rfl) (by simp only [kput] <;> rfl) (fun hg1_2 => ?_) (fun hg1_2 => ?_)
  · try simp only [bsimp] at hg1_2
    refine OkOps.on rfl rfl (by simp only [kev, ktab, klen]) ?_
    refine OkOps.ev tab_ok rfl (by simp only [kev, ktab, klen] <;> rfl) (by simp only [kput] <;> rfl) ?_
    refine OkOps.on rfl rfl (by simp only [kev, ktab, klen]) ?_
    refine OkOps.ev tab_ok rfl (by simp only [kev, ktab, klen] <;> rfl) (by simp only [kput] <;> rfl) ?_
    refine OkOps.on rfl rfl (by simp only [kev, ktab, klen]) ?_
    refine OkOps.ev tab_ok rfl (by simp only [kev, ktab, klen] <;> rfl) (by simp only [kput] <;> rfl) ?_
    refine OkOps.on rfl rfl (by simp only [kev, ktab, klen]) ?_
    refine OkOps.ev tab_ok rfl (by simp only [kev, ktab, klen] <;> rfl) (by simp only [kput] <;> rfl) ?_
    refine OkOps.on rfl rfl (by simp only [kev, ktab, klen]) ?_
    iterate 3 (refine OkOps.ev tab_ok rfl (by simp only [kev, ktab, klen] <;> rfl) (by simp only [kput] <;> rfl) ?_)
    refine OkOps.nil ?_
    refine Ok.ret ?_
    repeat (first | with_reducible refine thenQ_ret ?_ | with_reducible refine blockQ_ret ?_)
    refine retQ.end (by show resVs tab _ [.tmp 2] = _; simp only [kev, ktab, klen] <;> rfl) rfl ?_
    simp [syncOver, hg1_2, V.erase, V.trav, packV, kev]
  · try simp only [bsimp] at hg1_2
    refine OkOps.off rfl rfl (by simp only [kev, ktab, klen, Bool.not_true, Bool.not_false]) (by simp only [kput] <;> rfl) ?_
    refine OkOps.off rfl rfl (by simp only [kev, ktab, klen, Bool.not_true, Bool.not_false]) (by simp only [kput] <;> rfl) ?_
    refine OkOps.off rfl rfl (by simp only [kev, ktab, klen, Bool.not_true, Bool.not_false]) (by simp only [kput] <;> rfl) ?_
    refine OkOps.off rfl rfl (by simp only [kev, ktab, klen, Bool.not_true, Bool.not_false]) (by simp only [kput] <;> rfl) ?_
    refine OkOps.off rfl rfl (by simp only [kev, ktab, klen, Bool.not_true, Bool.not_false]) (by simp only [kput] <;> rfl) ?_
    iterate 2 (refine OkOps.ev tab_ok rfl (by simp only [kev, ktab, klen] <;> rfl) (by simp only [kput] <;> rfl) ?_)
    refine OkOps.nil ?_
    refine Ok.ret ?_
    repeat (first | with_reducible refine thenQ_ret ?_ | with_reducible refine blockQ_ret ?_)
    refine retQ.end (by show resVs tab _ [.tmp 2] = _; simp only [kev, ktab, klen] <;> rfl) rfl ?_
    simp [syncOver, hg1_2, V.erase, V.trav, packV, kev]
theorem f37 (y : Sync) : Weak Try.prog 37 [.agg (cSync y)] (.bool (syncOver y)) := by
  refine Weak.enter tab_ok Try.func37 rfl (.inr (by simp [V.labelsL, V.labels, zl])) (t := [.agg (cSync y), .any, .any, .any, .any, .any, .any, .any, .any, .any, .any, .any]) rfl ?_
  refine Ok.seq ?_
  refine Ok.region ?_
  iterate 2 (refine OkOps.ev tab_ok rfl (by simp only [kev, ktab, klen] <;> rfl) (by simp only [kput] <;> rfl) ?_)
  refine OkOps.nil ?_
  refine Ok.seq ?_
  refine Ok.region ?_
  iterate 3 (refine OkOps.ev tab_ok rfl (by simp only [kev, ktab, klen] <;> rfl) (by simp only [kput] <;> rfl) ?_)
  refine OkOps.split (d := 5) (by simp only [kev, ktab, klen] <;> rfl) (by simp only [kput] <;> rfl) (by simp only [kput] <;> rfl) (fun hg1_2 => ?_) (fun hg1_2 => ?_)
  · try simp only [bsimp] at hg1_2
    refine OkOps.on rfl rfl (by simp only [kev, ktab, klen]) ?_
    refine OkOps.ev tab_ok rfl (by simp only [kev, ktab, klen] <;> rfl) (by simp only [kput] <;> rfl) ?_
    refine OkOps.on rfl rfl (by simp only [kev, ktab, klen]) ?_
    refine OkOps.ev tab_ok rfl (by simp only [kev, ktab, klen] <;> rfl) (by simp only [kput] <;> rfl) ?_
    refine OkOps.on rfl rfl (by simp only [kev, ktab, klen]) ?_
    refine OkOps.ev tab_ok rfl (by simp only [kev, ktab, klen] <;> rfl) (by simp only [kput] <;> rfl) ?_
    refine OkOps.on rfl rfl (by simp only [kev, ktab, klen]) ?_
    refine OkOps.ev tab_ok rfl (by simp only [kev, ktab, klen] <;> rfl) (by simp only [kput] <;> rfl) ?_
    refine OkOps.on rfl rfl (by simp only [kev, ktab, klen]) ?_
    iterate 3 (refine OkOps.ev tab_ok rfl (by simp only [kev, ktab, klen] <;> rfl) (by simp only [kput] <;> rfl) ?_)
    refine OkOps.nil ?_
    refine Ok.ret ?_
    repeat (first | with_reducible refine thenQ_ret ?_ | with_reducible refine blockQ_ret ?_)
    refine retQ.end (by show resVs tab _ [.tmp 2] = _; simp only [kev, ktab, klen] <;> rfl) rfl ?_
    simp [syncOver, hg1_2, V.erase, V.trav, packV, kev]
  · try simp only [bsimp] at hg1_2
    refine OkOps.off rfl rfl (by simp only [kev, ktab, klen, Bool.not_true, Bool.not_false]) (by simp only [kput] <;> rfl) ?_
    refine OkOps.off rfl rfl (by simp only [kev, ktab, klen, Bool.not_true, Bool.not_false]) (by simp only [kput] <;> rfl) ?_
    refine OkOps.off rfl rfl (by simp only [kev, ktab, klen, Bool.not_true, Bool.not_false]) (by simp only [kput] <;> rfl) ?_
    refine OkOps.off rfl rfl (by simp only [kev, ktab, klen, Bool.not_true, Bool.not_false]) (by simp only [kput] <;> rfl) ?_
    refine OkOps.off rfl rfl (by simp only [kev, ktab, klen, Bool.not_true, Bool.not_false]) (by simp only [kput] <;> rfl) ?_
    iterate 2 (refine OkOps.ev tab_ok rfl (by simp only [kev, ktab, klen] <;> rfl) (by simp only [kput] <;> rfl) ?_)
    refine OkOps.nil ?_
    refine Ok.ret ?_
    repeat (first | with_reducible refine thenQ_ret ?_ | with_reducible refine blockQ_ret ?_)
    refine retQ.end (by show resVs tab _ [.tmp 2] = _; simp only [kev, ktab, klen] <;> rfl) rfl ?_
    simp [syncOver, hg1_2, V.erase, V.trav, packV, kev]
theorem f21 (a b : List Str) : Weak Try.prog 21 [.sl 0 1 0 (a.map cS), .sl 0 1 0 (b.map cS)] (.bool (decide (a = b))) := by
  refine Weak.len 0 rfl fun ha => ?_
  refine Weak.enter tab_ok Try.func21 rfl (.inr (by simp [V.labelsL, V.labels, zl])) (t := [.sl 0 1 0 (a.map cS), .sl 0 1 0 (b.map cS), .any, .any, .any, .any, .any, .any, .any, .any, .any, .any, .any, .any, .any, .any, .any, .any, .any, .any, .any, .any, .any, .any, .any, .any]) rfl ?_
  refine Ok.seq ?_
  refine Ok.region ?_
  refine OkOps.ev tab_ok rfl (by simp only [kev, ktab, klen] <;> rfl) (by simp only [kput] <;> rfl) ?_
  refine OkOps.nil ?_
  refine Ok.seq ?_
  refine Ok.seq ?_
  refine Ok.region ?_
  iterate 5 (refine OkOps.ev tab_ok rfl (by simp only [kev, ktab, klen] <;> rfl) (by simp only [kput] <;> rfl) ?_)
  refine OkOps.nil ?_
  refine Ok.cond (b := _) (by simp only [kev, ktab, klen] <;> rfl) (fun hb1 => ?_) (fun hb1 => ?_)
  · simp only [bsimp] at hb1
    refine Ok.seq ?_
    refine Ok.region ?_
    refine OkOps.ev tab_ok rfl (by simp only [kev, ktab, klen] <;> rfl) (by simp only [kput] <;> rfl) ?_
    refine OkOps.nil ?_
    refine Ok.ret ?_
    repeat (first | with_reducible refine thenQ_ret ?_ | with_reducible refine blockQ_ret ?_)
    refine retQ.end (by show resVs tab _ [.tmp 4] = _; simp only [kev, ktab, klen] <;> rfl) rfl ?_
    rw [decide_eq_false (fun h => hb1 (by rw [h]))]; rfl
  · simp only [bsimp] at hb1
    have hb1 : (a.length : Int) = b.length := by simpa using hb1
    refine Ok.skip ?_
    refine Ok.seq ?_
    refine Ok.seq ?_
    refine Ok.region ?_
    refine OkOps.ev tab_ok rfl (by simp only [kev, ktab, klen] <;> rfl) (by simp only [kput] <;> rfl) ?_
    refine OkOps.nil ?_
    refine Ok.block ?_
    refine Ok.loopF (τ := Nat) (fun x => [.sl 0 1 0 (a.map cS), .sl 0 1 0 (b.map cS), .any, .any, .bool false, .int .i64 (x : Int), .any, .any, .any, .any, .any, .any, .any, .any, .any, .any, .any, .any, .any, .any, .any, .any, .any, .any, .any, .any]) (fun x => x ≤ a.length ∧ a.take x = b.take x) (fun x => a.length - x) 0 (by refine ⟨?_, ?_, ?_, ?_, ?_, ?_, ?_, ?_, ?_, ?_, ?_, ?_, ?_, ?_, ?_, ?_, ?_, ?_, ?_, ?_, ?_, ?_, ?_, ?_, ?_, ?_, trivial⟩ <;> first | exact le_any _ | exact le_rfl' _ | (fail)) (⟨Nat.zero_le _, rfl⟩) ?_
    rintro i ⟨h1, h2⟩
    refine Ok.seq ?_
    refine Ok.seq ?_
    refine Ok.region ?_
    iterate 4 (refine OkOps.ev tab_ok rfl (by simp only [kev, ktab, klen] <;> rfl) (by simp only [kput] <;> rfl) ?_)
    refine OkOps.nil ?_
    refine Ok.cond (b := _) (by simp only [kev, ktab, klen] <;> rfl) (fun hb4 => ?_) (fun hb4 => ?_)
    · simp only [bsimp] at hb4
      have hi : i < a.length := by omega
      have hj : i < b.length := by omega
      refine Ok.skip ?_
      refine Ok.seq ?_
      refine Ok.block ?_
      refine Ok.seq ?_
      refine Ok.drawn 9 26 [] (by kernel_rfl) (by kernel_rfl) rfl ?_
      refine SOps.ev tab_ok rfl (by simp only [kev, ktab, klen] <;> rfl) (by simp only [kput] <;> rfl) ?_
      refine SOps.ev tab_ok rfl (by simp only [kev, ktab, klen] <;> rfl) (by simp only [kput] <;> rfl) ?_
      refine SOps.ev tab_ok rfl (ev_idx (by simp only [kev, ktab, klen] <;> rfl) (by simp only [kev, ktab, klen] <;> rfl) (by rw [List.getElem?_map, List.getElem?_eq_getElem hi]; rfl) (by simp only [kev, ktab, klen] <;> rfl)) (by simp only [kput] <;> rfl) ?_
      refine SOps.ev tab_ok rfl (by simp only [kev, ktab, klen] <;> rfl) (by simp only [kput] <;> rfl) ?_
      refine SOps.ev tab_ok rfl (by simp only [kev, ktab, klen] <;> rfl) (by simp only [kput] <;> rfl) ?_
      refine SOps.ev tab_ok rfl (by simp only [kev, ktab, klen] <;> rfl) (by simp only [kput] <;> rfl) ?_
      refine SOps.ev tab_ok rfl (ev_idx (by simp only [kev, ktab, klen] <;> rfl) (by simp only [kev, ktab, klen] <;> rfl) (by rw [List.getElem?_map, List.getElem?_eq_getElem hj]; rfl) (by simp only [kev, ktab, klen] <;> rfl)) (by simp only [kput] <;> rfl) ?_
      refine SOps.ev tab_ok rfl (by simp only [kev, ktab, klen] <;> rfl) (by simp only [kput] <;> rfl) ?_
      refine SOps.ev tab_ok rfl (by simp only [kev, ktab, klen] <;> rfl) (by simp only [kput] <;> rfl) ?_
      refine SOps.nil ?_
      refine TOps.nil ?_
      refine Ok.cond (b := _) (by simp only [kev, ktab, klen] <;> rfl) (fun hb6 => ?_) (fun hb6 => ?_)
      · simp only [bsimp] at hb6
        refine Ok.seq ?_
        refine Ok.region ?_
        refine OkOps.ev tab_ok rfl (by simp only [kev, ktab, klen] <;> rfl) (by simp only [kput] <;> rfl) ?_
        refine OkOps.nil ?_
        refine Ok.ret ?_
        repeat (first | with_reducible refine thenQ_ret ?_ | with_reducible refine blockQ_ret ?_)
        refine retQ.end (by show resVs tab _ [.tmp 4] = _; simp only [kev, ktab, klen] <;> rfl) rfl ?_
        rw [decide_eq_false (fun h => hb6 (by subst h; rfl))]; rfl
      · simp only [bsimp] at hb6
        refine Ok.skip ?_
        refine Ok.region ?_
        iterate 3 (refine OkOps.ev tab_ok rfl (by simp only [kev, ktab, klen] <;> rfl) (by simp only [kput] <;> rfl) ?_)
        refine OkOps.nil ?_
        refine ⟨i + 1, ?_, rfl, rfl, ⟨by omega, take_next h2 hi hj hb6⟩, by omega⟩
        refine ⟨?_, ?_, ?_, ?_, ?_, ?_, ?_, ?_, ?_, ?_, ?_, ?_, ?_, ?_, ?_, ?_, ?_, ?_, ?_, ?_, ?_, ?_, ?_, ?_, ?_, ?_, trivial⟩ <;> first | exact le_any _ | exact le_rfl' _ | ((rw [wrap_succ (by simp only [List.length_map] at ha; unfold maxLen at ha; omega)]; exact le_rfl' _))
    · simp only [bsimp] at hb4
      refine Ok.exit ?_
      refine Ok.seq ?_
      refine Ok.region ?_
      refine OkOps.ev tab_ok rfl (by simp only [kev, ktab, klen] <;> rfl) (by simp only [kput] <;> rfl) ?_
      refine OkOps.nil ?_
      refine Ok.ret ?_
      repeat (first | with_reducible refine thenQ_ret ?_ | with_reducible refine blockQ_ret ?_)
      refine retQ.end (by show resVs tab _ [.tmp 4] = _; simp only [kev, ktab, klen] <;> rfl) rfl ?_
      rw [decide_eq_true (eq_of_take (by omega) (by omega) h2)]; rfl
theorem f26 (a b : Link) : Weak Try.prog 26 [.agg (cLink a), .agg (cLink b)] (.bool (decide (a = b))) := by
  refine Weak.enter tab_ok Try.func26 rfl (.inr (by simp [V.labelsL, V.labels, zl])) (t := [.agg (cLink a), .agg (cLink b), .any, .any, .any, .any, .any, .any, .any, .any, .any, .any, .any, .any, .any, .any, .any, .any, .any, .any, .any, .any, .any, .any, .any, .any]) rfl ?_
  refine Ok.seq ?_
  refine Ok.region ?_
  iterate 3 (refine OkOps.ev tab_ok rfl (by simp only [kev, ktab, klen] <;> rfl) (by simp only [kput] <;> rfl) ?_)
  refine OkOps.nil ?_
  refine Ok.seq ?_
  refine Ok.seq ?_
  refine Ok.region ?_
  iterate 5 (refine OkOps.ev tab_ok rfl (by simp only [kev, ktab, klen] <;> rfl) (by simp only [kput] <;> rfl) ?_)
  refine OkOps.nil ?_
  refine Ok.cond (b := _) (by simp only [kev, ktab, klen] <;> rfl) (fun hb1 => ?_) (fun hb1 => ?_)
  · simp only [bsimp] at hb1
    refine Ok.seq ?_
    refine Ok.region ?_
    refine OkOps.ev tab_ok rfl (by simp only [kev, ktab, klen] <;> rfl) (by simp only [kput] <;> rfl) ?_
    refine OkOps.nil ?_
    refine Ok.ret ?_
    repeat (first | with_reducible refine thenQ_ret ?_ | with_reducible refine blockQ_ret ?_)
    refine retQ.end (by show resVs tab _ [.tmp 4] = _; simp only [kev, ktab, klen] <;> rfl) rfl ?_
    rw [decide_eq_false (fun h => by subst h; simp at hb1)]; rfl
  · simp only [bsimp] at hb1
    refine Ok.skip ?_
    refine Ok.seq ?_
    refine Ok.seq ?_
    refine Ok.region ?_
    iterate 4 (refine OkOps.ev tab_ok rfl (by simp only [kev, ktab, klen] <;> rfl) (by simp only [kput] <;> rfl) ?_)
    refine OkOps.S rfl (OpS.weak' rfl (by simp only [kev, ktab, klen] <;> rfl) (by simp only [kev, ktab, klen] <;> rfl) cl21 (f21 _ _)) (by simp only [kput] <;> rfl) ?_
    refine OkOps.ev tab_ok rfl (by simp only [kev, ktab, klen] <;> rfl) (by simp only [kput] <;> rfl) ?_
    refine OkOps.nil ?_
    refine Ok.cond (b := _) (by simp only [kev, ktab, klen] <;> rfl) (fun hb3 => ?_) (fun hb3 => ?_)
    · simp only [bsimp] at hb3
      refine Ok.seq ?_
      refine Ok.region ?_
      refine OkOps.ev tab_ok rfl (by simp only [kev, ktab, klen] <;> rfl) (by simp only [kput] <;> rfl) ?_
      refine OkOps.nil ?_
      refine Ok.ret ?_
      repeat (first | with_reducible refine thenQ_ret ?_ | with_reducible refine blockQ_ret ?_)
      refine retQ.end (by show resVs tab _ [.tmp 4] = _; simp only [kev, ktab, klen] <;> rfl) rfl ?_
      rw [decide_eq_false (fun h => by subst h; simp at hb3)]; rfl
    · simp only [bsimp] at hb3
      refine Ok.skip ?_
      refine Ok.seq ?_
      refine Ok.seq ?_
      refine Ok.region ?_
      iterate 5 (refine OkOps.ev tab_ok rfl (by simp only [kev, ktab, klen] <;> rfl) (by simp only [kput] <;> rfl) ?_)
      refine OkOps.nil ?_
      refine Ok.cond (b := _) (by simp only [kev, ktab, klen] <;> rfl) (fun hb5 => ?_) (fun hb5 => ?_)
      · simp only [bsimp] at hb5
        refine Ok.seq ?_
        refine Ok.region ?_
        refine OkOps.ev tab_ok rfl (by simp only [kev, ktab, klen] <;> rfl) (by simp only [kput] <;> rfl) ?_
        refine OkOps.nil ?_
        refine Ok.ret ?_
        repeat (first | with_reducible refine thenQ_ret ?_ | with_reducible refine blockQ_ret ?_)
        refine retQ.end (by show resVs tab _ [.tmp 4] = _; simp only [kev, ktab, klen] <;> rfl) rfl ?_
        rw [decide_eq_false (fun h => by subst h; simp at hb5)]; rfl
      · simp only [bsimp] at hb5
        refine Ok.skip ?_
        refine Ok.seq ?_
        refine Ok.seq ?_
        refine Ok.region ?_
        iterate 5 (refine OkOps.ev tab_ok rfl (by simp only [kev, ktab, klen] <;> rfl) (by simp only [kput] <;> rfl) ?_)
        refine OkOps.nil ?_
        refine Ok.cond (b := _) (by simp only [kev, ktab, klen] <;> rfl) (fun hb7 => ?_) (fun hb7 => ?_)
        · simp only [bsimp] at hb7
          refine Ok.seq ?_
          refine Ok.region ?_
          refine OkOps.ev tab_ok rfl (by simp only [kev, ktab, klen] <;> rfl) (by simp only [kput] <;> rfl) ?_
          refine OkOps.nil ?_
          refine Ok.ret ?_
          repeat (first | with_reducible refine thenQ_ret ?_ | with_reducible refine blockQ_ret ?_)
          refine retQ.end (by show resVs tab _ [.tmp 4] = _; simp only [kev, ktab, klen] <;> rfl) rfl ?_
          rw [decide_eq_false (fun h => by subst h; simp at hb7)]; rfl
        · simp only [bsimp] at hb7
          refine Ok.skip ?_
          refine Ok.seq ?_
          refine Ok.region ?_
          refine OkOps.ev tab_ok rfl (by simp only [kev, ktab, klen] <;> rfl) (by simp only [kput] <;> rfl) ?_
          refine OkOps.nil ?_
          refine Ok.ret ?_
          repeat (first | with_reducible refine thenQ_ret ?_ | with_reducible refine blockQ_ret ?_)
          refine retQ.end (by show resVs tab _ [.tmp 4] = _; simp only [kev, ktab, klen] <;> rfl) rfl ?_
          rw [decide_eq_true (by cases a; cases b; simp_all)]; rfl
theorem f38 (a b : Sync) : Weak Try.prog 38 [.agg (cSync a), .agg (cSync b)] (.bool (decide (a = b))) := by
  refine Weak.enter tab_ok Try.func38 rfl (.inr (by simp [V.labelsL, V.labels, zl])) (t := [.agg (cSync a), .agg (cSync b), .any, .any, .any, .any, .any, .any, .any, .any, .any, .any, .any, .any, .any, .any, .any, .any, .any, .any, .any, .any, .any, .any, .any, .any, .any, .any, .any, .any, .any, .any, .any, .any, .any, .any, .any]) rfl ?_
  refine Ok.seq ?_
  refine Ok.region ?_
  iterate 3 (refine OkOps.ev tab_ok rfl (by simp only [kev, ktab, klen] <;> rfl) (by simp only [kput] <;> rfl) ?_)
  refine OkOps.nil ?_
  refine Ok.seq ?_
  refine Ok.seq ?_
  refine Ok.region ?_
  iterate 5 (refine OkOps.ev tab_ok rfl (by simp only [kev, ktab, klen] <;> rfl) (by simp only [kput] <;> rfl) ?_)
  refine OkOps.nil ?_
  refine Ok.cond (b := _) (by simp only [kev, ktab, klen] <;> rfl) (fun hb1 => ?_) (fun hb1 => ?_)
  · simp only [bsimp] at hb1
    refine Ok.seq ?_
    refine Ok.region ?_
    refine OkOps.ev tab_ok rfl (by simp only [kev, ktab, klen] <;> rfl) (by simp only [kput] <;> rfl) ?_
    refine OkOps.nil ?_
    refine Ok.ret ?_
    repeat (first | with_reducible refine thenQ_ret ?_ | with_reducible refine blockQ_ret ?_)
    refine retQ.end (by show resVs tab _ [.tmp 4] = _; simp only [kev, ktab, klen] <;> rfl) rfl ?_
    rw [decide_eq_false (fun h => by subst h; simp at hb1)]; rfl
  · simp only [bsimp] at hb1
    refine Ok.skip ?_
    refine Ok.seq ?_
    refine Ok.seq ?_
    refine Ok.region ?_
    iterate 4 (refine OkOps.ev tab_ok rfl (by simp only [kev, ktab, klen] <;> rfl) (by simp only [kput] <;> rfl) ?_)
    refine OkOps.S rfl (OpS.weak' rfl (by simp only [kev, ktab, klen] <;> rfl) (by simp only [kev, ktab, klen] <;> rfl) cl26 (f26 a.link b.link)) (by simp only [kput] <;> rfl) ?_
    refine OkOps.ev tab_ok rfl (by simp only [kev, ktab, klen] <;> rfl) (by simp only [kput] <;> rfl) ?_
    refine OkOps.nil ?_
    refine Ok.cond (b := _) (by simp only [kev, ktab, klen] <;> rfl) (fun hb3 => ?_) (fun hb3 => ?_)
    · simp only [bsimp] at hb3
      refine Ok.seq ?_
      refine Ok.region ?_
      refine OkOps.ev tab_ok rfl (by simp only [kev, ktab, klen] <;> rfl) (by simp only [kput] <;> rfl) ?_
      refine OkOps.nil ?_
      refine Ok.ret ?_
      repeat (first | with_reducible refine thenQ_ret ?_ | with_reducible refine blockQ_ret ?_)
      refine retQ.end (by show resVs tab _ [.tmp 4] = _; simp only [kev, ktab, klen] <;> rfl) rfl ?_
      rw [decide_eq_false (fun h => by subst h; simp at hb3)]; rfl
    · simp only [bsimp] at hb3
      refine Ok.skip ?_
      refine Ok.seq ?_
      refine Ok.seq ?_
      refine Ok.region ?_
      iterate 5 (refine OkOps.ev tab_ok rfl (by simp only [kev, ktab, klen] <;> rfl) (by simp only [kput] <;> rfl) ?_)
      refine OkOps.nil ?_
      refine Ok.cond (b := _) (by simp only [kev, ktab, klen] <;> rfl) (fun hb5 => ?_) (fun hb5 => ?_)
      · simp only [bsimp] at hb5
        refine Ok.seq ?_
        refine Ok.region ?_
        refine OkOps.ev tab_ok rfl (by simp only [kev, ktab, klen] <;> rfl) (by simp only [kput] <;> rfl) ?_
        refine OkOps.nil ?_
        refine Ok.ret ?_
        repeat (first | with_reducible refine thenQ_ret ?_ | with_reducible refine blockQ_ret ?_)
        refine retQ.end (by show resVs tab _ [.tmp 4] = _; simp only [kev, ktab, klen] <;> rfl) rfl ?_
        rw [decide_eq_false (fun h => by subst h; simp at hb5)]; rfl
      · simp only [bsimp] at hb5
        refine Ok.skip ?_
        refine Ok.seq ?_
        refine Ok.seq ?_
        refine Ok.region ?_
        iterate 4 (refine OkOps.ev tab_ok rfl (by simp only [kev, ktab, klen] <;> rfl) (by simp only [kput] <;> rfl) ?_)
        refine OkOps.S rfl (OpS.weak' rfl (by simp only [kev, ktab, klen] <;> rfl) (by simp only [kev, ktab, klen] <;> rfl) cl21 (f21 _ _)) (by simp only [kput] <;> rfl) ?_
        refine OkOps.ev tab_ok rfl (by simp only [kev, ktab, klen] <;> rfl) (by simp only [kput] <;> rfl) ?_
        refine OkOps.nil ?_
        refine Ok.cond (b := _) (by simp only [kev, ktab, klen] <;> rfl) (fun hb7 => ?_) (fun hb7 => ?_)
        · simp only [bsimp] at hb7
          refine Ok.seq ?_
          refine Ok.region ?_
          refine OkOps.ev tab_ok rfl (by simp only [kev, ktab, klen] <;> rfl) (by simp only [kput] <;> rfl) ?_
          refine OkOps.nil ?_
          refine Ok.ret ?_
          repeat (first | with_reducible refine thenQ_ret ?_ | with_reducible refine blockQ_ret ?_)
          refine retQ.end (by show resVs tab _ [.tmp 4] = _; simp only [kev, ktab, klen] <;> rfl) rfl ?_
          rw [decide_eq_false (fun h => by subst h; simp at hb7)]; rfl
        · simp only [bsimp] at hb7
          refine Ok.skip ?_
          refine Ok.seq ?_
          refine Ok.seq ?_
          refine Ok.region ?_
          iterate 5 (refine OkOps.ev tab_ok rfl (by simp only [kev, ktab, klen] <;> rfl) (by simp only [kput] <;> rfl) ?_)
          refine OkOps.nil ?_
          refine Ok.cond (b := _) (by simp only [kev, ktab, klen] <;> rfl) (fun hb9 => ?_) (fun hb9 => ?_)
          · simp only [bsimp] at hb9
            refine Ok.seq ?_
            refine Ok.region ?_
            refine OkOps.ev tab_ok rfl (by simp only [kev, ktab, klen] <;> rfl) (by simp only [kput] <;> rfl) ?_
            refine OkOps.nil ?_
            refine Ok.ret ?_
            repeat (first | with_reducible refine thenQ_ret ?_ | with_reducible refine blockQ_ret ?_)
            refine retQ.end (by show resVs tab _ [.tmp 4] = _; simp only [kev, ktab, klen] <;> rfl) rfl ?_
            rw [decide_eq_false (fun h => by subst h; simp at hb9)]; rfl
          · simp only [bsimp] at hb9
            refine Ok.skip ?_
            refine Ok.seq ?_
            refine Ok.seq ?_
            refine Ok.region ?_
            iterate 5 (refine OkOps.ev tab_ok rfl (by simp only [kev, ktab, klen] <;> rfl) (by simp only [kput] <;> rfl) ?_)
            refine OkOps.nil ?_
            refine Ok.cond (b := _) (by simp only [kev, ktab, klen] <;> rfl) (fun hb11 => ?_) (fun hb11 => ?_)
            · simp only [bsimp] at hb11
              refine Ok.seq ?_
              refine Ok.region ?_
              refine OkOps.ev tab_ok rfl (by simp only [kev, ktab, klen] <;> rfl) (by simp only [kput] <;> rfl) ?_
              refine OkOps.nil ?_
              refine Ok.ret ?_
              repeat (first | with_reducible refine thenQ_ret ?_ | with_reducible refine blockQ_ret ?_)
              refine retQ.end (by show resVs tab _ [.tmp 4] = _; simp only [kev, ktab, klen] <;> rfl) rfl ?_
              rw [decide_eq_false (fun h => by subst h; simp at hb11)]; rfl
            · simp only [bsimp] at hb11
              refine Ok.skip ?_
              refine Ok.seq ?_
              refine Ok.region ?_
              refine OkOps.ev tab_ok rfl (by simp only [kev, ktab, klen] <;> rfl) (by simp only [kput] <;> rfl) ?_
              refine OkOps.nil ?_
              refine Ok.ret ?_
              repeat (first | with_reducible refine thenQ_ret ?_ | with_reducible refine blockQ_ret ?_)
              refine retQ.end (by show resVs tab _ [.tmp 4] = _; simp only [kev, ktab, klen] <;> rfl) rfl ?_
              rw [decide_eq_true (by cases a; cases b; simp_all)]; rfl
end Go.Proofs.Ytglodjbknjfmjaa.K
