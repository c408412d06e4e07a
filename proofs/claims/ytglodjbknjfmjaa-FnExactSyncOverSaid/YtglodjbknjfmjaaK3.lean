/- The walk of FnExactSyncOver. Printed by walk.py. -/
import Derived.Test.YtglodjbknjfmjaaK1
import Derived.Test.YtglodjbknjfmjaaK2
namespace Go.Proofs.Ytglodjbknjfmjaa.K
open Go Go.RowKit
set_option linter.unusedVariables false
set_option linter.unusedSimpArgs false
theorem f7 (y : Sync) (h1 : StrsB y.link.way) (h2 : StrsB y.pieces) : Weak Try.prog 7 [.agg (cSync y)] (.bool true) := by
  refine Weak.enter tab_ok Try.func7 rfl (.inr (by simp [V.labelsL, V.labels, zl])) (t := [.agg (cSync y), .any, .any, .any, .any, .any, .any, .any, .any, .any, .any, .any, .any, .any, .any, .any, .any, .any, .any, .any, .any, .any, .any, .any, .any, .any, .any]) rfl ?_
  refine Ok.seq ?_
  refine Ok.region ?_
  iterate 2 (refine OkOps.ev tab_ok rfl (by simp only [kev, ktab, klen] <;> rfl) (by simp only [kput] <;> rfl) ?_)
  refine OkOps.nil ?_
  refine Ok.seq ?_
  refine Ok.region ?_
  refine OkOps.ev tab_ok rfl (by simp only [kev, ktab, klen] <;> rfl) (by simp only [kput] <;> rfl) ?_
  refine OkOps.nil ?_
  refine Ok.seq ?_
  refine Ok.region ?_
  iterate 2 (refine OkOps.ev tab_ok rfl (by simp only [kev, ktab, klen] <;> rfl) (by simp only [kput] <;> rfl) ?_)
  refine OkOps.S rfl (OpS.weak' rfl (by simp only [kev, ktab, klen] <;> rfl) (by simp only [kev, ktab, klen] <;> rfl) cl34 (f34 y _)) (by simp only [kput] <;> rfl) ?_
  refine OkOps.ev tab_ok rfl (by simp only [kev, ktab, klen] <;> rfl) (by simp only [kput] <;> rfl) ?_
  refine OkOps.nil ?_
  refine Ok.seq ?_
  refine Ok.seq ?_
  refine Ok.region ?_
  iterate 2 (refine OkOps.ev tab_ok rfl (by simp only [kev, ktab, klen] <;> rfl) (by simp only [kput] <;> rfl) ?_)
  refine OkOps.nil ?_
  refine Ok.cond (b := _) (by simp only [kev, ktab, klen] <;> rfl) (fun hb3 => ?_) (fun hb3 => ?_)
  · simp only [bsimp] at hb3
    refine Ok.seq ?_
    refine Ok.region ?_
    refine OkOps.ev tab_ok rfl (by simp only [kev, ktab, klen] <;> rfl) (by simp only [kput] <;> rfl) ?_
    refine OkOps.nil ?_
    refine Ok.ret ?_
    repeat (first | with_reducible refine thenQ_ret ?_ | with_reducible refine blockQ_ret ?_)
    refine retQ.end (by show resVs tab _ [.tmp 2] = _; simp only [kev, ktab, klen] <;> rfl) rfl ?_
    rfl
  · simp only [bsimp] at hb3
    have hs := (szSync_ok (by omega) (by omega) h1 h2 hb3).2
    refine Ok.skip ?_
    refine Ok.seq ?_
    refine Ok.region ?_
    refine OkOps.ev tab_ok rfl (by simp only [kev, ktab, klen] <;> rfl) (by simp only [kput] <;> rfl) ?_
    refine OkOps.S rfl (OpS.weak' rfl (by simp only [kev, ktab, klen] <;> rfl) (by simp only [kev, ktab, klen] <;> rfl) cl36 (f36 y hs.1.1 hs.2.1)) (by simp only [kput] <;> rfl) ?_
    refine OkOps.S rfl (OpS.weak' rfl (by simp only [kev, ktab, klen] <;> rfl) (by simp only [kev, ktab, klen] <;> rfl) cl35 (f35 y)) (by simp only [kput] <;> rfl) ?_
    refine OkOps.ev tab_ok rfl (by simp only [kev, ktab, klen] <;> rfl) (by simp only [kput] <;> rfl) ?_
    refine OkOps.nil ?_
    refine Ok.seq ?_
    refine Ok.region ?_
    refine OkOps.ev tab_ok rfl (by simp only [kev, ktab, klen] <;> rfl) (by simp only [kput] <;> rfl) ?_
    refine OkOps.S rfl (OpS.weak' rfl (by simp only [kev, ktab, klen] <;> rfl) (by simp only [kev, ktab, klen] <;> rfl) cl36 (f36 y hs.1.1 hs.2.1)) (by simp only [kput] <;> rfl) ?_
    refine OkOps.ev tab_ok rfl (by simp only [kev, ktab, klen] <;> rfl) (by simp only [kput] <;> rfl) ?_
    refine OkOps.storeE tab_ok rfl rfl (by simp only [kev, ktab, klen] <;> rfl) ⟨_, _, by simp only [kev]; rfl⟩ (by simp [V.labelsL, V.labels, zl]) (by simp only [V.updL, V.travL, V.travLL, V.trav, updS, updP, and_self, true_and, and_true, false_and, and_false, Nat.reduceEqDiff, Nat.reduceSub, Nat.le_refl, Nat.zero_le, ↓reduceIte, if_true, if_false, kput, zu] <;> rfl) rfl ?_
    refine OkOps.nil ?_
    refine Ok.seq ?_
    refine Ok.region ?_
    refine OkOps.ev tab_ok rfl (by simp only [kev, ktab, klen] <;> rfl) (by simp only [kput] <;> rfl) ?_
    refine OkOps.S rfl (OpS.weak' rfl (by simp only [kev, ktab, klen] <;> rfl) (by simp only [kev, ktab, klen] <;> rfl) cl37 (f37 y)) (by simp only [kput] <;> rfl) ?_
    refine OkOps.ev tab_ok rfl (by simp only [kev, ktab, klen] <;> rfl) (by simp only [kput] <;> rfl) ?_
    refine OkOps.nil ?_
    refine Ok.seq ?_
    refine Ok.seq ?_
    refine Ok.region ?_
    iterate 3 (refine OkOps.ev tab_ok rfl (by simp only [kev, ktab, klen] <;> rfl) (by simp only [kput] <;> rfl) ?_)
    refine OkOps.nil ?_
    refine Ok.cond_false (by simp only [kev, ktab, klen] <;> simp) ?_
    refine Ok.skip ?_
    refine Ok.seq ?_
    refine Ok.seq ?_
    refine Ok.drawn 5 27 [] (by kernel_rfl) (by kernel_rfl) rfl ?_
    refine SOps.ev tab_ok rfl (by simp only [kev, ktab, klen] <;> rfl) (by simp only [kput] <;> rfl) ?_
    refine SOps.ev tab_ok rfl (by simp only [kev, ktab, klen] <;> rfl) (by simp only [kput] <;> rfl) ?_
    refine SOps.S rfl (OpS.weakM rfl (by simp only [kev, ktab, klen] <;> rfl) (by simp only [kev, ktab, klen] <;> rfl) cl36 (f36 y hs.1.1 hs.2.1)) (by simp only [kput] <;> rfl) ?_
    refine SOps.S rfl (OpS.weakM rfl (by simp only [kev, ktab, klen] <;> rfl) (by simp only [kev, ktab, klen] <;> rfl) cl38 (f38 y y)) (by simp only [kput] <;> rfl) ?_
    refine SOps.ev tab_ok rfl (by simp only [kev, ktab, klen] <;> rfl) (by simp only [kput] <;> rfl) ?_
    refine SOps.nil ?_
    refine TOps.nil ?_
    refine Ok.cond_false (by simp only [kev, ktab, klen] <;> simp) ?_
    refine Ok.skip ?_
    refine Ok.seq ?_
    refine Ok.region ?_
    refine OkOps.ev tab_ok rfl (by simp only [kev, ktab, klen] <;> rfl) (by simp only [kput] <;> rfl) ?_
    refine OkOps.nil ?_
    refine Ok.ret ?_
    repeat (first | with_reducible refine thenQ_ret ?_ | with_reducible refine blockQ_ret ?_)
    refine retQ.end (by show resVs tab _ [.tmp 2] = _; simp only [kev, ktab, klen] <;> rfl) rfl ?_
    rfl
end Go.Proofs.Ytglodjbknjfmjaa.K
