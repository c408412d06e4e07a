/- Walks: marks that records still hold. Printed by w2.py. -/
import Derived.Test.YtjhfabimacljhaaY26
namespace Go.Proofs.Ytjhfabimacljhaa.K
open Go Go.RowKit
set_option linter.unusedVariables false
set_option linter.unusedSimpArgs false
set_option maxHeartbeats 4000000
set_option maxRecDepth 20000
theorem w_laws_heldStore (x : Store) (k : Nat) (hk : k + V.mnLL (x.boxes.map cBox) + V.mnLL (x.gone.map cZ) ≤ 4611686018427387904) : Weak Try.prog 93 [.agg [.int .i64 x.by_, .int .i64 x.time, .sl 0 7 0 (V.mkLL (k) (x.boxes.map cBox)), .sl 0 1 0 (V.mkLL (k + V.mnLL (x.boxes.map cBox)) (x.gone.map cZ))], .int .i64 (k : Int)] (.int .i64 ((k + V.mnLL (x.boxes.map cBox) + V.mnLL (x.gone.map cZ) : Nat) : Int)) := by
  refine Weak.enter tab_ok Try.func93 rfl (.inr (by simp [V.labelsL, V.labels, V.labelsLL, mkLL_labels, zz, zf, zy, or_imp, forall_and])) (t := [.agg [.int .i64 x.by_, .int .i64 x.time, .sl 0 7 0 (V.mkLL (k) (x.boxes.map cBox)), .sl 0 1 0 (V.mkLL (k + V.mnLL (x.boxes.map cBox)) (x.gone.map cZ))], .int .i64 (k : Int), .any, .any, .any, .any, .any, .any, .any, .any, .any, .any, .any, .any, .any, .any, .any, .any]) rfl ?_
  refine Ok.seq ?_
  refine Ok.region ?_
  iterate 2 (refine OkOps.ev tab_ok rfl (by simp only [kev, ktab, klen, kcv] <;> rfl) (by simp only [kput] <;> rfl) ?_)
  refine OkOps.nil ?_
  refine Ok.seq ?_
  refine Ok.region ?_
  iterate 3 (refine OkOps.ev tab_ok rfl (by simp only [kev, ktab, klen, kcv] <;> rfl) (by simp only [kput] <;> rfl) ?_)
  refine OkOps.S0 rfl (OpS.weak' rfl (by simp only [kev, ktab, klen, kcv] <;> rfl) (by simp only [kev, ktab, klen, kcv] <;> rfl) cl81 (w_laws_heldBoxS x.boxes _ (by omega))) (by simp only [kput] <;> rfl) ?_
  refine OkOps.ev tab_ok rfl (by simp only [kev, ktab, klen, kcv] <;> rfl) (by simp only [kput] <;> rfl) ?_
  refine OkOps.nil ?_
  refine Ok.seq ?_
  refine Ok.seq ?_
  refine Ok.region ?_
  iterate 2 (refine OkOps.ev tab_ok rfl (by simp only [kev, ktab, klen, kcv] <;> rfl) (by simp only [kput] <;> rfl) ?_)
  refine OkOps.nil ?_
  refine Ok.cond_false (by simp only [kev, ktab, klen, kcv] <;> first | rfl | (simp; done) | (simp; omega)) ?_
  refine Ok.skip ?_
  refine Ok.seq ?_
  refine Ok.region ?_
  iterate 3 (refine OkOps.ev tab_ok rfl (by simp only [kev, ktab, klen, kcv] <;> rfl) (by simp only [kput] <;> rfl) ?_)
  refine OkOps.S0 rfl (OpS.weak' rfl (by simp only [kev, ktab, klen, kcv] <;> rfl) (by simp only [kev, ktab, klen, kcv] <;> rfl) cl59 (w_laws_heldIntS x.gone _ (by omega))) (by simp only [kput] <;> rfl) ?_
  refine OkOps.ev tab_ok rfl (by simp only [kev, ktab, klen, kcv] <;> rfl) (by simp only [kput] <;> rfl) ?_
  refine OkOps.nil ?_
  refine Ok.seq ?_
  refine Ok.seq ?_
  refine Ok.region ?_
  iterate 2 (refine OkOps.ev tab_ok rfl (by simp only [kev, ktab, klen, kcv] <;> rfl) (by simp only [kput] <;> rfl) ?_)
  refine OkOps.nil ?_
  refine Ok.cond_false (by simp only [kev, ktab, klen, kcv] <;> first | rfl | (simp; done) | (simp; omega)) ?_
  refine Ok.skip ?_
  refine Ok.seq ?_
  refine Ok.region ?_
  iterate 2 (refine OkOps.ev tab_ok rfl (by simp only [kev, ktab, klen, kcv] <;> rfl) (by simp only [kput] <;> rfl) ?_)
  refine OkOps.nil ?_
  refine Ok.ret ?_
  repeat (first | with_reducible refine thenQ_ret ?_ | with_reducible refine blockQ_ret ?_)
  refine retQ.end (by show resVs tab _ [.tmp 4] = _; simp only [kev, ktab, klen, kcv] <;> rfl) rfl ?_
  rfl
theorem w_laws_heldKept (x : Kept) (k : Nat) (hk : k + V.mnLL (x.store.boxes.map cBox) + V.mnLL (x.store.gone.map cZ) ≤ 4611686018427387904) : Weak Try.prog 55 [.agg [.int .i64 x.store.by_, .int .i64 x.store.time, .sl 0 7 0 (V.mkLL (k) (x.store.boxes.map cBox)), .sl 0 1 0 (V.mkLL (k + V.mnLL (x.store.boxes.map cBox)) (x.store.gone.map cZ)), .str x.journal, .int .i64 x.saved], .int .i64 (k : Int)] (.int .i64 ((k + V.mnLL (x.store.boxes.map cBox) + V.mnLL (x.store.gone.map cZ) : Nat) : Int)) := by
  refine Weak.enter tab_ok Try.func55 rfl (.inr (by simp [V.labelsL, V.labels, V.labelsLL, mkLL_labels, zz, zf, zy, or_imp, forall_and])) (t := [.agg [.int .i64 x.store.by_, .int .i64 x.store.time, .sl 0 7 0 (V.mkLL (k) (x.store.boxes.map cBox)), .sl 0 1 0 (V.mkLL (k + V.mnLL (x.store.boxes.map cBox)) (x.store.gone.map cZ)), .str x.journal, .int .i64 x.saved], .int .i64 (k : Int), .any, .any, .any, .any, .any, .any, .any, .any, .any, .any]) rfl ?_
  refine Ok.seq ?_
  refine Ok.region ?_
  iterate 2 (refine OkOps.ev tab_ok rfl (by simp only [kev, ktab, klen, kcv] <;> rfl) (by simp only [kput] <;> rfl) ?_)
  refine OkOps.nil ?_
  refine Ok.seq ?_
  refine Ok.region ?_
  iterate 3 (refine OkOps.ev tab_ok rfl (by simp only [kev, ktab, klen, kcv] <;> rfl) (by simp only [kput] <;> rfl) ?_)
  refine OkOps.S0 rfl (OpS.weak' rfl (by simp only [kev, ktab, klen, kcv] <;> rfl) (by simp only [kev, ktab, klen, kcv] <;> rfl) cl93 (w_laws_heldStore x.store _ (by omega))) (by simp only [kput] <;> rfl) ?_
  refine OkOps.ev tab_ok rfl (by simp only [kev, ktab, klen, kcv] <;> rfl) (by simp only [kput] <;> rfl) ?_
  refine OkOps.nil ?_
  refine Ok.seq ?_
  refine Ok.seq ?_
  refine Ok.region ?_
  iterate 2 (refine OkOps.ev tab_ok rfl (by simp only [kev, ktab, klen, kcv] <;> rfl) (by simp only [kput] <;> rfl) ?_)
  refine OkOps.nil ?_
  refine Ok.cond_false (by simp only [kev, ktab, klen, kcv] <;> first | rfl | (simp; done) | (simp; omega)) ?_
  refine Ok.skip ?_
  refine Ok.seq ?_
  refine Ok.region ?_
  iterate 2 (refine OkOps.ev tab_ok rfl (by simp only [kev, ktab, klen, kcv] <;> rfl) (by simp only [kput] <;> rfl) ?_)
  refine OkOps.nil ?_
  refine Ok.ret ?_
  repeat (first | with_reducible refine thenQ_ret ?_ | with_reducible refine blockQ_ret ?_)
  refine retQ.end (by show resVs tab _ [.tmp 4] = _; simp only [kev, ktab, klen, kcv] <;> rfl) rfl ?_
  rfl
theorem w_laws_heldSession (x : Session) (k : Nat) (hk : k + V.mnLL (x.view.map cZ) ≤ 4611686018427387904) : Weak Try.prog 56 [.agg [.str x.inn, .str x.out, .bool x.on, .bool x.over, .int .i64 x.box, .sl 0 1 0 (V.mkLL (k) (x.view.map cZ))], .int .i64 (k : Int)] (.int .i64 ((k + V.mnLL (x.view.map cZ) : Nat) : Int)) := by
  refine Weak.enter tab_ok Try.func56 rfl (.inr (by simp [V.labelsL, V.labels, V.labelsLL, mkLL_labels, zz, zf, zy, or_imp, forall_and])) (t := [.agg [.str x.inn, .str x.out, .bool x.on, .bool x.over, .int .i64 x.box, .sl 0 1 0 (V.mkLL (k) (x.view.map cZ))], .int .i64 (k : Int), .any, .any, .any, .any, .any, .any, .any, .any, .any, .any]) rfl ?_
  refine Ok.seq ?_
  refine Ok.region ?_
  iterate 2 (refine OkOps.ev tab_ok rfl (by simp only [kev, ktab, klen, kcv] <;> rfl) (by simp only [kput] <;> rfl) ?_)
  refine OkOps.nil ?_
  refine Ok.seq ?_
  refine Ok.region ?_
  iterate 3 (refine OkOps.ev tab_ok rfl (by simp only [kev, ktab, klen, kcv] <;> rfl) (by simp only [kput] <;> rfl) ?_)
  refine OkOps.S0 rfl (OpS.weak' rfl (by simp only [kev, ktab, klen, kcv] <;> rfl) (by simp only [kev, ktab, klen, kcv] <;> rfl) cl59 (w_laws_heldIntS x.view _ (by omega))) (by simp only [kput] <;> rfl) ?_
  refine OkOps.ev tab_ok rfl (by simp only [kev, ktab, klen, kcv] <;> rfl) (by simp only [kput] <;> rfl) ?_
  refine OkOps.nil ?_
  refine Ok.seq ?_
  refine Ok.seq ?_
  refine Ok.region ?_
  iterate 2 (refine OkOps.ev tab_ok rfl (by simp only [kev, ktab, klen, kcv] <;> rfl) (by simp only [kput] <;> rfl) ?_)
  refine OkOps.nil ?_
  refine Ok.cond_false (by simp only [kev, ktab, klen, kcv] <;> first | rfl | (simp; done) | (simp; omega)) ?_
  refine Ok.skip ?_
  refine Ok.seq ?_
  refine Ok.region ?_
  iterate 2 (refine OkOps.ev tab_ok rfl (by simp only [kev, ktab, klen, kcv] <;> rfl) (by simp only [kput] <;> rfl) ?_)
  refine OkOps.nil ?_
  refine Ok.ret ?_
  repeat (first | with_reducible refine thenQ_ret ?_ | with_reducible refine blockQ_ret ?_)
  refine retQ.end (by show resVs tab _ [.tmp 4] = _; simp only [kev, ktab, klen, kcv] <;> rfl) rfl ?_
  rfl
theorem w_laws_heldServer (x : Server) (k : Nat) (hk : k + V.mnLL (x.kept.store.boxes.map cBox) + V.mnLL (x.kept.store.gone.map cZ) + V.mnLL (x.session.view.map cZ) ≤ 4611686018427387904) : Weak Try.prog 20 [.agg [.int .i64 x.kept.store.by_, .int .i64 x.kept.store.time, .sl 0 7 0 (V.mkLL (k) (x.kept.store.boxes.map cBox)), .sl 0 1 0 (V.mkLL (k + V.mnLL (x.kept.store.boxes.map cBox)) (x.kept.store.gone.map cZ)), .str x.kept.journal, .int .i64 x.kept.saved, .str x.session.inn, .str x.session.out, .bool x.session.on, .bool x.session.over, .int .i64 x.session.box, .sl 0 1 0 (V.mkLL (k + V.mnLL (x.kept.store.boxes.map cBox) + V.mnLL (x.kept.store.gone.map cZ)) (x.session.view.map cZ)), .bool x.up], .int .i64 (k : Int)] (.int .i64 ((k + V.mnLL (x.kept.store.boxes.map cBox) + V.mnLL (x.kept.store.gone.map cZ) + V.mnLL (x.session.view.map cZ) : Nat) : Int)) := by
  refine Weak.enter tab_ok Try.func20 rfl (.inr (by simp [V.labelsL, V.labels, V.labelsLL, mkLL_labels, zz, zf, zy, or_imp, forall_and])) (t := [.agg [.int .i64 x.kept.store.by_, .int .i64 x.kept.store.time, .sl 0 7 0 (V.mkLL (k) (x.kept.store.boxes.map cBox)), .sl 0 1 0 (V.mkLL (k + V.mnLL (x.kept.store.boxes.map cBox)) (x.kept.store.gone.map cZ)), .str x.kept.journal, .int .i64 x.kept.saved, .str x.session.inn, .str x.session.out, .bool x.session.on, .bool x.session.over, .int .i64 x.session.box, .sl 0 1 0 (V.mkLL (k + V.mnLL (x.kept.store.boxes.map cBox) + V.mnLL (x.kept.store.gone.map cZ)) (x.session.view.map cZ)), .bool x.up], .int .i64 (k : Int), .any, .any, .any, .any, .any, .any, .any, .any, .any, .any, .any, .any, .any, .any, .any, .any]) rfl ?_
  refine Ok.seq ?_
  refine Ok.region ?_
  iterate 2 (refine OkOps.ev tab_ok rfl (by simp only [kev, ktab, klen, kcv] <;> rfl) (by simp only [kput] <;> rfl) ?_)
  refine OkOps.nil ?_
  refine Ok.seq ?_
  refine Ok.region ?_
  iterate 3 (refine OkOps.ev tab_ok rfl (by simp only [kev, ktab, klen, kcv] <;> rfl) (by simp only [kput] <;> rfl) ?_)
  refine OkOps.S0 rfl (OpS.weak' rfl (by simp only [kev, ktab, klen, kcv] <;> rfl) (by simp only [kev, ktab, klen, kcv] <;> rfl) cl55 (w_laws_heldKept x.kept _ (by omega))) (by simp only [kput] <;> rfl) ?_
  refine OkOps.ev tab_ok rfl (by simp only [kev, ktab, klen, kcv] <;> rfl) (by simp only [kput] <;> rfl) ?_
  refine OkOps.nil ?_
  refine Ok.seq ?_
  refine Ok.seq ?_
  refine Ok.region ?_
  iterate 2 (refine OkOps.ev tab_ok rfl (by simp only [kev, ktab, klen, kcv] <;> rfl) (by simp only [kput] <;> rfl) ?_)
  refine OkOps.nil ?_
  refine Ok.cond_false (by simp only [kev, ktab, klen, kcv] <;> first | rfl | (simp; done) | (simp; omega)) ?_
  refine Ok.skip ?_
  refine Ok.seq ?_
  refine Ok.region ?_
  iterate 3 (refine OkOps.ev tab_ok rfl (by simp only [kev, ktab, klen, kcv] <;> rfl) (by simp only [kput] <;> rfl) ?_)
  refine OkOps.S0 rfl (OpS.weak' rfl (by simp only [kev, ktab, klen, kcv] <;> rfl) (by simp only [kev, ktab, klen, kcv] <;> rfl) cl56 (w_laws_heldSession x.session _ (by omega))) (by simp only [kput] <;> rfl) ?_
  refine OkOps.ev tab_ok rfl (by simp only [kev, ktab, klen, kcv] <;> rfl) (by simp only [kput] <;> rfl) ?_
  refine OkOps.nil ?_
  refine Ok.seq ?_
  refine Ok.seq ?_
  refine Ok.region ?_
  iterate 2 (refine OkOps.ev tab_ok rfl (by simp only [kev, ktab, klen, kcv] <;> rfl) (by simp only [kput] <;> rfl) ?_)
  refine OkOps.nil ?_
  refine Ok.cond_false (by simp only [kev, ktab, klen, kcv] <;> first | rfl | (simp; done) | (simp; omega)) ?_
  refine Ok.skip ?_
  refine Ok.seq ?_
  refine Ok.region ?_
  iterate 2 (refine OkOps.ev tab_ok rfl (by simp only [kev, ktab, klen, kcv] <;> rfl) (by simp only [kput] <;> rfl) ?_)
  refine OkOps.nil ?_
  refine Ok.ret ?_
  repeat (first | with_reducible refine thenQ_ret ?_ | with_reducible refine blockQ_ret ?_)
  refine retQ.end (by show resVs tab _ [.tmp 4] = _; simp only [kev, ktab, klen, kcv] <;> rfl) rfl ?_
  rfl
end Go.Proofs.Ytjhfabimacljhaa.K
