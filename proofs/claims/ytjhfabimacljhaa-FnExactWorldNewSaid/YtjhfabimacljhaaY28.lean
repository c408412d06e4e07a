/- Walks: pairs made. Printed by w2.py. -/
import Derived.Test.YtjhfabimacljhaaY25
import Derived.Test.YtjhfabimacljhaaY27
import Derived.Test.YtjhfabimacljhaaYo
import Derived.Test.YtjhfabimacljhaaY20
namespace Go.Proofs.Ytjhfabimacljhaa.K
open Go Go.RowKit
set_option linter.unusedVariables false
set_option linter.unusedSimpArgs false
set_option maxHeartbeats 4000000
set_option maxRecDepth 20000
def sessionNew : Session := ⟨[], [42, 32, 79, 75, 13, 10], false, false, 0, []⟩
abbrev serverNew (b : Int) : Server := ⟨⟨⟨b, 0, [], []⟩, [], 0⟩, ⟨[], [42, 32, 79, 75, 13, 10], false, false, 0, []⟩, true⟩
abbrev syncNew : Sync := ⟨0, ⟨0, [], 0, 0⟩, 0, [], false, true⟩
def pairNew : Pair := ⟨[serverNew 1, serverNew 2], [syncNew, syncNew], [], 0⟩
theorem p_spec_StoreNew (b : Int) : Pure Try.prog 106 [.int .i64 b] (.agg (cStore ⟨b, 0, [], []⟩)) := by
  refine Pure.of (by simp [V.dat, V.datL, V.datLL, zz, zf, zy]) (OkCall.enter' tab_ok Try.func106 rfl (t := [.int .i64 b, .any, .any, .any, .any]) rfl ?_)
  refine Ok.seq ?_
  refine Ok.region ?_
  refine OkOps.ev tab_ok rfl (by simp only [kev, ktab, klen, kcv] <;> rfl) (by simp only [kput] <;> rfl) ?_
  refine OkOps.nil ?_
  refine Ok.seq ?_
  refine Ok.region ?_
  refine OkOps.ev tab_ok rfl (by simp only [kev, ktab, klen, kcv] <;> rfl) (by simp only [kput] <;> rfl) ?_
  refine OkOps.ev tab_ok rfl (by simp [ev1, fillV, kev, ktab, klen] <;> first | rfl | exact ⟨rfl, rfl⟩) (by simp only [kput] <;> rfl) ?_
  refine OkOps.storeE tab_ok rfl rfl (by simp only [kev, ktab, klen, kcv] <;> rfl) ⟨_, _, by simp only [kev]; rfl⟩ (by first | (simp [V.labelsL, V.labelsLL, V.labels, zz, zf, zy]; done) | (simp [-List.map_map, -List.map_drop, -List.map_take, -List.map_tail, -List.drop_one, V.labelsL, V.labelsLL, V.labels, zz, zf, zy]; done)) (by simp only [eq_self, V.updL, V.travL, V.travLL, V.trav, updS, updP, and_self, true_and, and_true, false_and, and_false, Nat.reduceEqDiff, Nat.reduceSub, Nat.le_refl, Nat.zero_le, ↓reduceIte, if_true, if_false, kput, zz, zf, zy] <;> rfl) (rfl) ?_
  refine OkOps.nil ?_
  refine Ok.ret ?_
  repeat (first | with_reducible refine thenQ_ret ?_ | with_reducible refine blockQ_ret ?_)
  refine retQ.end (by show resVs tab _ [.cell 2 44] = _; simp only [kev, ktab, klen, kcv] <;> rfl) rfl ?_
  exact ⟨by simp [V.erase, V.trav, V.travL, V.travLL, packV, zz, zf, zy], by simp [V.labels, V.labelsL, V.labelsLL, packV, zz, zf, zy], by simp [V.labels, V.labelsL, V.labelsLL, packV, zz, zf, zy]⟩
theorem p_spec_KeptNew (b : Int) : Pure Try.prog 72 [.int .i64 b] (.agg (cKept ⟨⟨b, 0, [], []⟩, [], 0⟩)) := by
  refine Pure.of (by simp [V.dat, V.datL, V.datLL, zz, zf, zy]) (OkCall.enter' tab_ok Try.func72 rfl (t := [.int .i64 b, .any, .any, .any, .any, .any]) rfl ?_)
  refine Ok.seq ?_
  refine Ok.region ?_
  refine OkOps.ev tab_ok rfl (by simp only [kev, ktab, klen, kcv] <;> rfl) (by simp only [kput] <;> rfl) ?_
  refine OkOps.nil ?_
  refine Ok.seq ?_
  refine Ok.region ?_
  refine OkOps.ev tab_ok rfl (by simp only [kev, ktab, klen, kcv] <;> rfl) (by simp only [kput] <;> rfl) ?_
  refine OkOps.S' rfl (OpS.pure' rfl (by simp only [kev, ktab, klen, kcv] <;> rfl) (by simp only [kev, ktab, klen, kcv, V.eraseL, V.erase, V.travL, V.trav, zz, zf, zy] <;> rfl) cl106 (by simp [V.dat, V.datL, V.datLL, zz, zf, zy]) (p_spec_StoreNew b)) (by simp only [V.cnt, V.cntL, zz, zf, zy, Nat.add_zero, Nat.reduceAdd, V.tagLL, V.cntLL, List.map_nil, List.map_cons] <;> rfl) (by simp only [kput, V.tag, V.tagL, V.cnt, V.cntL, zz, zf, zy, Nat.add_zero, Nat.reduceAdd, V.tagLL, V.cntLL, List.map_nil, List.map_cons] <;> rfl) ?_
  refine OkOps.ev tab_ok rfl (by simp [ev1, fillV, kev, ktab, klen] <;> first | rfl | exact ⟨rfl, rfl⟩) (by simp only [kput] <;> rfl) ?_
  refine OkOps.storeE tab_ok rfl rfl (by simp only [kev, ktab, klen, kcv] <;> rfl) ⟨_, _, by simp only [kev]; rfl⟩ (by first | (simp [V.labelsL, V.labelsLL, V.labels, zz, zf, zy]; done) | (simp [-List.map_map, -List.map_drop, -List.map_take, -List.map_tail, -List.drop_one, V.labelsL, V.labelsLL, V.labels, zz, zf, zy]; done)) (by simp only [eq_self, V.updL, V.travL, V.travLL, V.trav, updS, updP, and_self, true_and, and_true, false_and, and_false, Nat.reduceEqDiff, Nat.reduceSub, Nat.le_refl, Nat.zero_le, ↓reduceIte, if_true, if_false, kput, zz, zf, zy] <;> rfl) (rfl) ?_
  refine OkOps.nil ?_
  refine Ok.ret ?_
  repeat (first | with_reducible refine thenQ_ret ?_ | with_reducible refine blockQ_ret ?_)
  refine retQ.end (by show resVs tab _ [.cell 2 46] = _; simp only [kev, ktab, klen, kcv] <;> rfl) rfl ?_
  exact ⟨by simp [V.erase, V.trav, V.travL, V.travLL, packV, zz, zf, zy], by simp [V.labels, V.labelsL, V.labelsLL, packV, zz, zf, zy], by simp [V.labels, V.labelsL, V.labelsLL, packV, zz, zf, zy]⟩
theorem p_spec_SessionNew  : Pure Try.prog 73 [] (.agg (cSession ⟨[], [42, 32, 79, 75, 13, 10], false, false, 0, []⟩)) := by
  refine Pure.of (by simp [V.dat, V.datL, V.datLL, zz, zf, zy]) (OkCall.enter' tab_ok Try.func73 rfl (t := [.any, .any]) rfl ?_)
  refine Ok.seq ?_
  refine Ok.region ?_
  refine OkOps.ev tab_ok rfl (by simp only [kev, ktab, klen, kcv] <;> rfl) (by simp only [kput] <;> rfl) ?_
  refine OkOps.nil ?_
  refine Ok.seq ?_
  refine Ok.region ?_
  refine OkOps.ev tab_ok rfl (by simp [ev1, fillV, kev, ktab, klen] <;> first | rfl | exact ⟨rfl, rfl⟩) (by simp only [kput] <;> rfl) ?_
  refine OkOps.storeE tab_ok rfl rfl (by simp only [kev, ktab, klen, kcv] <;> rfl) ⟨_, _, by simp only [kev]; rfl⟩ (by first | (simp [V.labelsL, V.labelsLL, V.labels, zz, zf, zy]; done) | (simp [-List.map_map, -List.map_drop, -List.map_take, -List.map_tail, -List.drop_one, V.labelsL, V.labelsLL, V.labels, zz, zf, zy]; done)) (by simp only [eq_self, V.updL, V.travL, V.travLL, V.trav, updS, updP, and_self, true_and, and_true, false_and, and_false, Nat.reduceEqDiff, Nat.reduceSub, Nat.le_refl, Nat.zero_le, ↓reduceIte, if_true, if_false, kput, zz, zf, zy] <;> rfl) (rfl) ?_
  refine OkOps.nil ?_
  refine Ok.ret ?_
  repeat (first | with_reducible refine thenQ_ret ?_ | with_reducible refine blockQ_ret ?_)
  refine retQ.end (by show resVs tab _ [.cell 0 47] = _; simp only [kev, ktab, klen, kcv] <;> rfl) rfl ?_
  exact ⟨by simp [V.erase, V.trav, V.travL, V.travLL, packV, zz, zf, zy], by simp [V.labels, V.labelsL, V.labelsLL, packV, zz, zf, zy], by simp [V.labels, V.labelsL, V.labelsLL, packV, zz, zf, zy]⟩
theorem p_spec_ServerNew (b : Int) : Pure Try.prog 34 [.int .i64 b] (.agg (cServer (serverNew b))) := by
  refine Pure.of (by simp [V.dat, V.datL, V.datLL, zz, zf, zy]) (OkCall.enter' tab_ok Try.func34 rfl (t := [.int .i64 b, .any, .any, .any, .any, .any, .any]) rfl ?_)
  refine Ok.seq ?_
  refine Ok.region ?_
  refine OkOps.ev tab_ok rfl (by simp only [kev, ktab, klen, kcv] <;> rfl) (by simp only [kput] <;> rfl) ?_
  refine OkOps.nil ?_
  refine Ok.seq ?_
  refine Ok.region ?_
  refine OkOps.ev tab_ok rfl (by simp only [kev, ktab, klen, kcv] <;> rfl) (by simp only [kput] <;> rfl) ?_
  refine OkOps.S' rfl (OpS.pure' rfl (by simp only [kev, ktab, klen, kcv] <;> rfl) (by simp only [kev, ktab, klen, kcv, V.eraseL, V.erase, V.travL, V.trav, zz, zf, zy] <;> rfl) cl72 (by simp [V.dat, V.datL, V.datLL, zz, zf, zy]) (p_spec_KeptNew b)) (by simp only [V.cnt, V.cntL, zz, zf, zy, Nat.add_zero, Nat.reduceAdd, V.tagLL, V.cntLL, List.map_nil, List.map_cons] <;> rfl) (by simp only [kput, V.tag, V.tagL, V.cnt, V.cntL, zz, zf, zy, Nat.add_zero, Nat.reduceAdd, V.tagLL, V.cntLL, List.map_nil, List.map_cons] <;> rfl) ?_
  refine OkOps.S' rfl (OpS.pure' rfl (by simp only [kev, ktab, klen, kcv] <;> rfl) (by simp only [kev, ktab, klen, kcv, V.eraseL, V.erase, V.travL, V.trav, zz, zf, zy] <;> rfl) cl73 (by simp [V.dat, V.datL, V.datLL, zz, zf, zy]) (p_spec_SessionNew )) (by simp only [V.cnt, V.cntL, zz, zf, zy, Nat.add_zero, Nat.reduceAdd, V.tagLL, V.cntLL, List.map_nil, List.map_cons] <;> rfl) (by simp only [kput, V.tag, V.tagL, V.cnt, V.cntL, zz, zf, zy, Nat.add_zero, Nat.reduceAdd, V.tagLL, V.cntLL, List.map_nil, List.map_cons] <;> rfl) ?_
  refine OkOps.ev tab_ok rfl (by simp [ev1, fillV, kev, ktab, klen] <;> first | rfl | exact ⟨rfl, rfl⟩) (by simp only [kput] <;> rfl) ?_
  refine OkOps.storeE tab_ok rfl rfl (by simp only [kev, ktab, klen, kcv] <;> rfl) ⟨_, _, by simp only [kev]; rfl⟩ (by first | (simp [V.labelsL, V.labelsLL, V.labels, zz, zf, zy]; done) | (simp [-List.map_map, -List.map_drop, -List.map_take, -List.map_tail, -List.drop_one, V.labelsL, V.labelsLL, V.labels, zz, zf, zy]; done)) (by simp only [eq_self, V.updL, V.travL, V.travLL, V.trav, updS, updP, and_self, true_and, and_true, false_and, and_false, Nat.reduceEqDiff, Nat.reduceSub, Nat.le_refl, Nat.zero_le, ↓reduceIte, if_true, if_false, kput, zz, zf, zy] <;> rfl) (rfl) ?_
  refine OkOps.nil ?_
  refine Ok.ret ?_
  repeat (first | with_reducible refine thenQ_ret ?_ | with_reducible refine blockQ_ret ?_)
  refine retQ.end (by show resVs tab _ [.cell 2 49] = _; simp only [kev, ktab, klen, kcv] <;> rfl) rfl ?_
  exact ⟨by simp [V.erase, V.trav, V.travL, V.travLL, packV, zz, zf, zy], by simp [V.labels, V.labelsL, V.labelsLL, packV, zz, zf, zy], by simp [V.labels, V.labelsL, V.labelsLL, packV, zz, zf, zy]⟩
theorem p_spec_PairNew  : Pure Try.prog 9 [] (.agg (cPair pairNew)) := by
  refine Pure.of (by simp [V.dat, V.datL, V.datLL, zz, zf, zy]) (OkCall.enter' tab_ok Try.func9 rfl (t := [.any, .any, .any, .any, .any, .any, .any, .any]) rfl ?_)
  refine Ok.seq ?_
  refine Ok.region ?_
  refine OkOps.ev tab_ok rfl (by simp only [kev, ktab, klen, kcv] <;> rfl) (by simp only [kput] <;> rfl) ?_
  refine OkOps.nil ?_
  refine Ok.seq ?_
  refine Ok.region ?_
  refine OkOps.S' rfl (OpS.pure' rfl (by simp only [kev, ktab, klen, kcv] <;> rfl) (by simp only [kev, ktab, klen, kcv, V.eraseL, V.erase, V.travL, V.trav, zz, zf, zy] <;> rfl) cl34 (by simp [V.dat, V.datL, V.datLL, zz, zf, zy]) (p_spec_ServerNew 1)) (by simp only [V.cnt, V.cntL, zz, zf, zy, Nat.add_zero, Nat.reduceAdd, V.tagLL, V.cntLL, List.map_nil, List.map_cons] <;> rfl) (by simp only [kput, V.tag, V.tagL, V.cnt, V.cntL, zz, zf, zy, Nat.add_zero, Nat.reduceAdd, V.tagLL, V.cntLL, List.map_nil, List.map_cons] <;> rfl) ?_
  refine OkOps.S' rfl (OpS.pure' rfl (by simp only [kev, ktab, klen, kcv] <;> rfl) (by simp only [kev, ktab, klen, kcv, V.eraseL, V.erase, V.travL, V.trav, zz, zf, zy] <;> rfl) cl34 (by simp [V.dat, V.datL, V.datLL, zz, zf, zy]) (p_spec_ServerNew 2)) (by simp only [V.cnt, V.cntL, zz, zf, zy, Nat.add_zero, Nat.reduceAdd, V.tagLL, V.cntLL, List.map_nil, List.map_cons] <;> rfl) (by simp only [kput, V.tag, V.tagL, V.cnt, V.cntL, zz, zf, zy, Nat.add_zero, Nat.reduceAdd, V.tagLL, V.cntLL, List.map_nil, List.map_cons] <;> rfl) ?_
  refine OkOps.ev tab_ok rfl (ev_bs (by simp only [ktab] <;> rfl) (by simp only [ktab] <;> rfl) (by decide) (by decide) (by simp only [kev, ktab, klen, kcv, List.map_cons, List.map_nil] <;> rfl) (by simp only [kfe, beq_self_eq_true, Bool.and_true, Bool.true_and, decide_true, Nat.zero_add, Nat.lt_add_one, Nat.reduceLT, Nat.reduceAdd, Nat.zero_lt_succ, if_true, ↓reduceIte] <;> rfl)) (by simp only [kput] <;> rfl) ?_
  iterate 2 (refine OkOps.ev tab_ok rfl (by simp [ev1, fillV, kev, ktab, klen] <;> first | rfl | exact ⟨rfl, rfl⟩) (by simp only [kput] <;> rfl) ?_)
  refine OkOps.ev tab_ok rfl (ev_bs (by simp only [ktab] <;> rfl) (by simp only [ktab] <;> rfl) (by decide) (by decide) (by simp only [kev, ktab, klen, kcv, List.map_cons, List.map_nil] <;> rfl) (by simp only [kfe, beq_self_eq_true, Bool.and_true, Bool.true_and, decide_true, Nat.zero_add, Nat.lt_add_one, Nat.reduceLT, Nat.reduceAdd, Nat.zero_lt_succ, if_true, ↓reduceIte] <;> rfl)) (by simp only [kput] <;> rfl) ?_
  refine OkOps.ev tab_ok rfl (by simp [ev1, fillV, kev, ktab, klen] <;> first | rfl | exact ⟨rfl, rfl⟩) (by simp only [kput] <;> rfl) ?_
  refine OkOps.storeE tab_ok rfl rfl (by simp only [kev, ktab, klen, kcv] <;> rfl) ⟨_, _, by simp only [kev]; rfl⟩ (by first | (simp [V.labelsL, V.labelsLL, V.labels, zz, zf, zy]; done) | (simp [-List.map_map, -List.map_drop, -List.map_take, -List.map_tail, -List.drop_one, V.labelsL, V.labelsLL, V.labels, zz, zf, zy]; done)) (by simp only [eq_self, V.updL, V.travL, V.travLL, V.trav, updS, updP, and_self, true_and, and_true, false_and, and_false, Nat.reduceEqDiff, Nat.reduceSub, Nat.le_refl, Nat.zero_le, ↓reduceIte, if_true, if_false, kput, zz, zf, zy] <;> rfl) (rfl) ?_
  refine OkOps.nil ?_
  refine Ok.ret ?_
  repeat (first | with_reducible refine thenQ_ret ?_ | with_reducible refine blockQ_ret ?_)
  refine retQ.end (by show resVs tab _ [.cell 0 26] = _; simp only [kev, ktab, klen, kcv] <;> rfl) rfl ?_
  exact ⟨by simp [V.erase, V.trav, V.travL, V.travLL, packV, zz, zf, zy, pairNew], by simp [V.labels, V.labelsL, V.labelsLL, packV, zz, zf, zy], by simp [V.labels, V.labelsL, V.labelsLL, packV, zz, zf, zy]⟩
theorem p_impl_StoreNew (b : Int) : Pure Try.prog 107 [.int .i64 b] (.agg (cStore ⟨b, 0, [], []⟩)) := by
  refine Pure.of (by simp [V.dat, V.datL, V.datLL, zz, zf, zy]) (OkCall.enter' tab_ok Try.func107 rfl (t := [.int .i64 b, .any, .any, .any, .any]) rfl ?_)
  refine Ok.seq ?_
  refine Ok.region ?_
  refine OkOps.ev tab_ok rfl (by simp only [kev, ktab, klen, kcv] <;> rfl) (by simp only [kput] <;> rfl) ?_
  refine OkOps.nil ?_
  refine Ok.seq ?_
  refine Ok.region ?_
  refine OkOps.ev tab_ok rfl (by simp only [kev, ktab, klen, kcv] <;> rfl) (by simp only [kput] <;> rfl) ?_
  refine OkOps.ev tab_ok rfl (by simp [ev1, fillV, kev, ktab, klen] <;> first | rfl | exact ⟨rfl, rfl⟩) (by simp only [kput] <;> rfl) ?_
  refine OkOps.storeE tab_ok rfl rfl (by simp only [kev, ktab, klen, kcv] <;> rfl) ⟨_, _, by simp only [kev]; rfl⟩ (by first | (simp [V.labelsL, V.labelsLL, V.labels, zz, zf, zy]; done) | (simp [-List.map_map, -List.map_drop, -List.map_take, -List.map_tail, -List.drop_one, V.labelsL, V.labelsLL, V.labels, zz, zf, zy]; done)) (by simp only [eq_self, V.updL, V.travL, V.travLL, V.trav, updS, updP, and_self, true_and, and_true, false_and, and_false, Nat.reduceEqDiff, Nat.reduceSub, Nat.le_refl, Nat.zero_le, ↓reduceIte, if_true, if_false, kput, zz, zf, zy] <;> rfl) (rfl) ?_
  refine OkOps.nil ?_
  refine Ok.ret ?_
  repeat (first | with_reducible refine thenQ_ret ?_ | with_reducible refine blockQ_ret ?_)
  refine retQ.end (by show resVs tab _ [.cell 2 44] = _; simp only [kev, ktab, klen, kcv] <;> rfl) rfl ?_
  exact ⟨by simp [V.erase, V.trav, V.travL, V.travLL, packV, zz, zf, zy], by simp [V.labels, V.labelsL, V.labelsLL, packV, zz, zf, zy], by simp [V.labels, V.labelsL, V.labelsLL, packV, zz, zf, zy]⟩
theorem p_impl_KeptNew (b : Int) : Pure Try.prog 74 [.int .i64 b] (.agg (cKept ⟨⟨b, 0, [], []⟩, [], 0⟩)) := by
  refine Pure.of (by simp [V.dat, V.datL, V.datLL, zz, zf, zy]) (OkCall.enter' tab_ok Try.func74 rfl (t := [.int .i64 b, .any, .any, .any, .any, .any]) rfl ?_)
  refine Ok.seq ?_
  refine Ok.region ?_
  refine OkOps.ev tab_ok rfl (by simp only [kev, ktab, klen, kcv] <;> rfl) (by simp only [kput] <;> rfl) ?_
  refine OkOps.nil ?_
  refine Ok.seq ?_
  refine Ok.region ?_
  refine OkOps.ev tab_ok rfl (by simp only [kev, ktab, klen, kcv] <;> rfl) (by simp only [kput] <;> rfl) ?_
  refine OkOps.S' rfl (OpS.pure' rfl (by simp only [kev, ktab, klen, kcv] <;> rfl) (by simp only [kev, ktab, klen, kcv, V.eraseL, V.erase, V.travL, V.trav, zz, zf, zy] <;> rfl) cl107 (by simp [V.dat, V.datL, V.datLL, zz, zf, zy]) (p_impl_StoreNew b)) (by simp only [V.cnt, V.cntL, zz, zf, zy, Nat.add_zero, Nat.reduceAdd, V.tagLL, V.cntLL, List.map_nil, List.map_cons] <;> rfl) (by simp only [kput, V.tag, V.tagL, V.cnt, V.cntL, zz, zf, zy, Nat.add_zero, Nat.reduceAdd, V.tagLL, V.cntLL, List.map_nil, List.map_cons] <;> rfl) ?_
  refine OkOps.ev tab_ok rfl (by simp [ev1, fillV, kev, ktab, klen] <;> first | rfl | exact ⟨rfl, rfl⟩) (by simp only [kput] <;> rfl) ?_
  refine OkOps.storeE tab_ok rfl rfl (by simp only [kev, ktab, klen, kcv] <;> rfl) ⟨_, _, by simp only [kev]; rfl⟩ (by first | (simp [V.labelsL, V.labelsLL, V.labels, zz, zf, zy]; done) | (simp [-List.map_map, -List.map_drop, -List.map_take, -List.map_tail, -List.drop_one, V.labelsL, V.labelsLL, V.labels, zz, zf, zy]; done)) (by simp only [eq_self, V.updL, V.travL, V.travLL, V.trav, updS, updP, and_self, true_and, and_true, false_and, and_false, Nat.reduceEqDiff, Nat.reduceSub, Nat.le_refl, Nat.zero_le, ↓reduceIte, if_true, if_false, kput, zz, zf, zy] <;> rfl) (rfl) ?_
  refine OkOps.nil ?_
  refine Ok.ret ?_
  repeat (first | with_reducible refine thenQ_ret ?_ | with_reducible refine blockQ_ret ?_)
  refine retQ.end (by show resVs tab _ [.cell 2 46] = _; simp only [kev, ktab, klen, kcv] <;> rfl) rfl ?_
  exact ⟨by simp [V.erase, V.trav, V.travL, V.travLL, packV, zz, zf, zy], by simp [V.labels, V.labelsL, V.labelsLL, packV, zz, zf, zy], by simp [V.labels, V.labelsL, V.labelsLL, packV, zz, zf, zy]⟩
theorem p_impl_SessionNew  : Pure Try.prog 75 [] (.agg (cSession ⟨[], [42, 32, 79, 75, 13, 10], false, false, 0, []⟩)) := by
  refine Pure.of (by simp [V.dat, V.datL, V.datLL, zz, zf, zy]) (OkCall.enter' tab_ok Try.func75 rfl (t := [.any, .any]) rfl ?_)
  refine Ok.seq ?_
  refine Ok.region ?_
  refine OkOps.ev tab_ok rfl (by simp only [kev, ktab, klen, kcv] <;> rfl) (by simp only [kput] <;> rfl) ?_
  refine OkOps.nil ?_
  refine Ok.seq ?_
  refine Ok.region ?_
  refine OkOps.ev tab_ok rfl (by simp [ev1, fillV, kev, ktab, klen] <;> first | rfl | exact ⟨rfl, rfl⟩) (by simp only [kput] <;> rfl) ?_
  refine OkOps.storeE tab_ok rfl rfl (by simp only [kev, ktab, klen, kcv] <;> rfl) ⟨_, _, by simp only [kev]; rfl⟩ (by first | (simp [V.labelsL, V.labelsLL, V.labels, zz, zf, zy]; done) | (simp [-List.map_map, -List.map_drop, -List.map_take, -List.map_tail, -List.drop_one, V.labelsL, V.labelsLL, V.labels, zz, zf, zy]; done)) (by simp only [eq_self, V.updL, V.travL, V.travLL, V.trav, updS, updP, and_self, true_and, and_true, false_and, and_false, Nat.reduceEqDiff, Nat.reduceSub, Nat.le_refl, Nat.zero_le, ↓reduceIte, if_true, if_false, kput, zz, zf, zy] <;> rfl) (rfl) ?_
  refine OkOps.nil ?_
  refine Ok.ret ?_
  repeat (first | with_reducible refine thenQ_ret ?_ | with_reducible refine blockQ_ret ?_)
  refine retQ.end (by show resVs tab _ [.cell 0 47] = _; simp only [kev, ktab, klen, kcv] <;> rfl) rfl ?_
  exact ⟨by simp [V.erase, V.trav, V.travL, V.travLL, packV, zz, zf, zy], by simp [V.labels, V.labelsL, V.labelsLL, packV, zz, zf, zy], by simp [V.labels, V.labelsL, V.labelsLL, packV, zz, zf, zy]⟩
theorem p_impl_ServerNew (b : Int) : Pure Try.prog 35 [.int .i64 b] (.agg (cServer (serverNew b))) := by
  refine Pure.of (by simp [V.dat, V.datL, V.datLL, zz, zf, zy]) (OkCall.enter' tab_ok Try.func35 rfl (t := [.int .i64 b, .any, .any, .any, .any, .any, .any]) rfl ?_)
  refine Ok.seq ?_
  refine Ok.region ?_
  refine OkOps.ev tab_ok rfl (by simp only [kev, ktab, klen, kcv] <;> rfl) (by simp only [kput] <;> rfl) ?_
  refine OkOps.nil ?_
  refine Ok.seq ?_
  refine Ok.region ?_
  refine OkOps.ev tab_ok rfl (by simp only [kev, ktab, klen, kcv] <;> rfl) (by simp only [kput] <;> rfl) ?_
  refine OkOps.S' rfl (OpS.pure' rfl (by simp only [kev, ktab, klen, kcv] <;> rfl) (by simp only [kev, ktab, klen, kcv, V.eraseL, V.erase, V.travL, V.trav, zz, zf, zy] <;> rfl) cl74 (by simp [V.dat, V.datL, V.datLL, zz, zf, zy]) (p_impl_KeptNew b)) (by simp only [V.cnt, V.cntL, zz, zf, zy, Nat.add_zero, Nat.reduceAdd, V.tagLL, V.cntLL, List.map_nil, List.map_cons] <;> rfl) (by simp only [kput, V.tag, V.tagL, V.cnt, V.cntL, zz, zf, zy, Nat.add_zero, Nat.reduceAdd, V.tagLL, V.cntLL, List.map_nil, List.map_cons] <;> rfl) ?_
  refine OkOps.S' rfl (OpS.pure' rfl (by simp only [kev, ktab, klen, kcv] <;> rfl) (by simp only [kev, ktab, klen, kcv, V.eraseL, V.erase, V.travL, V.trav, zz, zf, zy] <;> rfl) cl75 (by simp [V.dat, V.datL, V.datLL, zz, zf, zy]) (p_impl_SessionNew )) (by simp only [V.cnt, V.cntL, zz, zf, zy, Nat.add_zero, Nat.reduceAdd, V.tagLL, V.cntLL, List.map_nil, List.map_cons] <;> rfl) (by simp only [kput, V.tag, V.tagL, V.cnt, V.cntL, zz, zf, zy, Nat.add_zero, Nat.reduceAdd, V.tagLL, V.cntLL, List.map_nil, List.map_cons] <;> rfl) ?_
  refine OkOps.ev tab_ok rfl (by simp [ev1, fillV, kev, ktab, klen] <;> first | rfl | exact ⟨rfl, rfl⟩) (by simp only [kput] <;> rfl) ?_
  refine OkOps.storeE tab_ok rfl rfl (by simp only [kev, ktab, klen, kcv] <;> rfl) ⟨_, _, by simp only [kev]; rfl⟩ (by first | (simp [V.labelsL, V.labelsLL, V.labels, zz, zf, zy]; done) | (simp [-List.map_map, -List.map_drop, -List.map_take, -List.map_tail, -List.drop_one, V.labelsL, V.labelsLL, V.labels, zz, zf, zy]; done)) (by simp only [eq_self, V.updL, V.travL, V.travLL, V.trav, updS, updP, and_self, true_and, and_true, false_and, and_false, Nat.reduceEqDiff, Nat.reduceSub, Nat.le_refl, Nat.zero_le, ↓reduceIte, if_true, if_false, kput, zz, zf, zy] <;> rfl) (rfl) ?_
  refine OkOps.nil ?_
  refine Ok.ret ?_
  repeat (first | with_reducible refine thenQ_ret ?_ | with_reducible refine blockQ_ret ?_)
  refine retQ.end (by show resVs tab _ [.cell 2 49] = _; simp only [kev, ktab, klen, kcv] <;> rfl) rfl ?_
  exact ⟨by simp [V.erase, V.trav, V.travL, V.travLL, packV, zz, zf, zy], by simp [V.labels, V.labelsL, V.labelsLL, packV, zz, zf, zy], by simp [V.labels, V.labelsL, V.labelsLL, packV, zz, zf, zy]⟩
theorem p_impl_PairNew  : Pure Try.prog 10 [] (.agg (cPair pairNew)) := by
  refine Pure.of (by simp [V.dat, V.datL, V.datLL, zz, zf, zy]) (OkCall.enter' tab_ok Try.func10 rfl (t := [.any, .any, .any, .any, .any, .any, .any, .any]) rfl ?_)
  refine Ok.seq ?_
  refine Ok.region ?_
  refine OkOps.ev tab_ok rfl (by simp only [kev, ktab, klen, kcv] <;> rfl) (by simp only [kput] <;> rfl) ?_
  refine OkOps.nil ?_
  refine Ok.seq ?_
  refine Ok.region ?_
  refine OkOps.S' rfl (OpS.pure' rfl (by simp only [kev, ktab, klen, kcv] <;> rfl) (by simp only [kev, ktab, klen, kcv, V.eraseL, V.erase, V.travL, V.trav, zz, zf, zy] <;> rfl) cl35 (by simp [V.dat, V.datL, V.datLL, zz, zf, zy]) (p_impl_ServerNew 1)) (by simp only [V.cnt, V.cntL, zz, zf, zy, Nat.add_zero, Nat.reduceAdd, V.tagLL, V.cntLL, List.map_nil, List.map_cons] <;> rfl) (by simp only [kput, V.tag, V.tagL, V.cnt, V.cntL, zz, zf, zy, Nat.add_zero, Nat.reduceAdd, V.tagLL, V.cntLL, List.map_nil, List.map_cons] <;> rfl) ?_
  refine OkOps.S' rfl (OpS.pure' rfl (by simp only [kev, ktab, klen, kcv] <;> rfl) (by simp only [kev, ktab, klen, kcv, V.eraseL, V.erase, V.travL, V.trav, zz, zf, zy] <;> rfl) cl35 (by simp [V.dat, V.datL, V.datLL, zz, zf, zy]) (p_impl_ServerNew 2)) (by simp only [V.cnt, V.cntL, zz, zf, zy, Nat.add_zero, Nat.reduceAdd, V.tagLL, V.cntLL, List.map_nil, List.map_cons] <;> rfl) (by simp only [kput, V.tag, V.tagL, V.cnt, V.cntL, zz, zf, zy, Nat.add_zero, Nat.reduceAdd, V.tagLL, V.cntLL, List.map_nil, List.map_cons] <;> rfl) ?_
  refine OkOps.ev tab_ok rfl (ev_bs (by simp only [ktab] <;> rfl) (by simp only [ktab] <;> rfl) (by decide) (by decide) (by simp only [kev, ktab, klen, kcv, List.map_cons, List.map_nil] <;> rfl) (by simp only [kfe, beq_self_eq_true, Bool.and_true, Bool.true_and, decide_true, Nat.zero_add, Nat.lt_add_one, Nat.reduceLT, Nat.reduceAdd, Nat.zero_lt_succ, if_true, ↓reduceIte] <;> rfl)) (by simp only [kput] <;> rfl) ?_
  iterate 2 (refine OkOps.ev tab_ok rfl (by simp [ev1, fillV, kev, ktab, klen] <;> first | rfl | exact ⟨rfl, rfl⟩) (by simp only [kput] <;> rfl) ?_)
  refine OkOps.ev tab_ok rfl (ev_bs (by simp only [ktab] <;> rfl) (by simp only [ktab] <;> rfl) (by decide) (by decide) (by simp only [kev, ktab, klen, kcv, List.map_cons, List.map_nil] <;> rfl) (by simp only [kfe, beq_self_eq_true, Bool.and_true, Bool.true_and, decide_true, Nat.zero_add, Nat.lt_add_one, Nat.reduceLT, Nat.reduceAdd, Nat.zero_lt_succ, if_true, ↓reduceIte] <;> rfl)) (by simp only [kput] <;> rfl) ?_
  refine OkOps.ev tab_ok rfl (by simp [ev1, fillV, kev, ktab, klen] <;> first | rfl | exact ⟨rfl, rfl⟩) (by simp only [kput] <;> rfl) ?_
  refine OkOps.storeE tab_ok rfl rfl (by simp only [kev, ktab, klen, kcv] <;> rfl) ⟨_, _, by simp only [kev]; rfl⟩ (by first | (simp [V.labelsL, V.labelsLL, V.labels, zz, zf, zy]; done) | (simp [-List.map_map, -List.map_drop, -List.map_take, -List.map_tail, -List.drop_one, V.labelsL, V.labelsLL, V.labels, zz, zf, zy]; done)) (by simp only [eq_self, V.updL, V.travL, V.travLL, V.trav, updS, updP, and_self, true_and, and_true, false_and, and_false, Nat.reduceEqDiff, Nat.reduceSub, Nat.le_refl, Nat.zero_le, ↓reduceIte, if_true, if_false, kput, zz, zf, zy] <;> rfl) (rfl) ?_
  refine OkOps.nil ?_
  refine Ok.ret ?_
  repeat (first | with_reducible refine thenQ_ret ?_ | with_reducible refine blockQ_ret ?_)
  refine retQ.end (by show resVs tab _ [.cell 0 26] = _; simp only [kev, ktab, klen, kcv] <;> rfl) rfl ?_
  exact ⟨by simp [V.erase, V.trav, V.travL, V.travLL, packV, zz, zf, zy, pairNew], by simp [V.labels, V.labelsL, V.labelsLL, packV, zz, zf, zy], by simp [V.labels, V.labelsL, V.labelsLL, packV, zz, zf, zy]⟩
theorem w_laws_FnExactPairNew  : Weak Try.prog 3 [] (.bool true) := by
  refine Weak.enter tab_ok Try.func3 rfl (.inr (by simp [V.labelsL, V.labels, zz, zf, zy])) (t := [.any, .any, .any, .any, .any, .any, .any, .any, .any, .any, .any, .any, .any, .any, .any, .any, .any, .any, .any, .any, .any, .any, .any, .any, .any, .any, .any, .any, .any, .any, .any, .any, .any, .any, .any, .any]) rfl ?_
  refine Ok.seq ?_
  refine Ok.region ?_
  refine OkOps.ev tab_ok rfl (by simp only [kev, ktab, klen, kcv] <;> rfl) (by simp only [kput] <;> rfl) ?_
  refine OkOps.nil ?_
  refine Ok.seq ?_
  obtain ⟨m0, hm0⟩ : ∃ m : Nat, m = 0 := ⟨_, rfl⟩
  refine Ok.bump (n' := m0 + 1) (by omega) ?_
  refine Ok.region ?_
  obtain ⟨L0a, e0a, L1a, e1a, L2a, e2a, hXa, q0a, E0a, M0a, N0a, q1a, E1a, M1a, N1a, q2a, E2a, M2a, N2a, nda, rga⟩ := ownPair (m0) (pairNew)
  obtain ⟨ma, hma⟩ : ∃ m, m0 + 1 + V.cnt (.agg (cPair (pairNew))) = m + 1 := ⟨m0 + V.cnt (.agg (cPair (pairNew))), by omega⟩
  have r0a : ∀ z ∈ V.labels (.sl (L0a + 1) 13 0 e0a), m0 + 1 ≤ z ∧ z < ma + 1 := fun z hz => by have := rga z (by simp only [V.labelsL, V.labels, List.mem_append] at hz ⊢; simp only [hz, true_or, or_true]); omega
  have r1a : ∀ z ∈ V.labels (.sl (L1a + 1) 9 0 e1a), m0 + 1 ≤ z ∧ z < ma + 1 := fun z hz => by have := rga z (by simp only [V.labelsL, V.labels, List.mem_append] at hz ⊢; simp only [hz, true_or, or_true]); omega
  have r2a : ∀ z ∈ V.labels (.sl (L2a + 1) 2 0 e2a), m0 + 1 ≤ z ∧ z < ma + 1 := fun z hz => by have := rga z (by simp only [V.labelsL, V.labels, List.mem_append] at hz ⊢; simp only [hz, true_or, or_true]); omega
  refine OkOps.S' rfl (OpS.pure' rfl (by simp only [kev, ktab, klen, kcv] <;> rfl) (by simp only [kev, ktab, klen, kcv, V.eraseL, V.erase, V.travL, V.trav, zz, zf, zy] <;> rfl) cl9 (by simp [V.dat, V.datL, V.datLL, zz, zf, zy]) (p_spec_PairNew )) hma (by simp only [kput, hXa] <;> rfl) ?_
  refine OkOps.ev tab_ok rfl (by simp only [kev, ktab, klen, kcv] <;> rfl) (by simp only [kput] <;> rfl) ?_
  refine OkOps.storeN tab_ok rfl rfl (by simp only [kev, ktab, klen, kcv] <;> rfl) ⟨_, _, by simp only [kev]; rfl⟩ (by first | (simp [V.labelsL, V.labelsLL, V.labels, zz, zf, zy]; done) | (intro h; have := rga _ h; omega)) (fun W hW hF => by have z0a := hW.far (.sl (L0a + 1) 13 0 e0a) (fun y hy h => by have := r0a y hy; skip; omega); have zz0a := fun K => hW.far (.sl (L0a + 1) 13 0 (V.mkLL K e0a)) (fun y hy h => by have := r0a y (by simp only [V.labels, mkLL_labels] at hy; exact hy); skip; omega); have z1a := hW.far (.sl (L1a + 1) 9 0 e1a) (fun y hy h => by have := r1a y hy; skip; omega); have zz1a := fun K => hW.far (.sl (L1a + 1) 9 0 (V.mkLL K e1a)) (fun y hy h => by have := r1a y (by simp only [V.labels, mkLL_labels] at hy; exact hy); skip; omega); have z2a := hW.far (.sl (L2a + 1) 2 0 e2a) (fun y hy h => by have := r2a y hy; skip; omega); have zz2a := fun K => hW.far (.sl (L2a + 1) 2 0 (V.mkLL K e2a)) (fun y hy h => by have := r2a y (by simp only [V.labels, mkLL_labels] at hy; exact hy); skip; omega); simp only [List.map_cons, List.map_nil, hW.int, hW.str, hW.bool, hW.any, hW.tup0, hW.agg, hF.ptr, z0a, zz0a, z1a, zz1a, z2a, zz2a, kput] <;> rfl) ?_
  refine OkOps.nil ?_
  refine Ok.seq ?_
  refine Ok.drop [6] (by simp only [kover] <;> rfl) ?_
  refine Ok.region ?_
  obtain ⟨L0b, e0b, L1b, e1b, L2b, e2b, hXb, q0b, E0b, M0b, N0b, q1b, E1b, M1b, N1b, q2b, E2b, M2b, N2b, ndb, rgb⟩ := ownPair (ma + 1) (pairNew)
  obtain ⟨mb, hmb⟩ : ∃ m, ma + 1 + 1 + V.cnt (.agg (cPair (pairNew))) = m + 1 := ⟨ma + 1 + V.cnt (.agg (cPair (pairNew))), by omega⟩
  have r0b : ∀ z ∈ V.labels (.sl (L0b + 1) 13 0 e0b), ma + 1 + 1 ≤ z ∧ z < mb + 1 := fun z hz => by have := rgb z (by simp only [V.labelsL, V.labels, List.mem_append] at hz ⊢; simp only [hz, true_or, or_true]); omega
  have r1b : ∀ z ∈ V.labels (.sl (L1b + 1) 9 0 e1b), ma + 1 + 1 ≤ z ∧ z < mb + 1 := fun z hz => by have := rgb z (by simp only [V.labelsL, V.labels, List.mem_append] at hz ⊢; simp only [hz, true_or, or_true]); omega
  have r2b : ∀ z ∈ V.labels (.sl (L2b + 1) 2 0 e2b), ma + 1 + 1 ≤ z ∧ z < mb + 1 := fun z hz => by have := rgb z (by simp only [V.labelsL, V.labels, List.mem_append] at hz ⊢; simp only [hz, true_or, or_true]); omega
  refine OkOps.S' rfl (OpS.pure' rfl (by simp only [kev, ktab, klen, kcv] <;> rfl) (by simp only [kev, ktab, klen, kcv, E0a, M0a, N0a, E1a, M1a, N1a, E2a, M2a, N2a, V.eraseL, V.erase, V.travL, V.trav, zz, zf, zy] <;> rfl) cl10 (by simp [V.dat, V.datL, V.datLL, zz, zf, zy]) (p_impl_PairNew )) hmb (by simp only [kput, hXb] <;> rfl) ?_
  refine OkOps.ev tab_ok rfl (by simp only [kev, ktab, klen, kcv] <;> rfl) (by simp only [kput] <;> rfl) ?_
  refine OkOps.storeN tab_ok rfl rfl (by simp only [kev, ktab, klen, kcv] <;> rfl) ⟨_, _, by simp only [kev]; rfl⟩ (by first | (simp [V.labelsL, V.labelsLL, V.labels, zz, zf, zy]; done) | (intro h; have := rgb _ h; omega)) (fun W hW hF => by have z0a := hW.far (.sl (L0a + 1) 13 0 e0a) (fun y hy h => by have := r0a y hy; skip; omega); have zz0a := fun K => hW.far (.sl (L0a + 1) 13 0 (V.mkLL K e0a)) (fun y hy h => by have := r0a y (by simp only [V.labels, mkLL_labels] at hy; exact hy); skip; omega); have z1a := hW.far (.sl (L1a + 1) 9 0 e1a) (fun y hy h => by have := r1a y hy; skip; omega); have zz1a := fun K => hW.far (.sl (L1a + 1) 9 0 (V.mkLL K e1a)) (fun y hy h => by have := r1a y (by simp only [V.labels, mkLL_labels] at hy; exact hy); skip; omega); have z2a := hW.far (.sl (L2a + 1) 2 0 e2a) (fun y hy h => by have := r2a y hy; skip; omega); have zz2a := fun K => hW.far (.sl (L2a + 1) 2 0 (V.mkLL K e2a)) (fun y hy h => by have := r2a y (by simp only [V.labels, mkLL_labels] at hy; exact hy); skip; omega); have z0b := hW.far (.sl (L0b + 1) 13 0 e0b) (fun y hy h => by have := r0b y hy; skip; omega); have zz0b := fun K => hW.far (.sl (L0b + 1) 13 0 (V.mkLL K e0b)) (fun y hy h => by have := r0b y (by simp only [V.labels, mkLL_labels] at hy; exact hy); skip; omega); have z1b := hW.far (.sl (L1b + 1) 9 0 e1b) (fun y hy h => by have := r1b y hy; skip; omega); have zz1b := fun K => hW.far (.sl (L1b + 1) 9 0 (V.mkLL K e1b)) (fun y hy h => by have := r1b y (by simp only [V.labels, mkLL_labels] at hy; exact hy); skip; omega); have z2b := hW.far (.sl (L2b + 1) 2 0 e2b) (fun y hy h => by have := r2b y hy; skip; omega); have zz2b := fun K => hW.far (.sl (L2b + 1) 2 0 (V.mkLL K e2b)) (fun y hy h => by have := r2b y (by simp only [V.labels, mkLL_labels] at hy; exact hy); skip; omega); have p0 := fun i o e => hW.ptr (ma + 1) i o e (by omega); simp only [List.map_cons, List.map_nil, hW.int, hW.str, hW.bool, hW.any, hW.tup0, hW.agg, hF.ptr, z0a, zz0a, z1a, zz1a, z2a, zz2a, z0b, zz0b, z1b, zz1b, z2b, zz2b, p0, kput] <;> rfl) ?_
  refine OkOps.nil ?_
  refine Ok.seq ?_
  refine Ok.seq ?_
  refine Ok.drop [7] (by simp only [kover] <;> rfl) ?_
  refine Ok.region ?_
  iterate 2 (refine OkOps.ev tab_ok rfl (by simp only [kev, ktab, klen, kcv] <;> rfl) (by simp only [kput] <;> rfl) ?_)
  refine OkOps.S0 rfl (OpS.weakE rfl (by simp only [kev, ktab, klen, kcv] <;> rfl) (by simp only [kev, ktab, klen, kcv, E0a, M0a, N0a, E1a, M1a, N1a, E2a, M2a, N2a, E0b, M0b, N0b, E1b, M1b, N1b, E2b, M2b, N2b, V.eraseL, V.erase, V.travL, V.trav, zz, zf, zy] <;> rfl) cl11 (by simp [V.labels, V.labelsL, V.labelsLL, zz, zf, zy]) (w_laws_eqPair pairNew pairNew)) (by simp only [kput] <;> rfl) ?_
  refine OkOps.ev tab_ok rfl (by simp only [kev, ktab, klen, kcv] <;> rfl) (by simp only [kput] <;> rfl) ?_
  refine OkOps.nil ?_
  refine Ok.cond_false (by simp only [kev, ktab, klen, kcv] <;> first | rfl | (simp; done) | (simp; omega) | (simp [N0b, N1b, N2b]; done)) ?_
  refine Ok.skip ?_
  refine Ok.seq ?_
  refine Ok.drop [8, 9, 10, 11] (by simp only [kover] <;> rfl) ?_
  refine Ok.region ?_
  refine OkOps.ev tab_ok rfl (by simp only [kev, ktab, klen, kcv] <;> rfl) (by simp only [kput] <;> rfl) ?_
  refine OkOps.nil ?_
  refine Ok.seq ?_
  refine Ok.region ?_
  iterate 2 (refine OkOps.ev tab_ok rfl (by simp only [kev, ktab, klen, kcv] <;> rfl) (by simp only [kput] <;> rfl) ?_)
  refine OkOps.turnN 1 rfl rfl (by simp only [kev, ktab, klen, kcv] <;> rfl) (by simp only [kev, ktab, klen, kcv] <;> rfl) cl12 (fun h => c_laws_markPair L0b e0b L1b e1b L2b e2b _ _ q0b q1b q2b ndb (by rw [N0b, N1b, N2b]; decide) (fun y hy => by have := rgb y hy; omega)) (by first | rfl | (simp only [Nat.add_zero, Nat.reduceAdd] <;> rfl)) (fun W hW ha => by have z0a := hW.far (.sl (L0a + 1) 13 0 e0a) (fun y hy h => by have := r0a y hy; have := rgb y h; omega); have zz0a := fun K => hW.far (.sl (L0a + 1) 13 0 (V.mkLL K e0a)) (fun y hy h => by have := r0a y (by simp only [V.labels, mkLL_labels] at hy; exact hy); have := rgb y h; omega); have z1a := hW.far (.sl (L1a + 1) 9 0 e1a) (fun y hy h => by have := r1a y hy; have := rgb y h; omega); have zz1a := fun K => hW.far (.sl (L1a + 1) 9 0 (V.mkLL K e1a)) (fun y hy h => by have := r1a y (by simp only [V.labels, mkLL_labels] at hy; exact hy); have := rgb y h; omega); have z2a := hW.far (.sl (L2a + 1) 2 0 e2a) (fun y hy h => by have := r2a y hy; have := rgb y h; omega); have zz2a := fun K => hW.far (.sl (L2a + 1) 2 0 (V.mkLL K e2a)) (fun y hy h => by have := r2a y (by simp only [V.labels, mkLL_labels] at hy; exact hy); have := rgb y h; omega); have p0 := fun i o e => hW.ptr (ma + 1) i o e (fun h => by have := rgb _ h; omega);  have p1 := fun i o e => hW.ptr (mb + 1) i o e (fun h => by have := rgb _ h; omega); have ha2 := ha; simp only [hW.agg, List.map_cons, List.map_nil, hW.int, hW.str, hW.bool, V.agg.injEq, List.cons.injEq, and_true, true_and] at ha2; simp only [List.map_cons, List.map_nil, hW.int, hW.str, hW.bool, hW.any, hW.tup0, hW.agg, ha2, kput, z0a, zz0a, z1a, zz1a, z2a, zz2a, p0, p1] <;> rfl) ?_
  refine OkOps.ev tab_ok rfl (by simp only [kev, ktab, klen, kcv] <;> rfl) (by simp only [kput] <;> rfl) ?_
  refine OkOps.nil ?_
  refine Ok.seq ?_
  refine Ok.drop [12, 13, 14] (by simp only [kover] <;> rfl) ?_
  refine Ok.region ?_
  refine OkOps.ev tab_ok rfl (by simp only [kev, ktab, klen, kcv] <;> rfl) (by simp only [kput] <;> rfl) ?_
  refine OkOps.nil ?_
  refine Ok.seq ?_
  refine Ok.region ?_
  iterate 2 (refine OkOps.ev tab_ok rfl (by simp only [kev, ktab, klen, kcv] <;> rfl) (by simp only [kput] <;> rfl) ?_)
  refine OkOps.S0 rfl (OpS.weakE rfl (by simp only [kev, ktab, klen, kcv] <;> rfl) (by simp only [kev, ktab, klen, kcv, E0a, M0a, N0a, E1a, M1a, N1a, E2a, M2a, N2a, E0b, M0b, N0b, E1b, M1b, N1b, E2b, M2b, N2b, V.eraseL, V.erase, V.travL, V.trav, zz, zf, zy] <;> rfl) cl13 (by simp [V.labels, V.labelsL, V.labelsLL, zz, zf, zy]) (w_laws_heldPair pairNew 1 (by decide))) (by simp only [kput] <;> rfl) ?_
  refine OkOps.ev tab_ok rfl (by simp only [kev, ktab, klen, kcv] <;> rfl) (by simp only [kput] <;> rfl) ?_
  refine OkOps.nil ?_
  refine Ok.seq ?_
  refine Ok.seq ?_
  refine Ok.drop [15, 16, 17] (by simp only [kover] <;> rfl) ?_
  refine Ok.region ?_
  iterate 2 (refine OkOps.ev tab_ok rfl (by simp only [kev, ktab, klen, kcv] <;> rfl) (by simp only [kput] <;> rfl) ?_)
  refine OkOps.nil ?_
  refine Ok.cond_false (by simp only [kev, ktab, klen, kcv] <;> first | rfl | (simp; done) | (simp; omega) | (simp [N0b, N1b, N2b]; done)) ?_
  refine Ok.skip ?_
  refine Ok.seq ?_
  refine Ok.seq ?_
  refine Ok.drop [18, 19] (by simp only [kover] <;> rfl) ?_
  refine Ok.region ?_
  iterate 3 (refine OkOps.ev tab_ok rfl (by simp only [kev, ktab, klen, kcv] <;> rfl) (by simp only [kput] <;> rfl) ?_)
  refine OkOps.nil ?_
  refine Ok.cond_false (by simp only [kev, ktab, klen, kcv] <;> first | rfl | (simp; done) | (simp; omega) | (simp [N0b, N1b, N2b]; done)) ?_
  refine Ok.skip ?_
  refine Ok.seq ?_
  refine Ok.drop [20, 21, 22] (by simp only [kover] <;> rfl) ?_
  refine Ok.bump (n' := mb + 10 + 1) (by omega) ?_
  refine Ok.region ?_
  obtain ⟨L0c, e0c, L1c, e1c, L2c, e2c, hXc, q0c, E0c, M0c, N0c, q1c, E1c, M1c, N1c, q2c, E2c, M2c, N2c, ndc, rgc⟩ := ownPair (mb + 10) (pairNew)
  obtain ⟨mc, hmc⟩ : ∃ m, mb + 10 + 1 + V.cnt (.agg (cPair (pairNew))) = m + 1 := ⟨mb + 10 + V.cnt (.agg (cPair (pairNew))), by omega⟩
  have r0c : ∀ z ∈ V.labels (.sl (L0c + 1) 13 0 e0c), mb + 10 + 1 ≤ z ∧ z < mc + 1 := fun z hz => by have := rgc z (by simp only [V.labelsL, V.labels, List.mem_append] at hz ⊢; simp only [hz, true_or, or_true]); omega
  have r1c : ∀ z ∈ V.labels (.sl (L1c + 1) 9 0 e1c), mb + 10 + 1 ≤ z ∧ z < mc + 1 := fun z hz => by have := rgc z (by simp only [V.labelsL, V.labels, List.mem_append] at hz ⊢; simp only [hz, true_or, or_true]); omega
  have r2c : ∀ z ∈ V.labels (.sl (L2c + 1) 2 0 e2c), mb + 10 + 1 ≤ z ∧ z < mc + 1 := fun z hz => by have := rgc z (by simp only [V.labelsL, V.labels, List.mem_append] at hz ⊢; simp only [hz, true_or, or_true]); omega
  refine OkOps.S' rfl (OpS.pure' rfl (by simp only [kev, ktab, klen, kcv] <;> rfl) (by simp only [kev, ktab, klen, kcv, E0a, M0a, N0a, E1a, M1a, N1a, E2a, M2a, N2a, E0b, M0b, N0b, E1b, M1b, N1b, E2b, M2b, N2b, V.eraseL, V.erase, V.travL, V.trav, zz, zf, zy] <;> rfl) cl10 (by simp [V.dat, V.datL, V.datLL, zz, zf, zy]) (p_impl_PairNew )) hmc (by simp only [kput, hXc] <;> rfl) ?_
  refine OkOps.ev tab_ok rfl (by simp only [kev, ktab, klen, kcv] <;> rfl) (by simp only [kput] <;> rfl) ?_
  refine OkOps.storeN tab_ok rfl rfl (by simp only [kev, ktab, klen, kcv] <;> rfl) ⟨_, _, by simp only [kev]; rfl⟩ (by first | (simp [V.labelsL, V.labelsLL, V.labels, zz, zf, zy]; done) | (intro h; have := rgc _ h; omega)) (fun W hW hF => by have z0a := hW.far (.sl (L0a + 1) 13 0 e0a) (fun y hy h => by have := r0a y hy; skip; omega); have zz0a := fun K => hW.far (.sl (L0a + 1) 13 0 (V.mkLL K e0a)) (fun y hy h => by have := r0a y (by simp only [V.labels, mkLL_labels] at hy; exact hy); skip; omega); have z1a := hW.far (.sl (L1a + 1) 9 0 e1a) (fun y hy h => by have := r1a y hy; skip; omega); have zz1a := fun K => hW.far (.sl (L1a + 1) 9 0 (V.mkLL K e1a)) (fun y hy h => by have := r1a y (by simp only [V.labels, mkLL_labels] at hy; exact hy); skip; omega); have z2a := hW.far (.sl (L2a + 1) 2 0 e2a) (fun y hy h => by have := r2a y hy; skip; omega); have zz2a := fun K => hW.far (.sl (L2a + 1) 2 0 (V.mkLL K e2a)) (fun y hy h => by have := r2a y (by simp only [V.labels, mkLL_labels] at hy; exact hy); skip; omega); have z0b := hW.far (.sl (L0b + 1) 13 0 e0b) (fun y hy h => by have := r0b y hy; skip; omega); have zz0b := fun K => hW.far (.sl (L0b + 1) 13 0 (V.mkLL K e0b)) (fun y hy h => by have := r0b y (by simp only [V.labels, mkLL_labels] at hy; exact hy); skip; omega); have z1b := hW.far (.sl (L1b + 1) 9 0 e1b) (fun y hy h => by have := r1b y hy; skip; omega); have zz1b := fun K => hW.far (.sl (L1b + 1) 9 0 (V.mkLL K e1b)) (fun y hy h => by have := r1b y (by simp only [V.labels, mkLL_labels] at hy; exact hy); skip; omega); have z2b := hW.far (.sl (L2b + 1) 2 0 e2b) (fun y hy h => by have := r2b y hy; skip; omega); have zz2b := fun K => hW.far (.sl (L2b + 1) 2 0 (V.mkLL K e2b)) (fun y hy h => by have := r2b y (by simp only [V.labels, mkLL_labels] at hy; exact hy); skip; omega); have z0c := hW.far (.sl (L0c + 1) 13 0 e0c) (fun y hy h => by have := r0c y hy; skip; omega); have zz0c := fun K => hW.far (.sl (L0c + 1) 13 0 (V.mkLL K e0c)) (fun y hy h => by have := r0c y (by simp only [V.labels, mkLL_labels] at hy; exact hy); skip; omega); have z1c := hW.far (.sl (L1c + 1) 9 0 e1c) (fun y hy h => by have := r1c y hy; skip; omega); have zz1c := fun K => hW.far (.sl (L1c + 1) 9 0 (V.mkLL K e1c)) (fun y hy h => by have := r1c y (by simp only [V.labels, mkLL_labels] at hy; exact hy); skip; omega); have z2c := hW.far (.sl (L2c + 1) 2 0 e2c) (fun y hy h => by have := r2c y hy; skip; omega); have zz2c := fun K => hW.far (.sl (L2c + 1) 2 0 (V.mkLL K e2c)) (fun y hy h => by have := r2c y (by simp only [V.labels, mkLL_labels] at hy; exact hy); skip; omega); have p0 := fun i o e => hW.ptr (ma + 1) i o e (by omega);  have p1 := fun i o e => hW.ptr (mb + 1) i o e (by omega); simp only [List.map_cons, List.map_nil, hW.int, hW.str, hW.bool, hW.any, hW.tup0, hW.agg, hF.ptr, z0a, zz0a, z1a, zz1a, z2a, zz2a, z0b, zz0b, z1b, zz1b, z2b, zz2b, z0c, zz0c, z1c, zz1c, z2c, zz2c, p0, p1, kput] <;> rfl) ?_
  refine OkOps.nil ?_
  refine Ok.seq ?_
  refine Ok.seq ?_
  refine Ok.drop [23] (by simp only [kover] <;> rfl) ?_
  refine Ok.region ?_
  iterate 2 (refine OkOps.ev tab_ok rfl (by simp only [kev, ktab, klen, kcv] <;> rfl) (by simp only [kput] <;> rfl) ?_)
  refine OkOps.S0 rfl (OpS.weakE rfl (by simp only [kev, ktab, klen, kcv] <;> rfl) (by simp only [kev, ktab, klen, kcv, E0a, M0a, N0a, E1a, M1a, N1a, E2a, M2a, N2a, E0b, M0b, N0b, E1b, M1b, N1b, E2b, M2b, N2b, E0c, M0c, N0c, E1c, M1c, N1c, E2c, M2c, N2c, V.eraseL, V.erase, V.travL, V.trav, zz, zf, zy] <;> rfl) cl11 (by simp [V.labels, V.labelsL, V.labelsLL, zz, zf, zy]) (w_laws_eqPair pairNew pairNew)) (by simp only [kput] <;> rfl) ?_
  refine OkOps.ev tab_ok rfl (by simp only [kev, ktab, klen, kcv] <;> rfl) (by simp only [kput] <;> rfl) ?_
  refine OkOps.nil ?_
  refine Ok.cond_false (by simp only [kev, ktab, klen, kcv] <;> first | rfl | (simp; done) | (simp; omega) | (simp [N0b, N1b, N2b]; done)) ?_
  refine Ok.skip ?_
  refine Ok.seq ?_
  refine Ok.drop [24, 25, 26, 27] (by simp only [kover] <;> rfl) ?_
  refine Ok.region ?_
  refine OkOps.ev tab_ok rfl (by simp only [kev, ktab, klen, kcv] <;> rfl) (by simp only [kput] <;> rfl) ?_
  refine OkOps.nil ?_
  refine Ok.seq ?_
  refine Ok.region ?_
  iterate 2 (refine OkOps.ev tab_ok rfl (by simp only [kev, ktab, klen, kcv] <;> rfl) (by simp only [kput] <;> rfl) ?_)
  refine OkOps.S0 rfl (OpS.weakE rfl (by simp only [kev, ktab, klen, kcv] <;> rfl) (by simp only [kev, ktab, klen, kcv, E0a, M0a, N0a, E1a, M1a, N1a, E2a, M2a, N2a, E0b, M0b, N0b, E1b, M1b, N1b, E2b, M2b, N2b, E0c, M0c, N0c, E1c, M1c, N1c, E2c, M2c, N2c, V.eraseL, V.erase, V.travL, V.trav, zz, zf, zy] <;> rfl) cl13 (by simp [V.labels, V.labelsL, V.labelsLL, zz, zf, zy]) (w_laws_heldPair pairNew 1 (by decide))) (by simp only [kput] <;> rfl) ?_
  refine OkOps.ev tab_ok rfl (by simp only [kev, ktab, klen, kcv] <;> rfl) (by simp only [kput] <;> rfl) ?_
  refine OkOps.nil ?_
  refine Ok.seq ?_
  refine Ok.seq ?_
  refine Ok.drop [28, 29, 30] (by simp only [kover] <;> rfl) ?_
  refine Ok.region ?_
  iterate 2 (refine OkOps.ev tab_ok rfl (by simp only [kev, ktab, klen, kcv] <;> rfl) (by simp only [kput] <;> rfl) ?_)
  refine OkOps.nil ?_
  refine Ok.cond_false (by simp only [kev, ktab, klen, kcv] <;> first | rfl | (simp; done) | (simp; omega) | (simp [N0b, N1b, N2b]; done)) ?_
  refine Ok.skip ?_
  refine Ok.seq ?_
  refine Ok.seq ?_
  refine Ok.drop [31, 32] (by simp only [kover] <;> rfl) ?_
  refine Ok.region ?_
  iterate 3 (refine OkOps.ev tab_ok rfl (by simp only [kev, ktab, klen, kcv] <;> rfl) (by simp only [kput] <;> rfl) ?_)
  refine OkOps.nil ?_
  refine Ok.cond_false (by simp only [kev, ktab, klen, kcv] <;> first | rfl | (simp; done) | (simp; omega) | (simp [N0b, N1b, N2b]; done)) ?_
  refine Ok.skip ?_
  refine Ok.seq ?_
  refine Ok.drop [33, 34, 35] (by simp only [kover] <;> rfl) ?_
  refine Ok.region ?_
  refine OkOps.ev tab_ok rfl (by simp only [kev, ktab, klen, kcv] <;> rfl) (by simp only [kput] <;> rfl) ?_
  refine OkOps.nil ?_
  refine Ok.ret ?_
  repeat (first | with_reducible refine thenQ_ret ?_ | with_reducible refine blockQ_ret ?_)
  refine retQ.end (by show resVs tab _ [.tmp 0] = _; simp only [kev, ktab, klen, kcv] <;> rfl) rfl ?_
  rfl
end Go.Proofs.Ytjhfabimacljhaa.K
