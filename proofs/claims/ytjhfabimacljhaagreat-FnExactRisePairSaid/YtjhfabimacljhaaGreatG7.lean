/- Walks: pairs of which one rises. Printed by w2.py. -/
import Derived.Test.YtjhfabimacljhaaGreatG6
import Derived.Test.YtjhfabimacljhaaGreatG5
import Derived.Test.YtjhfabimacljhaaGreatG4
namespace Go.Proofs.YtjhfabimacljhaaGreat.K
open Go Go.RowKit
set_option linter.unusedVariables false
set_option linter.unusedSimpArgs false
set_option maxHeartbeats 4000000
set_option maxRecDepth 20000
theorem w_impl_Pair_has (p : Pair) (i : Int) : Weak Tryz.prog 78 [.agg (cPair p), .int .i64 i] (.bool (hasP p i)) := by
  refine Weak.enter tab_ok Tryz.func78 rfl (.inr (by simp [V.labelsL, V.labels, V.labelsLL, zz, zf, zy, or_imp, forall_and])) (t := [.agg (cPair p), .int .i64 i, .any, .any, .any, .any, .any, .any, .any, .any, .any, .any, .any, .any, .any, .any, .any, .any, .any, .any, .any]) rfl ?_
  refine Ok.seq (Ok.region ?_)
  iterate 2 (refine EV ?_)
  refine OkOps.nil ?_
  refine Ok.seq (Ok.region ?_)
  refine EV ?_
  refine OkOps.S0 rfl (OpS.weak' rfl (by simp only [kev, ktab, klen, kcv] <;> rfl) (by simp only [kev, ktab, klen, kcv] <;> rfl) cl124 (w_impl_within i 0 1)) (by simp only [kput] <;> rfl) ?_
  refine EV ?_
  refine OkOps.split (d := 7) (by simp only [kev, ktab, klen, kcv] <;> rfl) (by simp only [kput] <;> rfl) (by simp only [kput] <;> rfl) (fun hg1_2 => ?_) (fun hg1_2 => ?_)
  · try simp only [bsimp] at hg1_2
    have h1 := inR_t.1 hg1_2
    refine OkOps.on rfl rfl (by simp only [kev, ktab, klen, kcv]) ?_
    refine EV ?_
    refine OkOps.on rfl rfl (by simp only [kev, ktab, klen, kcv]) ?_
    refine EV ?_
    refine OkOps.on rfl rfl (by simp only [kev, ktab, klen, kcv]) ?_
    refine EV ?_
    refine OkOps.on rfl rfl (by simp only [kev, ktab, klen, kcv]) ?_
    refine EV ?_
    refine OkOps.on rfl rfl (by simp only [kev, ktab, klen, kcv]) ?_
    iterate 3 (refine EV ?_)
    refine OkOps.split (d := 14) (by simp only [kev, ktab, klen, kcv] <;> rfl) (by simp only [kput] <;> rfl) (by simp only [kput] <;> rfl) (fun hg1_9 => ?_) (fun hg1_9 => ?_)
    · try simp only [bsimp] at hg1_9
      have e : hasP p i = decide (i < (p.syncs.length : Int)) := by unfold hasP; exact decide_eq_decide.2 (by omega)
      rw [e]
      refine OkOps.on rfl rfl (by simp only [kev, ktab, klen, kcv]) ?_
      refine EV ?_
      refine OkOps.on rfl rfl (by simp only [kev, ktab, klen, kcv]) ?_
      refine EV ?_
      refine OkOps.on rfl rfl (by simp only [kev, ktab, klen, kcv]) ?_
      refine EV ?_
      refine OkOps.on rfl rfl (by simp only [kev, ktab, klen, kcv]) ?_
      refine EV ?_
      refine OkOps.on rfl rfl (by simp only [kev, ktab, klen, kcv]) ?_
      iterate 3 (refine EV ?_)
      refine OkOps.nil ?_
      refine Ok.ret ?_
      repeat (first | with_reducible refine thenQ_ret ?_ | with_reducible refine blockQ_ret ?_)
      refine retQ.end (by show resVs tab _ [.tmp 4] = _; simp only [kev, ktab, klen, kcv] <;> rfl) rfl ?_
      rfl
    · try simp only [bsimp] at hg1_9
      rw [hasP_no (p := p) (i := i) (by omega)]
      refine OkOps.offU rfl rfl (.inl (by simp only [kev, ktab, klen, kcv, Bool.not_true, Bool.not_false])) (by simp only [kput] <;> rfl) ?_
      refine OkOps.offU rfl rfl (.inl (by simp only [kev, ktab, klen, kcv, Bool.not_true, Bool.not_false])) (by simp only [kput] <;> rfl) ?_
      refine OkOps.offU rfl rfl (.inl (by simp only [kev, ktab, klen, kcv, Bool.not_true, Bool.not_false])) (by simp only [kput] <;> rfl) ?_
      refine OkOps.offU rfl rfl (.inl (by simp only [kev, ktab, klen, kcv, Bool.not_true, Bool.not_false])) (by simp only [kput] <;> rfl) ?_
      refine OkOps.offU rfl rfl (.inl (by simp only [kev, ktab, klen, kcv, Bool.not_true, Bool.not_false])) (by simp only [kput] <;> rfl) ?_
      iterate 2 (refine EV ?_)
      refine OkOps.nil ?_
      refine Ok.ret ?_
      repeat (first | with_reducible refine thenQ_ret ?_ | with_reducible refine blockQ_ret ?_)
      refine retQ.end (by show resVs tab _ [.tmp 4] = _; simp only [kev, ktab, klen, kcv] <;> rfl) rfl ?_
      rfl
  · try simp only [bsimp] at hg1_2
    have h1 := inR_f.1 hg1_2
    rw [hasP_no (p := p) (i := i) (by omega)]
    refine OkOps.offU rfl rfl (.inl (by simp only [kev, ktab, klen, kcv, Bool.not_true, Bool.not_false])) (by simp only [kput] <;> rfl) ?_
    refine OkOps.offU rfl rfl (.inl (by simp only [kev, ktab, klen, kcv, Bool.not_true, Bool.not_false])) (by simp only [kput] <;> rfl) ?_
    refine OkOps.offU rfl rfl (.inl (by simp only [kev, ktab, klen, kcv, Bool.not_true, Bool.not_false])) (by simp only [kput] <;> rfl) ?_
    refine OkOps.offU rfl rfl (.inl (by simp only [kev, ktab, klen, kcv, Bool.not_true, Bool.not_false])) (by simp only [kput] <;> rfl) ?_
    refine OkOps.offU rfl rfl (.inl (by simp only [kev, ktab, klen, kcv, Bool.not_true, Bool.not_false])) (by simp only [kput] <;> rfl) ?_
    iterate 2 (refine EV ?_)
    refine OkOps.offU rfl rfl (.inl (by simp only [kev, ktab, klen, kcv, Bool.not_true, Bool.not_false])) (by simp only [kput] <;> rfl) ?_
    refine OkOps.offU rfl rfl (.inl (by simp only [kev, ktab, klen, kcv, Bool.not_true, Bool.not_false])) (by simp only [kput] <;> rfl) ?_
    refine OkOps.offU rfl rfl (.inl (by simp only [kev, ktab, klen, kcv, Bool.not_true, Bool.not_false])) (by simp only [kput] <;> rfl) ?_
    refine OkOps.offU rfl rfl (.inl (by simp only [kev, ktab, klen, kcv, Bool.not_true, Bool.not_false])) (by simp only [kput] <;> rfl) ?_
    refine OkOps.offU rfl rfl (.inl (by simp only [kev, ktab, klen, kcv, Bool.not_true, Bool.not_false])) (by simp only [kput] <;> rfl) ?_
    iterate 2 (refine EV ?_)
    refine OkOps.nil ?_
    refine Ok.ret ?_
    repeat (first | with_reducible refine thenQ_ret ?_ | with_reducible refine blockQ_ret ?_)
    refine retQ.end (by show resVs tab _ [.tmp 4] = _; simp only [kev, ktab, klen, kcv] <;> rfl) rfl ?_
    rfl
theorem w_spec_l19Place (p : Pair) (i : Int) : Weak Tryz.prog 133 [.agg (cPair p), .int .i64 i] (.bool (hasP p i)) := by
  refine Weak.enter tab_ok Tryz.func133 rfl (.inr (by simp [V.labelsL, V.labels, V.labelsLL, zz, zf, zy, or_imp, forall_and])) (t := [.agg (cPair p), .int .i64 i, .any, .any, .any, .any, .any, .any, .any, .any, .any, .any, .any, .any, .any, .any, .any, .any, .any, .any, .any]) rfl ?_
  refine Ok.seq (Ok.region ?_)
  iterate 2 (refine EV ?_)
  refine OkOps.nil ?_
  refine Ok.seq (Ok.region ?_)
  refine EV ?_
  refine OkOps.S0 rfl (OpS.weak' rfl (by simp only [kev, ktab, klen, kcv] <;> rfl) (by simp only [kev, ktab, klen, kcv] <;> rfl) cl118 (w_spec_l01In i 0 1)) (by simp only [kput] <;> rfl) ?_
  refine EV ?_
  refine OkOps.split (d := 7) (by simp only [kev, ktab, klen, kcv] <;> rfl) (by simp only [kput] <;> rfl) (by simp only [kput] <;> rfl) (fun hg1_2 => ?_) (fun hg1_2 => ?_)
  · try simp only [bsimp] at hg1_2
    have h1 := inR_t.1 hg1_2
    refine OkOps.on rfl rfl (by simp only [kev, ktab, klen, kcv]) ?_
    refine EV ?_
    refine OkOps.on rfl rfl (by simp only [kev, ktab, klen, kcv]) ?_
    refine EV ?_
    refine OkOps.on rfl rfl (by simp only [kev, ktab, klen, kcv]) ?_
    refine EV ?_
    refine OkOps.on rfl rfl (by simp only [kev, ktab, klen, kcv]) ?_
    refine EV ?_
    refine OkOps.on rfl rfl (by simp only [kev, ktab, klen, kcv]) ?_
    iterate 3 (refine EV ?_)
    refine OkOps.split (d := 14) (by simp only [kev, ktab, klen, kcv] <;> rfl) (by simp only [kput] <;> rfl) (by simp only [kput] <;> rfl) (fun hg1_9 => ?_) (fun hg1_9 => ?_)
    · try simp only [bsimp] at hg1_9
      have e : hasP p i = decide (i < (p.syncs.length : Int)) := by unfold hasP; exact decide_eq_decide.2 (by omega)
      rw [e]
      refine OkOps.on rfl rfl (by simp only [kev, ktab, klen, kcv]) ?_
      refine EV ?_
      refine OkOps.on rfl rfl (by simp only [kev, ktab, klen, kcv]) ?_
      refine EV ?_
      refine OkOps.on rfl rfl (by simp only [kev, ktab, klen, kcv]) ?_
      refine EV ?_
      refine OkOps.on rfl rfl (by simp only [kev, ktab, klen, kcv]) ?_
      refine EV ?_
      refine OkOps.on rfl rfl (by simp only [kev, ktab, klen, kcv]) ?_
      iterate 3 (refine EV ?_)
      refine OkOps.nil ?_
      refine Ok.ret ?_
      repeat (first | with_reducible refine thenQ_ret ?_ | with_reducible refine blockQ_ret ?_)
      refine retQ.end (by show resVs tab _ [.tmp 4] = _; simp only [kev, ktab, klen, kcv] <;> rfl) rfl ?_
      rfl
    · try simp only [bsimp] at hg1_9
      rw [hasP_no (p := p) (i := i) (by omega)]
      refine OkOps.offU rfl rfl (.inl (by simp only [kev, ktab, klen, kcv, Bool.not_true, Bool.not_false])) (by simp only [kput] <;> rfl) ?_
      refine OkOps.offU rfl rfl (.inl (by simp only [kev, ktab, klen, kcv, Bool.not_true, Bool.not_false])) (by simp only [kput] <;> rfl) ?_
      refine OkOps.offU rfl rfl (.inl (by simp only [kev, ktab, klen, kcv, Bool.not_true, Bool.not_false])) (by simp only [kput] <;> rfl) ?_
      refine OkOps.offU rfl rfl (.inl (by simp only [kev, ktab, klen, kcv, Bool.not_true, Bool.not_false])) (by simp only [kput] <;> rfl) ?_
      refine OkOps.offU rfl rfl (.inl (by simp only [kev, ktab, klen, kcv, Bool.not_true, Bool.not_false])) (by simp only [kput] <;> rfl) ?_
      iterate 2 (refine EV ?_)
      refine OkOps.nil ?_
      refine Ok.ret ?_
      repeat (first | with_reducible refine thenQ_ret ?_ | with_reducible refine blockQ_ret ?_)
      refine retQ.end (by show resVs tab _ [.tmp 4] = _; simp only [kev, ktab, klen, kcv] <;> rfl) rfl ?_
      rfl
  · try simp only [bsimp] at hg1_2
    have h1 := inR_f.1 hg1_2
    rw [hasP_no (p := p) (i := i) (by omega)]
    refine OkOps.offU rfl rfl (.inl (by simp only [kev, ktab, klen, kcv, Bool.not_true, Bool.not_false])) (by simp only [kput] <;> rfl) ?_
    refine OkOps.offU rfl rfl (.inl (by simp only [kev, ktab, klen, kcv, Bool.not_true, Bool.not_false])) (by simp only [kput] <;> rfl) ?_
    refine OkOps.offU rfl rfl (.inl (by simp only [kev, ktab, klen, kcv, Bool.not_true, Bool.not_false])) (by simp only [kput] <;> rfl) ?_
    refine OkOps.offU rfl rfl (.inl (by simp only [kev, ktab, klen, kcv, Bool.not_true, Bool.not_false])) (by simp only [kput] <;> rfl) ?_
    refine OkOps.offU rfl rfl (.inl (by simp only [kev, ktab, klen, kcv, Bool.not_true, Bool.not_false])) (by simp only [kput] <;> rfl) ?_
    iterate 2 (refine EV ?_)
    refine OkOps.offU rfl rfl (.inl (by simp only [kev, ktab, klen, kcv, Bool.not_true, Bool.not_false])) (by simp only [kput] <;> rfl) ?_
    refine OkOps.offU rfl rfl (.inl (by simp only [kev, ktab, klen, kcv, Bool.not_true, Bool.not_false])) (by simp only [kput] <;> rfl) ?_
    refine OkOps.offU rfl rfl (.inl (by simp only [kev, ktab, klen, kcv, Bool.not_true, Bool.not_false])) (by simp only [kput] <;> rfl) ?_
    refine OkOps.offU rfl rfl (.inl (by simp only [kev, ktab, klen, kcv, Bool.not_true, Bool.not_false])) (by simp only [kput] <;> rfl) ?_
    refine OkOps.offU rfl rfl (.inl (by simp only [kev, ktab, klen, kcv, Bool.not_true, Bool.not_false])) (by simp only [kput] <;> rfl) ?_
    iterate 2 (refine EV ?_)
    refine OkOps.nil ?_
    refine Ok.ret ?_
    repeat (first | with_reducible refine thenQ_ret ?_ | with_reducible refine blockQ_ret ?_)
    refine retQ.end (by show resVs tab _ [.tmp 4] = _; simp only [kev, ktab, klen, kcv] <;> rfl) rfl ?_
    rfl
theorem c_spec_l19Rise (p : Pair) (j : Nat) (h1 : j ≤ 1) (h2 : j < p.servers.length) (h3 : j < p.syncs.length) (h4 : p.servers[j].up = false) (L S S1 S2 : Nat) (s : Server) (hs : s = ⟨p.servers[j].kept, p.servers[j].session, true⟩) {h : List V} {n : Nat}  : OkCall Tryz.prog 73 [.ptr L 0 0 [.sl (S + 1) 13 0 (p.servers.map cServer), .sl S1 9 0 (p.syncs.map cSync), .sl S2 2 0 (p.net.map cLetter), .int .i64 p.epoch], .int .i64 (j : Int)] h n (fun r h1 n1 => r = .bool true ∧ h1 = V.updL (S + 1) j (cServer s) h ∧ n1 = n) := by
  have hp : hasP p (j : Int) = true := hasP_nat h1 h2 h3
  refine OkCall.enter' tab_ok Tryz.func73 rfl (t := [.ptr L 0 0 [.sl (S + 1) 13 0 (p.servers.map cServer), .sl S1 9 0 (p.syncs.map cSync), .sl S2 2 0 (p.net.map cLetter), .int .i64 p.epoch], .int .i64 (j : Int), .any, .any, .any, .any, .any, .any, .any, .any, .any, .any, .any, .any, .any, .any, .any, .any, .any, .any, .any, .any, .any, .any, .any, .any, .any, .any]) rfl ?_
  refine Ok.seq (Ok.region ?_)
  refine EV ?_
  refine OkOps.nil ?_
  refine Ok.seq ?_
  refine Ok.seq (Ok.region ?_)
  iterate 4 (refine EV ?_)
  refine OkOps.S0 rfl (OpS.weakE rfl (by simp only [kev, ktab, klen, kcv] <;> rfl) (by simp only [kev, ktab, klen, kcv, V.eraseL, V.erase, V.travL, V.trav, zz, zf, zy] <;> rfl) cl133 (by simp [V.labels, V.labelsL, V.labelsLL, zz, zf, zy]) (w_spec_l19Place p (j : Int))) (by simp only [kput] <;> rfl) ?_
  iterate 2 (refine EV ?_)
  refine OkOps.split (d := 11) (by simp only [kev, ktab, klen, kcv] <;> rfl) (by simp only [kput] <;> rfl) (by simp only [kput] <;> rfl) (fun hg1_6 => ?_) (fun hg1_6 => ?_)
  · try simp only [bsimp] at hg1_6
    rw [hp] at hg1_6; cases hg1_6
  · try simp only [bsimp] at hg1_6
    refine OkOps.on rfl rfl (by simp only [kev, ktab, klen, kcv]) ?_
    refine EV ?_
    refine OkOps.on rfl rfl (by simp only [kev, ktab, klen, kcv]) ?_
    refine EV ?_
    refine OkOps.on rfl rfl (by simp only [kev, ktab, klen, kcv]) ?_
    refine EV ?_
    refine OkOps.on rfl rfl (by simp only [kev, ktab, klen, kcv]) ?_
    refine EV ?_
    refine OkOps.on rfl rfl (by simp only [kev, ktab, klen, kcv]) ?_
    refine EV ?_
    refine OkOps.on rfl rfl (by simp only [kev, ktab, klen, kcv]) ?_
    refine OkOps.ev tab_ok rfl (ev_idx_map (by simp only [kev, ktab, klen, kcv] <;> rfl) (by simp only [kev, ktab, klen, kcv] <;> rfl) (h2) (by simp only [kev, ktab, klen, kcv] <;> rfl)) (by simp only [kput] <;> rfl) ?_
    refine OkOps.on rfl rfl (by simp only [kev, ktab, klen, kcv]) ?_
    refine EV ?_
    refine OkOps.on rfl rfl (by simp only [kev, ktab, klen, kcv]) ?_
    iterate 2 (refine EV ?_)
    refine OkOps.nil ?_
    refine Ok.cond_false (by simp only [kev, ktab, klen, kcv, h4] <;> rfl) ?_
    refine Ok.skip ?_
    refine Ok.seq (Ok.region ?_)
    iterate 5 (refine EV ?_)
    refine OkOps.ev tab_ok rfl (ev_idx_map (by simp only [kev, ktab, klen, kcv] <;> rfl) (by simp only [kev, ktab, klen, kcv] <;> rfl) (h2) (by simp only [kev, ktab, klen, kcv] <;> rfl)) (by simp only [kput] <;> rfl) ?_
    refine EV ?_
    refine OkOps.storeE tab_ok rfl rfl (by simp only [kev, ktab, klen, kcv, cServer] <;> rfl) ⟨_, _, by simp only [kev]; rfl⟩ (by first | (simp [V.labelsL, V.labelsLL, V.labels, zz, zf, zy]; done) | (simp [-List.map_map, -List.map_set, -List.map_drop, -List.map_take, -List.map_tail, -List.drop_one, V.labelsL, V.labelsLL, V.labels, zz, zf, zy]; done)) (by simp only [eq_self, V.updL, V.travL, V.travLL, V.trav, updS, updP, and_self, true_and, and_true, false_and, and_false, Nat.reduceEqDiff, Nat.reduceSub, Nat.le_refl, Nat.zero_le, ↓reduceIte, if_true, if_false, kput, zz, zf, zy, Nat.sub_zero] <;> rfl) (rfl) ?_
    refine OkOps.nil ?_
    refine Ok.seq (Ok.region ?_)
    refine EV ?_
    refine OkOps.nil ?_
    refine Ok.ret ?_
    repeat (first | with_reducible refine thenQ_ret ?_ | with_reducible refine blockQ_ret ?_)
    refine retQ.end (by show resVs tab _ [.tmp 4] = _; simp only [kev, ktab, klen, kcv] <;> rfl) rfl ?_
    subst hs; exact ⟨rfl, rfl, rfl⟩
theorem w_spec_l19Rise (p : Pair) (i : Int) (hr : riseB p i = false) : Weak Tryz.prog 73 [.ptr 0 0 0 (cPair p), .int .i64 i] (.bool false) := by
  refine Weak.enter tab_ok Tryz.func73 rfl (.inr (by simp [V.labelsL, V.labels, V.labelsLL, zz, zf, zy, or_imp, forall_and])) (t := [.ptr 0 0 0 (cPair p), .int .i64 i, .any, .any, .any, .any, .any, .any, .any, .any, .any, .any, .any, .any, .any, .any, .any, .any, .any, .any, .any, .any, .any, .any, .any, .any, .any, .any]) rfl ?_
  refine Ok.seq (Ok.region ?_)
  refine EV ?_
  refine OkOps.nil ?_
  refine Ok.seq ?_
  refine Ok.seq (Ok.region ?_)
  iterate 4 (refine EV ?_)
  refine OkOps.S0 rfl (OpS.weakE rfl (by simp only [kev, ktab, klen, kcv] <;> rfl) (by simp only [kev, ktab, klen, kcv, V.eraseL, V.erase, V.travL, V.trav, zz, zf, zy] <;> rfl) cl133 (by simp [V.labels, V.labelsL, V.labelsLL, zz, zf, zy]) (w_spec_l19Place p i)) (by simp only [kput] <;> rfl) ?_
  iterate 2 (refine EV ?_)
  refine OkOps.split (d := 11) (by simp only [kev, ktab, klen, kcv] <;> rfl) (by simp only [kput] <;> rfl) (by simp only [kput] <;> rfl) (fun hg1_6 => ?_) (fun hg1_6 => ?_)
  · try simp only [bsimp] at hg1_6
    refine OkOps.offU rfl rfl (.inl (by simp only [kev, ktab, klen, kcv, Bool.not_true, Bool.not_false])) (by simp only [kput] <;> rfl) ?_
    refine OkOps.offU rfl rfl (.inl (by simp only [kev, ktab, klen, kcv, Bool.not_true, Bool.not_false])) (by simp only [kput] <;> rfl) ?_
    refine OkOps.offU rfl rfl (.inl (by simp only [kev, ktab, klen, kcv, Bool.not_true, Bool.not_false])) (by simp only [kput] <;> rfl) ?_
    refine OkOps.offU rfl rfl (.inl (by simp only [kev, ktab, klen, kcv, Bool.not_true, Bool.not_false])) (by simp only [kput] <;> rfl) ?_
    refine OkOps.offU rfl rfl (.inl (by simp only [kev, ktab, klen, kcv, Bool.not_true, Bool.not_false])) (by simp only [kput] <;> rfl) ?_
    refine OkOps.offU rfl rfl (.inl (by simp only [kev, ktab, klen, kcv, Bool.not_true, Bool.not_false])) (by simp only [kput] <;> rfl) ?_
    refine OkOps.offU rfl rfl (.inl (by simp only [kev, ktab, klen, kcv, Bool.not_true, Bool.not_false])) (by simp only [kput] <;> rfl) ?_
    refine OkOps.offU rfl rfl (.inl (by simp only [kev, ktab, klen, kcv, Bool.not_true, Bool.not_false])) (by simp only [kput] <;> rfl) ?_
    refine EV ?_
    refine OkOps.nil ?_
    refine Ok.cond_true (by simp only [kev, ktab, klen, kcv] <;> rfl) ?_
    refine Ok.seq (Ok.region ?_)
    refine EV ?_
    refine OkOps.nil ?_
    refine Ok.ret ?_
    repeat (first | with_reducible refine thenQ_ret ?_ | with_reducible refine blockQ_ret ?_)
    refine retQ.end (by show resVs tab _ [.tmp 4] = _; simp only [kev, ktab, klen, kcv] <;> rfl) rfl ?_
    rfl
  · try simp only [bsimp] at hg1_6
    have hp : hasP p i = true := by simpa using hg1_6
    obtain ⟨j, rfl, h1, h2, h3⟩ := hasP_is hp
    have h4 : p.servers[j].up = true := by rw [riseB_nat h1 h2 h3] at hr; simpa using hr
    refine OkOps.on rfl rfl (by simp only [kev, ktab, klen, kcv]) ?_
    refine EV ?_
    refine OkOps.on rfl rfl (by simp only [kev, ktab, klen, kcv]) ?_
    refine EV ?_
    refine OkOps.on rfl rfl (by simp only [kev, ktab, klen, kcv]) ?_
    refine EV ?_
    refine OkOps.on rfl rfl (by simp only [kev, ktab, klen, kcv]) ?_
    refine EV ?_
    refine OkOps.on rfl rfl (by simp only [kev, ktab, klen, kcv]) ?_
    refine EV ?_
    refine OkOps.on rfl rfl (by simp only [kev, ktab, klen, kcv]) ?_
    refine OkOps.ev tab_ok rfl (ev_idx_map (by simp only [kev, ktab, klen, kcv] <;> rfl) (by simp only [kev, ktab, klen, kcv] <;> rfl) (h2) (by simp only [kev, ktab, klen, kcv] <;> rfl)) (by simp only [kput] <;> rfl) ?_
    refine OkOps.on rfl rfl (by simp only [kev, ktab, klen, kcv]) ?_
    refine EV ?_
    refine OkOps.on rfl rfl (by simp only [kev, ktab, klen, kcv]) ?_
    iterate 2 (refine EV ?_)
    refine OkOps.nil ?_
    refine Ok.cond (b := _) (by simp only [kev, ktab, klen, kcv] <;> rfl) (fun hb1 => ?_) (fun hb1 => ?_)
    · try simp only [bsimp] at hb1
      refine Ok.seq (Ok.region ?_)
      refine EV ?_
      refine OkOps.nil ?_
      refine Ok.ret ?_
      repeat (first | with_reducible refine thenQ_ret ?_ | with_reducible refine blockQ_ret ?_)
      refine retQ.end (by show resVs tab _ [.tmp 4] = _; simp only [kev, ktab, klen, kcv] <;> rfl) rfl ?_
      rfl
    · try simp only [bsimp] at hb1
      rw [h4] at hb1; cases hb1
theorem w_spec_RisePair_t (p : Pair) (h : smPair p) (j : Nat) (h1 : j ≤ 1) (h2 : j < p.servers.length) (h3 : j < p.syncs.length) (h4 : p.servers[j].up = false) : Weak Tryz.prog 18 [.agg (cPair p), .int .i64 (j : Int)] (.tup [.agg (cPair { p with servers := p.servers.set j ⟨p.servers[j].kept, p.servers[j].session, true⟩ }), .bool true]) := by
  obtain ⟨s, hs⟩ : ∃ s : Server, s = ⟨p.servers[j].kept, p.servers[j].session, true⟩ := ⟨_, rfl⟩
  rw [← hs]
  have hset := set_map cServer p.servers j s
  refine Weak.enter tab_ok Tryz.func18 rfl (.inr (by simp [V.labelsL, V.labels, V.labelsLL, zz, zf, zy, or_imp, forall_and])) (t := [.agg (cPair p), .int .i64 (j : Int), .any, .any, .any, .any, .any, .any, .any, .any, .any, .any, .any, .any]) rfl ?_
  refine Ok.seq (Ok.region ?_)
  iterate 3 (refine EV ?_)
  refine OkOps.nil ?_
  refine Ok.seq (Ok.region ?_)
  refine EV ?_
  refine OkOps.S' rfl (OpS.semi rfl (by simp only [kev, ktab, klen, kcv] <;> rfl) (by simp only [kev, ktab, klen, kcv, V.eraseL, V.erase, V.travL, V.trav, zz, zf, zy] <;> rfl) cl72 (by simp [V.dat, V.datL, V.datLL, zz, zf, zy]) (by simp [V.erase, V.trav, V.travL, V.travLL, zz, zf, zy]) (p_spec_l19Copy p h)) (by simp only [ksem, Nat.add_zero, Nat.zero_add, Nat.reduceAdd] <;> rfl) (by simp only [kput, ksem, Nat.add_zero, Nat.zero_add, Nat.reduceAdd] <;> rfl) ?_
  refine EV ?_
  refine OkOps.storeE tab_ok rfl rfl (by simp only [kev, ktab, klen, kcv] <;> rfl) ⟨_, _, by simp only [kev]; rfl⟩ (by first | (simp [V.labelsL, V.labelsLL, V.labels, zz, zf, zy]; done) | (simp [-List.map_map, -List.map_set, -List.map_drop, -List.map_take, -List.map_tail, -List.drop_one, V.labelsL, V.labelsLL, V.labels, zz, zf, zy]; done)) (by simp only [eq_self, V.updL, V.travL, V.travLL, V.trav, updS, updP, and_self, true_and, and_true, false_and, and_false, Nat.reduceEqDiff, Nat.reduceSub, Nat.le_refl, Nat.zero_le, ↓reduceIte, if_true, if_false, kput, zz, zf, zy, Nat.sub_zero, Nat.reduceAdd, hset] <;> rfl) (rfl) ?_
  refine OkOps.nil ?_
  refine Ok.seq (Ok.region ?_)
  refine EV ?_
  refine OkOps.upd rfl rfl (by simp only [kev, ktab, klen, kcv] <;> rfl) (by simp only [kev, ktab, klen, kcv] <;> rfl) cl73 (fun h => c_spec_l19Rise p j h1 h2 h3 h4 6 2 4 5 s hs) (by simp only [eq_self, V.updL, V.travL, V.travLL, V.trav, updS, updP, and_self, true_and, and_true, false_and, and_false, Nat.reduceEqDiff, Nat.reduceSub, Nat.le_refl, Nat.zero_le, ↓reduceIte, if_true, if_false, kput, zz, zf, zy, Nat.sub_zero, Nat.reduceAdd, hset] <;> rfl) (rfl) ?_
  refine EV ?_
  refine OkOps.nil ?_
  refine Ok.seq (Ok.region ?_)
  iterate 2 (refine EV ?_)
  refine OkOps.storeE tab_ok rfl rfl (by simp only [kev, ktab, klen, kcv] <;> rfl) ⟨_, _, by simp only [kev]; rfl⟩ (by first | (simp [V.labelsL, V.labelsLL, V.labels, zz, zf, zy]; done) | (simp [-List.map_map, -List.map_set, -List.map_drop, -List.map_take, -List.map_tail, -List.drop_one, V.labelsL, V.labelsLL, V.labels, zz, zf, zy]; done)) (by simp only [eq_self, V.updL, V.travL, V.travLL, V.trav, updS, updP, and_self, true_and, and_true, false_and, and_false, Nat.reduceEqDiff, Nat.reduceSub, Nat.le_refl, Nat.zero_le, ↓reduceIte, if_true, if_false, kput, zz, zf, zy, Nat.sub_zero, Nat.reduceAdd, hset] <;> rfl) (rfl) ?_
  refine EV ?_
  refine OkOps.nil ?_
  refine Ok.ret ?_
  repeat (first | with_reducible refine thenQ_ret ?_ | with_reducible refine blockQ_ret ?_)
  refine retQ.end (by show resVs tab _ [.cell 4 53, .tmp 5] = _; simp only [kev, ktab, klen, kcv] <;> rfl) rfl ?_
  simp [-List.map_set, V.erase, V.trav, V.travL, V.travLL, packV, zz, zf, zy]
theorem w_spec_RisePair_f (p : Pair) (h : smPair p) (i : Int) (hr : riseB p i = false) : Weak Tryz.prog 18 [.agg (cPair p), .int .i64 i] (.tup [.agg (cPair p), .bool false]) := by
  refine Weak.enter tab_ok Tryz.func18 rfl (.inr (by simp [V.labelsL, V.labels, V.labelsLL, zz, zf, zy, or_imp, forall_and])) (t := [.agg (cPair p), .int .i64 i, .any, .any, .any, .any, .any, .any, .any, .any, .any, .any, .any, .any]) rfl ?_
  refine Ok.seq (Ok.region ?_)
  iterate 3 (refine EV ?_)
  refine OkOps.nil ?_
  refine Ok.seq (Ok.region ?_)
  refine EV ?_
  refine OkOps.S' rfl (OpS.semi rfl (by simp only [kev, ktab, klen, kcv] <;> rfl) (by simp only [kev, ktab, klen, kcv, V.eraseL, V.erase, V.travL, V.trav, zz, zf, zy] <;> rfl) cl72 (by simp [V.dat, V.datL, V.datLL, zz, zf, zy]) (by simp [V.erase, V.trav, V.travL, V.travLL, zz, zf, zy]) (p_spec_l19Copy p h)) (by simp only [ksem, Nat.add_zero, Nat.zero_add, Nat.reduceAdd] <;> rfl) (by simp only [kput, ksem, Nat.add_zero, Nat.zero_add, Nat.reduceAdd] <;> rfl) ?_
  refine EV ?_
  refine OkOps.storeE tab_ok rfl rfl (by simp only [kev, ktab, klen, kcv] <;> rfl) ⟨_, _, by simp only [kev]; rfl⟩ (by first | (simp [V.labelsL, V.labelsLL, V.labels, zz, zf, zy]; done) | (simp [-List.map_map, -List.map_set, -List.map_drop, -List.map_take, -List.map_tail, -List.drop_one, V.labelsL, V.labelsLL, V.labels, zz, zf, zy]; done)) (by simp only [eq_self, V.updL, V.travL, V.travLL, V.trav, updS, updP, and_self, true_and, and_true, false_and, and_false, Nat.reduceEqDiff, Nat.reduceSub, Nat.le_refl, Nat.zero_le, ↓reduceIte, if_true, if_false, kput, zz, zf, zy, Nat.sub_zero, Nat.reduceAdd] <;> rfl) (rfl) ?_
  refine OkOps.nil ?_
  refine Ok.seq (Ok.region ?_)
  refine EV ?_
  refine OkOps.S0 rfl (OpS.weakE rfl (by simp only [kev, ktab, klen, kcv] <;> rfl) (by simp only [kev, ktab, klen, kcv, V.eraseL, V.erase, V.travL, V.trav, zz, zf, zy] <;> rfl) cl73 (by simp [V.labels, V.labelsL, V.labelsLL, zz, zf, zy]) (w_spec_l19Rise p i hr)) (by simp only [kput] <;> rfl) ?_
  refine EV ?_
  refine OkOps.nil ?_
  refine Ok.seq (Ok.region ?_)
  iterate 2 (refine EV ?_)
  refine OkOps.storeE tab_ok rfl rfl (by simp only [kev, ktab, klen, kcv] <;> rfl) ⟨_, _, by simp only [kev]; rfl⟩ (by first | (simp [V.labelsL, V.labelsLL, V.labels, zz, zf, zy]; done) | (simp [-List.map_map, -List.map_set, -List.map_drop, -List.map_take, -List.map_tail, -List.drop_one, V.labelsL, V.labelsLL, V.labels, zz, zf, zy]; done)) (by simp only [eq_self, V.updL, V.travL, V.travLL, V.trav, updS, updP, and_self, true_and, and_true, false_and, and_false, Nat.reduceEqDiff, Nat.reduceSub, Nat.le_refl, Nat.zero_le, ↓reduceIte, if_true, if_false, kput, zz, zf, zy, Nat.sub_zero, Nat.reduceAdd] <;> rfl) (rfl) ?_
  refine EV ?_
  refine OkOps.nil ?_
  refine Ok.ret ?_
  repeat (first | with_reducible refine thenQ_ret ?_ | with_reducible refine blockQ_ret ?_)
  refine retQ.end (by show resVs tab _ [.cell 4 53, .tmp 5] = _; simp only [kev, ktab, klen, kcv] <;> rfl) rfl ?_
  simp [-List.map_set, V.erase, V.trav, V.travL, V.travLL, packV, zz, zf, zy]
theorem w_spec_RisePair (p : Pair) (i : Int) (h : smPair p) : Weak Tryz.prog 18 [.agg (cPair p), .int .i64 i] (.tup [.agg (cPair (riseP p i)), .bool (riseB p i)]) := by
  cases hr : riseB p i with
  | false => rw [riseP_no hr]; exact w_spec_RisePair_f p h i hr
  | true =>
    obtain ⟨j, rfl, h1, h2, h3, h4⟩ := riseB_is hr
    rw [riseP_yes h2 hr]
    exact w_spec_RisePair_t p h j h1 h2 h3 h4
theorem p_impl_RisePair (p : Pair) (i : Int) (h : smPair p) : Pure Tryz.prog 20 [.agg (cPair p), .int .i64 i] (.tup [.agg (cPair (riseP p i)), .bool (riseB p i)]) := by
  refine Pure.of (by simp [V.dat, V.datL, V.datLL, zz, zf, zy]) (OkCall.enter' tab_ok Tryz.func20 rfl (t := [.agg (cPair p), .int .i64 i, .any, .any, .any, .any, .any, .any, .any, .any, .any, .any, .any, .any, .any, .any, .any, .any, .any, .any, .any, .any, .any, .any, .any, .any, .any, .any, .any, .any, .any, .any, .any]) rfl ?_)
  refine Ok.seq (Ok.region ?_)
  iterate 3 (refine EV ?_)
  refine OkOps.nil ?_
  refine Ok.seq (Ok.region ?_)
  refine EV ?_
  obtain ⟨L0a, e0a, L1a, e1a, L2a, e2a, hXa, q0a, E0a, M0a, N0a, q1a, E1a, M1a, N1a, q2a, E2a, M2a, N2a, nda, rga⟩ := ownPair (2) (p)
  obtain ⟨ma, hma⟩ : ∃ m, 2 + 1 + V.cnt (.agg (cPair (p))) = m + 1 := ⟨2 + V.cnt (.agg (cPair (p))), by omega⟩
  have r0a : ∀ z ∈ V.labels (.sl (L0a + 1) 13 0 e0a), 2 + 1 ≤ z ∧ z < ma + 1 := fun z hz => by have := rga z (by first | exact hz | (simp only [V.labelsL, V.labels, List.mem_append] at hz ⊢; simp only [hz, true_or, or_true])); omega
  have r1a : ∀ z ∈ V.labels (.sl (L1a + 1) 9 0 e1a), 2 + 1 ≤ z ∧ z < ma + 1 := fun z hz => by have := rga z (by first | exact hz | (simp only [V.labelsL, V.labels, List.mem_append] at hz ⊢; simp only [hz, true_or, or_true])); omega
  have r2a : ∀ z ∈ V.labels (.sl (L2a + 1) 2 0 e2a), 2 + 1 ≤ z ∧ z < ma + 1 := fun z hz => by have := rga z (by first | exact hz | (simp only [V.labelsL, V.labels, List.mem_append] at hz ⊢; simp only [hz, true_or, or_true])); omega
  refine OkOps.S' rfl (OpS.pure' rfl (by simp only [kev, ktab, klen, kcv] <;> rfl) (by simp only [kev, ktab, klen, kcv, V.eraseL, V.erase, V.travL, V.trav, zz, zf, zy] <;> rfl) cl77 (by simp [V.dat, V.datL, V.datLL, zz, zf, zy]) (p_impl_copyPair p h)) hma (by simp only [kput, hXa] <;> rfl) ?_
  refine EV ?_
  refine OkOps.storeN tab_ok rfl rfl (by simp only [kev, ktab, klen, kcv] <;> rfl) ⟨_, _, by simp only [kev]; rfl⟩ (by first | (simp [V.labelsL, V.labelsLL, V.labels, zz, zf, zy]; done) | (intro h; simp only [V.labelsL, V.labels, List.mem_append, List.append_nil, List.nil_append, List.not_mem_nil, or_false, false_or] at h; first | ((first | (have := r0a _ h; omega) | (have := r1a _ h; omega) | (have := r2a _ h; omega))) | (rcases h with h | h <;> (first | (have := r0a _ h; omega) | (have := r1a _ h; omega) | (have := r2a _ h; omega))) | (rcases h with h | h | h <;> (first | (have := r0a _ h; omega) | (have := r1a _ h; omega) | (have := r2a _ h; omega))))) (fun W hW hF => by obtain ⟨z0a, zz0a⟩ := farA hW r0a (fun y h1 h2 h => by omega); obtain ⟨z1a, zz1a⟩ := farA hW r1a (fun y h1 h2 h => by omega); obtain ⟨z2a, zz2a⟩ := farA hW r2a (fun y h1 h2 h => by omega); have f0 := far0 hW (fun h => by omega); have p0 := fun i o e => hW.ptr (1) i o e (by omega);  have p1 := fun i o e => hW.ptr (2) i o e (by omega); simp only [List.map_cons, List.map_nil, hW.int, hW.str, hW.bool, hW.any, hW.tup0, hW.agg, hW.nilV, hF.ptr, z0a, zz0a, z1a, zz1a, z2a, zz2a, f0, p0, p1, kput] <;> rfl) ?_
  refine OkOps.nil ?_
  refine Ok.seq ?_
  refine Ok.seq ?_
  refine Ok.drop [7, 8] (by simp only [kover] <;> rfl) ?_
  refine Ok.region ?_
  iterate 2 (refine EV ?_)
  refine OkOps.S0 rfl (OpS.weak' rfl (by simp only [kev, ktab, klen, kcv] <;> rfl) (by simp only [kev, ktab, klen, kcv] <;> rfl) cl78 (w_impl_Pair_has p i)) (by simp only [kput] <;> rfl) ?_
  iterate 2 (refine EV ?_)
  refine OkOps.split (d := 13) (by simp only [kev, ktab, klen, kcv] <;> rfl) (by simp only [kput] <;> rfl) (by simp only [kput] <;> rfl) (fun hg2_4 => ?_) (fun hg2_4 => ?_)
  · try simp only [bsimp] at hg2_4
    have hr : riseB p i = false := riseB_has (by simpa using hg2_4)
    rw [riseP_no hr, hr]
    refine OkOps.offU rfl rfl (.inl (by simp only [kev, ktab, klen, kcv, Bool.not_true, Bool.not_false])) (by simp only [kput] <;> rfl) ?_
    refine OkOps.offU rfl rfl (.inl (by simp only [kev, ktab, klen, kcv, Bool.not_true, Bool.not_false])) (by simp only [kput] <;> rfl) ?_
    refine OkOps.offU rfl rfl (.inl (by simp only [kev, ktab, klen, kcv, Bool.not_true, Bool.not_false])) (by simp only [kput] <;> rfl) ?_
    refine OkOps.offU rfl rfl (.inl (by simp only [kev, ktab, klen, kcv, Bool.not_true, Bool.not_false])) (by simp only [kput] <;> rfl) ?_
    refine OkOps.offU rfl rfl (.inl (by simp only [kev, ktab, klen, kcv, Bool.not_true, Bool.not_false])) (by simp only [kput] <;> rfl) ?_
    refine OkOps.offU rfl rfl (.inl (by simp only [kev, ktab, klen, kcv, Bool.not_true, Bool.not_false])) (by simp only [kput] <;> rfl) ?_
    refine EV ?_
    refine OkOps.nil ?_
    refine Ok.cond_true (by simp only [kev, ktab, klen, kcv] <;> rfl) ?_
    refine Ok.seq ?_
    refine Ok.drop [9, 10, 11, 12, 13, 14, 15, 16, 17, 18, 19, 20] (by simp only [kover] <;> rfl) ?_
    refine Ok.region ?_
    refine EV ?_
    refine OkOps.storeN tab_ok rfl rfl (by simp only [kev, ktab, klen, kcv] <;> rfl) ⟨_, _, by simp only [kev]; rfl⟩ (by first | (simp [V.labelsL, V.labelsLL, V.labels, zz, zf, zy]; done) | (intro h; simp only [V.labelsL, V.labels, List.mem_append, List.append_nil, List.nil_append, List.not_mem_nil, or_false, false_or] at h; first | ((first | (have := r0a _ h; omega) | (have := r1a _ h; omega) | (have := r2a _ h; omega))) | (rcases h with h | h <;> (first | (have := r0a _ h; omega) | (have := r1a _ h; omega) | (have := r2a _ h; omega))) | (rcases h with h | h | h <;> (first | (have := r0a _ h; omega) | (have := r1a _ h; omega) | (have := r2a _ h; omega))))) (fun W hW hF => by obtain ⟨z0a, zz0a⟩ := farA hW r0a (fun y h1 h2 h => by omega); obtain ⟨z1a, zz1a⟩ := farA hW r1a (fun y h1 h2 h => by omega); obtain ⟨z2a, zz2a⟩ := farA hW r2a (fun y h1 h2 h => by omega); have f0 := far0 hW (fun h => by omega); have p0 := fun i o e => hW.ptr (1) i o e (by omega);  have p2 := fun i o e => hW.ptr (ma + 1) i o e (by omega); simp only [List.map_cons, List.map_nil, hW.int, hW.str, hW.bool, hW.any, hW.tup0, hW.agg, hW.nilV, hF.ptr, z0a, zz0a, z1a, zz1a, z2a, zz2a, f0, p0, p2, kput] <;> rfl) ?_
    refine EV ?_
    refine OkOps.nil ?_
    refine Ok.ret ?_
    repeat (first | with_reducible refine thenQ_ret ?_ | with_reducible refine blockQ_ret ?_)
    refine retQ.end (by show resVs tab _ [.cell 4 53, .tmp 5] = _; simp only [kev, ktab, klen, kcv] <;> rfl) rfl ?_
    exact ⟨(by simp only [packV, V.erase, V.trav, V.travL, V.travLL, zz, zf, zy, E0a, E1a, E2a] <;> rfl), (by intro L hL; simp only [packV, V.labels, V.labelsL, List.append_nil, List.nil_append, List.mem_append] at hL; rcases hL with hL | hL | hL <;> first | (have := r0a L hL; omega) | (have := r1a L hL; omega) | (have := r2a L hL; omega)), (by have na := nda; simp only [V.labels, V.labelsL, List.append_nil, List.nil_append] at na; obtain ⟨w0a, na, f0a, _⟩ := nd_app na; obtain ⟨w1a, na, f1a, _⟩ := nd_app na; have w2a := na; simp only [packV, V.labels, V.labelsL, List.append_nil, List.nil_append]; exact (nd_app2 w0a (nd_app2 w1a w2a (fun y hy hh => by exact (f1a y hy (by first | exact hh | (simp only [List.mem_append]; simp only [hh, true_or, or_true]))))) (fun y hy hh => by exact (List.mem_append.1 hh).elim (fun hh => (f0a y hy (by first | exact hh | (simp only [List.mem_append]; simp only [hh, true_or, or_true])))) (fun hh => by exact (f0a y hy (by first | exact hh | (simp only [List.mem_append]; simp only [hh, true_or, or_true])))))))⟩
  · try simp only [bsimp] at hg2_4
    have hp : hasP p i = true := by simpa using hg2_4
    obtain ⟨j, rfl, h1, h2, h3⟩ := hasP_is hp
    have hn := riseB_nat h1 h2 h3
    refine OkOps.on rfl rfl (by simp only [kev, ktab, klen, kcv]) ?_
    refine EV ?_
    refine OkOps.on rfl rfl (by simp only [kev, ktab, klen, kcv]) ?_
    refine EV ?_
    refine OkOps.on rfl rfl (by simp only [kev, ktab, klen, kcv]) ?_
    refine EV ?_
    refine OkOps.on rfl rfl (by simp only [kev, ktab, klen, kcv]) ?_
    refine OkOps.ev tab_ok rfl (ev_idx_map (by simp only [kev, ktab, klen, kcv] <;> rfl) (by simp only [kev, ktab, klen, kcv] <;> rfl) (h2) (by simp only [kev, ktab, klen, kcv] <;> rfl)) (by simp only [kput] <;> rfl) ?_
    refine OkOps.on rfl rfl (by simp only [kev, ktab, klen, kcv]) ?_
    refine EV ?_
    refine OkOps.on rfl rfl (by simp only [kev, ktab, klen, kcv]) ?_
    iterate 2 (refine EV ?_)
    refine OkOps.nil ?_
    refine Ok.cond (b := _) (by simp only [kev, ktab, klen, kcv] <;> rfl) (fun hb2 => ?_) (fun hb2 => ?_)
    · try simp only [bsimp] at hb2
      have hr : riseB p (j : Int) = false := by rw [hn, hb2]; rfl
      rw [riseP_no hr, hr]
      refine Ok.seq ?_
      refine Ok.drop [9, 10, 11, 12, 13, 14, 15, 16, 17, 18, 19, 20] (by simp only [kover] <;> rfl) ?_
      refine Ok.region ?_
      refine EV ?_
      refine OkOps.storeN tab_ok rfl rfl (by simp only [kev, ktab, klen, kcv] <;> rfl) ⟨_, _, by simp only [kev]; rfl⟩ (by first | (simp [V.labelsL, V.labelsLL, V.labels, zz, zf, zy]; done) | (intro h; simp only [V.labelsL, V.labels, List.mem_append, List.append_nil, List.nil_append, List.not_mem_nil, or_false, false_or] at h; first | ((first | (have := r0a _ h; omega) | (have := r1a _ h; omega) | (have := r2a _ h; omega))) | (rcases h with h | h <;> (first | (have := r0a _ h; omega) | (have := r1a _ h; omega) | (have := r2a _ h; omega))) | (rcases h with h | h | h <;> (first | (have := r0a _ h; omega) | (have := r1a _ h; omega) | (have := r2a _ h; omega))))) (fun W hW hF => by obtain ⟨z0a, zz0a⟩ := farA hW r0a (fun y h1 h2 h => by omega); obtain ⟨z1a, zz1a⟩ := farA hW r1a (fun y h1 h2 h => by omega); obtain ⟨z2a, zz2a⟩ := farA hW r2a (fun y h1 h2 h => by omega); have f0 := far0 hW (fun h => by omega); have p0 := fun i o e => hW.ptr (1) i o e (by omega);  have p2 := fun i o e => hW.ptr (ma + 1) i o e (by omega); simp only [List.map_cons, List.map_nil, hW.int, hW.str, hW.bool, hW.any, hW.tup0, hW.agg, hW.nilV, hF.ptr, z0a, zz0a, z1a, zz1a, z2a, zz2a, f0, p0, p2, kput] <;> rfl) ?_
      refine EV ?_
      refine OkOps.nil ?_
      refine Ok.ret ?_
      repeat (first | with_reducible refine thenQ_ret ?_ | with_reducible refine blockQ_ret ?_)
      refine retQ.end (by show resVs tab _ [.cell 4 53, .tmp 5] = _; simp only [kev, ktab, klen, kcv] <;> rfl) rfl ?_
      exact ⟨(by simp only [packV, V.erase, V.trav, V.travL, V.travLL, zz, zf, zy, E0a, E1a, E2a] <;> rfl), (by intro L hL; simp only [packV, V.labels, V.labelsL, List.append_nil, List.nil_append, List.mem_append] at hL; rcases hL with hL | hL | hL <;> first | (have := r0a L hL; omega) | (have := r1a L hL; omega) | (have := r2a L hL; omega)), (by have na := nda; simp only [V.labels, V.labelsL, List.append_nil, List.nil_append] at na; obtain ⟨w0a, na, f0a, _⟩ := nd_app na; obtain ⟨w1a, na, f1a, _⟩ := nd_app na; have w2a := na; simp only [packV, V.labels, V.labelsL, List.append_nil, List.nil_append]; exact (nd_app2 w0a (nd_app2 w1a w2a (fun y hy hh => by exact (f1a y hy (by first | exact hh | (simp only [List.mem_append]; simp only [hh, true_or, or_true]))))) (fun y hy hh => by exact (List.mem_append.1 hh).elim (fun hh => (f0a y hy (by first | exact hh | (simp only [List.mem_append]; simp only [hh, true_or, or_true])))) (fun hh => by exact (f0a y hy (by first | exact hh | (simp only [List.mem_append]; simp only [hh, true_or, or_true])))))))⟩
    · try simp only [bsimp] at hb2
      have hr : riseB p (j : Int) = true := by rw [hn, hb2]; rfl
      rw [riseP_yes h2 hr, hr]
      have hj : j < e0a.length := by rw [trav_len E0a]; exact h2
      obtain ⟨v0, v1, L2, e2, L3, e3, v4, v5, v6, v7, v8, v9, v10, L11, e11, v12, hrow, _⟩ := q0a e0a[j] (List.getElem_mem hj)
      have hgr : e0a[j]? = some [.int .i64 v0, .int .i64 v1, .sl (L2 + 1) 7 0 e2, .sl (L3 + 1) 1 0 e3, .str v4, .int .i64 v5, .str v6, .str v7, .bool v8, .bool v9, .int .i64 v10, .sl (L11 + 1) 1 0 e11, .bool v12] := by rw [List.getElem?_eq_getElem hj, hrow]
      refine Ok.skip ?_
      refine Ok.seq ?_
      refine Ok.drop [9, 10, 11, 12, 13, 14, 15, 16, 17, 18, 19, 20] (by simp only [kover] <;> rfl) ?_
      refine Ok.drawn 10 33 [] (by kernel_rfl) (by kernel_rfl) rfl ?_
      iterate 6 (refine SV ?_)
      refine SOps.ev tab_ok rfl (ev_idx_map (by simp only [kev, ktab, klen, kcv] <;> rfl) (by simp only [kev, ktab, klen, kcv] <;> rfl) (h2) (by simp only [kev, ktab, klen, kcv] <;> rfl)) (by simp only [kput] <;> rfl) ?_
      refine SV ?_
      obtain ⟨L2b, e2b, L3b, e3b, L11b, e11b, hXb, q2b, E2b, M2b, N2b, q3b, E3b, M3b, N3b, q11b, E11b, M11b, N11b, ndb, rgb⟩ := ownServer (ma + 1) (⟨p.servers[j].kept, p.servers[j].session, true⟩)
      obtain ⟨mb, hmb⟩ : ∃ m, ma + 1 + 1 + V.cnt (.agg (cServer (⟨p.servers[j].kept, p.servers[j].session, true⟩))) = m + 1 := ⟨ma + 1 + V.cnt (.agg (cServer (⟨p.servers[j].kept, p.servers[j].session, true⟩))), by omega⟩
      have r2b : ∀ z ∈ V.labels (.sl (L2b + 1) 7 0 e2b), ma + 1 + 1 ≤ z ∧ z < mb + 1 := fun z hz => by have := rgb z (by first | exact hz | (simp only [V.labelsL, V.labels, List.mem_append] at hz ⊢; simp only [hz, true_or, or_true])); omega
      have r3b : ∀ z ∈ V.labels (.sl (L3b + 1) 1 0 e3b), ma + 1 + 1 ≤ z ∧ z < mb + 1 := fun z hz => by have := rgb z (by first | exact hz | (simp only [V.labelsL, V.labels, List.mem_append] at hz ⊢; simp only [hz, true_or, or_true])); omega
      have r11b : ∀ z ∈ V.labels (.sl (L11b + 1) 1 0 e11b), ma + 1 + 1 ≤ z ∧ z < mb + 1 := fun z hz => by have := rgb z (by first | exact hz | (simp only [V.labelsL, V.labels, List.mem_append] at hz ⊢; simp only [hz, true_or, or_true])); omega
      refine SOps.S' rfl (OpS.pureM rfl (by simp only [kev, ktab, klen, kcv] <;> rfl) (by simp only [kev, ktab, klen, kcv, E0a, M0a, N0a, E1a, M1a, N1a, E2a, M2a, N2a, V.eraseL, V.erase, V.travL, V.trav, zz, zf, zy] <;> rfl) cl79 (by simp [V.dat, V.datL, V.datLL, zz, zf, zy]) (p_impl_RiseServer p.servers[j] (h.1.2 _ (List.getElem_mem h2)))) hmb (by simp only [kput, hXb] <;> rfl) ?_
      refine SOps.ev tab_ok rfl (ev_idx (by simp only [kev, ktab, klen, kcv] <;> rfl) (by simp only [kev, ktab, klen, kcv] <;> rfl) (hgr) (by simp only [kev, ktab, klen, kcv] <;> rfl)) (by simp only [kput] <;> rfl) ?_
      refine SOps.nil ?_
      have n0 := nda; simp only [V.labels, V.labelsL, List.append_nil, List.nil_append] at n0
      obtain ⟨w0a, n1, f0a, _⟩ := nd_app n0
      have hL0 : ¬ (L0a + 1 ∈ V.labelsLL e0a) := (List.nodup_cons.1 w0a).1
      have q00 := r0a _ (List.mem_cons_self ..)
      refine TOps.storeN tab_ok rfl rfl (by simp only [kev, ktab, klen, kcv] <;> rfl) ⟨_, _, by simp only [kev]; rfl⟩ (by first | (simp [V.labelsL, V.labelsLL, V.labels, zz, zf, zy]; done) | (intro h; simp only [V.labelsL, V.labels, List.mem_append, List.append_nil, List.nil_append, List.not_mem_nil, or_false, false_or] at h; have q0 := r0a _ (List.mem_cons_self ..); rcases h with h | h | h <;> first | (have := r2b _ h; omega) | (have := r3b _ h; omega) | (have := r11b _ h; omega))) (fun W hW hF => by obtain ⟨z2b, zz2b⟩ := farA hW r2b (fun y h1 h2 h => by omega); obtain ⟨z3b, zz3b⟩ := farA hW r3b (fun y h1 h2 h => by omega); obtain ⟨z11b, zz11b⟩ := farA hW r11b (fun y h1 h2 h => by omega); have f0 := far0 hW (fun h => by omega); have zr := hW.farLL e0a (fun y hy h => hL0 (h ▸ hy)); have z1a := hW.far (.sl (L1a + 1) 9 0 e1a) (fun y hy h => f0a y (by rw [h]; exact List.mem_cons_self ..) (List.mem_append_left _ hy)); have z2a := hW.far (.sl (L2a + 1) 2 0 e2a) (fun y hy h => f0a y (by rw [h]; exact List.mem_cons_self ..) (List.mem_append_right _ hy)); have zs := hF.sl 13 e0a hL0; have p9 := fun i o e => hW.ptr 0 i o e (by omega); have w8_2 := hW.far (.sl 0 7 0 ((p.servers[j]).kept.store.boxes.map cBox)) (fun z hz h => by have h0 : z = 0 := (show ∀ z ∈ V.labels (.sl 0 7 0 ((p.servers[j]).kept.store.boxes.map cBox)), z = 0 by simp [V.labels, zz, zf, zy]) z hz; omega); have w8_3 := hW.far (.sl 0 1 0 ((p.servers[j]).kept.store.gone.map cZ)) (fun z hz h => by have h0 : z = 0 := (show ∀ z ∈ V.labels (.sl 0 1 0 ((p.servers[j]).kept.store.gone.map cZ)), z = 0 by simp [V.labels, zz, zf, zy]) z hz; omega); have w8_11 := hW.far (.sl 0 1 0 ((p.servers[j]).session.view.map cZ)) (fun z hz h => by have h0 : z = 0 := (show ∀ z ∈ V.labels (.sl 0 1 0 ((p.servers[j]).session.view.map cZ)), z = 0 by simp [V.labels, zz, zf, zy]) z hz; omega); have p0 := fun i o e => hW.ptr (1) i o e (by omega);  have p1 := fun i o e => hW.ptr (2) i o e (by omega);  have p2 := fun i o e => hW.ptr (ma + 1) i o e (by omega); simp only [List.map_cons, List.map_nil, hW.int, hW.str, hW.bool, hW.any, hW.tup0, hW.agg, hW.nilV, hF.ptr, z2b, zz2b, z3b, zz3b, z11b, zz11b, f0, Nat.zero_add, zr, z1a, z2a, zs, p9, w8_2, w8_3, w8_11, p0, p1, p2, kput] <;> rfl) ?_
      refine TOps.nil ?_
      refine Ok.seq ?_
      refine Ok.drop [22, 23, 24, 25, 26, 27, 28, 29, 30, 31] (by simp only [kover] <;> rfl) ?_
      refine Ok.region ?_
      refine EV ?_
      have hst := set_trav (f := cServer) (x := ⟨p.servers[j].kept, p.servers[j].session, true⟩) (c := [.int .i64 p.servers[j].kept.store.by_, .int .i64 p.servers[j].kept.store.time, .sl (L2b + 1) 7 0 e2b, .sl (L3b + 1) 1 0 e3b, .str p.servers[j].kept.journal, .int .i64 p.servers[j].kept.saved, .str p.servers[j].session.inn, .str p.servers[j].session.out, .bool p.servers[j].session.on, .bool p.servers[j].session.over, .int .i64 p.servers[j].session.box, .sl (L11b + 1) 1 0 e11b, .bool true]) j E0a (by simp only [V.travL, V.trav, E2b, E3b, E11b] <;> rfl)
      have hlc : ∀ z ∈ V.labelsL [.int .i64 p.servers[j].kept.store.by_, .int .i64 p.servers[j].kept.store.time, .sl (L2b + 1) 7 0 e2b, .sl (L3b + 1) 1 0 e3b, .str p.servers[j].kept.journal, .int .i64 p.servers[j].kept.saved, .str p.servers[j].session.inn, .str p.servers[j].session.out, .bool p.servers[j].session.on, .bool p.servers[j].session.over, .int .i64 p.servers[j].session.box, .sl (L11b + 1) 1 0 e11b, .bool true], ma + 1 ≤ z ∧ z < mb + 1 := fun z hz => by have := rgb z hz; omega
      have hls : ∀ z ∈ V.labelsLL (e0a.set j [.int .i64 p.servers[j].kept.store.by_, .int .i64 p.servers[j].kept.store.time, .sl (L2b + 1) 7 0 e2b, .sl (L3b + 1) 1 0 e3b, .str p.servers[j].kept.journal, .int .i64 p.servers[j].kept.saved, .str p.servers[j].session.inn, .str p.servers[j].session.out, .bool p.servers[j].session.on, .bool p.servers[j].session.over, .int .i64 p.servers[j].session.box, .sl (L11b + 1) 1 0 e11b, .bool true]), z ∈ V.labelsLL e0a ∨ (ma + 1 ≤ z ∧ z < mb + 1) := fun z hz => (lab_set z hz).imp id (hlc z)
      have hnn : (V.labelsLL (e0a.set j [.int .i64 p.servers[j].kept.store.by_, .int .i64 p.servers[j].kept.store.time, .sl (L2b + 1) 7 0 e2b, .sl (L3b + 1) 1 0 e3b, .str p.servers[j].kept.journal, .int .i64 p.servers[j].kept.saved, .str p.servers[j].session.inn, .str p.servers[j].session.out, .bool p.servers[j].session.on, .bool p.servers[j].session.over, .int .i64 p.servers[j].session.box, .sl (L11b + 1) 1 0 e11b, .bool true])).Nodup := nd_set (List.nodup_cons.1 w0a).2 ndb (fun y hy hc => by have q1 := hlc y hc; have q2 := r0a y (List.mem_cons_of_mem _ hy); omega)
      refine OkOps.storeN tab_ok rfl rfl (by simp only [kev, ktab, klen, kcv] <;> rfl) ⟨_, _, by simp only [kev]; rfl⟩ (by first | (simp [V.labelsL, V.labelsLL, V.labels, zz, zf, zy]; done) | (intro h; simp only [V.labelsL, V.labels, List.append_nil, List.nil_append, List.mem_append] at h; rcases h with h | h | h <;> first | (have := r1a _ h; omega) | (have := r2a _ h; omega) | (rcases List.mem_cons.1 h with h | h <;> first | omega | (rcases hls _ h with h | h <;> first | omega | (have := r0a _ (List.mem_cons_of_mem _ h); omega))))) (fun W hW hF => by obtain ⟨z0a, zz0a⟩ := farA hW r0a (fun y h1 h2 h => by omega); obtain ⟨z1a, zz1a⟩ := farA hW r1a (fun y h1 h2 h => by omega); obtain ⟨z2a, zz2a⟩ := farA hW r2a (fun y h1 h2 h => by omega); obtain ⟨z2b, zz2b⟩ := farA hW r2b (fun y h1 h2 h => by omega); obtain ⟨z3b, zz3b⟩ := farA hW r3b (fun y h1 h2 h => by omega); obtain ⟨z11b, zz11b⟩ := farA hW r11b (fun y h1 h2 h => by omega); have f0 := far0 hW (fun h => by omega); have zn := hW.far (.sl (L0a + 1) 13 0 (e0a.set j [.int .i64 p.servers[j].kept.store.by_, .int .i64 p.servers[j].kept.store.time, .sl (L2b + 1) 7 0 e2b, .sl (L3b + 1) 1 0 e3b, .str p.servers[j].kept.journal, .int .i64 p.servers[j].kept.saved, .str p.servers[j].session.inn, .str p.servers[j].session.out, .bool p.servers[j].session.on, .bool p.servers[j].session.over, .int .i64 p.servers[j].session.box, .sl (L11b + 1) 1 0 e11b, .bool true])) (fun y hy h => by (rcases List.mem_cons.1 hy with hy | hy <;> first | omega | (rcases hls y hy with hy | hy <;> first | omega | (have := r0a y (List.mem_cons_of_mem _ hy); omega)))); have p0 := fun i o e => hW.ptr (1) i o e (by omega);  have p2 := fun i o e => hW.ptr (ma + 1) i o e (by omega); simp only [List.map_cons, List.map_nil, hW.int, hW.str, hW.bool, hW.any, hW.tup0, hW.agg, hW.nilV, hF.ptr, z0a, zz0a, z1a, zz1a, z2a, zz2a, z2b, zz2b, z3b, zz3b, z11b, zz11b, f0, zn, p0, p2, kput] <;> rfl) ?_
      refine EV ?_
      refine OkOps.nil ?_
      refine Ok.ret ?_
      repeat (first | with_reducible refine thenQ_ret ?_ | with_reducible refine blockQ_ret ?_)
      refine retQ.end (by show resVs tab _ [.cell 4 53, .tmp 5] = _; simp only [kev, ktab, klen, kcv] <;> rfl) rfl ?_
      exact ⟨(by simp only [packV, V.erase, V.trav, V.travL, V.travLL, zz, zf, zy, hst, E1a, E2a] <;> rfl), (by intro L hL; simp only [packV, V.labels, V.labelsL, List.append_nil, List.nil_append, List.mem_append] at hL; rcases hL with hL | hL | hL <;> first | (have := r1a L hL; omega) | (have := r2a L hL; omega) | (rcases List.mem_cons.1 hL with hL | hL <;> first | omega | (rcases hls L hL with hL | hL <;> first | omega | (have := r0a L (List.mem_cons_of_mem _ hL); omega)))), (by simp only [packV, V.labels, V.labelsL, List.append_nil, List.nil_append]; exact nd_app2 (List.nodup_cons.2 ⟨fun h => (hls _ h).elim hL0 (fun hh => by omega), hnn⟩) n1 (fun y hy hh => (List.mem_cons.1 hy).elim (fun hy => f0a y (by rw [hy]; exact List.mem_cons_self ..) hh) (fun hy => (hls y hy).elim (fun hy => f0a y (List.mem_cons_of_mem _ hy) hh) (fun hy => (List.mem_append.1 hh).elim (fun hh => by have := r1a y hh; omega) (fun hh => by have := r2a y hh; omega)))))⟩
end Go.Proofs.YtjhfabimacljhaaGreat.K

/- Walks: copies as data of the call's own. Printed by w2.py. -/
namespace Go.Proofs.YtjhfabimacljhaaGreat.K
open Go Go.RowKit
set_option linter.unusedVariables false
set_option linter.unusedSimpArgs false
set_option maxHeartbeats 4000000
set_option maxRecDepth 20000
theorem w_own_toStamp (x : Stamp) : Weak Tryz.prog 165 [.agg (cStamp x)] (.agg (cStamp x)) := by
  refine Weak.enter tab_ok Tryz.func165 rfl (.inr (by simp [V.labelsL, V.labels, zz, zf, zy])) (t := [.agg (cStamp x), .any, .any, .any, .any, .any, .any, .any, .any, .any, .any]) rfl ?_
  refine Ok.seq (Ok.region ?_)
  iterate 2 (refine EV ?_)
  refine OkOps.nil ?_
  refine Ok.seq (Ok.region ?_)
  refine EV ?_
  refine OkOps.nil ?_
  refine Ok.seq (Ok.region ?_)
  iterate 3 (refine EV ?_)
  refine OkOps.storeE tab_ok rfl rfl (by simp only [kev, ktab, klen, kcv] <;> rfl) ⟨_, _, by simp only [kev]; rfl⟩ (by first | (simp [V.labelsL, V.labelsLL, V.labels, zz, zf, zy]; done) | (simp [-List.map_map, -List.map_set, -List.map_drop, -List.map_take, -List.map_tail, -List.drop_one, V.labelsL, V.labelsLL, V.labels, zz, zf, zy]; done)) (by simp only [eq_self, V.updL, V.travL, V.travLL, V.trav, updS, updP, and_self, true_and, and_true, false_and, and_false, Nat.reduceEqDiff, Nat.reduceSub, Nat.le_refl, Nat.zero_le, ↓reduceIte, if_true, if_false, kput, zz, zf, zy] <;> rfl) (rfl) ?_
  refine OkOps.nil ?_
  refine Ok.seq (Ok.region ?_)
  iterate 3 (refine EV ?_)
  refine OkOps.storeE tab_ok rfl rfl (by simp only [kev, ktab, klen, kcv] <;> rfl) ⟨_, _, by simp only [kev]; rfl⟩ (by first | (simp [V.labelsL, V.labelsLL, V.labels, zz, zf, zy]; done) | (simp [-List.map_map, -List.map_set, -List.map_drop, -List.map_take, -List.map_tail, -List.drop_one, V.labelsL, V.labelsLL, V.labels, zz, zf, zy]; done)) (by simp only [eq_self, V.updL, V.travL, V.travLL, V.trav, updS, updP, and_self, true_and, and_true, false_and, and_false, Nat.reduceEqDiff, Nat.reduceSub, Nat.le_refl, Nat.zero_le, ↓reduceIte, if_true, if_false, kput, zz, zf, zy] <;> rfl) (rfl) ?_
  refine OkOps.nil ?_
  refine Ok.seq (Ok.region ?_)
  refine EV ?_
  refine OkOps.storeE tab_ok rfl rfl (by simp only [kev, ktab, klen, kcv] <;> rfl) ⟨_, _, by simp only [kev]; rfl⟩ (by first | (simp [V.labelsL, V.labelsLL, V.labels, zz, zf, zy]; done) | (simp [-List.map_map, -List.map_set, -List.map_drop, -List.map_take, -List.map_tail, -List.drop_one, V.labelsL, V.labelsLL, V.labels, zz, zf, zy]; done)) (by simp only [eq_self, V.updL, V.travL, V.travLL, V.trav, updS, updP, and_self, true_and, and_true, false_and, and_false, Nat.reduceEqDiff, Nat.reduceSub, Nat.le_refl, Nat.zero_le, ↓reduceIte, if_true, if_false, kput, zz, zf, zy] <;> rfl) (rfl) ?_
  refine OkOps.nil ?_
  refine Ok.ret ?_
  repeat (first | with_reducible refine thenQ_ret ?_ | with_reducible refine blockQ_ret ?_)
  refine retQ.end (by show resVs tab _ [.cell 2 137] = _; simp only [kev, ktab, klen, kcv] <;> rfl) rfl ?_
  rfl
theorem p_laws_toReg (x : Reg) : Pure Tryz.prog 253 [.agg (cReg x)] (.agg (cReg x)) := by
  refine Pure.of (by simp [V.dat, V.datL, V.datLL, zz, zf, zy]) (OkCall.enter' tab_ok Tryz.func253 rfl (t := [.agg (cReg x), .any, .any, .any, .any, .any, .any, .any, .any, .any, .any, .any]) rfl ?_)
  refine Ok.seq (Ok.region ?_)
  iterate 2 (refine EV ?_)
  refine OkOps.nil ?_
  refine Ok.seq (Ok.region ?_)
  refine EV ?_
  refine OkOps.nil ?_
  refine Ok.seq (Ok.region ?_)
  iterate 3 (refine EV ?_)
  refine OkOps.storeE tab_ok rfl rfl (by simp only [kev, ktab, klen, kcv] <;> rfl) ⟨_, _, by simp only [kev]; rfl⟩ (by first | (simp [V.labelsL, V.labelsLL, V.labels, zz, zf, zy]; done) | (simp [-List.map_map, -List.map_set, -List.map_drop, -List.map_take, -List.map_tail, -List.drop_one, V.labelsL, V.labelsLL, V.labels, zz, zf, zy]; done)) (by simp only [eq_self, V.updL, V.travL, V.travLL, V.trav, updS, updP, and_self, true_and, and_true, false_and, and_false, Nat.reduceEqDiff, Nat.reduceSub, Nat.le_refl, Nat.zero_le, ↓reduceIte, if_true, if_false, kput, zz, zf, zy] <;> rfl) (rfl) ?_
  refine OkOps.nil ?_
  refine Ok.seq (Ok.region ?_)
  iterate 2 (refine EV ?_)
  refine OkOps.S0 rfl (OpS.weak' rfl (by simp only [kev, ktab, klen, kcv] <;> rfl) (by simp only [kev, ktab, klen, kcv] <;> rfl) cl165 (w_own_toStamp x.stamp)) (by simp only [kput] <;> rfl) ?_
  refine EV ?_
  refine OkOps.storeE tab_ok rfl rfl (by simp only [kev, ktab, klen, kcv] <;> rfl) ⟨_, _, by simp only [kev]; rfl⟩ (by first | (simp [V.labelsL, V.labelsLL, V.labels, zz, zf, zy]; done) | (simp [-List.map_map, -List.map_set, -List.map_drop, -List.map_take, -List.map_tail, -List.drop_one, V.labelsL, V.labelsLL, V.labels, zz, zf, zy]; done)) (by simp only [eq_self, V.updL, V.travL, V.travLL, V.trav, updS, updP, and_self, true_and, and_true, false_and, and_false, Nat.reduceEqDiff, Nat.reduceSub, Nat.le_refl, Nat.zero_le, ↓reduceIte, if_true, if_false, kput, zz, zf, zy] <;> rfl) (rfl) ?_
  refine OkOps.nil ?_
  refine Ok.seq (Ok.region ?_)
  refine EV ?_
  refine OkOps.storeE tab_ok rfl rfl (by simp only [kev, ktab, klen, kcv] <;> rfl) ⟨_, _, by simp only [kev]; rfl⟩ (by first | (simp [V.labelsL, V.labelsLL, V.labels, zz, zf, zy]; done) | (simp [-List.map_map, -List.map_set, -List.map_drop, -List.map_take, -List.map_tail, -List.drop_one, V.labelsL, V.labelsLL, V.labels, zz, zf, zy]; done)) (by simp only [eq_self, V.updL, V.travL, V.travLL, V.trav, updS, updP, and_self, true_and, and_true, false_and, and_false, Nat.reduceEqDiff, Nat.reduceSub, Nat.le_refl, Nat.zero_le, ↓reduceIte, if_true, if_false, kput, zz, zf, zy] <;> rfl) (rfl) ?_
  refine OkOps.nil ?_
  refine Ok.ret ?_
  repeat (first | with_reducible refine thenQ_ret ?_ | with_reducible refine blockQ_ret ?_)
  refine retQ.end (by show resVs tab _ [.cell 2 242] = _; simp only [kev, ktab, klen, kcv] <;> rfl) rfl ?_
  exact ⟨rfl, by simp [V.labels, V.labelsL, packV], by simp [V.labels, V.labelsL, packV]⟩
theorem p_laws_toRegS (a : List Reg) (ha : a.length ≤ 1048576) : Pure Tryz.prog 241 [.sl 0 3 0 (a.map cReg)] (.sl 0 3 0 (a.map cReg)) := by
  refine Pure.of (by simp [V.dat, V.datL, V.datLL, zz, zf, zy]) (OkCall.enter' tab_ok Tryz.func241 rfl (t := [.sl 0 3 0 (a.map cReg), .any, .any, .any, .any, .any, .any, .any, .any, .any, .any, .any, .any, .any, .any, .any, .any, .any, .any, .any, .any, .any, .any]) rfl ?_)
  refine Ok.seq (Ok.region ?_)
  refine EV ?_
  refine OkOps.nil ?_
  refine Ok.seq (Ok.region ?_)
  iterate 2 (refine EV ?_)
  refine OkOps.S' rfl (ok_makeSlice (a := a.length) (b := a.length) tab_ok (by simp only [ktab] <;> rfl) (by simp only [ktab] <;> rfl) (by decide) rfl rfl (by simp only [kev, klen] <;> rfl) (by simp only [kev, klen] <;> rfl) (by omega) (by omega) (by omega) (by show ((24 : Nat) : Int) * _ ≤ _; omega)) (by simp only [Nat.reduceAdd] <;> rfl) (by simp only [kput, Int.toNat_natCast] <;> rfl) ?_
  refine EV ?_
  refine OkOps.nil ?_
  refine Ok.seq ?_
  refine Ok.seq ?_
  refine Ok.drop [5, 6, 7] (by simp only [kover] <;> rfl) ?_
  refine Ok.region ?_
  refine EV ?_
  refine OkOps.nil ?_
  refine Ok.block ?_
  refine Ok.loopN (τ := List (List V) × Nat) (fun x => [(3, .sl 1 3 0 (x.1 ++ List.replicate (a.length - x.1.length) zcReg)), (4, .int .i64 (x.1.length : Int)), (7, .any)]) [8, 9, 10, 11, 12, 13, 14, 15, 16, 17, 18, 19, 20, 21] (fun x => by simp only [kover] <;> rfl) (fun x => x.2 + 1) (fun x => x.1.length ≤ a.length ∧ V.travLL (fun sz => V.sl 0 sz 0 []) (fun _ sz _ es => V.sl 0 sz 0 es) (fun _ _ o e => V.ptr 0 0 o e) x.1 = (a.take x.1.length).map cReg ∧ (V.labelsLL x.1).Nodup ∧ (∀ z ∈ V.labelsLL x.1, 2 ≤ z ∧ z < x.2 + 1) ∧ 1 ≤ x.2) (fun x => a.length - x.1.length) ([], 1) (by refine ⟨?_, ?_, ?_, ?_, ?_, ?_, ?_, ?_, ?_, ?_, ?_, ?_, ?_, ?_, ?_, ?_, ?_, ?_, ?_, ?_, ?_, ?_, ?_, trivial⟩ <;> first | exact le_any _ | with_reducible exact le_rfl' _ | ((first | exact le_rfl' _ | (refine le_eqm ?_; simp only [List.nil_append, List.length_nil, Nat.sub_zero]; done))) | exact le_rfl' _) (by decide) (⟨Nat.zero_le _, rfl, List.nodup_nil, (fun z hz => by cases hz), Nat.le_refl _⟩) ?_
  rintro ⟨d, k⟩ ⟨h1, h2, h3, h4, h5⟩
  have h1 : d.length ≤ a.length := h1
  have h2 : V.travLL (fun sz => V.sl 0 sz 0 []) (fun _ sz _ es => V.sl 0 sz 0 es) (fun _ _ o e => V.ptr 0 0 o e) d = (a.take d.length).map cReg := h2
  have h3 : (V.labelsLL d).Nodup := h3
  have h4 : ∀ z ∈ V.labelsLL d, 2 ≤ z ∧ z < k + 1 := h4
  have h5 : 1 ≤ k := h5
  refine Ok.seq ?_
  refine Ok.seq (Ok.region ?_)
  iterate 4 (refine EV ?_)
  refine OkOps.nil ?_
  refine Ok.cond (b := _) (by simp only [kev, ktab, klen, kcv] <;> rfl) (fun hb3 => ?_) (fun hb3 => ?_)
  · try simp only [bsimp] at hb3
    have hi : d.length < a.length := by omega
    have hrep : List.replicate (a.length - d.length) zcReg = zcReg :: List.replicate (a.length - (d.length + 1)) zcReg := by rw [show a.length - d.length = a.length - (d.length + 1) + 1 by omega]; rfl
    rw [hrep]
    have dn : ¬ (1 ∈ V.labelsLL d) := fun h => by have := h4 1 h; omega
    have rn := lab_rep (n := a.length - (d.length + 1)) (c := zcReg) rfl
    refine Ok.skip ?_
    refine Ok.seq ?_
    refine Ok.block ?_
    refine Ok.drop [8, 9, 10, 11] (by simp only [kover] <;> rfl) ?_
    refine Ok.region ?_
    iterate 4 (refine EV ?_)
    refine OkOps.ev tab_ok rfl (ev_idx_map (by simp only [kev, ktab, klen, kcv] <;> rfl) (by simp only [kev, ktab, klen, kcv] <;> rfl) (by omega) (by simp only [kev, ktab, klen, kcv] <;> rfl)) (by simp only [kput] <;> rfl) ?_
    refine EV ?_
    obtain ⟨hXa, nda, rga⟩ := ownReg (k) (a[d.length])
    obtain ⟨ma, hma⟩ : ∃ m, k + 1 + V.cnt (.agg (cReg (a[d.length]))) = m + 1 := ⟨k + V.cnt (.agg (cReg (a[d.length]))), by omega⟩
    refine OkOps.S' rfl (OpS.pure' rfl (by simp only [kev, ktab, klen, kcv] <;> rfl) (by simp only [kev, ktab, klen, kcv, V.eraseL, V.erase, V.travL, V.trav, zz, zf, zy] <;> rfl) cl253 (by simp [V.dat, V.datL, V.datLL, zz, zf, zy]) (p_laws_toReg a[d.length])) hma (by simp only [kput, hXa] <;> rfl) ?_
    refine OkOps.ev tab_ok rfl (ev_idx (by simp only [kev, ktab, klen, kcv] <;> rfl) (by simp only [kev, ktab, klen, kcv] <;> rfl) (get_mid rfl) (by simp only [kev, ktab, klen, kcv] <;> rfl)) (by simp only [kput] <;> rfl) ?_
    refine OkOps.storeN tab_ok rfl rfl (by simp only [kev, ktab, klen, kcv] <;> rfl) ⟨_, _, by simp only [kev]; rfl⟩ (by first | (simp [V.labelsL, V.labelsLL, V.labels, zz, zf, zy]; done) | (intro h; simp only [V.labelsL, V.labels, List.mem_append, List.append_nil, List.nil_append, List.not_mem_nil, or_false, false_or] at h)) (fun W hW hF => by have f0 := far0 hW (fun h => by omega); simp only [List.map_cons, List.map_nil, hW.int, hW.str, hW.bool, hW.any, hW.tup0, hW.agg, hW.nilV, hF.ptr, f0, hF.sl, set_mid (rfl : d.length = d.length), labelsLL_app, V.labelsLL, V.labelsL, V.labels, List.mem_append, List.not_mem_nil, List.append_nil, List.nil_append, or_false, false_or, not_or, not_false_eq_true, and_self, Nat.zero_add, dn, rn, (fun i o e => hW.ptr 0 i o e (by decide) : ∀ i o e, W (.ptr 0 i o e) = .ptr 0 i o (e.map W)), cReg, zcReg, kput] <;> rfl) ?_
    refine OkOps.nil ?_
    refine Ok.drop [14, 15, 16, 17, 18, 19, 20, 21] (by simp only [kover] <;> rfl) ?_
    refine Ok.region ?_
    iterate 3 (refine EV ?_)
    refine OkOps.nil ?_
    refine ⟨(d ++ [[.int .i64 (a[d.length]).val, .int .i64 (a[d.length]).stamp.time, .int .i64 (a[d.length]).stamp.by_]], ma), ?_, rfl, (by dsimp only; omega), rows_snoc hi h2 h3 h4 h5 (by omega) (by simp only [V.travL, V.trav] <;> rfl) nda (fun z hz => by have := rga z hz; omega), by show a.length - (d ++ [_]).length < a.length - d.length; rw [List.length_append]; simp only [List.length_cons, List.length_nil]; omega⟩
    refine ⟨?_, ?_, ?_, ?_, ?_, ?_, ?_, ?_, ?_, ?_, ?_, ?_, ?_, ?_, ?_, ?_, ?_, ?_, ?_, ?_, ?_, ?_, ?_, trivial⟩ <;> first | exact le_any _ | with_reducible exact le_rfl' _ | (dsimp only; first | (rw [wrap_add_one (by omega)]; refine le_eqm ?_; simp only [List.length_append, List.length_cons, List.length_nil]; done) | (refine le_eqm ?_; simp only [List.length_append, List.length_cons, List.length_nil, List.append_assoc, List.cons_append, List.nil_append, Nat.zero_add]; done)) | exact le_rfl' _
  · try simp only [bsimp] at hb3
    have hi : d.length = a.length := by omega
    have hrep : List.replicate (a.length - d.length) zcReg = [] := by rw [hi, Nat.sub_self]; rfl
    rw [hrep, List.append_nil]
    rw [hi, List.take_length] at h2
    refine Ok.exit ?_
    refine Ok.seq ?_
    refine Ok.drop [8, 9, 10, 11] (by simp only [kover] <;> rfl) ?_
    refine Ok.region ?_
    iterate 2 (refine EV ?_)
    refine OkOps.nil ?_
    refine Ok.ret ?_
    repeat (first | with_reducible refine thenQ_ret ?_ | with_reducible refine blockQ_ret ?_)
    refine retQ.end (by show resVs tab _ [.tmp 2] = _; simp only [kev, ktab, klen, kcv] <;> rfl) rfl ?_
    exact ⟨(by simp only [packV, V.erase, V.trav, V.travLL, zz, zf, zy, h2] <;> rfl), (by intro L hL; simp only [packV, V.labels, List.mem_cons] at hL; rcases hL with hL | hL <;> first | omega | (have := h4 L hL; omega)), (by simp only [packV, V.labels, List.nodup_cons]; exact ⟨fun h => by have := h4 1 h; omega, h3⟩)⟩
theorem p_laws_toIntS (a : List Int) (ha : a.length ≤ 1048576) : Pure Tryz.prog 54 [.sl 0 1 0 (a.map cZ)] (.sl 0 1 0 (a.map cZ)) := by
  refine Pure.of (by simp [V.dat, V.datL, V.datLL, zz, zf, zy]) (OkCall.enter' tab_ok Tryz.func54 rfl (t := [.sl 0 1 0 (a.map cZ), .any, .any, .any, .any, .any, .any, .any, .any, .any, .any, .any, .any, .any, .any, .any, .any, .any, .any, .any, .any, .any]) rfl ?_)
  refine Ok.seq (Ok.region ?_)
  refine EV ?_
  refine OkOps.nil ?_
  refine Ok.seq (Ok.region ?_)
  iterate 2 (refine EV ?_)
  refine OkOps.S' rfl (ok_makeSlice (a := a.length) (b := a.length) tab_ok (by simp only [ktab] <;> rfl) (by simp only [ktab] <;> rfl) (by decide) rfl rfl (by simp only [kev, klen] <;> rfl) (by simp only [kev, klen] <;> rfl) (by omega) (by omega) (by omega) (by show ((8 : Nat) : Int) * _ ≤ _; omega)) (by simp only [Nat.reduceAdd] <;> rfl) (by simp only [kput, Int.toNat_natCast] <;> rfl) ?_
  refine EV ?_
  refine OkOps.nil ?_
  refine Ok.seq ?_
  refine Ok.seq ?_
  refine Ok.drop [5, 6, 7] (by simp only [kover] <;> rfl) ?_
  refine Ok.region ?_
  refine EV ?_
  refine OkOps.nil ?_
  refine Ok.block ?_
  refine Ok.loopN (τ := List (List V) × Nat) (fun x => [(3, .sl 1 1 0 (x.1 ++ List.replicate (a.length - x.1.length) zcI)), (4, .int .i64 (x.1.length : Int)), (7, .any)]) [8, 9, 10, 11, 12, 13, 14, 15, 16, 17, 18, 19, 20] (fun x => by simp only [kover] <;> rfl) (fun x => x.2 + 1) (fun x => x.1.length ≤ a.length ∧ V.travLL (fun sz => V.sl 0 sz 0 []) (fun _ sz _ es => V.sl 0 sz 0 es) (fun _ _ o e => V.ptr 0 0 o e) x.1 = (a.take x.1.length).map cZ ∧ (V.labelsLL x.1).Nodup ∧ (∀ z ∈ V.labelsLL x.1, 2 ≤ z ∧ z < x.2 + 1) ∧ 1 ≤ x.2) (fun x => a.length - x.1.length) ([], 1) (by refine ⟨?_, ?_, ?_, ?_, ?_, ?_, ?_, ?_, ?_, ?_, ?_, ?_, ?_, ?_, ?_, ?_, ?_, ?_, ?_, ?_, ?_, ?_, trivial⟩ <;> first | exact le_any _ | with_reducible exact le_rfl' _ | ((first | exact le_rfl' _ | (refine le_eqm ?_; simp only [List.nil_append, List.length_nil, Nat.sub_zero]; done))) | exact le_rfl' _) (by decide) (⟨Nat.zero_le _, rfl, List.nodup_nil, (fun z hz => by cases hz), Nat.le_refl _⟩) ?_
  rintro ⟨d, k⟩ ⟨h1, h2, h3, h4, h5⟩
  have h1 : d.length ≤ a.length := h1
  have h2 : V.travLL (fun sz => V.sl 0 sz 0 []) (fun _ sz _ es => V.sl 0 sz 0 es) (fun _ _ o e => V.ptr 0 0 o e) d = (a.take d.length).map cZ := h2
  have h3 : (V.labelsLL d).Nodup := h3
  have h4 : ∀ z ∈ V.labelsLL d, 2 ≤ z ∧ z < k + 1 := h4
  have h5 : 1 ≤ k := h5
  refine Ok.seq ?_
  refine Ok.seq (Ok.region ?_)
  iterate 4 (refine EV ?_)
  refine OkOps.nil ?_
  refine Ok.cond (b := _) (by simp only [kev, ktab, klen, kcv] <;> rfl) (fun hb3 => ?_) (fun hb3 => ?_)
  · try simp only [bsimp] at hb3
    have hi : d.length < a.length := by omega
    have hrep : List.replicate (a.length - d.length) zcI = zcI :: List.replicate (a.length - (d.length + 1)) zcI := by rw [show a.length - d.length = a.length - (d.length + 1) + 1 by omega]; rfl
    rw [hrep]
    have dn : ¬ (1 ∈ V.labelsLL d) := fun h => by have := h4 1 h; omega
    have rn := lab_rep (n := a.length - (d.length + 1)) (c := zcI) rfl
    refine Ok.skip ?_
    refine Ok.seq ?_
    refine Ok.block ?_
    refine Ok.drop [8, 9, 10, 11] (by simp only [kover] <;> rfl) ?_
    refine Ok.region ?_
    iterate 4 (refine EV ?_)
    refine OkOps.ev tab_ok rfl (ev_idx_map (by simp only [kev, ktab, klen, kcv] <;> rfl) (by simp only [kev, ktab, klen, kcv] <;> rfl) (by omega) (by simp only [kev, ktab, klen, kcv] <;> rfl)) (by simp only [kput] <;> rfl) ?_
    refine EV ?_
    refine OkOps.ev tab_ok rfl (ev_idx (by simp only [kev, ktab, klen, kcv] <;> rfl) (by simp only [kev, ktab, klen, kcv] <;> rfl) (get_mid rfl) (by simp only [kev, ktab, klen, kcv] <;> rfl)) (by simp only [kput] <;> rfl) ?_
    refine OkOps.storeN tab_ok rfl rfl (by simp only [kev, ktab, klen, kcv] <;> rfl) ⟨_, _, by simp only [kev]; rfl⟩ (by first | (simp [V.labelsL, V.labelsLL, V.labels, zz, zf, zy]; done) | (intro h; simp only [V.labelsL, V.labels, List.mem_append, List.append_nil, List.nil_append, List.not_mem_nil, or_false, false_or] at h)) (fun W hW hF => by have f0 := far0 hW (fun h => by omega); simp only [List.map_cons, List.map_nil, hW.int, hW.str, hW.bool, hW.any, hW.tup0, hW.agg, hW.nilV, hF.ptr, f0, hF.sl, set_mid (rfl : d.length = d.length), labelsLL_app, V.labelsLL, V.labelsL, V.labels, List.mem_append, List.not_mem_nil, List.append_nil, List.nil_append, or_false, false_or, not_or, not_false_eq_true, and_self, Nat.zero_add, dn, rn, (fun i o e => hW.ptr 0 i o e (by decide) : ∀ i o e, W (.ptr 0 i o e) = .ptr 0 i o (e.map W)), cZ, zcI, kput] <;> rfl) ?_
    refine OkOps.nil ?_
    refine Ok.drop [14, 15, 16, 17, 18, 19, 20] (by simp only [kover] <;> rfl) ?_
    refine Ok.region ?_
    iterate 3 (refine EV ?_)
    refine OkOps.nil ?_
    refine ⟨(d ++ [[.int .i64 a[d.length]]], k), ?_, rfl, Nat.le_refl _, rows_snoc hi h2 h3 h4 h5 (by omega) (by simp only [V.travL, V.trav] <;> rfl) (by simp [V.labelsL, V.labels]) (fun z hz => by simp [V.labelsL, V.labels] at hz), by show a.length - (d ++ [_]).length < a.length - d.length; rw [List.length_append]; simp only [List.length_cons, List.length_nil]; omega⟩
    refine ⟨?_, ?_, ?_, ?_, ?_, ?_, ?_, ?_, ?_, ?_, ?_, ?_, ?_, ?_, ?_, ?_, ?_, ?_, ?_, ?_, ?_, ?_, trivial⟩ <;> first | exact le_any _ | with_reducible exact le_rfl' _ | (dsimp only; first | (rw [wrap_add_one (by omega)]; refine le_eqm ?_; simp only [List.length_append, List.length_cons, List.length_nil]; done) | (refine le_eqm ?_; simp only [List.length_append, List.length_cons, List.length_nil, List.append_assoc, List.cons_append, List.nil_append, Nat.zero_add]; done)) | exact le_rfl' _
  · try simp only [bsimp] at hb3
    have hi : d.length = a.length := by omega
    have hrep : List.replicate (a.length - d.length) zcI = [] := by rw [hi, Nat.sub_self]; rfl
    rw [hrep, List.append_nil]
    rw [hi, List.take_length] at h2
    refine Ok.exit ?_
    refine Ok.seq ?_
    refine Ok.drop [8, 9, 10, 11] (by simp only [kover] <;> rfl) ?_
    refine Ok.region ?_
    iterate 2 (refine EV ?_)
    refine OkOps.nil ?_
    refine Ok.ret ?_
    repeat (first | with_reducible refine thenQ_ret ?_ | with_reducible refine blockQ_ret ?_)
    refine retQ.end (by show resVs tab _ [.tmp 2] = _; simp only [kev, ktab, klen, kcv] <;> rfl) rfl ?_
    exact ⟨(by simp only [packV, V.erase, V.trav, V.travLL, zz, zf, zy, h2] <;> rfl), (by intro L hL; simp only [packV, V.labels, List.mem_cons] at hL; rcases hL with hL | hL <;> first | omega | (have := h4 L hL; omega)), (by simp only [packV, V.labels, List.nodup_cons]; exact ⟨fun h => by have := h4 1 h; omega, h3⟩)⟩
theorem p_laws_toStringS (a : List Str) (ha : a.length ≤ 1048576) : Pure Tryz.prog 187 [.sl 0 1 0 (a.map cS)] (.sl 0 1 0 (a.map cS)) := by
  refine Pure.of (by simp [V.dat, V.datL, V.datLL, zz, zf, zy]) (OkCall.enter' tab_ok Tryz.func187 rfl (t := [.sl 0 1 0 (a.map cS), .any, .any, .any, .any, .any, .any, .any, .any, .any, .any, .any, .any, .any, .any, .any, .any, .any, .any, .any, .any, .any]) rfl ?_)
  refine Ok.seq (Ok.region ?_)
  refine EV ?_
  refine OkOps.nil ?_
  refine Ok.seq (Ok.region ?_)
  iterate 2 (refine EV ?_)
  refine OkOps.S' rfl (ok_makeSlice (a := a.length) (b := a.length) tab_ok (by simp only [ktab] <;> rfl) (by simp only [ktab] <;> rfl) (by decide) rfl rfl (by simp only [kev, klen] <;> rfl) (by simp only [kev, klen] <;> rfl) (by omega) (by omega) (by omega) (by show ((16 : Nat) : Int) * _ ≤ _; omega)) (by simp only [Nat.reduceAdd] <;> rfl) (by simp only [kput, Int.toNat_natCast] <;> rfl) ?_
  refine EV ?_
  refine OkOps.nil ?_
  refine Ok.seq ?_
  refine Ok.seq ?_
  refine Ok.drop [5, 6, 7] (by simp only [kover] <;> rfl) ?_
  refine Ok.region ?_
  refine EV ?_
  refine OkOps.nil ?_
  refine Ok.block ?_
  refine Ok.loopN (τ := List (List V) × Nat) (fun x => [(3, .sl 1 1 0 (x.1 ++ List.replicate (a.length - x.1.length) zcT)), (4, .int .i64 (x.1.length : Int)), (7, .any)]) [8, 9, 10, 11, 12, 13, 14, 15, 16, 17, 18, 19, 20] (fun x => by simp only [kover] <;> rfl) (fun x => x.2 + 1) (fun x => x.1.length ≤ a.length ∧ V.travLL (fun sz => V.sl 0 sz 0 []) (fun _ sz _ es => V.sl 0 sz 0 es) (fun _ _ o e => V.ptr 0 0 o e) x.1 = (a.take x.1.length).map cS ∧ (V.labelsLL x.1).Nodup ∧ (∀ z ∈ V.labelsLL x.1, 2 ≤ z ∧ z < x.2 + 1) ∧ 1 ≤ x.2) (fun x => a.length - x.1.length) ([], 1) (by refine ⟨?_, ?_, ?_, ?_, ?_, ?_, ?_, ?_, ?_, ?_, ?_, ?_, ?_, ?_, ?_, ?_, ?_, ?_, ?_, ?_, ?_, ?_, trivial⟩ <;> first | exact le_any _ | with_reducible exact le_rfl' _ | ((first | exact le_rfl' _ | (refine le_eqm ?_; simp only [List.nil_append, List.length_nil, Nat.sub_zero]; done))) | exact le_rfl' _) (by decide) (⟨Nat.zero_le _, rfl, List.nodup_nil, (fun z hz => by cases hz), Nat.le_refl _⟩) ?_
  rintro ⟨d, k⟩ ⟨h1, h2, h3, h4, h5⟩
  have h1 : d.length ≤ a.length := h1
  have h2 : V.travLL (fun sz => V.sl 0 sz 0 []) (fun _ sz _ es => V.sl 0 sz 0 es) (fun _ _ o e => V.ptr 0 0 o e) d = (a.take d.length).map cS := h2
  have h3 : (V.labelsLL d).Nodup := h3
  have h4 : ∀ z ∈ V.labelsLL d, 2 ≤ z ∧ z < k + 1 := h4
  have h5 : 1 ≤ k := h5
  refine Ok.seq ?_
  refine Ok.seq (Ok.region ?_)
  iterate 4 (refine EV ?_)
  refine OkOps.nil ?_
  refine Ok.cond (b := _) (by simp only [kev, ktab, klen, kcv] <;> rfl) (fun hb3 => ?_) (fun hb3 => ?_)
  · try simp only [bsimp] at hb3
    have hi : d.length < a.length := by omega
    have hrep : List.replicate (a.length - d.length) zcT = zcT :: List.replicate (a.length - (d.length + 1)) zcT := by rw [show a.length - d.length = a.length - (d.length + 1) + 1 by omega]; rfl
    rw [hrep]
    have dn : ¬ (1 ∈ V.labelsLL d) := fun h => by have := h4 1 h; omega
    have rn := lab_rep (n := a.length - (d.length + 1)) (c := zcT) rfl
    refine Ok.skip ?_
    refine Ok.seq ?_
    refine Ok.block ?_
    refine Ok.drop [8, 9, 10, 11] (by simp only [kover] <;> rfl) ?_
    refine Ok.region ?_
    iterate 4 (refine EV ?_)
    refine OkOps.ev tab_ok rfl (ev_idx_map (by simp only [kev, ktab, klen, kcv] <;> rfl) (by simp only [kev, ktab, klen, kcv] <;> rfl) (by omega) (by simp only [kev, ktab, klen, kcv] <;> rfl)) (by simp only [kput] <;> rfl) ?_
    refine EV ?_
    refine OkOps.ev tab_ok rfl (ev_idx (by simp only [kev, ktab, klen, kcv] <;> rfl) (by simp only [kev, ktab, klen, kcv] <;> rfl) (get_mid rfl) (by simp only [kev, ktab, klen, kcv] <;> rfl)) (by simp only [kput] <;> rfl) ?_
    refine OkOps.storeN tab_ok rfl rfl (by simp only [kev, ktab, klen, kcv] <;> rfl) ⟨_, _, by simp only [kev]; rfl⟩ (by first | (simp [V.labelsL, V.labelsLL, V.labels, zz, zf, zy]; done) | (intro h; simp only [V.labelsL, V.labels, List.mem_append, List.append_nil, List.nil_append, List.not_mem_nil, or_false, false_or] at h)) (fun W hW hF => by have f0 := far0 hW (fun h => by omega); simp only [List.map_cons, List.map_nil, hW.int, hW.str, hW.bool, hW.any, hW.tup0, hW.agg, hW.nilV, hF.ptr, f0, hF.sl, set_mid (rfl : d.length = d.length), labelsLL_app, V.labelsLL, V.labelsL, V.labels, List.mem_append, List.not_mem_nil, List.append_nil, List.nil_append, or_false, false_or, not_or, not_false_eq_true, and_self, Nat.zero_add, dn, rn, (fun i o e => hW.ptr 0 i o e (by decide) : ∀ i o e, W (.ptr 0 i o e) = .ptr 0 i o (e.map W)), cS, zcT, kput] <;> rfl) ?_
    refine OkOps.nil ?_
    refine Ok.drop [14, 15, 16, 17, 18, 19, 20] (by simp only [kover] <;> rfl) ?_
    refine Ok.region ?_
    iterate 3 (refine EV ?_)
    refine OkOps.nil ?_
    refine ⟨(d ++ [[.str a[d.length]]], k), ?_, rfl, Nat.le_refl _, rows_snoc hi h2 h3 h4 h5 (by omega) (by simp only [V.travL, V.trav] <;> rfl) (by simp [V.labelsL, V.labels]) (fun z hz => by simp [V.labelsL, V.labels] at hz), by show a.length - (d ++ [_]).length < a.length - d.length; rw [List.length_append]; simp only [List.length_cons, List.length_nil]; omega⟩
    refine ⟨?_, ?_, ?_, ?_, ?_, ?_, ?_, ?_, ?_, ?_, ?_, ?_, ?_, ?_, ?_, ?_, ?_, ?_, ?_, ?_, ?_, ?_, trivial⟩ <;> first | exact le_any _ | with_reducible exact le_rfl' _ | (dsimp only; first | (rw [wrap_add_one (by omega)]; refine le_eqm ?_; simp only [List.length_append, List.length_cons, List.length_nil]; done) | (refine le_eqm ?_; simp only [List.length_append, List.length_cons, List.length_nil, List.append_assoc, List.cons_append, List.nil_append, Nat.zero_add]; done)) | exact le_rfl' _
  · try simp only [bsimp] at hb3
    have hi : d.length = a.length := by omega
    have hrep : List.replicate (a.length - d.length) zcT = [] := by rw [hi, Nat.sub_self]; rfl
    rw [hrep, List.append_nil]
    rw [hi, List.take_length] at h2
    refine Ok.exit ?_
    refine Ok.seq ?_
    refine Ok.drop [8, 9, 10, 11] (by simp only [kover] <;> rfl) ?_
    refine Ok.region ?_
    iterate 2 (refine EV ?_)
    refine OkOps.nil ?_
    refine Ok.ret ?_
    repeat (first | with_reducible refine thenQ_ret ?_ | with_reducible refine blockQ_ret ?_)
    refine retQ.end (by show resVs tab _ [.tmp 2] = _; simp only [kev, ktab, klen, kcv] <;> rfl) rfl ?_
    exact ⟨(by simp only [packV, V.erase, V.trav, V.travLL, zz, zf, zy, h2] <;> rfl), (by intro L hL; simp only [packV, V.labels, List.mem_cons] at hL; rcases hL with hL | hL <;> first | omega | (have := h4 L hL; omega)), (by simp only [packV, V.labels, List.nodup_cons]; exact ⟨fun h => by have := h4 1 h; omega, h3⟩)⟩
theorem p_laws_toMail (x : Mail) (h : smMail x) : Pure Tryz.prog 213 [.agg (cMail x)] (.agg (cMail x)) := by
  refine Pure.of (by simp [V.dat, V.datL, V.datLL, zz, zf, zy]) (OkCall.enter' tab_ok Tryz.func213 rfl (t := [.agg (cMail x), .any, .any, .any, .any, .any, .any, .any, .any, .any, .any, .any, .any, .any, .any, .any, .any, .any]) rfl ?_)
  refine Ok.seq (Ok.region ?_)
  iterate 2 (refine EV ?_)
  refine OkOps.nil ?_
  refine Ok.seq (Ok.region ?_)
  refine EV ?_
  refine OkOps.nil ?_
  refine Ok.seq (Ok.region ?_)
  iterate 3 (refine EV ?_)
  refine OkOps.storeN tab_ok rfl rfl (by simp only [kev, ktab, klen, kcv] <;> rfl) ⟨_, _, by simp only [kev]; rfl⟩ (by first | (simp [V.labelsL, V.labelsLL, V.labels, zz, zf, zy]; done) | (intro h; simp [V.labelsL, V.labels] at h)) (fun W hW hF => by have f0 := far0 hW (fun h => by omega); have p0 := fun i o e => hW.ptr (1) i o e (by omega);  have p1 := fun i o e => hW.ptr (2) i o e (by omega); simp only [List.map_cons, List.map_nil, hW.int, hW.str, hW.bool, hW.any, hW.tup0, hW.agg, hW.nilV, hF.ptr, f0, p0, p1, kput] <;> rfl) ?_
  refine OkOps.nil ?_
  refine Ok.seq ?_
  refine Ok.drop [4, 5, 6] (by simp only [kover] <;> rfl) ?_
  refine Ok.region ?_
  iterate 3 (refine EV ?_)
  refine OkOps.storeN tab_ok rfl rfl (by simp only [kev, ktab, klen, kcv] <;> rfl) ⟨_, _, by simp only [kev]; rfl⟩ (by first | (simp [V.labelsL, V.labelsLL, V.labels, zz, zf, zy]; done) | (intro h; simp [V.labelsL, V.labels] at h)) (fun W hW hF => by have f0 := far0 hW (fun h => by omega); have p0 := fun i o e => hW.ptr (1) i o e (by omega);  have p1 := fun i o e => hW.ptr (2) i o e (by omega); simp only [List.map_cons, List.map_nil, hW.int, hW.str, hW.bool, hW.any, hW.tup0, hW.agg, hW.nilV, hF.ptr, f0, p0, p1, kput] <;> rfl) ?_
  refine OkOps.nil ?_
  refine Ok.seq ?_
  refine Ok.drop [7, 8, 9] (by simp only [kover] <;> rfl) ?_
  refine Ok.region ?_
  iterate 2 (refine EV ?_)
  obtain ⟨L0a, e0a, hXa, q0a, E0a, M0a, N0a, nda, rga⟩ := ownSReg (3) (x.flags)
  obtain ⟨ma, hma⟩ : ∃ m, 3 + 1 + V.cnt (.sl 0 3 0 ((x.flags).map cReg)) = m + 1 := ⟨3 + V.cnt (.sl 0 3 0 ((x.flags).map cReg)), by omega⟩
  have r0a : ∀ z ∈ V.labels (.sl (L0a + 1) 3 0 e0a), 3 + 1 ≤ z ∧ z < ma + 1 := fun z hz => by have := rga z (by first | exact hz | (simp only [V.labelsL, V.labels, List.mem_append] at hz ⊢; simp only [hz, true_or, or_true])); omega
  refine OkOps.S' rfl (OpS.pure' rfl (by simp only [kev, ktab, klen, kcv] <;> rfl) (by simp only [kev, ktab, klen, kcv, V.eraseL, V.erase, V.travL, V.trav, zz, zf, zy] <;> rfl) cl241 (by simp [V.dat, V.datL, V.datLL, zz, zf, zy]) (p_laws_toRegS x.flags h.1)) hma (by simp only [kput, hXa] <;> rfl) ?_
  refine EV ?_
  refine OkOps.storeN tab_ok rfl rfl (by simp only [kev, ktab, klen, kcv] <;> rfl) ⟨_, _, by simp only [kev]; rfl⟩ (by first | (simp [V.labelsL, V.labelsLL, V.labels, zz, zf, zy]; done) | (intro h; simp only [V.labelsL, V.labels, List.mem_append, List.append_nil, List.nil_append, List.not_mem_nil, or_false, false_or] at h; first | (have := r0a _ h; omega))) (fun W hW hF => by obtain ⟨z0a, zz0a⟩ := farA hW r0a (fun y h1 h2 h => by omega); have f0 := far0 hW (fun h => by omega); have p0 := fun i o e => hW.ptr (1) i o e (by omega);  have p1 := fun i o e => hW.ptr (2) i o e (by omega); simp only [List.map_cons, List.map_nil, hW.int, hW.str, hW.bool, hW.any, hW.tup0, hW.agg, hW.nilV, hF.ptr, z0a, zz0a, f0, p0, p1, kput] <;> rfl) ?_
  refine OkOps.nil ?_
  refine Ok.seq ?_
  refine Ok.drop [10, 11, 12, 13] (by simp only [kover] <;> rfl) ?_
  refine Ok.region ?_
  iterate 3 (refine EV ?_)
  refine OkOps.storeN tab_ok rfl rfl (by simp only [kev, ktab, klen, kcv] <;> rfl) ⟨_, _, by simp only [kev]; rfl⟩ (by first | (simp [V.labelsL, V.labelsLL, V.labels, zz, zf, zy]; done) | (intro h; simp only [V.labelsL, V.labels, List.mem_append, List.append_nil, List.nil_append, List.not_mem_nil, or_false, false_or] at h; first | (have := r0a _ h; omega))) (fun W hW hF => by obtain ⟨z0a, zz0a⟩ := farA hW r0a (fun y h1 h2 h => by omega); have f0 := far0 hW (fun h => by omega); have p0 := fun i o e => hW.ptr (1) i o e (by omega);  have p1 := fun i o e => hW.ptr (2) i o e (by omega); simp only [List.map_cons, List.map_nil, hW.int, hW.str, hW.bool, hW.any, hW.tup0, hW.agg, hW.nilV, hF.ptr, z0a, zz0a, f0, p0, p1, kput] <;> rfl) ?_
  refine OkOps.nil ?_
  refine Ok.seq ?_
  refine Ok.drop [14, 15, 16] (by simp only [kover] <;> rfl) ?_
  refine Ok.region ?_
  refine EV ?_
  refine OkOps.storeN tab_ok rfl rfl (by simp only [kev, ktab, klen, kcv] <;> rfl) ⟨_, _, by simp only [kev]; rfl⟩ (by first | (simp [V.labelsL, V.labelsLL, V.labels, zz, zf, zy]; done) | (intro h; simp only [V.labelsL, V.labels, List.mem_append, List.append_nil, List.nil_append, List.not_mem_nil, or_false, false_or] at h; first | (have := r0a _ h; omega))) (fun W hW hF => by obtain ⟨z0a, zz0a⟩ := farA hW r0a (fun y h1 h2 h => by omega); have f0 := far0 hW (fun h => by omega); have p0 := fun i o e => hW.ptr (1) i o e (by omega);  have p2 := fun i o e => hW.ptr (3) i o e (by omega); simp only [List.map_cons, List.map_nil, hW.int, hW.str, hW.bool, hW.any, hW.tup0, hW.agg, hW.nilV, hF.ptr, z0a, zz0a, f0, p0, p2, kput] <;> rfl) ?_
  refine OkOps.nil ?_
  refine Ok.ret ?_
  repeat (first | with_reducible refine thenQ_ret ?_ | with_reducible refine blockQ_ret ?_)
  refine retQ.end (by show resVs tab _ [.cell 2 199] = _; simp only [kev, ktab, klen, kcv] <;> rfl) rfl ?_
  exact ⟨(by simp only [packV, V.erase, V.trav, V.travL, V.travLL, zz, zf, zy, E0a] <;> rfl), (by intro L hL; simp only [packV, V.labels, V.labelsL, List.append_nil, List.nil_append] at hL;  first | (have := r0a L hL; omega)), (by simp only [packV, V.labels, V.labelsL, List.append_nil, List.nil_append] at nda ⊢; exact nda)⟩
theorem p_laws_toMailS (a : List Mail) (ha : a.length ≤ 1048576) (hz : ∀ z ∈ a, smMail z) : Pure Tryz.prog 166 [.sl 0 4 0 (a.map cMail)] (.sl 0 4 0 (a.map cMail)) := by
  refine Pure.of (by simp [V.dat, V.datL, V.datLL, zz, zf, zy]) (OkCall.enter' tab_ok Tryz.func166 rfl (t := [.sl 0 4 0 (a.map cMail), .any, .any, .any, .any, .any, .any, .any, .any, .any, .any, .any, .any, .any, .any, .any, .any, .any, .any, .any, .any, .any, .any]) rfl ?_)
  refine Ok.seq (Ok.region ?_)
  refine EV ?_
  refine OkOps.nil ?_
  refine Ok.seq (Ok.region ?_)
  iterate 2 (refine EV ?_)
  refine OkOps.S' rfl (ok_makeSlice (a := a.length) (b := a.length) tab_ok (by simp only [ktab] <;> rfl) (by simp only [ktab] <;> rfl) (by decide) rfl rfl (by simp only [kev, klen] <;> rfl) (by simp only [kev, klen] <;> rfl) (by omega) (by omega) (by omega) (by show ((56 : Nat) : Int) * _ ≤ _; omega)) (by simp only [Nat.reduceAdd] <;> rfl) (by simp only [kput, Int.toNat_natCast] <;> rfl) ?_
  refine EV ?_
  refine OkOps.nil ?_
  refine Ok.seq ?_
  refine Ok.seq ?_
  refine Ok.drop [5, 6, 7] (by simp only [kover] <;> rfl) ?_
  refine Ok.region ?_
  refine EV ?_
  refine OkOps.nil ?_
  refine Ok.block ?_
  refine Ok.loopN (τ := List (List V) × Nat) (fun x => [(3, .sl 1 4 0 (x.1 ++ List.replicate (a.length - x.1.length) zcMail)), (4, .int .i64 (x.1.length : Int)), (7, .any)]) [8, 9, 10, 11, 12, 13, 14, 15, 16, 17, 18, 19, 20, 21] (fun x => by simp only [kover] <;> rfl) (fun x => x.2 + 1) (fun x => x.1.length ≤ a.length ∧ V.travLL (fun sz => V.sl 0 sz 0 []) (fun _ sz _ es => V.sl 0 sz 0 es) (fun _ _ o e => V.ptr 0 0 o e) x.1 = (a.take x.1.length).map cMail ∧ (V.labelsLL x.1).Nodup ∧ (∀ z ∈ V.labelsLL x.1, 2 ≤ z ∧ z < x.2 + 1) ∧ 1 ≤ x.2) (fun x => a.length - x.1.length) ([], 1) (by refine ⟨?_, ?_, ?_, ?_, ?_, ?_, ?_, ?_, ?_, ?_, ?_, ?_, ?_, ?_, ?_, ?_, ?_, ?_, ?_, ?_, ?_, ?_, ?_, trivial⟩ <;> first | exact le_any _ | with_reducible exact le_rfl' _ | ((first | exact le_rfl' _ | (refine le_eqm ?_; simp only [List.nil_append, List.length_nil, Nat.sub_zero]; done))) | exact le_rfl' _) (by decide) (⟨Nat.zero_le _, rfl, List.nodup_nil, (fun z hz => by cases hz), Nat.le_refl _⟩) ?_
  rintro ⟨d, k⟩ ⟨h1, h2, h3, h4, h5⟩
  have h1 : d.length ≤ a.length := h1
  have h2 : V.travLL (fun sz => V.sl 0 sz 0 []) (fun _ sz _ es => V.sl 0 sz 0 es) (fun _ _ o e => V.ptr 0 0 o e) d = (a.take d.length).map cMail := h2
  have h3 : (V.labelsLL d).Nodup := h3
  have h4 : ∀ z ∈ V.labelsLL d, 2 ≤ z ∧ z < k + 1 := h4
  have h5 : 1 ≤ k := h5
  refine Ok.seq ?_
  refine Ok.seq (Ok.region ?_)
  iterate 4 (refine EV ?_)
  refine OkOps.nil ?_
  refine Ok.cond (b := _) (by simp only [kev, ktab, klen, kcv] <;> rfl) (fun hb3 => ?_) (fun hb3 => ?_)
  · try simp only [bsimp] at hb3
    have hi : d.length < a.length := by omega
    have hrep : List.replicate (a.length - d.length) zcMail = zcMail :: List.replicate (a.length - (d.length + 1)) zcMail := by rw [show a.length - d.length = a.length - (d.length + 1) + 1 by omega]; rfl
    rw [hrep]
    have dn : ¬ (1 ∈ V.labelsLL d) := fun h => by have := h4 1 h; omega
    have rn := lab_rep (n := a.length - (d.length + 1)) (c := zcMail) rfl
    refine Ok.skip ?_
    refine Ok.seq ?_
    refine Ok.block ?_
    refine Ok.drop [8, 9, 10, 11] (by simp only [kover] <;> rfl) ?_
    refine Ok.region ?_
    iterate 4 (refine EV ?_)
    refine OkOps.ev tab_ok rfl (ev_idx_map (by simp only [kev, ktab, klen, kcv] <;> rfl) (by simp only [kev, ktab, klen, kcv] <;> rfl) (by omega) (by simp only [kev, ktab, klen, kcv] <;> rfl)) (by simp only [kput] <;> rfl) ?_
    refine EV ?_
    obtain ⟨L2a, e2a, hXa, q2a, E2a, M2a, N2a, nda, rga⟩ := ownMail (k) (a[d.length])
    obtain ⟨ma, hma⟩ : ∃ m, k + 1 + V.cnt (.agg (cMail (a[d.length]))) = m + 1 := ⟨k + V.cnt (.agg (cMail (a[d.length]))), by omega⟩
    have r2a : ∀ z ∈ V.labels (.sl (L2a + 1) 3 0 e2a), k + 1 ≤ z ∧ z < ma + 1 := fun z hz => by have := rga z (by first | exact hz | (simp only [V.labelsL, V.labels, List.mem_append] at hz ⊢; simp only [hz, true_or, or_true])); omega
    refine OkOps.S' rfl (OpS.pure' rfl (by simp only [kev, ktab, klen, kcv] <;> rfl) (by simp only [kev, ktab, klen, kcv, V.eraseL, V.erase, V.travL, V.trav, zz, zf, zy] <;> rfl) cl213 (by simp [V.dat, V.datL, V.datLL, zz, zf, zy]) (p_laws_toMail a[d.length] (hz _ (List.getElem_mem hi)))) hma (by simp only [kput, hXa] <;> rfl) ?_
    refine OkOps.ev tab_ok rfl (ev_idx (by simp only [kev, ktab, klen, kcv] <;> rfl) (by simp only [kev, ktab, klen, kcv] <;> rfl) (get_mid rfl) (by simp only [kev, ktab, klen, kcv] <;> rfl)) (by simp only [kput] <;> rfl) ?_
    refine OkOps.storeN tab_ok rfl rfl (by simp only [kev, ktab, klen, kcv] <;> rfl) ⟨_, _, by simp only [kev]; rfl⟩ (by first | (simp [V.labelsL, V.labelsLL, V.labels, zz, zf, zy]; done) | (intro h; simp only [V.labelsL, V.labels, List.mem_append, List.append_nil, List.nil_append, List.not_mem_nil, or_false, false_or] at h; first | (have := r2a _ h; omega))) (fun W hW hF => by obtain ⟨z2a, zz2a⟩ := farA hW r2a (fun y h1 h2 h => by omega); have f0 := far0 hW (fun h => by omega); simp only [List.map_cons, List.map_nil, hW.int, hW.str, hW.bool, hW.any, hW.tup0, hW.agg, hW.nilV, hF.ptr, z2a, zz2a, f0, hF.sl, set_mid (rfl : d.length = d.length), labelsLL_app, V.labelsLL, V.labelsL, V.labels, List.mem_append, List.not_mem_nil, List.append_nil, List.nil_append, or_false, false_or, not_or, not_false_eq_true, and_self, Nat.zero_add, dn, rn, (fun i o e => hW.ptr 0 i o e (by decide) : ∀ i o e, W (.ptr 0 i o e) = .ptr 0 i o (e.map W)), cMail, zcMail, kput] <;> rfl) ?_
    refine OkOps.nil ?_
    refine Ok.drop [14, 15, 16, 17, 18, 19, 20, 21] (by simp only [kover] <;> rfl) ?_
    refine Ok.region ?_
    iterate 3 (refine EV ?_)
    refine OkOps.nil ?_
    refine ⟨(d ++ [[.int .i64 (a[d.length]).gid, .int .i64 (a[d.length]).uid, .sl (L2a + 1) 3 0 e2a, .str (a[d.length]).text]], ma), ?_, rfl, (by dsimp only; omega), rows_snoc hi h2 h3 h4 h5 (by omega) (by simp only [V.travL, V.trav, E2a] <;> rfl) nda (fun z hz => by have := rga z hz; omega), by show a.length - (d ++ [_]).length < a.length - d.length; rw [List.length_append]; simp only [List.length_cons, List.length_nil]; omega⟩
    refine ⟨?_, ?_, ?_, ?_, ?_, ?_, ?_, ?_, ?_, ?_, ?_, ?_, ?_, ?_, ?_, ?_, ?_, ?_, ?_, ?_, ?_, ?_, ?_, trivial⟩ <;> first | exact le_any _ | with_reducible exact le_rfl' _ | (dsimp only; first | (rw [wrap_add_one (by omega)]; refine le_eqm ?_; simp only [List.length_append, List.length_cons, List.length_nil]; done) | (refine le_eqm ?_; simp only [List.length_append, List.length_cons, List.length_nil, List.append_assoc, List.cons_append, List.nil_append, Nat.zero_add]; done)) | exact le_rfl' _
  · try simp only [bsimp] at hb3
    have hi : d.length = a.length := by omega
    have hrep : List.replicate (a.length - d.length) zcMail = [] := by rw [hi, Nat.sub_self]; rfl
    rw [hrep, List.append_nil]
    rw [hi, List.take_length] at h2
    refine Ok.exit ?_
    refine Ok.seq ?_
    refine Ok.drop [8, 9, 10, 11] (by simp only [kover] <;> rfl) ?_
    refine Ok.region ?_
    iterate 2 (refine EV ?_)
    refine OkOps.nil ?_
    refine Ok.ret ?_
    repeat (first | with_reducible refine thenQ_ret ?_ | with_reducible refine blockQ_ret ?_)
    refine retQ.end (by show resVs tab _ [.tmp 2] = _; simp only [kev, ktab, klen, kcv] <;> rfl) rfl ?_
    exact ⟨(by simp only [packV, V.erase, V.trav, V.travLL, zz, zf, zy, h2] <;> rfl), (by intro L hL; simp only [packV, V.labels, List.mem_cons] at hL; rcases hL with hL | hL <;> first | omega | (have := h4 L hL; omega)), (by simp only [packV, V.labels, List.nodup_cons]; exact ⟨fun h => by have := h4 1 h; omega, h3⟩)⟩
theorem p_laws_toBox (x : Box) (h : smBox x) : Pure Tryz.prog 119 [.agg (cBox x)] (.agg (cBox x)) := by
  refine Pure.of (by simp [V.dat, V.datL, V.datLL, zz, zf, zy]) (OkCall.enter' tab_ok Tryz.func119 rfl (t := [.agg (cBox x), .any, .any, .any, .any, .any, .any, .any, .any, .any, .any, .any, .any, .any, .any, .any, .any, .any, .any, .any, .any, .any, .any, .any, .any, .any]) rfl ?_)
  refine Ok.seq (Ok.region ?_)
  iterate 2 (refine EV ?_)
  refine OkOps.nil ?_
  refine Ok.seq (Ok.region ?_)
  refine EV ?_
  refine OkOps.nil ?_
  refine Ok.seq (Ok.region ?_)
  iterate 3 (refine EV ?_)
  refine OkOps.storeN tab_ok rfl rfl (by simp only [kev, ktab, klen, kcv] <;> rfl) ⟨_, _, by simp only [kev]; rfl⟩ (by first | (simp [V.labelsL, V.labelsLL, V.labels, zz, zf, zy]; done) | (intro h; simp [V.labelsL, V.labels] at h)) (fun W hW hF => by have f0 := far0 hW (fun h => by omega); have p0 := fun i o e => hW.ptr (1) i o e (by omega);  have p1 := fun i o e => hW.ptr (2) i o e (by omega); simp only [List.map_cons, List.map_nil, hW.int, hW.str, hW.bool, hW.any, hW.tup0, hW.agg, hW.nilV, hF.ptr, f0, p0, p1, kput] <;> rfl) ?_
  refine OkOps.nil ?_
  refine Ok.seq ?_
  refine Ok.drop [4, 5, 6] (by simp only [kover] <;> rfl) ?_
  refine Ok.region ?_
  iterate 3 (refine EV ?_)
  refine OkOps.storeN tab_ok rfl rfl (by simp only [kev, ktab, klen, kcv] <;> rfl) ⟨_, _, by simp only [kev]; rfl⟩ (by first | (simp [V.labelsL, V.labelsLL, V.labels, zz, zf, zy]; done) | (intro h; simp [V.labelsL, V.labels] at h)) (fun W hW hF => by have f0 := far0 hW (fun h => by omega); have p0 := fun i o e => hW.ptr (1) i o e (by omega);  have p1 := fun i o e => hW.ptr (2) i o e (by omega); simp only [List.map_cons, List.map_nil, hW.int, hW.str, hW.bool, hW.any, hW.tup0, hW.agg, hW.nilV, hF.ptr, f0, p0, p1, kput] <;> rfl) ?_
  refine OkOps.nil ?_
  refine Ok.seq ?_
  refine Ok.drop [7, 8, 9] (by simp only [kover] <;> rfl) ?_
  refine Ok.region ?_
  iterate 2 (refine EV ?_)
  refine OkOps.S0 rfl (OpS.weak' rfl (by simp only [kev, ktab, klen, kcv] <;> rfl) (by simp only [kev, ktab, klen, kcv] <;> rfl) cl165 (w_own_toStamp x.named)) (by simp only [kput] <;> rfl) ?_
  refine EV ?_
  refine OkOps.storeN tab_ok rfl rfl (by simp only [kev, ktab, klen, kcv] <;> rfl) ⟨_, _, by simp only [kev]; rfl⟩ (by first | (simp [V.labelsL, V.labelsLL, V.labels, zz, zf, zy]; done) | (intro h; simp [V.labelsL, V.labels] at h)) (fun W hW hF => by have f0 := far0 hW (fun h => by omega); have p0 := fun i o e => hW.ptr (1) i o e (by omega);  have p1 := fun i o e => hW.ptr (2) i o e (by omega); simp only [List.map_cons, List.map_nil, hW.int, hW.str, hW.bool, hW.any, hW.tup0, hW.agg, hW.nilV, hF.ptr, f0, p0, p1, kput] <;> rfl) ?_
  refine OkOps.nil ?_
  refine Ok.seq ?_
  refine Ok.drop [10, 11, 12, 13] (by simp only [kover] <;> rfl) ?_
  refine Ok.region ?_
  iterate 3 (refine EV ?_)
  refine OkOps.storeN tab_ok rfl rfl (by simp only [kev, ktab, klen, kcv] <;> rfl) ⟨_, _, by simp only [kev]; rfl⟩ (by first | (simp [V.labelsL, V.labelsLL, V.labels, zz, zf, zy]; done) | (intro h; simp [V.labelsL, V.labels] at h)) (fun W hW hF => by have f0 := far0 hW (fun h => by omega); have p0 := fun i o e => hW.ptr (1) i o e (by omega);  have p1 := fun i o e => hW.ptr (2) i o e (by omega); simp only [List.map_cons, List.map_nil, hW.int, hW.str, hW.bool, hW.any, hW.tup0, hW.agg, hW.nilV, hF.ptr, f0, p0, p1, kput] <;> rfl) ?_
  refine OkOps.nil ?_
  refine Ok.seq ?_
  refine Ok.drop [14, 15, 16] (by simp only [kover] <;> rfl) ?_
  refine Ok.region ?_
  iterate 2 (refine EV ?_)
  obtain ⟨L0a, e0a, hXa, q0a, E0a, M0a, N0a, nda, rga⟩ := ownSMail (3) (x.mails)
  obtain ⟨ma, hma⟩ : ∃ m, 3 + 1 + V.cnt (.sl 0 4 0 ((x.mails).map cMail)) = m + 1 := ⟨3 + V.cnt (.sl 0 4 0 ((x.mails).map cMail)), by omega⟩
  have r0a : ∀ z ∈ V.labels (.sl (L0a + 1) 4 0 e0a), 3 + 1 ≤ z ∧ z < ma + 1 := fun z hz => by have := rga z (by first | exact hz | (simp only [V.labelsL, V.labels, List.mem_append] at hz ⊢; simp only [hz, true_or, or_true])); omega
  refine OkOps.S' rfl (OpS.pure' rfl (by simp only [kev, ktab, klen, kcv] <;> rfl) (by simp only [kev, ktab, klen, kcv, V.eraseL, V.erase, V.travL, V.trav, zz, zf, zy] <;> rfl) cl166 (by simp [V.dat, V.datL, V.datLL, zz, zf, zy]) (p_laws_toMailS x.mails h.2.1.1 h.2.1.2)) hma (by simp only [kput, hXa] <;> rfl) ?_
  refine EV ?_
  refine OkOps.storeN tab_ok rfl rfl (by simp only [kev, ktab, klen, kcv] <;> rfl) ⟨_, _, by simp only [kev]; rfl⟩ (by first | (simp [V.labelsL, V.labelsLL, V.labels, zz, zf, zy]; done) | (intro h; simp only [V.labelsL, V.labels, List.mem_append, List.append_nil, List.nil_append, List.not_mem_nil, or_false, false_or] at h; first | (have := r0a _ h; omega))) (fun W hW hF => by obtain ⟨z0a, zz0a⟩ := farA hW r0a (fun y h1 h2 h => by omega); have f0 := far0 hW (fun h => by omega); have p0 := fun i o e => hW.ptr (1) i o e (by omega);  have p1 := fun i o e => hW.ptr (2) i o e (by omega); simp only [List.map_cons, List.map_nil, hW.int, hW.str, hW.bool, hW.any, hW.tup0, hW.agg, hW.nilV, hF.ptr, z0a, zz0a, f0, p0, p1, kput] <;> rfl) ?_
  refine OkOps.nil ?_
  refine Ok.seq ?_
  refine Ok.drop [17, 18, 19, 20] (by simp only [kover] <;> rfl) ?_
  refine Ok.region ?_
  iterate 2 (refine EV ?_)
  obtain ⟨L0b, e0b, hXb, q0b, E0b, M0b, N0b, ndb, rgb⟩ := ownSInt (ma) (x.gone)
  obtain ⟨mb, hmb⟩ : ∃ m, ma + 1 + V.cnt (.sl 0 1 0 ((x.gone).map cZ)) = m + 1 := ⟨ma + V.cnt (.sl 0 1 0 ((x.gone).map cZ)), by omega⟩
  have r0b : ∀ z ∈ V.labels (.sl (L0b + 1) 1 0 e0b), ma + 1 ≤ z ∧ z < mb + 1 := fun z hz => by have := rgb z (by first | exact hz | (simp only [V.labelsL, V.labels, List.mem_append] at hz ⊢; simp only [hz, true_or, or_true])); omega
  refine OkOps.S' rfl (OpS.pure' rfl (by simp only [kev, ktab, klen, kcv] <;> rfl) (by simp only [kev, ktab, klen, kcv, E0a, M0a, N0a, V.eraseL, V.erase, V.travL, V.trav, zz, zf, zy] <;> rfl) cl54 (by simp [V.dat, V.datL, V.datLL, zz, zf, zy]) (p_laws_toIntS x.gone h.2.2)) hmb (by simp only [kput, hXb] <;> rfl) ?_
  refine EV ?_
  refine OkOps.storeN tab_ok rfl rfl (by simp only [kev, ktab, klen, kcv] <;> rfl) ⟨_, _, by simp only [kev]; rfl⟩ (by first | (simp [V.labelsL, V.labelsLL, V.labels, zz, zf, zy]; done) | (intro h; simp only [V.labelsL, V.labels, List.mem_append, List.append_nil, List.nil_append, List.not_mem_nil, or_false, false_or] at h; rcases h with h | h <;> first | (have := r0a _ h; omega) | (have := r0b _ h; omega))) (fun W hW hF => by obtain ⟨z0a, zz0a⟩ := farA hW r0a (fun y h1 h2 h => by omega); obtain ⟨z0b, zz0b⟩ := farA hW r0b (fun y h1 h2 h => by omega); have f0 := far0 hW (fun h => by omega); have p0 := fun i o e => hW.ptr (1) i o e (by omega);  have p1 := fun i o e => hW.ptr (2) i o e (by omega); simp only [List.map_cons, List.map_nil, hW.int, hW.str, hW.bool, hW.any, hW.tup0, hW.agg, hW.nilV, hF.ptr, z0a, zz0a, z0b, zz0b, f0, p0, p1, kput] <;> rfl) ?_
  refine OkOps.nil ?_
  refine Ok.seq ?_
  refine Ok.drop [21, 22, 23, 24] (by simp only [kover] <;> rfl) ?_
  refine Ok.region ?_
  refine EV ?_
  refine OkOps.storeN tab_ok rfl rfl (by simp only [kev, ktab, klen, kcv] <;> rfl) ⟨_, _, by simp only [kev]; rfl⟩ (by first | (simp [V.labelsL, V.labelsLL, V.labels, zz, zf, zy]; done) | (intro h; simp only [V.labelsL, V.labels, List.mem_append, List.append_nil, List.nil_append, List.not_mem_nil, or_false, false_or] at h; rcases h with h | h <;> first | (have := r0a _ h; omega) | (have := r0b _ h; omega))) (fun W hW hF => by obtain ⟨z0a, zz0a⟩ := farA hW r0a (fun y h1 h2 h => by omega); obtain ⟨z0b, zz0b⟩ := farA hW r0b (fun y h1 h2 h => by omega); have f0 := far0 hW (fun h => by omega); have p0 := fun i o e => hW.ptr (1) i o e (by omega);  have p2 := fun i o e => hW.ptr (3) i o e (by omega); simp only [List.map_cons, List.map_nil, hW.int, hW.str, hW.bool, hW.any, hW.tup0, hW.agg, hW.nilV, hF.ptr, z0a, zz0a, z0b, zz0b, f0, p0, p2, kput] <;> rfl) ?_
  refine OkOps.nil ?_
  refine Ok.ret ?_
  repeat (first | with_reducible refine thenQ_ret ?_ | with_reducible refine blockQ_ret ?_)
  refine retQ.end (by show resVs tab _ [.cell 2 140] = _; simp only [kev, ktab, klen, kcv] <;> rfl) rfl ?_
  exact ⟨(by simp only [packV, V.erase, V.trav, V.travL, V.travLL, zz, zf, zy, E0a, E0b] <;> rfl), (by intro L hL; simp only [packV, V.labels, V.labelsL, List.append_nil, List.nil_append] at hL; (try rw [List.mem_append] at hL); (try rw [List.mem_append] at hL); rcases hL with hL | hL <;>  first | (have := r0a L hL; omega) | (have := r0b L hL; omega)), (by have n1 := nda; have n2 := ndb; simp only [V.labels, V.labelsL, List.append_nil, List.nil_append] at n1 n2; simp only [packV, V.labels, V.labelsL, List.append_nil, List.nil_append]; rw [List.nodup_append]; exact ⟨n1, n2, fun y hy z hz h => by (have q2 := r0b z hz; first | (have q1 := r0a y hy; omega))⟩)⟩
theorem p_laws_toBoxS (a : List Box) (ha : a.length ≤ 1048576) (hz : ∀ z ∈ a, smBox z) : Pure Tryz.prog 53 [.sl 0 7 0 (a.map cBox)] (.sl 0 7 0 (a.map cBox)) := by
  refine Pure.of (by simp [V.dat, V.datL, V.datLL, zz, zf, zy]) (OkCall.enter' tab_ok Tryz.func53 rfl (t := [.sl 0 7 0 (a.map cBox), .any, .any, .any, .any, .any, .any, .any, .any, .any, .any, .any, .any, .any, .any, .any, .any, .any, .any, .any, .any, .any, .any]) rfl ?_)
  refine Ok.seq (Ok.region ?_)
  refine EV ?_
  refine OkOps.nil ?_
  refine Ok.seq (Ok.region ?_)
  iterate 2 (refine EV ?_)
  refine OkOps.S' rfl (ok_makeSlice (a := a.length) (b := a.length) tab_ok (by simp only [ktab] <;> rfl) (by simp only [ktab] <;> rfl) (by decide) rfl rfl (by simp only [kev, klen] <;> rfl) (by simp only [kev, klen] <;> rfl) (by omega) (by omega) (by omega) (by show ((96 : Nat) : Int) * _ ≤ _; omega)) (by simp only [Nat.reduceAdd] <;> rfl) (by simp only [kput, Int.toNat_natCast] <;> rfl) ?_
  refine EV ?_
  refine OkOps.nil ?_
  refine Ok.seq ?_
  refine Ok.seq ?_
  refine Ok.drop [5, 6, 7] (by simp only [kover] <;> rfl) ?_
  refine Ok.region ?_
  refine EV ?_
  refine OkOps.nil ?_
  refine Ok.block ?_
  refine Ok.loopN (τ := List (List V) × Nat) (fun x => [(3, .sl 1 7 0 (x.1 ++ List.replicate (a.length - x.1.length) zcBox)), (4, .int .i64 (x.1.length : Int)), (7, .any)]) [8, 9, 10, 11, 12, 13, 14, 15, 16, 17, 18, 19, 20, 21] (fun x => by simp only [kover] <;> rfl) (fun x => x.2 + 1) (fun x => x.1.length ≤ a.length ∧ V.travLL (fun sz => V.sl 0 sz 0 []) (fun _ sz _ es => V.sl 0 sz 0 es) (fun _ _ o e => V.ptr 0 0 o e) x.1 = (a.take x.1.length).map cBox ∧ (V.labelsLL x.1).Nodup ∧ (∀ z ∈ V.labelsLL x.1, 2 ≤ z ∧ z < x.2 + 1) ∧ 1 ≤ x.2) (fun x => a.length - x.1.length) ([], 1) (by refine ⟨?_, ?_, ?_, ?_, ?_, ?_, ?_, ?_, ?_, ?_, ?_, ?_, ?_, ?_, ?_, ?_, ?_, ?_, ?_, ?_, ?_, ?_, ?_, trivial⟩ <;> first | exact le_any _ | with_reducible exact le_rfl' _ | ((first | exact le_rfl' _ | (refine le_eqm ?_; simp only [List.nil_append, List.length_nil, Nat.sub_zero]; done))) | exact le_rfl' _) (by decide) (⟨Nat.zero_le _, rfl, List.nodup_nil, (fun z hz => by cases hz), Nat.le_refl _⟩) ?_
  rintro ⟨d, k⟩ ⟨h1, h2, h3, h4, h5⟩
  have h1 : d.length ≤ a.length := h1
  have h2 : V.travLL (fun sz => V.sl 0 sz 0 []) (fun _ sz _ es => V.sl 0 sz 0 es) (fun _ _ o e => V.ptr 0 0 o e) d = (a.take d.length).map cBox := h2
  have h3 : (V.labelsLL d).Nodup := h3
  have h4 : ∀ z ∈ V.labelsLL d, 2 ≤ z ∧ z < k + 1 := h4
  have h5 : 1 ≤ k := h5
  refine Ok.seq ?_
  refine Ok.seq (Ok.region ?_)
  iterate 4 (refine EV ?_)
  refine OkOps.nil ?_
  refine Ok.cond (b := _) (by simp only [kev, ktab, klen, kcv] <;> rfl) (fun hb3 => ?_) (fun hb3 => ?_)
  · try simp only [bsimp] at hb3
    have hi : d.length < a.length := by omega
    have hrep : List.replicate (a.length - d.length) zcBox = zcBox :: List.replicate (a.length - (d.length + 1)) zcBox := by rw [show a.length - d.length = a.length - (d.length + 1) + 1 by omega]; rfl
    rw [hrep]
    have dn : ¬ (1 ∈ V.labelsLL d) := fun h => by have := h4 1 h; omega
    have rn := lab_rep (n := a.length - (d.length + 1)) (c := zcBox) rfl
    refine Ok.skip ?_
    refine Ok.seq ?_
    refine Ok.block ?_
    refine Ok.drop [8, 9, 10, 11] (by simp only [kover] <;> rfl) ?_
    refine Ok.region ?_
    iterate 4 (refine EV ?_)
    refine OkOps.ev tab_ok rfl (ev_idx_map (by simp only [kev, ktab, klen, kcv] <;> rfl) (by simp only [kev, ktab, klen, kcv] <;> rfl) (by omega) (by simp only [kev, ktab, klen, kcv] <;> rfl)) (by simp only [kput] <;> rfl) ?_
    refine EV ?_
    obtain ⟨L5a, e5a, L6a, e6a, hXa, q5a, E5a, M5a, N5a, q6a, E6a, M6a, N6a, nda, rga⟩ := ownBox (k) (a[d.length])
    obtain ⟨ma, hma⟩ : ∃ m, k + 1 + V.cnt (.agg (cBox (a[d.length]))) = m + 1 := ⟨k + V.cnt (.agg (cBox (a[d.length]))), by omega⟩
    have r5a : ∀ z ∈ V.labels (.sl (L5a + 1) 4 0 e5a), k + 1 ≤ z ∧ z < ma + 1 := fun z hz => by have := rga z (by first | exact hz | (simp only [V.labelsL, V.labels, List.mem_append] at hz ⊢; simp only [hz, true_or, or_true])); omega
    have r6a : ∀ z ∈ V.labels (.sl (L6a + 1) 1 0 e6a), k + 1 ≤ z ∧ z < ma + 1 := fun z hz => by have := rga z (by first | exact hz | (simp only [V.labelsL, V.labels, List.mem_append] at hz ⊢; simp only [hz, true_or, or_true])); omega
    refine OkOps.S' rfl (OpS.pure' rfl (by simp only [kev, ktab, klen, kcv] <;> rfl) (by simp only [kev, ktab, klen, kcv, V.eraseL, V.erase, V.travL, V.trav, zz, zf, zy] <;> rfl) cl119 (by simp [V.dat, V.datL, V.datLL, zz, zf, zy]) (p_laws_toBox a[d.length] (hz _ (List.getElem_mem hi)))) hma (by simp only [kput, hXa] <;> rfl) ?_
    refine OkOps.ev tab_ok rfl (ev_idx (by simp only [kev, ktab, klen, kcv] <;> rfl) (by simp only [kev, ktab, klen, kcv] <;> rfl) (get_mid rfl) (by simp only [kev, ktab, klen, kcv] <;> rfl)) (by simp only [kput] <;> rfl) ?_
    refine OkOps.storeN tab_ok rfl rfl (by simp only [kev, ktab, klen, kcv] <;> rfl) ⟨_, _, by simp only [kev]; rfl⟩ (by first | (simp [V.labelsL, V.labelsLL, V.labels, zz, zf, zy]; done) | (intro h; simp only [V.labelsL, V.labels, List.mem_append, List.append_nil, List.nil_append, List.not_mem_nil, or_false, false_or] at h; rcases h with h | h <;> first | (have := r5a _ h; omega) | (have := r6a _ h; omega))) (fun W hW hF => by obtain ⟨z5a, zz5a⟩ := farA hW r5a (fun y h1 h2 h => by omega); obtain ⟨z6a, zz6a⟩ := farA hW r6a (fun y h1 h2 h => by omega); have f0 := far0 hW (fun h => by omega); simp only [List.map_cons, List.map_nil, hW.int, hW.str, hW.bool, hW.any, hW.tup0, hW.agg, hW.nilV, hF.ptr, z5a, zz5a, z6a, zz6a, f0, hF.sl, set_mid (rfl : d.length = d.length), labelsLL_app, V.labelsLL, V.labelsL, V.labels, List.mem_append, List.not_mem_nil, List.append_nil, List.nil_append, or_false, false_or, not_or, not_false_eq_true, and_self, Nat.zero_add, dn, rn, (fun i o e => hW.ptr 0 i o e (by decide) : ∀ i o e, W (.ptr 0 i o e) = .ptr 0 i o (e.map W)), cBox, zcBox, kput] <;> rfl) ?_
    refine OkOps.nil ?_
    refine Ok.drop [14, 15, 16, 17, 18, 19, 20, 21] (by simp only [kover] <;> rfl) ?_
    refine Ok.region ?_
    iterate 3 (refine EV ?_)
    refine OkOps.nil ?_
    refine ⟨(d ++ [[.int .i64 (a[d.length]).gid, .str (a[d.length]).name, .int .i64 (a[d.length]).named.time, .int .i64 (a[d.length]).named.by_, .int .i64 (a[d.length]).next, .sl (L5a + 1) 4 0 e5a, .sl (L6a + 1) 1 0 e6a]], ma), ?_, rfl, (by dsimp only; omega), rows_snoc hi h2 h3 h4 h5 (by omega) (by simp only [V.travL, V.trav, E5a, E6a] <;> rfl) nda (fun z hz => by have := rga z hz; omega), by show a.length - (d ++ [_]).length < a.length - d.length; rw [List.length_append]; simp only [List.length_cons, List.length_nil]; omega⟩
    refine ⟨?_, ?_, ?_, ?_, ?_, ?_, ?_, ?_, ?_, ?_, ?_, ?_, ?_, ?_, ?_, ?_, ?_, ?_, ?_, ?_, ?_, ?_, ?_, trivial⟩ <;> first | exact le_any _ | with_reducible exact le_rfl' _ | (dsimp only; first | (rw [wrap_add_one (by omega)]; refine le_eqm ?_; simp only [List.length_append, List.length_cons, List.length_nil]; done) | (refine le_eqm ?_; simp only [List.length_append, List.length_cons, List.length_nil, List.append_assoc, List.cons_append, List.nil_append, Nat.zero_add]; done)) | exact le_rfl' _
  · try simp only [bsimp] at hb3
    have hi : d.length = a.length := by omega
    have hrep : List.replicate (a.length - d.length) zcBox = [] := by rw [hi, Nat.sub_self]; rfl
    rw [hrep, List.append_nil]
    rw [hi, List.take_length] at h2
    refine Ok.exit ?_
    refine Ok.seq ?_
    refine Ok.drop [8, 9, 10, 11] (by simp only [kover] <;> rfl) ?_
    refine Ok.region ?_
    iterate 2 (refine EV ?_)
    refine OkOps.nil ?_
    refine Ok.ret ?_
    repeat (first | with_reducible refine thenQ_ret ?_ | with_reducible refine blockQ_ret ?_)
    refine retQ.end (by show resVs tab _ [.tmp 2] = _; simp only [kev, ktab, klen, kcv] <;> rfl) rfl ?_
    exact ⟨(by simp only [packV, V.erase, V.trav, V.travLL, zz, zf, zy, h2] <;> rfl), (by intro L hL; simp only [packV, V.labels, List.mem_cons] at hL; rcases hL with hL | hL <;> first | omega | (have := h4 L hL; omega)), (by simp only [packV, V.labels, List.nodup_cons]; exact ⟨fun h => by have := h4 1 h; omega, h3⟩)⟩
theorem p_laws_toStore (x : Store) (h : smStore x) : Pure Tryz.prog 10 [.agg (cStore x)] (.agg (cStore x)) := by
  refine Pure.of (by simp [V.dat, V.datL, V.datLL, zz, zf, zy]) (OkCall.enter' tab_ok Tryz.func10 rfl (t := [.agg (cStore x), .any, .any, .any, .any, .any, .any, .any, .any, .any, .any, .any, .any, .any, .any, .any, .any, .any, .any]) rfl ?_)
  refine Ok.seq (Ok.region ?_)
  iterate 2 (refine EV ?_)
  refine OkOps.nil ?_
  refine Ok.seq (Ok.region ?_)
  refine EV ?_
  refine OkOps.nil ?_
  refine Ok.seq (Ok.region ?_)
  iterate 3 (refine EV ?_)
  refine OkOps.storeN tab_ok rfl rfl (by simp only [kev, ktab, klen, kcv] <;> rfl) ⟨_, _, by simp only [kev]; rfl⟩ (by first | (simp [V.labelsL, V.labelsLL, V.labels, zz, zf, zy]; done) | (intro h; simp [V.labelsL, V.labels] at h)) (fun W hW hF => by have f0 := far0 hW (fun h => by omega); have p0 := fun i o e => hW.ptr (1) i o e (by omega);  have p1 := fun i o e => hW.ptr (2) i o e (by omega); simp only [List.map_cons, List.map_nil, hW.int, hW.str, hW.bool, hW.any, hW.tup0, hW.agg, hW.nilV, hF.ptr, f0, p0, p1, kput] <;> rfl) ?_
  refine OkOps.nil ?_
  refine Ok.seq ?_
  refine Ok.drop [4, 5, 6] (by simp only [kover] <;> rfl) ?_
  refine Ok.region ?_
  iterate 3 (refine EV ?_)
  refine OkOps.storeN tab_ok rfl rfl (by simp only [kev, ktab, klen, kcv] <;> rfl) ⟨_, _, by simp only [kev]; rfl⟩ (by first | (simp [V.labelsL, V.labelsLL, V.labels, zz, zf, zy]; done) | (intro h; simp [V.labelsL, V.labels] at h)) (fun W hW hF => by have f0 := far0 hW (fun h => by omega); have p0 := fun i o e => hW.ptr (1) i o e (by omega);  have p1 := fun i o e => hW.ptr (2) i o e (by omega); simp only [List.map_cons, List.map_nil, hW.int, hW.str, hW.bool, hW.any, hW.tup0, hW.agg, hW.nilV, hF.ptr, f0, p0, p1, kput] <;> rfl) ?_
  refine OkOps.nil ?_
  refine Ok.seq ?_
  refine Ok.drop [7, 8, 9] (by simp only [kover] <;> rfl) ?_
  refine Ok.region ?_
  iterate 2 (refine EV ?_)
  obtain ⟨L0a, e0a, hXa, q0a, E0a, M0a, N0a, nda, rga⟩ := ownSBox (3) (x.boxes)
  obtain ⟨ma, hma⟩ : ∃ m, 3 + 1 + V.cnt (.sl 0 7 0 ((x.boxes).map cBox)) = m + 1 := ⟨3 + V.cnt (.sl 0 7 0 ((x.boxes).map cBox)), by omega⟩
  have r0a : ∀ z ∈ V.labels (.sl (L0a + 1) 7 0 e0a), 3 + 1 ≤ z ∧ z < ma + 1 := fun z hz => by have := rga z (by first | exact hz | (simp only [V.labelsL, V.labels, List.mem_append] at hz ⊢; simp only [hz, true_or, or_true])); omega
  refine OkOps.S' rfl (OpS.pure' rfl (by simp only [kev, ktab, klen, kcv] <;> rfl) (by simp only [kev, ktab, klen, kcv, V.eraseL, V.erase, V.travL, V.trav, zz, zf, zy] <;> rfl) cl53 (by simp [V.dat, V.datL, V.datLL, zz, zf, zy]) (p_laws_toBoxS x.boxes h.1.1 h.1.2)) hma (by simp only [kput, hXa] <;> rfl) ?_
  refine EV ?_
  refine OkOps.storeN tab_ok rfl rfl (by simp only [kev, ktab, klen, kcv] <;> rfl) ⟨_, _, by simp only [kev]; rfl⟩ (by first | (simp [V.labelsL, V.labelsLL, V.labels, zz, zf, zy]; done) | (intro h; simp only [V.labelsL, V.labels, List.mem_append, List.append_nil, List.nil_append, List.not_mem_nil, or_false, false_or] at h; first | (have := r0a _ h; omega))) (fun W hW hF => by obtain ⟨z0a, zz0a⟩ := farA hW r0a (fun y h1 h2 h => by omega); have f0 := far0 hW (fun h => by omega); have p0 := fun i o e => hW.ptr (1) i o e (by omega);  have p1 := fun i o e => hW.ptr (2) i o e (by omega); simp only [List.map_cons, List.map_nil, hW.int, hW.str, hW.bool, hW.any, hW.tup0, hW.agg, hW.nilV, hF.ptr, z0a, zz0a, f0, p0, p1, kput] <;> rfl) ?_
  refine OkOps.nil ?_
  refine Ok.seq ?_
  refine Ok.drop [10, 11, 12, 13] (by simp only [kover] <;> rfl) ?_
  refine Ok.region ?_
  iterate 2 (refine EV ?_)
  obtain ⟨L0b, e0b, hXb, q0b, E0b, M0b, N0b, ndb, rgb⟩ := ownSInt (ma) (x.gone)
  obtain ⟨mb, hmb⟩ : ∃ m, ma + 1 + V.cnt (.sl 0 1 0 ((x.gone).map cZ)) = m + 1 := ⟨ma + V.cnt (.sl 0 1 0 ((x.gone).map cZ)), by omega⟩
  have r0b : ∀ z ∈ V.labels (.sl (L0b + 1) 1 0 e0b), ma + 1 ≤ z ∧ z < mb + 1 := fun z hz => by have := rgb z (by first | exact hz | (simp only [V.labelsL, V.labels, List.mem_append] at hz ⊢; simp only [hz, true_or, or_true])); omega
  refine OkOps.S' rfl (OpS.pure' rfl (by simp only [kev, ktab, klen, kcv] <;> rfl) (by simp only [kev, ktab, klen, kcv, E0a, M0a, N0a, V.eraseL, V.erase, V.travL, V.trav, zz, zf, zy] <;> rfl) cl54 (by simp [V.dat, V.datL, V.datLL, zz, zf, zy]) (p_laws_toIntS x.gone h.2)) hmb (by simp only [kput, hXb] <;> rfl) ?_
  refine EV ?_
  refine OkOps.storeN tab_ok rfl rfl (by simp only [kev, ktab, klen, kcv] <;> rfl) ⟨_, _, by simp only [kev]; rfl⟩ (by first | (simp [V.labelsL, V.labelsLL, V.labels, zz, zf, zy]; done) | (intro h; simp only [V.labelsL, V.labels, List.mem_append, List.append_nil, List.nil_append, List.not_mem_nil, or_false, false_or] at h; rcases h with h | h <;> first | (have := r0a _ h; omega) | (have := r0b _ h; omega))) (fun W hW hF => by obtain ⟨z0a, zz0a⟩ := farA hW r0a (fun y h1 h2 h => by omega); obtain ⟨z0b, zz0b⟩ := farA hW r0b (fun y h1 h2 h => by omega); have f0 := far0 hW (fun h => by omega); have p0 := fun i o e => hW.ptr (1) i o e (by omega);  have p1 := fun i o e => hW.ptr (2) i o e (by omega); simp only [List.map_cons, List.map_nil, hW.int, hW.str, hW.bool, hW.any, hW.tup0, hW.agg, hW.nilV, hF.ptr, z0a, zz0a, z0b, zz0b, f0, p0, p1, kput] <;> rfl) ?_
  refine OkOps.nil ?_
  refine Ok.seq ?_
  refine Ok.drop [14, 15, 16, 17] (by simp only [kover] <;> rfl) ?_
  refine Ok.region ?_
  refine EV ?_
  refine OkOps.storeN tab_ok rfl rfl (by simp only [kev, ktab, klen, kcv] <;> rfl) ⟨_, _, by simp only [kev]; rfl⟩ (by first | (simp [V.labelsL, V.labelsLL, V.labels, zz, zf, zy]; done) | (intro h; simp only [V.labelsL, V.labels, List.mem_append, List.append_nil, List.nil_append, List.not_mem_nil, or_false, false_or] at h; rcases h with h | h <;> first | (have := r0a _ h; omega) | (have := r0b _ h; omega))) (fun W hW hF => by obtain ⟨z0a, zz0a⟩ := farA hW r0a (fun y h1 h2 h => by omega); obtain ⟨z0b, zz0b⟩ := farA hW r0b (fun y h1 h2 h => by omega); have f0 := far0 hW (fun h => by omega); have p0 := fun i o e => hW.ptr (1) i o e (by omega);  have p2 := fun i o e => hW.ptr (3) i o e (by omega); simp only [List.map_cons, List.map_nil, hW.int, hW.str, hW.bool, hW.any, hW.tup0, hW.agg, hW.nilV, hF.ptr, z0a, zz0a, z0b, zz0b, f0, p0, p2, kput] <;> rfl) ?_
  refine OkOps.nil ?_
  refine Ok.ret ?_
  repeat (first | with_reducible refine thenQ_ret ?_ | with_reducible refine blockQ_ret ?_)
  refine retQ.end (by show resVs tab _ [.cell 2 36] = _; simp only [kev, ktab, klen, kcv] <;> rfl) rfl ?_
  exact ⟨(by simp only [packV, V.erase, V.trav, V.travL, V.travLL, zz, zf, zy, E0a, E0b] <;> rfl), (by intro L hL; simp only [packV, V.labels, V.labelsL, List.append_nil, List.nil_append] at hL; (try rw [List.mem_append] at hL); (try rw [List.mem_append] at hL); rcases hL with hL | hL <;>  first | (have := r0a L hL; omega) | (have := r0b L hL; omega)), (by have n1 := nda; have n2 := ndb; simp only [V.labels, V.labelsL, List.append_nil, List.nil_append] at n1 n2; simp only [packV, V.labels, V.labelsL, List.append_nil, List.nil_append]; rw [List.nodup_append]; exact ⟨n1, n2, fun y hy z hz h => by (have q2 := r0b z hz; first | (have q1 := r0a y hy; omega))⟩)⟩
theorem p_laws_toKept (x : Kept) (h : smKept x) : Pure Tryz.prog 184 [.agg (cKept x)] (.agg (cKept x)) := by
  refine Pure.of (by simp [V.dat, V.datL, V.datLL, zz, zf, zy]) (OkCall.enter' tab_ok Tryz.func184 rfl (t := [.agg (cKept x), .any, .any, .any, .any, .any, .any, .any, .any, .any, .any, .any, .any, .any, .any]) rfl ?_)
  refine Ok.seq (Ok.region ?_)
  iterate 2 (refine EV ?_)
  refine OkOps.nil ?_
  refine Ok.seq (Ok.region ?_)
  refine EV ?_
  refine OkOps.nil ?_
  refine Ok.seq (Ok.region ?_)
  iterate 2 (refine EV ?_)
  obtain ⟨L2a, e2a, L3a, e3a, hXa, q2a, E2a, M2a, N2a, q3a, E3a, M3a, N3a, nda, rga⟩ := ownStore (3) (x.store)
  obtain ⟨ma, hma⟩ : ∃ m, 3 + 1 + V.cnt (.agg (cStore (x.store))) = m + 1 := ⟨3 + V.cnt (.agg (cStore (x.store))), by omega⟩
  have r2a : ∀ z ∈ V.labels (.sl (L2a + 1) 7 0 e2a), 3 + 1 ≤ z ∧ z < ma + 1 := fun z hz => by have := rga z (by first | exact hz | (simp only [V.labelsL, V.labels, List.mem_append] at hz ⊢; simp only [hz, true_or, or_true])); omega
  have r3a : ∀ z ∈ V.labels (.sl (L3a + 1) 1 0 e3a), 3 + 1 ≤ z ∧ z < ma + 1 := fun z hz => by have := rga z (by first | exact hz | (simp only [V.labelsL, V.labels, List.mem_append] at hz ⊢; simp only [hz, true_or, or_true])); omega
  refine OkOps.S' rfl (OpS.pure' rfl (by simp only [kev, ktab, klen, kcv] <;> rfl) (by simp only [kev, ktab, klen, kcv, V.eraseL, V.erase, V.travL, V.trav, zz, zf, zy] <;> rfl) cl10 (by simp [V.dat, V.datL, V.datLL, zz, zf, zy]) (p_laws_toStore x.store h.1)) hma (by simp only [kput, hXa] <;> rfl) ?_
  refine EV ?_
  refine OkOps.storeN tab_ok rfl rfl (by simp only [kev, ktab, klen, kcv] <;> rfl) ⟨_, _, by simp only [kev]; rfl⟩ (by first | (simp [V.labelsL, V.labelsLL, V.labels, zz, zf, zy]; done) | (intro h; simp only [V.labelsL, V.labels, List.mem_append, List.append_nil, List.nil_append, List.not_mem_nil, or_false, false_or] at h; rcases h with h | h <;> first | (have := r2a _ h; omega) | (have := r3a _ h; omega))) (fun W hW hF => by obtain ⟨z2a, zz2a⟩ := farA hW r2a (fun y h1 h2 h => by omega); obtain ⟨z3a, zz3a⟩ := farA hW r3a (fun y h1 h2 h => by omega); have f0 := far0 hW (fun h => by omega); have p0 := fun i o e => hW.ptr (1) i o e (by omega);  have p1 := fun i o e => hW.ptr (2) i o e (by omega); simp only [List.map_cons, List.map_nil, hW.int, hW.str, hW.bool, hW.any, hW.tup0, hW.agg, hW.nilV, hF.ptr, z2a, zz2a, z3a, zz3a, f0, p0, p1, kput] <;> rfl) ?_
  refine OkOps.nil ?_
  refine Ok.seq ?_
  refine Ok.drop [4, 5, 6, 7] (by simp only [kover] <;> rfl) ?_
  refine Ok.region ?_
  iterate 3 (refine EV ?_)
  refine OkOps.storeN tab_ok rfl rfl (by simp only [kev, ktab, klen, kcv] <;> rfl) ⟨_, _, by simp only [kev]; rfl⟩ (by first | (simp [V.labelsL, V.labelsLL, V.labels, zz, zf, zy]; done) | (intro h; simp only [V.labelsL, V.labels, List.mem_append, List.append_nil, List.nil_append, List.not_mem_nil, or_false, false_or] at h; rcases h with h | h <;> first | (have := r2a _ h; omega) | (have := r3a _ h; omega))) (fun W hW hF => by obtain ⟨z2a, zz2a⟩ := farA hW r2a (fun y h1 h2 h => by omega); obtain ⟨z3a, zz3a⟩ := farA hW r3a (fun y h1 h2 h => by omega); have f0 := far0 hW (fun h => by omega); have p0 := fun i o e => hW.ptr (1) i o e (by omega);  have p1 := fun i o e => hW.ptr (2) i o e (by omega); simp only [List.map_cons, List.map_nil, hW.int, hW.str, hW.bool, hW.any, hW.tup0, hW.agg, hW.nilV, hF.ptr, z2a, zz2a, z3a, zz3a, f0, p0, p1, kput] <;> rfl) ?_
  refine OkOps.nil ?_
  refine Ok.seq ?_
  refine Ok.drop [8, 9, 10] (by simp only [kover] <;> rfl) ?_
  refine Ok.region ?_
  iterate 3 (refine EV ?_)
  refine OkOps.storeN tab_ok rfl rfl (by simp only [kev, ktab, klen, kcv] <;> rfl) ⟨_, _, by simp only [kev]; rfl⟩ (by first | (simp [V.labelsL, V.labelsLL, V.labels, zz, zf, zy]; done) | (intro h; simp only [V.labelsL, V.labels, List.mem_append, List.append_nil, List.nil_append, List.not_mem_nil, or_false, false_or] at h; rcases h with h | h <;> first | (have := r2a _ h; omega) | (have := r3a _ h; omega))) (fun W hW hF => by obtain ⟨z2a, zz2a⟩ := farA hW r2a (fun y h1 h2 h => by omega); obtain ⟨z3a, zz3a⟩ := farA hW r3a (fun y h1 h2 h => by omega); have f0 := far0 hW (fun h => by omega); have p0 := fun i o e => hW.ptr (1) i o e (by omega);  have p1 := fun i o e => hW.ptr (2) i o e (by omega); simp only [List.map_cons, List.map_nil, hW.int, hW.str, hW.bool, hW.any, hW.tup0, hW.agg, hW.nilV, hF.ptr, z2a, zz2a, z3a, zz3a, f0, p0, p1, kput] <;> rfl) ?_
  refine OkOps.nil ?_
  refine Ok.seq ?_
  refine Ok.drop [11, 12, 13] (by simp only [kover] <;> rfl) ?_
  refine Ok.region ?_
  refine EV ?_
  refine OkOps.storeN tab_ok rfl rfl (by simp only [kev, ktab, klen, kcv] <;> rfl) ⟨_, _, by simp only [kev]; rfl⟩ (by first | (simp [V.labelsL, V.labelsLL, V.labels, zz, zf, zy]; done) | (intro h; simp only [V.labelsL, V.labels, List.mem_append, List.append_nil, List.nil_append, List.not_mem_nil, or_false, false_or] at h; rcases h with h | h <;> first | (have := r2a _ h; omega) | (have := r3a _ h; omega))) (fun W hW hF => by obtain ⟨z2a, zz2a⟩ := farA hW r2a (fun y h1 h2 h => by omega); obtain ⟨z3a, zz3a⟩ := farA hW r3a (fun y h1 h2 h => by omega); have f0 := far0 hW (fun h => by omega); have p0 := fun i o e => hW.ptr (1) i o e (by omega);  have p2 := fun i o e => hW.ptr (3) i o e (by omega); simp only [List.map_cons, List.map_nil, hW.int, hW.str, hW.bool, hW.any, hW.tup0, hW.agg, hW.nilV, hF.ptr, z2a, zz2a, z3a, zz3a, f0, p0, p2, kput] <;> rfl) ?_
  refine OkOps.nil ?_
  refine Ok.ret ?_
  repeat (first | with_reducible refine thenQ_ret ?_ | with_reducible refine blockQ_ret ?_)
  refine retQ.end (by show resVs tab _ [.cell 2 110] = _; simp only [kev, ktab, klen, kcv] <;> rfl) rfl ?_
  exact ⟨(by simp only [packV, V.erase, V.trav, V.travL, V.travLL, zz, zf, zy, E2a, E3a] <;> rfl), (by intro L hL; simp only [packV, V.labels, V.labelsL, List.append_nil, List.nil_append] at hL; (try rw [List.mem_append] at hL); (try rw [List.mem_append] at hL); rcases hL with hL | hL <;>  first | (have := r2a L hL; omega) | (have := r3a L hL; omega)), (by simp only [packV, V.labels, V.labelsL, List.append_nil, List.nil_append] at nda ⊢; exact nda)⟩
theorem p_laws_toSession (x : Session) (h : smSession x) : Pure Tryz.prog 185 [.agg (cSession x)] (.agg (cSession x)) := by
  refine Pure.of (by simp [V.dat, V.datL, V.datLL, zz, zf, zy]) (OkCall.enter' tab_ok Tryz.func185 rfl (t := [.agg (cSession x), .any, .any, .any, .any, .any, .any, .any, .any, .any, .any, .any, .any, .any, .any, .any, .any, .any, .any, .any, .any, .any, .any, .any]) rfl ?_)
  refine Ok.seq (Ok.region ?_)
  iterate 2 (refine EV ?_)
  refine OkOps.nil ?_
  refine Ok.seq (Ok.region ?_)
  refine EV ?_
  refine OkOps.nil ?_
  refine Ok.seq (Ok.region ?_)
  iterate 3 (refine EV ?_)
  refine OkOps.storeN tab_ok rfl rfl (by simp only [kev, ktab, klen, kcv] <;> rfl) ⟨_, _, by simp only [kev]; rfl⟩ (by first | (simp [V.labelsL, V.labelsLL, V.labels, zz, zf, zy]; done) | (intro h; simp [V.labelsL, V.labels] at h)) (fun W hW hF => by have f0 := far0 hW (fun h => by omega); have p0 := fun i o e => hW.ptr (1) i o e (by omega);  have p1 := fun i o e => hW.ptr (2) i o e (by omega); simp only [List.map_cons, List.map_nil, hW.int, hW.str, hW.bool, hW.any, hW.tup0, hW.agg, hW.nilV, hF.ptr, f0, p0, p1, kput] <;> rfl) ?_
  refine OkOps.nil ?_
  refine Ok.seq ?_
  refine Ok.drop [4, 5, 6] (by simp only [kover] <;> rfl) ?_
  refine Ok.region ?_
  iterate 3 (refine EV ?_)
  refine OkOps.storeN tab_ok rfl rfl (by simp only [kev, ktab, klen, kcv] <;> rfl) ⟨_, _, by simp only [kev]; rfl⟩ (by first | (simp [V.labelsL, V.labelsLL, V.labels, zz, zf, zy]; done) | (intro h; simp [V.labelsL, V.labels] at h)) (fun W hW hF => by have f0 := far0 hW (fun h => by omega); have p0 := fun i o e => hW.ptr (1) i o e (by omega);  have p1 := fun i o e => hW.ptr (2) i o e (by omega); simp only [List.map_cons, List.map_nil, hW.int, hW.str, hW.bool, hW.any, hW.tup0, hW.agg, hW.nilV, hF.ptr, f0, p0, p1, kput] <;> rfl) ?_
  refine OkOps.nil ?_
  refine Ok.seq ?_
  refine Ok.drop [7, 8, 9] (by simp only [kover] <;> rfl) ?_
  refine Ok.region ?_
  iterate 3 (refine EV ?_)
  refine OkOps.storeN tab_ok rfl rfl (by simp only [kev, ktab, klen, kcv] <;> rfl) ⟨_, _, by simp only [kev]; rfl⟩ (by first | (simp [V.labelsL, V.labelsLL, V.labels, zz, zf, zy]; done) | (intro h; simp [V.labelsL, V.labels] at h)) (fun W hW hF => by have f0 := far0 hW (fun h => by omega); have p0 := fun i o e => hW.ptr (1) i o e (by omega);  have p1 := fun i o e => hW.ptr (2) i o e (by omega); simp only [List.map_cons, List.map_nil, hW.int, hW.str, hW.bool, hW.any, hW.tup0, hW.agg, hW.nilV, hF.ptr, f0, p0, p1, kput] <;> rfl) ?_
  refine OkOps.nil ?_
  refine Ok.seq ?_
  refine Ok.drop [10, 11, 12] (by simp only [kover] <;> rfl) ?_
  refine Ok.region ?_
  iterate 3 (refine EV ?_)
  refine OkOps.storeN tab_ok rfl rfl (by simp only [kev, ktab, klen, kcv] <;> rfl) ⟨_, _, by simp only [kev]; rfl⟩ (by first | (simp [V.labelsL, V.labelsLL, V.labels, zz, zf, zy]; done) | (intro h; simp [V.labelsL, V.labels] at h)) (fun W hW hF => by have f0 := far0 hW (fun h => by omega); have p0 := fun i o e => hW.ptr (1) i o e (by omega);  have p1 := fun i o e => hW.ptr (2) i o e (by omega); simp only [List.map_cons, List.map_nil, hW.int, hW.str, hW.bool, hW.any, hW.tup0, hW.agg, hW.nilV, hF.ptr, f0, p0, p1, kput] <;> rfl) ?_
  refine OkOps.nil ?_
  refine Ok.seq ?_
  refine Ok.drop [13, 14, 15] (by simp only [kover] <;> rfl) ?_
  refine Ok.region ?_
  iterate 3 (refine EV ?_)
  refine OkOps.storeN tab_ok rfl rfl (by simp only [kev, ktab, klen, kcv] <;> rfl) ⟨_, _, by simp only [kev]; rfl⟩ (by first | (simp [V.labelsL, V.labelsLL, V.labels, zz, zf, zy]; done) | (intro h; simp [V.labelsL, V.labels] at h)) (fun W hW hF => by have f0 := far0 hW (fun h => by omega); have p0 := fun i o e => hW.ptr (1) i o e (by omega);  have p1 := fun i o e => hW.ptr (2) i o e (by omega); simp only [List.map_cons, List.map_nil, hW.int, hW.str, hW.bool, hW.any, hW.tup0, hW.agg, hW.nilV, hF.ptr, f0, p0, p1, kput] <;> rfl) ?_
  refine OkOps.nil ?_
  refine Ok.seq ?_
  refine Ok.drop [16, 17, 18] (by simp only [kover] <;> rfl) ?_
  refine Ok.region ?_
  iterate 2 (refine EV ?_)
  obtain ⟨L0a, e0a, hXa, q0a, E0a, M0a, N0a, nda, rga⟩ := ownSInt (3) (x.view)
  obtain ⟨ma, hma⟩ : ∃ m, 3 + 1 + V.cnt (.sl 0 1 0 ((x.view).map cZ)) = m + 1 := ⟨3 + V.cnt (.sl 0 1 0 ((x.view).map cZ)), by omega⟩
  have r0a : ∀ z ∈ V.labels (.sl (L0a + 1) 1 0 e0a), 3 + 1 ≤ z ∧ z < ma + 1 := fun z hz => by have := rga z (by first | exact hz | (simp only [V.labelsL, V.labels, List.mem_append] at hz ⊢; simp only [hz, true_or, or_true])); omega
  refine OkOps.S' rfl (OpS.pure' rfl (by simp only [kev, ktab, klen, kcv] <;> rfl) (by simp only [kev, ktab, klen, kcv, V.eraseL, V.erase, V.travL, V.trav, zz, zf, zy] <;> rfl) cl54 (by simp [V.dat, V.datL, V.datLL, zz, zf, zy]) (p_laws_toIntS x.view h.2.2)) hma (by simp only [kput, hXa] <;> rfl) ?_
  refine EV ?_
  refine OkOps.storeN tab_ok rfl rfl (by simp only [kev, ktab, klen, kcv] <;> rfl) ⟨_, _, by simp only [kev]; rfl⟩ (by first | (simp [V.labelsL, V.labelsLL, V.labels, zz, zf, zy]; done) | (intro h; simp only [V.labelsL, V.labels, List.mem_append, List.append_nil, List.nil_append, List.not_mem_nil, or_false, false_or] at h; first | (have := r0a _ h; omega))) (fun W hW hF => by obtain ⟨z0a, zz0a⟩ := farA hW r0a (fun y h1 h2 h => by omega); have f0 := far0 hW (fun h => by omega); have p0 := fun i o e => hW.ptr (1) i o e (by omega);  have p1 := fun i o e => hW.ptr (2) i o e (by omega); simp only [List.map_cons, List.map_nil, hW.int, hW.str, hW.bool, hW.any, hW.tup0, hW.agg, hW.nilV, hF.ptr, z0a, zz0a, f0, p0, p1, kput] <;> rfl) ?_
  refine OkOps.nil ?_
  refine Ok.seq ?_
  refine Ok.drop [19, 20, 21, 22] (by simp only [kover] <;> rfl) ?_
  refine Ok.region ?_
  refine EV ?_
  refine OkOps.storeN tab_ok rfl rfl (by simp only [kev, ktab, klen, kcv] <;> rfl) ⟨_, _, by simp only [kev]; rfl⟩ (by first | (simp [V.labelsL, V.labelsLL, V.labels, zz, zf, zy]; done) | (intro h; simp only [V.labelsL, V.labels, List.mem_append, List.append_nil, List.nil_append, List.not_mem_nil, or_false, false_or] at h; first | (have := r0a _ h; omega))) (fun W hW hF => by obtain ⟨z0a, zz0a⟩ := farA hW r0a (fun y h1 h2 h => by omega); have f0 := far0 hW (fun h => by omega); have p0 := fun i o e => hW.ptr (1) i o e (by omega);  have p2 := fun i o e => hW.ptr (3) i o e (by omega); simp only [List.map_cons, List.map_nil, hW.int, hW.str, hW.bool, hW.any, hW.tup0, hW.agg, hW.nilV, hF.ptr, z0a, zz0a, f0, p0, p2, kput] <;> rfl) ?_
  refine OkOps.nil ?_
  refine Ok.ret ?_
  repeat (first | with_reducible refine thenQ_ret ?_ | with_reducible refine blockQ_ret ?_)
  refine retQ.end (by show resVs tab _ [.cell 2 112] = _; simp only [kev, ktab, klen, kcv] <;> rfl) rfl ?_
  exact ⟨(by simp only [packV, V.erase, V.trav, V.travL, V.travLL, zz, zf, zy, E0a] <;> rfl), (by intro L hL; simp only [packV, V.labels, V.labelsL, List.append_nil, List.nil_append] at hL;  first | (have := r0a L hL; omega)), (by simp only [packV, V.labels, V.labelsL, List.append_nil, List.nil_append] at nda ⊢; exact nda)⟩
theorem p_laws_toServer (x : Server) (h : smServer x) : Pure Tryz.prog 134 [.agg (cServer x)] (.agg (cServer x)) := by
  refine Pure.of (by simp [V.dat, V.datL, V.datLL, zz, zf, zy]) (OkCall.enter' tab_ok Tryz.func134 rfl (t := [.agg (cServer x), .any, .any, .any, .any, .any, .any, .any, .any, .any, .any, .any, .any, .any, .any, .any]) rfl ?_)
  refine Ok.seq (Ok.region ?_)
  iterate 2 (refine EV ?_)
  refine OkOps.nil ?_
  refine Ok.seq (Ok.region ?_)
  refine EV ?_
  refine OkOps.nil ?_
  refine Ok.seq (Ok.region ?_)
  iterate 2 (refine EV ?_)
  obtain ⟨L2a, e2a, L3a, e3a, hXa, q2a, E2a, M2a, N2a, q3a, E3a, M3a, N3a, nda, rga⟩ := ownKept (3) (x.kept)
  obtain ⟨ma, hma⟩ : ∃ m, 3 + 1 + V.cnt (.agg (cKept (x.kept))) = m + 1 := ⟨3 + V.cnt (.agg (cKept (x.kept))), by omega⟩
  have r2a : ∀ z ∈ V.labels (.sl (L2a + 1) 7 0 e2a), 3 + 1 ≤ z ∧ z < ma + 1 := fun z hz => by have := rga z (by first | exact hz | (simp only [V.labelsL, V.labels, List.mem_append] at hz ⊢; simp only [hz, true_or, or_true])); omega
  have r3a : ∀ z ∈ V.labels (.sl (L3a + 1) 1 0 e3a), 3 + 1 ≤ z ∧ z < ma + 1 := fun z hz => by have := rga z (by first | exact hz | (simp only [V.labelsL, V.labels, List.mem_append] at hz ⊢; simp only [hz, true_or, or_true])); omega
  refine OkOps.S' rfl (OpS.pure' rfl (by simp only [kev, ktab, klen, kcv] <;> rfl) (by simp only [kev, ktab, klen, kcv, V.eraseL, V.erase, V.travL, V.trav, zz, zf, zy] <;> rfl) cl184 (by simp [V.dat, V.datL, V.datLL, zz, zf, zy]) (p_laws_toKept x.kept h.1)) hma (by simp only [kput, hXa] <;> rfl) ?_
  refine EV ?_
  refine OkOps.storeN tab_ok rfl rfl (by simp only [kev, ktab, klen, kcv] <;> rfl) ⟨_, _, by simp only [kev]; rfl⟩ (by first | (simp [V.labelsL, V.labelsLL, V.labels, zz, zf, zy]; done) | (intro h; simp only [V.labelsL, V.labels, List.mem_append, List.append_nil, List.nil_append, List.not_mem_nil, or_false, false_or] at h; rcases h with h | h <;> first | (have := r2a _ h; omega) | (have := r3a _ h; omega))) (fun W hW hF => by obtain ⟨z2a, zz2a⟩ := farA hW r2a (fun y h1 h2 h => by omega); obtain ⟨z3a, zz3a⟩ := farA hW r3a (fun y h1 h2 h => by omega); have f0 := far0 hW (fun h => by omega); have p0 := fun i o e => hW.ptr (1) i o e (by omega);  have p1 := fun i o e => hW.ptr (2) i o e (by omega); simp only [List.map_cons, List.map_nil, hW.int, hW.str, hW.bool, hW.any, hW.tup0, hW.agg, hW.nilV, hF.ptr, z2a, zz2a, z3a, zz3a, f0, p0, p1, kput] <;> rfl) ?_
  refine OkOps.nil ?_
  refine Ok.seq ?_
  refine Ok.drop [4, 5, 6, 7] (by simp only [kover] <;> rfl) ?_
  refine Ok.region ?_
  iterate 2 (refine EV ?_)
  obtain ⟨L5b, e5b, hXb, q5b, E5b, M5b, N5b, ndb, rgb⟩ := ownSession (ma) (x.session)
  obtain ⟨mb, hmb⟩ : ∃ m, ma + 1 + V.cnt (.agg (cSession (x.session))) = m + 1 := ⟨ma + V.cnt (.agg (cSession (x.session))), by omega⟩
  have r5b : ∀ z ∈ V.labels (.sl (L5b + 1) 1 0 e5b), ma + 1 ≤ z ∧ z < mb + 1 := fun z hz => by have := rgb z (by first | exact hz | (simp only [V.labelsL, V.labels, List.mem_append] at hz ⊢; simp only [hz, true_or, or_true])); omega
  refine OkOps.S' rfl (OpS.pure' rfl (by simp only [kev, ktab, klen, kcv] <;> rfl) (by simp only [kev, ktab, klen, kcv, E2a, M2a, N2a, E3a, M3a, N3a, V.eraseL, V.erase, V.travL, V.trav, zz, zf, zy] <;> rfl) cl185 (by simp [V.dat, V.datL, V.datLL, zz, zf, zy]) (p_laws_toSession x.session h.2)) hmb (by simp only [kput, hXb] <;> rfl) ?_
  refine EV ?_
  refine OkOps.storeN tab_ok rfl rfl (by simp only [kev, ktab, klen, kcv] <;> rfl) ⟨_, _, by simp only [kev]; rfl⟩ (by first | (simp [V.labelsL, V.labelsLL, V.labels, zz, zf, zy]; done) | (intro h; simp only [V.labelsL, V.labels, List.mem_append, List.append_nil, List.nil_append, List.not_mem_nil, or_false, false_or] at h; rcases h with h | h | h <;> first | (have := r2a _ h; omega) | (have := r3a _ h; omega) | (have := r5b _ h; omega))) (fun W hW hF => by obtain ⟨z2a, zz2a⟩ := farA hW r2a (fun y h1 h2 h => by omega); obtain ⟨z3a, zz3a⟩ := farA hW r3a (fun y h1 h2 h => by omega); obtain ⟨z5b, zz5b⟩ := farA hW r5b (fun y h1 h2 h => by omega); have f0 := far0 hW (fun h => by omega); have p0 := fun i o e => hW.ptr (1) i o e (by omega);  have p1 := fun i o e => hW.ptr (2) i o e (by omega); simp only [List.map_cons, List.map_nil, hW.int, hW.str, hW.bool, hW.any, hW.tup0, hW.agg, hW.nilV, hF.ptr, z2a, zz2a, z3a, zz3a, z5b, zz5b, f0, p0, p1, kput] <;> rfl) ?_
  refine OkOps.nil ?_
  refine Ok.seq ?_
  refine Ok.drop [8, 9, 10, 11] (by simp only [kover] <;> rfl) ?_
  refine Ok.region ?_
  iterate 3 (refine EV ?_)
  refine OkOps.storeN tab_ok rfl rfl (by simp only [kev, ktab, klen, kcv] <;> rfl) ⟨_, _, by simp only [kev]; rfl⟩ (by first | (simp [V.labelsL, V.labelsLL, V.labels, zz, zf, zy]; done) | (intro h; simp only [V.labelsL, V.labels, List.mem_append, List.append_nil, List.nil_append, List.not_mem_nil, or_false, false_or] at h; rcases h with h | h | h <;> first | (have := r2a _ h; omega) | (have := r3a _ h; omega) | (have := r5b _ h; omega))) (fun W hW hF => by obtain ⟨z2a, zz2a⟩ := farA hW r2a (fun y h1 h2 h => by omega); obtain ⟨z3a, zz3a⟩ := farA hW r3a (fun y h1 h2 h => by omega); obtain ⟨z5b, zz5b⟩ := farA hW r5b (fun y h1 h2 h => by omega); have f0 := far0 hW (fun h => by omega); have p0 := fun i o e => hW.ptr (1) i o e (by omega);  have p1 := fun i o e => hW.ptr (2) i o e (by omega); simp only [List.map_cons, List.map_nil, hW.int, hW.str, hW.bool, hW.any, hW.tup0, hW.agg, hW.nilV, hF.ptr, z2a, zz2a, z3a, zz3a, z5b, zz5b, f0, p0, p1, kput] <;> rfl) ?_
  refine OkOps.nil ?_
  refine Ok.seq ?_
  refine Ok.drop [12, 13, 14] (by simp only [kover] <;> rfl) ?_
  refine Ok.region ?_
  refine EV ?_
  refine OkOps.storeN tab_ok rfl rfl (by simp only [kev, ktab, klen, kcv] <;> rfl) ⟨_, _, by simp only [kev]; rfl⟩ (by first | (simp [V.labelsL, V.labelsLL, V.labels, zz, zf, zy]; done) | (intro h; simp only [V.labelsL, V.labels, List.mem_append, List.append_nil, List.nil_append, List.not_mem_nil, or_false, false_or] at h; rcases h with h | h | h <;> first | (have := r2a _ h; omega) | (have := r3a _ h; omega) | (have := r5b _ h; omega))) (fun W hW hF => by obtain ⟨z2a, zz2a⟩ := farA hW r2a (fun y h1 h2 h => by omega); obtain ⟨z3a, zz3a⟩ := farA hW r3a (fun y h1 h2 h => by omega); obtain ⟨z5b, zz5b⟩ := farA hW r5b (fun y h1 h2 h => by omega); have f0 := far0 hW (fun h => by omega); have p0 := fun i o e => hW.ptr (1) i o e (by omega);  have p2 := fun i o e => hW.ptr (3) i o e (by omega); simp only [List.map_cons, List.map_nil, hW.int, hW.str, hW.bool, hW.any, hW.tup0, hW.agg, hW.nilV, hF.ptr, z2a, zz2a, z3a, zz3a, z5b, zz5b, f0, p0, p2, kput] <;> rfl) ?_
  refine OkOps.nil ?_
  refine Ok.ret ?_
  repeat (first | with_reducible refine thenQ_ret ?_ | with_reducible refine blockQ_ret ?_)
  refine retQ.end (by show resVs tab _ [.cell 2 114] = _; simp only [kev, ktab, klen, kcv] <;> rfl) rfl ?_
  exact ⟨(by simp only [packV, V.erase, V.trav, V.travL, V.travLL, zz, zf, zy, E2a, E3a, E5b] <;> rfl), (by intro L hL; simp only [packV, V.labels, V.labelsL, List.append_nil, List.nil_append] at hL; (try rw [List.mem_append] at hL); (try rw [List.mem_append] at hL); rcases hL with hL | hL | hL <;>  first | (have := r2a L hL; omega) | (have := r3a L hL; omega) | (have := r5b L hL; omega)), (by have n1 := nda; have n2 := ndb; simp only [V.labels, V.labelsL, List.append_nil, List.nil_append] at n1 n2; simp only [packV, V.labels, V.labelsL, List.append_nil, List.nil_append]; rw [← List.append_assoc]; rw [List.nodup_append]; exact ⟨n1, n2, fun y hy z hz h => by rcases List.mem_append.1 hy with hy | hy <;> (have q2 := r5b z hz; first | (have q1 := r2a y hy; omega) | (have q1 := r3a y hy; omega))⟩)⟩
end Go.Proofs.YtjhfabimacljhaaGreat.K

/- A link as data of the call's own. Printed by genlink.py. -/
namespace Go.Proofs.YtjhfabimacljhaaGreat.K
open Go Go.RowKit
set_option linter.unusedVariables false
set_option linter.unusedSimpArgs false
theorem ownLink (n : Nat) (x : Link) : ∃ (L1 : Nat) (e1 : List (List V)), V.tag (n + 1) (.agg (cLink x)) = .agg [.int .i64 x.epoch, .sl (L1 + 1) 1 0 e1, .int .i64 x.next, .int .i64 x.want] ∧ (∀ r ∈ e1, isText r) ∧ V.travLL (fun sz => V.sl 0 sz 0 []) (fun _ sz _ es => V.sl 0 sz 0 es) (fun _ _ o e => V.ptr 0 0 o e) e1 = x.way.map cS ∧ (∀ K, V.travLL (fun sz => V.sl 0 sz 0 []) (fun _ sz _ es => V.sl 0 sz 0 es) (fun _ _ o e => V.ptr 0 0 o e) (V.mkLL K e1) = V.mkLL K (x.way.map cS)) ∧ V.mnLL e1 = V.mnLL (x.way.map cS) ∧ (V.labelsL [.int .i64 x.epoch, .sl (L1 + 1) 1 0 e1, .int .i64 x.next, .int .i64 x.want]).Nodup ∧ (∀ z ∈ V.labelsL [.int .i64 x.epoch, .sl (L1 + 1) 1 0 e1, .int .i64 x.next, .int .i64 x.want], n + 1 ≤ z ∧ z < n + 1 + V.cnt (.agg (cLink x))) := by
  have hX : V.tagL (n + 1) (cLink x) = [.int .i64 x.epoch, .sl (n + 1) 1 0 (V.tagLL (n + 1 + 1) (x.way.map cS)), .int .i64 x.next, .int .i64 x.want] := by
    simp only [cLink, V.tagL, V.tag, V.cnt, Nat.add_zero]
  have hl := tagL_labels (cLink x) (n + 1)
  rw [hX] at hl
  have q1 := fun r hr => own_string x.way (n + 1) r hr
  have d1 := erase_tagd (es := V.tagLL (n + 1 + 1) (x.way.map cS)) (n := n + 1 + 1) (by simp [zz, zf, zy]) (by simp [V.eraseLL, zz, zf, zy]) rfl (fun r hr => pl_string (q1 r hr))
  have m1 := mnLL_erase (V.tagLL (n + 1 + 1) (x.way.map cS))
  rw [show V.eraseLL (V.tagLL (n + 1 + 1) (x.way.map cS)) = x.way.map cS from d1.1] at m1
  refine ⟨n, _, congrArg V.agg hX, q1, d1.1, d1.2, m1.symm, ?_, ?_⟩
  · rw [hl]; exact List.nodup_range'
  · intro z hz; rw [hl, List.mem_range'_1] at hz; exact hz
end Go.Proofs.YtjhfabimacljhaaGreat.K
