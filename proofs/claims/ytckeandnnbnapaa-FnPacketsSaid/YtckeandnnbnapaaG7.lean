/- Steps of the chain of a region that draws its order. -/
import Derived.Test.YtckeandnnbnapaaG6
import Derived.Test.YtckeandnnbnapaaG5
import Derived.Test.YtckeandnnbnapaaG4
import Derived.Test.YtckeandnnbnapaaG2
namespace Go.Proofs.Ytckeandnnbnapaa.K
open Go Go.RowKit
set_option linter.unusedVariables false
set_option linter.unusedSimpArgs false
section
variable {P : Program} {ti : Tab} {n n' : Nat} {t t' h h' : List V} {Q : Exit → List V → List V → Nat → Prop} {ops : Array Oper} {o : Oper} {i : Nat} {la hs : List Nat} {rest : List Stg}
theorem OpT.updF {fx : Operand} {args : Array Operand} {ts : Array TypeId} {f : FuncId} {caps ags : List V} {L j k : Nat} {e' : List V} {x : V} (ho : o.op = .call ⟨.value fx, args, ts⟩) (hf : opnd t fx = .fn f caps) (ha : args.toList.map (opnd t) ++ caps = ags)
    (hcl : Callable P f) (h1 : Ahd n t) (h2 : Ahd n h) (hc : ∀ h, Ahd n h → OkCall P f ags h n fun r h1 n1 => r = x ∧ h1 = V.updL L j e' h ∧ n1 = n + k) : OpT P ops o t h n (putV (V.updL L j e' t) o.dst x) (V.updL L j e' h) (n + k) := by
  intro f' hf' hd
  have e1 : opnd (maskP f' 0 t) fx = opnd t fx := opnd_maskP (by rw [ho]; simp [Op.operands, Call.operands]) hf'
  have e2 : args.toList.map (opnd (maskP f' 0 t)) = args.toList.map (opnd t) := List.map_congr_left fun x hx => opnd_maskP (by rw [ho]; simp only [Op.operands, Call.operands, Array.toList_append, List.mem_append]; exact .inr hx) hf'
  have e3 : maskP f' 0 (V.updL L j e' t) = V.updL L j e' (maskP f' 0 t) := by
    unfold V.updL
    rw [travL_eq, travL_eq]
    exact maskP_map f' _ rfl t 0
  rw [← maskP_put hd, e3]
  refine OpOk.call ho (e1.trans hf) hcl ?_ ?_
  · unfold V.updL; rw [travL_len]
  · rw [e2, ha]
    refine (hc (maskP f' 0 t ++ h) ((maskP_ahd h1).app h2)).mono ?_
    rintro r h1 n1 ⟨rfl, rfl, rfl⟩
    exact ⟨rfl, by unfold V.updL; rw [travL_eq, travL_eq, travL_eq, List.map_append], rfl⟩
theorem Pend.updF {fx : Operand} {args : Array Operand} {ts : Array TypeId} {f : FuncId} {caps ags : List V} {L j k : Nat} {e' : List V} {x : V} (hb : ops[i]? = some o) (hg : o.guard = none) (ho : o.op = .call ⟨.value fx, args, ts⟩) (hf : opnd t fx = .fn f caps) (ha : args.toList.map (opnd t) ++ caps = ags)
    (hcl : Callable P f) (h1 : Ahd n t) (h2 : Ahd n h) (hc : ∀ h, Ahd n h → OkCall P f ags h n fun r h1 n1 => r = x ∧ h1 = V.updL L j e' h ∧ n1 = n + k) (hn : n + k = n') (ht : putV (V.updL L j e' t) o.dst x = t') (hh : V.updL L j e' h = h')
    (hk : SOps P ops (ixs ops hs) t' n' fun t2 n2 => LateOk P ops t2 la ∧ Pend P ops Q rest t2 h' n2) : Pend P ops Q ((i, la, hs) :: rest) t h n := by
  refine Pend.step hb hg ?_ (ht ▸ hh ▸ hn ▸ OpT.updF ho hf ha hcl h1 h2 hc) hk
  rw [← ht]
  have : (V.updL L j e' t).length = t.length := by unfold V.updL; rw [travL_len]
  cases o.dst <;> simp [putV, this]
theorem Pend.store {T : TypeId} {p x : Operand} {L j : Nat} {e' : List V} (hti : TabOk P ti) (hb : ops[i]? = some o) (hg : o.guard = none) (hdst : o.dst = none) (ho : o.op = .store T p x) (hs' : Go.Proofs.Ytckeandnnbnapaa.K.storeE (ti T) (opnd t p) (opnd t x) = some (L, j, e')) (hc : ∃ y l, cellsV (opnd t x) = y :: l) (hfree : L ∉ V.labelsL e')
    (ht : V.updL L j e' t = t') (hh : V.updL L j e' h = h') (hk : SOps P ops (ixs ops hs) t' n fun t2 n2 => LateOk P ops t2 la ∧ Pend P ops Q rest t2 h' n2) : Pend P ops Q ((i, la, hs) :: rest) t h n :=
  Pend.step hb hg (by rw [← ht]; unfold V.updL; rw [travL_len]) (ht ▸ hh ▸ OpT.store hti hdst ho hs' hc hfree) hk
end
end Go.Proofs.Ytckeandnnbnapaa.K

/- Walks: texts spoilt, packets and links drawn. Printed by w2.py. -/
namespace Go.Proofs.Ytckeandnnbnapaa.K
open Go Go.RowKit
set_option linter.unusedVariables false
set_option linter.unusedSimpArgs false
set_option maxHeartbeats 800000
set_option maxRecDepth 20000
theorem c_spec_l02Spoilt (c : Cur) (s : Str) (L : Nat) (hb : c.b.length ≤ 4611686018427387904) (hs : s.length ≤ 100000) {h : List V} {n : Nat} (hlt : Ahd n h) (hL : L + 1 < n) : OkCall Try.prog 34 [.ptr (L + 1) 0 0 (cCur c), .str s] h n (fun r h1 n1 => r = .str (spoilt c s).1 ∧ h1 = V.updL (L + 1) 0 (cCur (spoilt c s).2) h ∧ n1 = n + 2) := by
 have nq01 : ((L + 1 : Nat) = n) = False := eq_false (by omega)
 have nq02 : ((L + 1 : Nat) = 0) = False := eq_false (by omega)
 have nq10 : ((n : Nat) = L + 1) = False := eq_false (by omega)
 have nq12 : ((n : Nat) = 0) = False := eq_false (by omega)
 have nq20 : ((0 : Nat) = L + 1) = False := eq_false (by omega)
 have nq21 : ((0 : Nat) = n) = False := eq_false (by omega)
 refine OkCall.enter' tab_ok Try.func34 rfl (t := [.ptr (L + 1) 0 0 (cCur c), .str s, .any, .any, .any, .any, .any, .any, .any, .any, .any, .any, .any, .any, .any, .any, .any, .any, .any, .any, .any, .any, .any, .any, .any, .any, .any, .any, .any, .any, .any, .any, .any, .any, .any, .any, .any, .any, .any, .any, .any, .any, .any, .any, .any]) rfl ?_
 refine OQ ?_
 refine EV ?_
 refine ON ?_
 refine Ok.seq ?_
 refine OQ ?_
 refine EV ?_
 refine OkOps.upd rfl rfl (by simp only [kE, kT, kL, kC] <;> rfl) (by simp only [kE, kT, kL, kC] <;> rfl) cl32 (fun h => c_spec_l01Below c 12 L hb (by decide)) (by simp only [eq_self, V.updL, V.travL, V.travLL, V.trav, updS, updP, and_self, true_and, and_true, false_and, and_false, Nat.reduceEqDiff, Nat.reduceSub, Nat.le_refl, Nat.zero_le, ↓reduceIte, if_true, if_false, kP, zz, nq01, nq02, nq10, nq12, nq20, nq21] <;> rfl) (rfl) ?_
 refine ON ?_
 refine Ok.block ?_
 refine OQ ?_
 iterate 2 (refine EV ?_)
 refine ON ?_
 refine Ok.cond (b := _) (by simp only [kE, kT, kL, kC] <;> rfl) (fun hb2 => ?_) (fun hb2 => ?_)
 ·
  try simp only [bsimp] at hb2
  have e := spoilt_0 (c := c) (s := s) (by omega)
  rw [e]
  refine OQ ?_
  iterate 2 (refine EV ?_)
  refine OkOps.updF (k := 2) rfl rfl (by simp only [kE, kT, kL, kC] <;> rfl) (by simp only [kE, kT, kL, kC] <;> rfl) cl56 (by intro y hy; simp [V.labelsL, V.labels, V.labelsLL, zz] at hy; omega) (by repeat (first | exact hlt | exact hlt.mono (by omega) | refine Ahd.upd ?_ (Ahd.cur (by omega) _))) (fun h hlt => c_spec_l01Text (curBelow c 12).2 L (by simp only [curBelow_b, pickS_b, pickI_b, pack0_b, linkGo_b, packD_b, linkD_b, byteD_b]; exact hb) hlt hL) (by first | rfl | (simp only [Nat.add_zero, Nat.reduceAdd] <;> rfl)) (by simp only [eq_self, V.updL, V.travL, V.travLL, V.trav, updS, updP, and_self, true_and, and_true, false_and, and_false, Nat.reduceEqDiff, Nat.reduceSub, Nat.le_refl, Nat.zero_le, ↓reduceIte, if_true, if_false, kP, zz, nq01, nq02, nq10, nq12, nq20, nq21] <;> rfl) (rfl) ?_
  refine OkOps.ev tab_ok rfl (ev_cat (by simp only [kE, kT, kL, kC] <;> rfl) (by simp only [kE, kT, kL, kC] <;> rfl) (by first | omega | (simp only [byteD_len, List.length_append, List.length_take, List.length_drop]; omega))) (by simp only [kP] <;> rfl) ?_
  refine EV ?_
  refine ON ?_
  refine Ok.ret ?_
  with_reducible repeat (first | refine thenQ_ret ?_ | refine blockQ_ret ?_)
  refine RT ?_
  first | exact ⟨rfl, rfl, rfl⟩ | exact ⟨rfl, by repeat rw [upd_twice (by simp [V.travL, V.trav, updS, zz])], rfl⟩
 ·
  try simp only [bsimp] at hb2
  have w0 : ¬ (curBelow c 12).1 = 0 := by omega
  refine OQ ?_
  iterate 2 (refine EV ?_)
  refine ON ?_
  refine Ok.cond (b := _) (by simp only [kE, kT, kL, kC] <;> rfl) (fun hb4 => ?_) (fun hb4 => ?_)
  ·
   try simp only [bsimp] at hb4
   have e := spoilt_1 (c := c) (s := s) (by omega)
   rw [e]
   refine Ok.seq ?_
   refine Ok.bump (n' := n + 2) (by omega) ?_
   have hq := curBelow_lt (c := (curBelow c 12).2) (n := s.length + 1) (by omega)
   refine Ok.region ?_
   iterate 4 (refine EV ?_)
   refine OkOps.ev tab_ok rfl (by simp only [kE, kT, kL, kC, wrap_succ (show s.length < 9223372036854775807 by omega)] <;> rfl) (by simp only [kP] <;> rfl) ?_
   refine OkOps.upd rfl rfl (by simp only [kE, kT, kL, kC] <;> rfl) (by simp only [kE, kT, kL, kC] <;> rfl) cl32 (fun h => c_spec_l01Below (curBelow c 12).2 (s.length + 1) L (by simp only [curBelow_b, pickS_b, pickI_b, pack0_b, linkGo_b, packD_b, linkD_b, byteD_b]; exact hb) (by omega)) (by simp only [eq_self, V.updL, V.travL, V.travLL, V.trav, updS, updP, and_self, true_and, and_true, false_and, and_false, Nat.reduceEqDiff, Nat.reduceSub, Nat.le_refl, Nat.zero_le, ↓reduceIte, if_true, if_false, kP, zz, nq01, nq02, nq10, nq12, nq20, nq21] <;> rfl) (rfl) ?_
   refine OkOps.ev tab_ok rfl (ev_cutHi (by simp only [kE, kT, kL, kC] <;> rfl) (by simp only [kE, kT, kL, kC] <;> rfl) rfl (by omega)) (by simp only [kP] <;> rfl) ?_
   refine EV ?_
   refine ON ?_
   refine Ok.ret ?_
   with_reducible repeat (first | refine thenQ_ret ?_ | refine blockQ_ret ?_)
   refine RT ?_
   first | exact ⟨rfl, rfl, rfl⟩ | exact ⟨rfl, by repeat rw [upd_twice (by simp [V.travL, V.trav, updS, zz])], rfl⟩
  ·
   try simp only [bsimp] at hb4
   have w1 : ¬ (curBelow c 12).1 = 1 := by omega
   refine Ok.seq ?_
   refine OQ ?_
   iterate 2 (refine EV ?_)
   refine ON ?_
   refine Ok.cond (b := _) (by simp only [kE, kT, kL, kC] <;> rfl) (fun hb6 => ?_) (fun hb6 => ?_)
   ·
    try simp only [bsimp] at hb6
    refine Ok.skip ?_
    refine Ok.cond (b := _) (by simp only [kE, kT, kL, kC] <;> rfl) (fun hb6 => ?_) (fun hb6 => ?_)
    ·
     try simp only [bsimp] at hb6
     refine OQ ?_
     iterate 3 (refine EV ?_)
     refine ON ?_
     refine Ok.cond (b := _) (by simp only [kE, kT, kL, kC] <;> rfl) (fun hb8 => ?_) (fun hb8 => ?_)
     ·
      try simp only [bsimp] at hb8
      have e := spoilt_2 (c := c) (s := s) (by omega) (by omega)
      rw [e]
      refine Ok.seq ?_
      have hq := curBelow_lt (c := (curBelow c 12).2) (n := s.length) (by omega)
      refine Ok.region ?_
      iterate 3 (refine EV ?_)
      refine OkOps.upd rfl rfl (by simp only [kE, kT, kL, kC] <;> rfl) (by simp only [kE, kT, kL, kC] <;> rfl) cl32 (fun h => c_spec_l01Below (curBelow c 12).2 s.length L (by simp only [curBelow_b, pickS_b, pickI_b, pack0_b, linkGo_b, packD_b, linkD_b, byteD_b]; exact hb) (by omega)) (by simp only [eq_self, V.updL, V.travL, V.travLL, V.trav, updS, updP, and_self, true_and, and_true, false_and, and_false, Nat.reduceEqDiff, Nat.reduceSub, Nat.le_refl, Nat.zero_le, ↓reduceIte, if_true, if_false, kP, zz, nq01, nq02, nq10, nq12, nq20, nq21] <;> rfl) (rfl) ?_
      refine EV ?_
      refine ON ?_
      refine Ok.seq ?_
      refine Ok.stages 45 [0, 1, 2, 3, 6, 7, 8, 9] [(4, [0, 1, 2, 6, 7, 8, 9], [5, 10, 11])] (by kernel_rfl) (by kernel_rfl) rfl ?_
      simp only [ixs, List.getElem?_toArray, List.getElem?_cons_zero, List.getElem?_cons_succ]
      iterate 2 (refine SV ?_)
      refine SOps.ev tab_ok rfl (ev_cutHi (by simp only [kE, kT, kL, kC] <;> rfl) (by simp only [kE, kT, kL, kC] <;> rfl) rfl (by omega)) (by simp only [kP] <;> rfl) ?_
      iterate 3 (refine SV ?_)
      refine SOps.ev tab_ok rfl (by simp only [kE, kT, kL, kC, wrap_succ (show (curBelow (curBelow c 12).2 s.length).1 < 9223372036854775807 by omega)] <;> rfl) (by simp only [kP] <;> rfl) ?_
      refine SOps.ev tab_ok rfl (ev_cutLo (by simp only [kE, kT, kL, kC] <;> rfl) (by simp only [kE, kT, kL, kC] <;> rfl) rfl (by omega)) (by simp only [kP] <;> rfl) ?_
      refine SOps.nil ?_
      refine Pend.updF (k := 2) (by simp only [List.getElem?_toArray, List.getElem?_cons_zero, List.getElem?_cons_succ] <;> rfl) (by rfl) (by rfl) (by simp only [kE, kT, kL, kC] <;> rfl) (by simp only [kE, kT, kL, kC] <;> rfl) cl56 (by intro y hy; simp [V.labelsL, V.labels, V.labelsLL, zz] at hy; omega) (by repeat (first | exact hlt | exact hlt.mono (by omega) | refine Ahd.upd ?_ (Ahd.cur (by omega) _))) (fun h hlt => c_spec_l01Text (curBelow (curBelow c 12).2 s.length).2 L (by simp only [curBelow_b, pickS_b, pickI_b, pack0_b, linkGo_b, packD_b, linkD_b, byteD_b]; exact hb) hlt hL) (by first | rfl | (simp only [Nat.add_zero, Nat.reduceAdd] <;> rfl)) (by simp only [eq_self, V.updL, V.travL, V.travLL, V.trav, updS, updP, and_self, true_and, and_true, false_and, and_false, Nat.reduceEqDiff, Nat.reduceSub, Nat.le_refl, Nat.zero_le, ↓reduceIte, if_true, if_false, kP, zz, nq01, nq02, nq10, nq12, nq20, nq21] <;> rfl) (rfl) ?_
      simp only [ixs, List.getElem?_toArray, List.getElem?_cons_zero, List.getElem?_cons_succ]
      refine SOps.ev tab_ok rfl (ev_cat (by simp only [kE, kT, kL, kC] <;> rfl) (by simp only [kE, kT, kL, kC] <;> rfl) (by first | omega | (simp only [byteD_len, List.length_append, List.length_take, List.length_drop]; omega))) (by simp only [kP] <;> rfl) ?_
      refine SOps.ev tab_ok rfl (ev_cat (by simp only [kE, kT, kL, kC] <;> rfl) (by simp only [kE, kT, kL, kC] <;> rfl) (by first | omega | (simp only [byteD_len, List.length_append, List.length_take, List.length_drop]; omega))) (by simp only [kP] <;> rfl) ?_
      refine SV ?_
      refine SOps.nil ⟨(LateOk.cons (i := 0) tab_ok (by rfl) (by rfl) (by (try simp only [List.getElem_toArray, List.getElem_cons_succ, List.getElem_cons_zero]); exact (by simp only [kE, kT, kL, kC] <;> rfl)) (by show nth _ 33 = _; simp only [kE, kT, kL, kC] <;> rfl) (LateOk.cons (i := 1) tab_ok (by rfl) (by rfl) (by (try simp only [List.getElem_toArray, List.getElem_cons_succ, List.getElem_cons_zero]); exact (by simp only [kE, kT, kL, kC] <;> rfl)) (by show nth _ 34 = _; simp only [kE, kT, kL, kC] <;> rfl) (LateOk.cons (i := 2) tab_ok (by rfl) (by rfl) (by (try simp only [List.getElem_toArray, List.getElem_cons_succ, List.getElem_cons_zero]); exact (ev_cutHi (by simp only [kE, kT, kL, kC] <;> rfl) (by simp only [kE, kT, kL, kC] <;> rfl) rfl (by omega))) (by show nth _ 35 = _; simp only [kE, kT, kL, kC] <;> rfl) (LateOk.cons (i := 6) tab_ok (by rfl) (by rfl) (by (try simp only [List.getElem_toArray, List.getElem_cons_succ, List.getElem_cons_zero]); exact (by simp only [kE, kT, kL, kC] <;> rfl)) (by show nth _ 39 = _; simp only [kE, kT, kL, kC] <;> rfl) (LateOk.cons (i := 7) tab_ok (by rfl) (by rfl) (by (try simp only [List.getElem_toArray, List.getElem_cons_succ, List.getElem_cons_zero]); exact (by simp only [kE, kT, kL, kC] <;> rfl)) (by show nth _ 40 = _; simp only [kE, kT, kL, kC] <;> rfl) (LateOk.cons (i := 8) tab_ok (by rfl) (by rfl) (by (try simp only [List.getElem_toArray, List.getElem_cons_succ, List.getElem_cons_zero]); exact (by simp only [kE, kT, kL, kC, wrap_succ (show (curBelow (curBelow c 12).2 s.length).1 < 9223372036854775807 by omega)] <;> rfl)) (by show nth _ 41 = _; simp only [kE, kT, kL, kC, wrap_succ (show (curBelow (curBelow c 12).2 s.length).1 < 9223372036854775807 by omega)] <;> rfl) (LateOk.cons (i := 9) tab_ok (by rfl) (by rfl) (by (try simp only [List.getElem_toArray, List.getElem_cons_succ, List.getElem_cons_zero]); exact (ev_cutLo (by simp only [kE, kT, kL, kC] <;> rfl) (by simp only [kE, kT, kL, kC] <;> rfl) rfl (by omega))) (by show nth _ 42 = _; simp only [kE, kT, kL, kC] <;> rfl) LateOk.nil))))))), ?_⟩
      refine Pend.nil ?_
      refine Ok.ret ?_
      with_reducible repeat (first | refine thenQ_ret ?_ | refine blockQ_ret ?_)
      refine RT ?_
      first | exact ⟨rfl, rfl, rfl⟩ | exact ⟨rfl, by repeat rw [upd_twice (by simp [V.travL, V.trav, updS, zz])], rfl⟩
     ·
      try simp only [bsimp] at hb8
      refine Ok.skip ?_
      refine Ok.seq ?_
      refine Ok.bump (n' := n + 2) (by omega) ?_
      have e := spoilt_n (c := c) (s := s) w0 w1 (by omega)
      rw [e]
      refine Ok.region ?_
      iterate 2 (refine EV ?_)
      refine ON ?_
      refine Ok.ret ?_
      with_reducible repeat (first | refine thenQ_ret ?_ | refine blockQ_ret ?_)
      refine RT ?_
      first | exact ⟨rfl, rfl, rfl⟩ | exact ⟨rfl, by repeat rw [upd_twice (by simp [V.travL, V.trav, updS, zz])], rfl⟩
    ·
     try simp only [bsimp] at hb6
     refine Ok.skip ?_
     refine Ok.seq ?_
     refine Ok.bump (n' := n + 2) (by omega) ?_
     have e := spoilt_n (c := c) (s := s) w0 w1 (by omega)
     rw [e]
     refine Ok.region ?_
     iterate 2 (refine EV ?_)
     refine ON ?_
     refine Ok.ret ?_
     with_reducible repeat (first | refine thenQ_ret ?_ | refine blockQ_ret ?_)
     refine RT ?_
     first | exact ⟨rfl, rfl, rfl⟩ | exact ⟨rfl, by repeat rw [upd_twice (by simp [V.travL, V.trav, updS, zz])], rfl⟩
   ·
    try simp only [bsimp] at hb6
    refine Ok.region ?_
    iterate 2 (refine EV ?_)
    refine ON ?_
    refine Ok.cond (b := _) (by simp only [kE, kT, kL, kC] <;> rfl) (fun hb7 => ?_) (fun hb7 => ?_)
    ·
     try simp only [bsimp] at hb7
     refine OQ ?_
     iterate 3 (refine EV ?_)
     refine ON ?_
     refine Ok.cond (b := _) (by simp only [kE, kT, kL, kC] <;> rfl) (fun hb8 => ?_) (fun hb8 => ?_)
     ·
      try simp only [bsimp] at hb8
      have e := spoilt_2 (c := c) (s := s) (by omega) (by omega)
      rw [e]
      refine Ok.seq ?_
      have hq := curBelow_lt (c := (curBelow c 12).2) (n := s.length) (by omega)
      refine Ok.region ?_
      iterate 3 (refine EV ?_)
      refine OkOps.upd rfl rfl (by simp only [kE, kT, kL, kC] <;> rfl) (by simp only [kE, kT, kL, kC] <;> rfl) cl32 (fun h => c_spec_l01Below (curBelow c 12).2 s.length L (by simp only [curBelow_b, pickS_b, pickI_b, pack0_b, linkGo_b, packD_b, linkD_b, byteD_b]; exact hb) (by omega)) (by simp only [eq_self, V.updL, V.travL, V.travLL, V.trav, updS, updP, and_self, true_and, and_true, false_and, and_false, Nat.reduceEqDiff, Nat.reduceSub, Nat.le_refl, Nat.zero_le, ↓reduceIte, if_true, if_false, kP, zz, nq01, nq02, nq10, nq12, nq20, nq21] <;> rfl) (rfl) ?_
      refine EV ?_
      refine ON ?_
      refine Ok.seq ?_
      refine Ok.stages 45 [0, 1, 2, 3, 6, 7, 8, 9] [(4, [0, 1, 2, 6, 7, 8, 9], [5, 10, 11])] (by kernel_rfl) (by kernel_rfl) rfl ?_
      simp only [ixs, List.getElem?_toArray, List.getElem?_cons_zero, List.getElem?_cons_succ]
      iterate 2 (refine SV ?_)
      refine SOps.ev tab_ok rfl (ev_cutHi (by simp only [kE, kT, kL, kC] <;> rfl) (by simp only [kE, kT, kL, kC] <;> rfl) rfl (by omega)) (by simp only [kP] <;> rfl) ?_
      iterate 3 (refine SV ?_)
      refine SOps.ev tab_ok rfl (by simp only [kE, kT, kL, kC, wrap_succ (show (curBelow (curBelow c 12).2 s.length).1 < 9223372036854775807 by omega)] <;> rfl) (by simp only [kP] <;> rfl) ?_
      refine SOps.ev tab_ok rfl (ev_cutLo (by simp only [kE, kT, kL, kC] <;> rfl) (by simp only [kE, kT, kL, kC] <;> rfl) rfl (by omega)) (by simp only [kP] <;> rfl) ?_
      refine SOps.nil ?_
      refine Pend.updF (k := 2) (by simp only [List.getElem?_toArray, List.getElem?_cons_zero, List.getElem?_cons_succ] <;> rfl) (by rfl) (by rfl) (by simp only [kE, kT, kL, kC] <;> rfl) (by simp only [kE, kT, kL, kC] <;> rfl) cl56 (by intro y hy; simp [V.labelsL, V.labels, V.labelsLL, zz] at hy; omega) (by repeat (first | exact hlt | exact hlt.mono (by omega) | refine Ahd.upd ?_ (Ahd.cur (by omega) _))) (fun h hlt => c_spec_l01Text (curBelow (curBelow c 12).2 s.length).2 L (by simp only [curBelow_b, pickS_b, pickI_b, pack0_b, linkGo_b, packD_b, linkD_b, byteD_b]; exact hb) hlt hL) (by first | rfl | (simp only [Nat.add_zero, Nat.reduceAdd] <;> rfl)) (by simp only [eq_self, V.updL, V.travL, V.travLL, V.trav, updS, updP, and_self, true_and, and_true, false_and, and_false, Nat.reduceEqDiff, Nat.reduceSub, Nat.le_refl, Nat.zero_le, ↓reduceIte, if_true, if_false, kP, zz, nq01, nq02, nq10, nq12, nq20, nq21] <;> rfl) (rfl) ?_
      simp only [ixs, List.getElem?_toArray, List.getElem?_cons_zero, List.getElem?_cons_succ]
      refine SOps.ev tab_ok rfl (ev_cat (by simp only [kE, kT, kL, kC] <;> rfl) (by simp only [kE, kT, kL, kC] <;> rfl) (by first | omega | (simp only [byteD_len, List.length_append, List.length_take, List.length_drop]; omega))) (by simp only [kP] <;> rfl) ?_
      refine SOps.ev tab_ok rfl (ev_cat (by simp only [kE, kT, kL, kC] <;> rfl) (by simp only [kE, kT, kL, kC] <;> rfl) (by first | omega | (simp only [byteD_len, List.length_append, List.length_take, List.length_drop]; omega))) (by simp only [kP] <;> rfl) ?_
      refine SV ?_
      refine SOps.nil ⟨(LateOk.cons (i := 0) tab_ok (by rfl) (by rfl) (by (try simp only [List.getElem_toArray, List.getElem_cons_succ, List.getElem_cons_zero]); exact (by simp only [kE, kT, kL, kC] <;> rfl)) (by show nth _ 33 = _; simp only [kE, kT, kL, kC] <;> rfl) (LateOk.cons (i := 1) tab_ok (by rfl) (by rfl) (by (try simp only [List.getElem_toArray, List.getElem_cons_succ, List.getElem_cons_zero]); exact (by simp only [kE, kT, kL, kC] <;> rfl)) (by show nth _ 34 = _; simp only [kE, kT, kL, kC] <;> rfl) (LateOk.cons (i := 2) tab_ok (by rfl) (by rfl) (by (try simp only [List.getElem_toArray, List.getElem_cons_succ, List.getElem_cons_zero]); exact (ev_cutHi (by simp only [kE, kT, kL, kC] <;> rfl) (by simp only [kE, kT, kL, kC] <;> rfl) rfl (by omega))) (by show nth _ 35 = _; simp only [kE, kT, kL, kC] <;> rfl) (LateOk.cons (i := 6) tab_ok (by rfl) (by rfl) (by (try simp only [List.getElem_toArray, List.getElem_cons_succ, List.getElem_cons_zero]); exact (by simp only [kE, kT, kL, kC] <;> rfl)) (by show nth _ 39 = _; simp only [kE, kT, kL, kC] <;> rfl) (LateOk.cons (i := 7) tab_ok (by rfl) (by rfl) (by (try simp only [List.getElem_toArray, List.getElem_cons_succ, List.getElem_cons_zero]); exact (by simp only [kE, kT, kL, kC] <;> rfl)) (by show nth _ 40 = _; simp only [kE, kT, kL, kC] <;> rfl) (LateOk.cons (i := 8) tab_ok (by rfl) (by rfl) (by (try simp only [List.getElem_toArray, List.getElem_cons_succ, List.getElem_cons_zero]); exact (by simp only [kE, kT, kL, kC, wrap_succ (show (curBelow (curBelow c 12).2 s.length).1 < 9223372036854775807 by omega)] <;> rfl)) (by show nth _ 41 = _; simp only [kE, kT, kL, kC, wrap_succ (show (curBelow (curBelow c 12).2 s.length).1 < 9223372036854775807 by omega)] <;> rfl) (LateOk.cons (i := 9) tab_ok (by rfl) (by rfl) (by (try simp only [List.getElem_toArray, List.getElem_cons_succ, List.getElem_cons_zero]); exact (ev_cutLo (by simp only [kE, kT, kL, kC] <;> rfl) (by simp only [kE, kT, kL, kC] <;> rfl) rfl (by omega))) (by show nth _ 42 = _; simp only [kE, kT, kL, kC] <;> rfl) LateOk.nil))))))), ?_⟩
      refine Pend.nil ?_
      refine Ok.ret ?_
      with_reducible repeat (first | refine thenQ_ret ?_ | refine blockQ_ret ?_)
      refine RT ?_
      first | exact ⟨rfl, rfl, rfl⟩ | exact ⟨rfl, by repeat rw [upd_twice (by simp [V.travL, V.trav, updS, zz])], rfl⟩
     ·
      try simp only [bsimp] at hb8
      refine Ok.skip ?_
      refine Ok.seq ?_
      refine Ok.bump (n' := n + 2) (by omega) ?_
      have e := spoilt_n (c := c) (s := s) w0 w1 (by omega)
      rw [e]
      refine Ok.region ?_
      iterate 2 (refine EV ?_)
      refine ON ?_
      refine Ok.ret ?_
      with_reducible repeat (first | refine thenQ_ret ?_ | refine blockQ_ret ?_)
      refine RT ?_
      first | exact ⟨rfl, rfl, rfl⟩ | exact ⟨rfl, by repeat rw [upd_twice (by simp [V.travL, V.trav, updS, zz])], rfl⟩
    ·
     try simp only [bsimp] at hb7
     refine Ok.skip ?_
     refine Ok.seq ?_
     refine Ok.bump (n' := n + 2) (by omega) ?_
     have e := spoilt_n (c := c) (s := s) w0 w1 (by omega)
     rw [e]
     refine Ok.region ?_
     iterate 2 (refine EV ?_)
     refine ON ?_
     refine Ok.ret ?_
     with_reducible repeat (first | refine thenQ_ret ?_ | refine blockQ_ret ?_)
     refine RT ?_
     first | exact ⟨rfl, rfl, rfl⟩ | exact ⟨rfl, by repeat rw [upd_twice (by simp [V.travL, V.trav, updS, zz])], rfl⟩
theorem c_spec_l17Packet (c : Cur) (L : Nat) (hb : c.b.length ≤ 4611686018427387904) {h : List V} {n : Nat} (hlt : Ahd n h) (hL : L + 1 < n) : OkCall Try.prog 20 [.ptr (L + 1) 0 0 (cCur c)] h n (fun r h1 n1 => r = .agg (cPacket (packD c).1) ∧ h1 = V.updL (L + 1) 0 (cCur (packD c).2) h ∧ n1 = n + 10) := by
 obtain ⟨n, rfl⟩ : ∃ k, n = k + 1 := ⟨n - 1, by omega⟩
 have nq01 : ((L + 1 : Nat) = n + 1) = False := eq_false (by omega)
 have nq02 : ((L + 1 : Nat) = n + 1 + 1) = False := eq_false (by omega)
 have nq03 : ((L + 1 : Nat) = n + 1 + 1 + 1) = False := eq_false (by omega)
 have nq04 : ((L + 1 : Nat) = n + 1 + 1 + 1 + 1) = False := eq_false (by omega)
 have nq05 : ((L + 1 : Nat) = 0) = False := eq_false (by omega)
 have nq10 : ((n + 1 : Nat) = L + 1) = False := eq_false (by omega)
 have nq12 : ((n + 1 : Nat) = n + 1 + 1) = False := eq_false (by omega)
 have nq13 : ((n + 1 : Nat) = n + 1 + 1 + 1) = False := eq_false (by omega)
 have nq14 : ((n + 1 : Nat) = n + 1 + 1 + 1 + 1) = False := eq_false (by omega)
 have nq15 : ((n + 1 : Nat) = 0) = False := eq_false (by omega)
 have nq20 : ((n + 1 + 1 : Nat) = L + 1) = False := eq_false (by omega)
 have nq21 : ((n + 1 + 1 : Nat) = n + 1) = False := eq_false (by omega)
 have nq23 : ((n + 1 + 1 : Nat) = n + 1 + 1 + 1) = False := eq_false (by omega)
 have nq24 : ((n + 1 + 1 : Nat) = n + 1 + 1 + 1 + 1) = False := eq_false (by omega)
 have nq25 : ((n + 1 + 1 : Nat) = 0) = False := eq_false (by omega)
 have nq30 : ((n + 1 + 1 + 1 : Nat) = L + 1) = False := eq_false (by omega)
 have nq31 : ((n + 1 + 1 + 1 : Nat) = n + 1) = False := eq_false (by omega)
 have nq32 : ((n + 1 + 1 + 1 : Nat) = n + 1 + 1) = False := eq_false (by omega)
 have nq34 : ((n + 1 + 1 + 1 : Nat) = n + 1 + 1 + 1 + 1) = False := eq_false (by omega)
 have nq35 : ((n + 1 + 1 + 1 : Nat) = 0) = False := eq_false (by omega)
 have nq40 : ((n + 1 + 1 + 1 + 1 : Nat) = L + 1) = False := eq_false (by omega)
 have nq41 : ((n + 1 + 1 + 1 + 1 : Nat) = n + 1) = False := eq_false (by omega)
 have nq42 : ((n + 1 + 1 + 1 + 1 : Nat) = n + 1 + 1) = False := eq_false (by omega)
 have nq43 : ((n + 1 + 1 + 1 + 1 : Nat) = n + 1 + 1 + 1) = False := eq_false (by omega)
 have nq45 : ((n + 1 + 1 + 1 + 1 : Nat) = 0) = False := eq_false (by omega)
 have nq50 : ((0 : Nat) = L + 1) = False := eq_false (by omega)
 have nq51 : ((0 : Nat) = n + 1) = False := eq_false (by omega)
 have nq52 : ((0 : Nat) = n + 1 + 1) = False := eq_false (by omega)
 have nq53 : ((0 : Nat) = n + 1 + 1 + 1) = False := eq_false (by omega)
 have nq54 : ((0 : Nat) = n + 1 + 1 + 1 + 1) = False := eq_false (by omega)
 refine OkCall.enter' tab_ok Try.func20 rfl (t := [.ptr (L + 1) 0 0 (cCur c), .any, .any, .any, .any, .any, .any, .any, .any, .any, .any, .any, .any, .any, .any, .any, .any, .any, .any, .any, .any, .any, .any, .any, .any, .any, .any, .any, .any, .any, .any, .any, .any, .any, .any, .any]) rfl ?_
 refine OQ ?_
 refine EV ?_
 refine ON ?_
 refine OQ ?_
 refine EV ?_
 refine OkOps.upd rfl rfl (by simp only [kE, kT, kL, kC] <;> rfl) (by simp only [kE, kT, kL, kC] <;> rfl) cl32 (fun h => c_spec_l01Below c 3 L hb (by decide)) (by simp only [eq_self, V.updL, V.travL, V.travLL, V.trav, updS, updP, and_self, true_and, and_true, false_and, and_false, Nat.reduceEqDiff, Nat.reduceSub, Nat.le_refl, Nat.zero_le, ↓reduceIte, if_true, if_false, kP, zz, nq01, nq02, nq03, nq04, nq05, nq10, nq12, nq13, nq14, nq15, nq20, nq21, nq23, nq24, nq25, nq30, nq31, nq32, nq34, nq35, nq40, nq41, nq42, nq43, nq45, nq50, nq51, nq52, nq53, nq54] <;> rfl) (rfl) ?_
 refine EV ?_
 refine OkOps.upd rfl rfl (by simp only [kE, kT, kL, kC] <;> rfl) (by simp only [kE, kT, kL, kC] <;> rfl) cl32 (fun h => c_spec_l01Below (curBelow c 3).2 5 L (by simp only [curBelow_b, pickS_b, pickI_b, pack0_b, linkGo_b, packD_b, linkD_b, byteD_b]; exact hb) (by decide)) (by simp only [eq_self, V.updL, V.travL, V.travLL, V.trav, updS, updP, and_self, true_and, and_true, false_and, and_false, Nat.reduceEqDiff, Nat.reduceSub, Nat.le_refl, Nat.zero_le, ↓reduceIte, if_true, if_false, kP, zz, nq01, nq02, nq03, nq04, nq05, nq10, nq12, nq13, nq14, nq15, nq20, nq21, nq23, nq24, nq25, nq30, nq31, nq32, nq34, nq35, nq40, nq41, nq42, nq43, nq45, nq50, nq51, nq52, nq53, nq54] <;> rfl) (rfl) ?_
 refine EV ?_
 refine OkOps.upd rfl rfl (by simp only [kE, kT, kL, kC] <;> rfl) (by simp only [kE, kT, kL, kC] <;> rfl) cl32 (fun h => c_spec_l01Below (curBelow (curBelow c 3).2 5).2 6 L (by simp only [curBelow_b, pickS_b, pickI_b, pack0_b, linkGo_b, packD_b, linkD_b, byteD_b]; exact hb) (by decide)) (by simp only [eq_self, V.updL, V.travL, V.travLL, V.trav, updS, updP, and_self, true_and, and_true, false_and, and_false, Nat.reduceEqDiff, Nat.reduceSub, Nat.le_refl, Nat.zero_le, ↓reduceIte, if_true, if_false, kP, zz, nq01, nq02, nq03, nq04, nq05, nq10, nq12, nq13, nq14, nq15, nq20, nq21, nq23, nq24, nq25, nq30, nq31, nq32, nq34, nq35, nq40, nq41, nq42, nq43, nq45, nq50, nq51, nq52, nq53, nq54] <;> rfl) (rfl) ?_
 refine EV ?_
 refine OkOps.ev tab_ok rfl (ev_bs (by simp only [kT] <;> rfl) (by simp only [kT] <;> rfl) (by decide) (by decide) (by simp only [kE, kT, kL, kC, List.map_cons, List.map_nil] <;> rfl) (by simp only [kfe, beq_self_eq_true, Bool.and_true, Bool.true_and, decide_true, Nat.zero_add, Nat.lt_add_one, Nat.reduceLT, Nat.reduceAdd, Nat.zero_lt_succ, if_true, ↓reduceIte] <;> rfl)) (by simp only [kP] <;> rfl) ?_
 refine OkOps.upd rfl rfl (by simp only [kE, kT, kL, kC] <;> rfl) (by simp only [kE, kT, kL, kC] <;> rfl) cl45 (fun h => c_spec_l01Pick (curBelow (curBelow (curBelow c 3).2 5).2 6).2 [wOne, wTwo, []] L (n + 1 + 1) (by simp only [curBelow_b, pickS_b, pickI_b, pack0_b, linkGo_b, packD_b, linkD_b, byteD_b]; exact hb) (by decide) (by omega)) (by simp only [eq_self, V.updL, V.travL, V.travLL, V.trav, updS, updP, and_self, true_and, and_true, false_and, and_false, Nat.reduceEqDiff, Nat.reduceSub, Nat.le_refl, Nat.zero_le, ↓reduceIte, if_true, if_false, kP, zz, nq01, nq02, nq03, nq04, nq05, nq10, nq12, nq13, nq14, nq15, nq20, nq21, nq23, nq24, nq25, nq30, nq31, nq32, nq34, nq35, nq40, nq41, nq42, nq43, nq45, nq50, nq51, nq52, nq53, nq54] <;> rfl) (rfl) ?_
 refine OkOps.ev tab_ok rfl (by simp [ev1, fillV, kE, kT, kL] <;> first | rfl | exact ⟨rfl, rfl⟩) (by simp only [kP] <;> rfl) ?_
 refine EV ?_
 refine OkOps.storeE tab_ok rfl rfl (by simp only [kE, kT, kL, kC] <;> rfl) ⟨_, _, by simp only [kE]; rfl⟩ (by first | (simp [V.labelsL, V.labelsLL, V.labels, zz]; done) | (simp [-List.map_map, -List.map_set, -List.map_drop, -List.map_take, -List.map_tail, -List.drop_one, V.labelsL, V.labelsLL, V.labels, zz]; done)) (by simp only [eq_self, V.updL, V.travL, V.travLL, V.trav, updS, updP, and_self, true_and, and_true, false_and, and_false, Nat.reduceEqDiff, Nat.reduceSub, Nat.le_refl, Nat.zero_le, ↓reduceIte, if_true, if_false, kP, zz, nq01, nq02, nq03, nq04, nq05, nq10, nq12, nq13, nq14, nq15, nq20, nq21, nq23, nq24, nq25, nq30, nq31, nq32, nq34, nq35, nq40, nq41, nq42, nq43, nq45, nq50, nq51, nq52, nq53, nq54] <;> rfl) (Ahd.updL (by repeat (first | exact hlt | exact hlt.mono (by omega) | refine Ahd.upd ?_ (Ahd.cur (by omega) _)))) ?_
 refine ON ?_
 refine Ok.seq ?_
 refine OQ ?_
 refine EV ?_
 refine OkOps.upd rfl rfl (by simp only [kE, kT, kL, kC] <;> rfl) (by simp only [kE, kT, kL, kC] <;> rfl) cl32 (fun h => c_spec_l01Below (pack0 c).2 12 L (by simp only [curBelow_b, pickS_b, pickI_b, pack0_b, linkGo_b, packD_b, linkD_b, byteD_b]; exact hb) (by decide)) (by simp only [eq_self, V.updL, V.travL, V.travLL, V.trav, updS, updP, and_self, true_and, and_true, false_and, and_false, Nat.reduceEqDiff, Nat.reduceSub, Nat.le_refl, Nat.zero_le, ↓reduceIte, if_true, if_false, kP, zz, nq01, nq02, nq03, nq04, nq05, nq10, nq12, nq13, nq14, nq15, nq20, nq21, nq23, nq24, nq25, nq30, nq31, nq32, nq34, nq35, nq40, nq41, nq42, nq43, nq45, nq50, nq51, nq52, nq53, nq54] <;> rfl) (rfl) ?_
 refine ON ?_
 refine Ok.block ?_
 refine OQ ?_
 iterate 2 (refine EV ?_)
 refine ON ?_
 refine Ok.cond (b := _) (by simp only [kE, kT, kL, kC] <;> rfl) (fun hb3 => ?_) (fun hb3 => ?_)
 ·
  try simp only [bsimp] at hb3
  have e := packD_0 (c := c) (by omega)
  rw [e]
  refine Ok.region ?_
  refine EV ?_
  refine OkOps.ev tab_ok rfl (ev_bs (by simp only [kT] <;> rfl) (by simp only [kT] <;> rfl) (by decide) (by decide) (by simp only [kE, kT, kL, kC, List.map_cons, List.map_nil] <;> rfl) (by simp only [kfe, beq_self_eq_true, Bool.and_true, Bool.true_and, decide_true, Nat.zero_add, Nat.lt_add_one, Nat.reduceLT, Nat.reduceAdd, Nat.zero_lt_succ, if_true, ↓reduceIte] <;> rfl)) (by simp only [kP] <;> rfl) ?_
  refine OkOps.upd rfl rfl (by simp only [kE, kT, kL, kC] <;> rfl) (by simp only [kE, kT, kL, kC] <;> rfl) cl42 (fun h => c_spec_l01PickInt (curBelow (pack0 c).2 12).2 [-1, 1000000001, 9223372036854775807] L (n + 1 + 1 + 1 + 1) (by simp only [curBelow_b, pickS_b, pickI_b, pack0_b, linkGo_b, packD_b, linkD_b, byteD_b]; exact hb) (by decide) (by omega)) (by simp only [eq_self, V.updL, V.travL, V.travLL, V.trav, updS, updP, and_self, true_and, and_true, false_and, and_false, Nat.reduceEqDiff, Nat.reduceSub, Nat.le_refl, Nat.zero_le, ↓reduceIte, if_true, if_false, kP, zz, nq01, nq02, nq03, nq04, nq05, nq10, nq12, nq13, nq14, nq15, nq20, nq21, nq23, nq24, nq25, nq30, nq31, nq32, nq34, nq35, nq40, nq41, nq42, nq43, nq45, nq50, nq51, nq52, nq53, nq54] <;> rfl) (rfl) ?_
  refine EV ?_
  refine OkOps.storeE tab_ok rfl rfl (by simp only [kE, kT, kL, kC] <;> rfl) ⟨_, _, by simp only [kE]; rfl⟩ (by first | (simp [V.labelsL, V.labelsLL, V.labels, zz]; done) | (simp [-List.map_map, -List.map_set, -List.map_drop, -List.map_take, -List.map_tail, -List.drop_one, V.labelsL, V.labelsLL, V.labels, zz]; done)) (by simp only [eq_self, V.updL, V.travL, V.travLL, V.trav, updS, updP, and_self, true_and, and_true, false_and, and_false, Nat.reduceEqDiff, Nat.reduceSub, Nat.le_refl, Nat.zero_le, ↓reduceIte, if_true, if_false, kP, zz, nq01, nq02, nq03, nq04, nq05, nq10, nq12, nq13, nq14, nq15, nq20, nq21, nq23, nq24, nq25, nq30, nq31, nq32, nq34, nq35, nq40, nq41, nq42, nq43, nq45, nq50, nq51, nq52, nq53, nq54] <;> rfl) (Ahd.updL (by repeat (first | exact hlt | exact hlt.mono (by omega) | refine Ahd.upd ?_ (Ahd.cur (by omega) _)))) ?_
  refine ON ?_
  refine Ok.seq ?_
  refine Ok.bump (n' := n + 1 + 10) (by omega) ?_
  refine Ok.region ?_
  refine EV ?_
  refine OkOps.storeE tab_ok rfl rfl (by simp only [kE, kT, kL, kC] <;> rfl) ⟨_, _, by simp only [kE]; rfl⟩ (by first | (simp [V.labelsL, V.labelsLL, V.labels, zz]; done) | (simp [-List.map_map, -List.map_set, -List.map_drop, -List.map_take, -List.map_tail, -List.drop_one, V.labelsL, V.labelsLL, V.labels, zz]; done)) (by simp only [eq_self, V.updL, V.travL, V.travLL, V.trav, updS, updP, and_self, true_and, and_true, false_and, and_false, Nat.reduceEqDiff, Nat.reduceSub, Nat.le_refl, Nat.zero_le, ↓reduceIte, if_true, if_false, kP, zz, nq01, nq02, nq03, nq04, nq05, nq10, nq12, nq13, nq14, nq15, nq20, nq21, nq23, nq24, nq25, nq30, nq31, nq32, nq34, nq35, nq40, nq41, nq42, nq43, nq45, nq50, nq51, nq52, nq53, nq54] <;> rfl) (Ahd.updL (by repeat (first | exact hlt | exact hlt.mono (by omega) | refine Ahd.upd ?_ (Ahd.cur (by omega) _)))) ?_
  refine ON ?_
  refine Ok.ret ?_
  with_reducible repeat (first | refine thenQ_ret ?_ | refine blockQ_ret ?_)
  refine RT ?_
  exact ⟨by simp only [packV, pack0], by (repeat rw [upd_twice (by simp [V.travL, V.trav, updS, zz])]) <;> (try simp only [pack0]), rfl⟩
 ·
  try simp only [bsimp] at hb3
  refine OQ ?_
  iterate 2 (refine EV ?_)
  refine ON ?_
  refine Ok.cond (b := _) (by simp only [kE, kT, kL, kC] <;> rfl) (fun hb5 => ?_) (fun hb5 => ?_)
  ·
   try simp only [bsimp] at hb5
   have e := packD_1 (c := c) (by omega)
   rw [e]
   refine Ok.region ?_
   refine EV ?_
   refine OkOps.ev tab_ok rfl (ev_bs (by simp only [kT] <;> rfl) (by simp only [kT] <;> rfl) (by decide) (by decide) (by simp only [kE, kT, kL, kC, List.map_cons, List.map_nil] <;> rfl) (by simp only [kfe, beq_self_eq_true, Bool.and_true, Bool.true_and, decide_true, Nat.zero_add, Nat.lt_add_one, Nat.reduceLT, Nat.reduceAdd, Nat.zero_lt_succ, if_true, ↓reduceIte] <;> rfl)) (by simp only [kP] <;> rfl) ?_
   refine OkOps.upd rfl rfl (by simp only [kE, kT, kL, kC] <;> rfl) (by simp only [kE, kT, kL, kC] <;> rfl) cl42 (fun h => c_spec_l01PickInt (curBelow (pack0 c).2 12).2 [-9223372036854775808, 9223372036854775807] L (n + 1 + 1 + 1 + 1) (by simp only [curBelow_b, pickS_b, pickI_b, pack0_b, linkGo_b, packD_b, linkD_b, byteD_b]; exact hb) (by decide) (by omega)) (by simp only [eq_self, V.updL, V.travL, V.travLL, V.trav, updS, updP, and_self, true_and, and_true, false_and, and_false, Nat.reduceEqDiff, Nat.reduceSub, Nat.le_refl, Nat.zero_le, ↓reduceIte, if_true, if_false, kP, zz, nq01, nq02, nq03, nq04, nq05, nq10, nq12, nq13, nq14, nq15, nq20, nq21, nq23, nq24, nq25, nq30, nq31, nq32, nq34, nq35, nq40, nq41, nq42, nq43, nq45, nq50, nq51, nq52, nq53, nq54] <;> rfl) (rfl) ?_
   refine EV ?_
   refine OkOps.storeE tab_ok rfl rfl (by simp only [kE, kT, kL, kC] <;> rfl) ⟨_, _, by simp only [kE]; rfl⟩ (by first | (simp [V.labelsL, V.labelsLL, V.labels, zz]; done) | (simp [-List.map_map, -List.map_set, -List.map_drop, -List.map_take, -List.map_tail, -List.drop_one, V.labelsL, V.labelsLL, V.labels, zz]; done)) (by simp only [eq_self, V.updL, V.travL, V.travLL, V.trav, updS, updP, and_self, true_and, and_true, false_and, and_false, Nat.reduceEqDiff, Nat.reduceSub, Nat.le_refl, Nat.zero_le, ↓reduceIte, if_true, if_false, kP, zz, nq01, nq02, nq03, nq04, nq05, nq10, nq12, nq13, nq14, nq15, nq20, nq21, nq23, nq24, nq25, nq30, nq31, nq32, nq34, nq35, nq40, nq41, nq42, nq43, nq45, nq50, nq51, nq52, nq53, nq54] <;> rfl) (Ahd.updL (by repeat (first | exact hlt | exact hlt.mono (by omega) | refine Ahd.upd ?_ (Ahd.cur (by omega) _)))) ?_
   refine ON ?_
   refine Ok.seq ?_
   refine Ok.bump (n' := n + 1 + 10) (by omega) ?_
   refine Ok.region ?_
   refine EV ?_
   refine OkOps.storeE tab_ok rfl rfl (by simp only [kE, kT, kL, kC] <;> rfl) ⟨_, _, by simp only [kE]; rfl⟩ (by first | (simp [V.labelsL, V.labelsLL, V.labels, zz]; done) | (simp [-List.map_map, -List.map_set, -List.map_drop, -List.map_take, -List.map_tail, -List.drop_one, V.labelsL, V.labelsLL, V.labels, zz]; done)) (by simp only [eq_self, V.updL, V.travL, V.travLL, V.trav, updS, updP, and_self, true_and, and_true, false_and, and_false, Nat.reduceEqDiff, Nat.reduceSub, Nat.le_refl, Nat.zero_le, ↓reduceIte, if_true, if_false, kP, zz, nq01, nq02, nq03, nq04, nq05, nq10, nq12, nq13, nq14, nq15, nq20, nq21, nq23, nq24, nq25, nq30, nq31, nq32, nq34, nq35, nq40, nq41, nq42, nq43, nq45, nq50, nq51, nq52, nq53, nq54] <;> rfl) (Ahd.updL (by repeat (first | exact hlt | exact hlt.mono (by omega) | refine Ahd.upd ?_ (Ahd.cur (by omega) _)))) ?_
   refine ON ?_
   refine Ok.ret ?_
   with_reducible repeat (first | refine thenQ_ret ?_ | refine blockQ_ret ?_)
   refine RT ?_
   exact ⟨by simp only [packV, pack0], by (repeat rw [upd_twice (by simp [V.travL, V.trav, updS, zz])]) <;> (try simp only [pack0]), rfl⟩
  ·
   try simp only [bsimp] at hb5
   refine OQ ?_
   iterate 2 (refine EV ?_)
   refine ON ?_
   refine Ok.cond (b := _) (by simp only [kE, kT, kL, kC] <;> rfl) (fun hb7 => ?_) (fun hb7 => ?_)
   ·
    try simp only [bsimp] at hb7
    have e := packD_2 (c := c) (by omega)
    rw [e]
    have hq := curBelow_lt (c := (curBelow (pack0 c).2 12).2) (n := 2) (by decide)
    refine Ok.region ?_
    refine EV ?_
    refine OkOps.upd rfl rfl (by simp only [kE, kT, kL, kC] <;> rfl) (by simp only [kE, kT, kL, kC] <;> rfl) cl32 (fun h => c_spec_l01Below (curBelow (pack0 c).2 12).2 2 L (by simp only [curBelow_b, pickS_b, pickI_b, pack0_b, linkGo_b, packD_b, linkD_b, byteD_b]; exact hb) (by decide)) (by simp only [eq_self, V.updL, V.travL, V.travLL, V.trav, updS, updP, and_self, true_and, and_true, false_and, and_false, Nat.reduceEqDiff, Nat.reduceSub, Nat.le_refl, Nat.zero_le, ↓reduceIte, if_true, if_false, kP, zz, nq01, nq02, nq03, nq04, nq05, nq10, nq12, nq13, nq14, nq15, nq20, nq21, nq23, nq24, nq25, nq30, nq31, nq32, nq34, nq35, nq40, nq41, nq42, nq43, nq45, nq50, nq51, nq52, nq53, nq54] <;> rfl) (rfl) ?_
    refine OkOps.ev tab_ok rfl (by simp only [kE, kT, kL, kC, wrap_400 (show (curBelow (curBelow (pack0 c).2 12).2 2).1 ≤ 1000 by omega)] <;> rfl) (by simp only [kP] <;> rfl) ?_
    refine OkOps.S0 rfl (OpS.weak' rfl (by simp only [kE, kT, kL, kC] <;> rfl) (by simp only [kE, kT, kL, kC] <;> rfl) cl41 (w_spec_l01Long (400 + (curBelow (curBelow (pack0 c).2 12).2 2).1) 97 (by omega))) (by simp only [kP] <;> rfl) ?_
    refine EV ?_
    refine OkOps.storeE tab_ok rfl rfl (by simp only [kE, kT, kL, kC] <;> rfl) ⟨_, _, by simp only [kE]; rfl⟩ (by first | (simp [V.labelsL, V.labelsLL, V.labels, zz]; done) | (simp [-List.map_map, -List.map_set, -List.map_drop, -List.map_take, -List.map_tail, -List.drop_one, V.labelsL, V.labelsLL, V.labels, zz]; done)) (by simp only [eq_self, V.updL, V.travL, V.travLL, V.trav, updS, updP, and_self, true_and, and_true, false_and, and_false, Nat.reduceEqDiff, Nat.reduceSub, Nat.le_refl, Nat.zero_le, ↓reduceIte, if_true, if_false, kP, zz, nq01, nq02, nq03, nq04, nq05, nq10, nq12, nq13, nq14, nq15, nq20, nq21, nq23, nq24, nq25, nq30, nq31, nq32, nq34, nq35, nq40, nq41, nq42, nq43, nq45, nq50, nq51, nq52, nq53, nq54] <;> rfl) (Ahd.updL (by repeat (first | exact hlt | exact hlt.mono (by omega) | refine Ahd.upd ?_ (Ahd.cur (by omega) _)))) ?_
    refine ON ?_
    refine Ok.seq ?_
    refine Ok.bump (n' := n + 1 + 10) (by omega) ?_
    refine Ok.region ?_
    refine EV ?_
    refine OkOps.storeE tab_ok rfl rfl (by simp only [kE, kT, kL, kC] <;> rfl) ⟨_, _, by simp only [kE]; rfl⟩ (by first | (simp [V.labelsL, V.labelsLL, V.labels, zz]; done) | (simp [-List.map_map, -List.map_set, -List.map_drop, -List.map_take, -List.map_tail, -List.drop_one, V.labelsL, V.labelsLL, V.labels, zz]; done)) (by simp only [eq_self, V.updL, V.travL, V.travLL, V.trav, updS, updP, and_self, true_and, and_true, false_and, and_false, Nat.reduceEqDiff, Nat.reduceSub, Nat.le_refl, Nat.zero_le, ↓reduceIte, if_true, if_false, kP, zz, nq01, nq02, nq03, nq04, nq05, nq10, nq12, nq13, nq14, nq15, nq20, nq21, nq23, nq24, nq25, nq30, nq31, nq32, nq34, nq35, nq40, nq41, nq42, nq43, nq45, nq50, nq51, nq52, nq53, nq54] <;> rfl) (Ahd.updL (by repeat (first | exact hlt | exact hlt.mono (by omega) | refine Ahd.upd ?_ (Ahd.cur (by omega) _)))) ?_
    refine ON ?_
    refine Ok.ret ?_
    with_reducible repeat (first | refine thenQ_ret ?_ | refine blockQ_ret ?_)
    refine RT ?_
    exact ⟨by simp only [packV, pack0], by (repeat rw [upd_twice (by simp [V.travL, V.trav, updS, zz])]) <;> (try simp only [pack0]), rfl⟩
   ·
    try simp only [bsimp] at hb7
    have e := packD_n (c := c) (by omega) (by omega) (by omega)
    rw [e]
    refine Ok.skip ?_
    refine Ok.seq ?_
    refine Ok.bump (n' := n + 1 + 10) (by omega) ?_
    refine Ok.region ?_
    refine EV ?_
    refine OkOps.storeE tab_ok rfl rfl (by simp only [kE, kT, kL, kC] <;> rfl) ⟨_, _, by simp only [kE]; rfl⟩ (by first | (simp [V.labelsL, V.labelsLL, V.labels, zz]; done) | (simp [-List.map_map, -List.map_set, -List.map_drop, -List.map_take, -List.map_tail, -List.drop_one, V.labelsL, V.labelsLL, V.labels, zz]; done)) (by simp only [eq_self, V.updL, V.travL, V.travLL, V.trav, updS, updP, and_self, true_and, and_true, false_and, and_false, Nat.reduceEqDiff, Nat.reduceSub, Nat.le_refl, Nat.zero_le, ↓reduceIte, if_true, if_false, kP, zz, nq01, nq02, nq03, nq04, nq05, nq10, nq12, nq13, nq14, nq15, nq20, nq21, nq23, nq24, nq25, nq30, nq31, nq32, nq34, nq35, nq40, nq41, nq42, nq43, nq45, nq50, nq51, nq52, nq53, nq54] <;> rfl) (Ahd.updL (by repeat (first | exact hlt | exact hlt.mono (by omega) | refine Ahd.upd ?_ (Ahd.cur (by omega) _)))) ?_
    refine ON ?_
    refine Ok.ret ?_
    with_reducible repeat (first | refine thenQ_ret ?_ | refine blockQ_ret ?_)
    refine RT ?_
    exact ⟨by simp only [packV, pack0], by (repeat rw [upd_twice (by simp [V.travL, V.trav, updS, zz])]) <;> (try simp only [pack0]), rfl⟩
end Go.Proofs.Ytckeandnnbnapaa.K

/- Walks: numbers, texts, packets read. Printed by w2.py. -/
namespace Go.Proofs.Ytckeandnnbnapaa.K
open Go Go.RowKit
set_option linter.unusedVariables false
set_option linter.unusedSimpArgs false
set_option maxHeartbeats 4000000
set_option maxRecDepth 20000
theorem w_spec_ReadVar (s : Str) (z : Int) (hs : s.length ≤ 4611686018427387904) : Weak Try.prog 57 [.str s, .int .i64 z] (vR (readVar s z)) := by
 refine Weak.enter tab_ok Try.func57 rfl (.inr (by simp [V.labelsL, V.labels, zz])) (t := [.str s, .int .i64 z, .any, .any, .any, .any, .any, .any, .any, .any, .any, .any, .any, .any, .any, .any, .any, .any, .any, .any, .any, .any, .any, .any, .any, .any, .any, .any, .any, .any, .any, .any, .any, .any, .any, .any, .any, .any, .any, .any, .any, .any, .any, .any, .any, .any, .any, .any, .any, .any, .any, .any, .any, .any, .any, .any, .any, .any]) rfl ?_
 refine OQ ?_
 iterate 3 (refine EV ?_)
 refine ON ?_
 refine Ok.seq ?_
 refine OQ ?_
 iterate 3 (refine EV ?_)
 refine OkOps.S0 rfl (OpS.weak' rfl (by simp only [kE, kT, kL, kC] <;> rfl) (by simp only [kE, kT, kL, kC] <;> rfl) cl26 (w_spec_l01In _ _ _)) (by simp only [kP] <;> rfl) ?_
 refine EV ?_
 refine ON ?_
 refine Ok.cond (b := _) (by simp only [kE, kT, kL, kC] <;> rfl) (fun hb1 => ?_) (fun hb1 => ?_)
 ·
  try simp only [bsimp] at hb1
  rw [readVar, if_neg (by simp [hb1])]
  refine OQ ?_
  iterate 3 (refine EV ?_)
  refine ON ?_
  refine Ok.ret ?_
  with_reducible repeat (first | refine thenQ_ret ?_ | refine blockQ_ret ?_)
  refine retQ.end (by show resVs tab _ [.tmp 4, .tmp 5, .tmp 6] = _; simp only [kE, kT, kL, kC] <;> rfl) rfl ?_
  rfl
 ·
  try simp only [bsimp] at hb1
  rw [readVar, if_pos hb1]
  obtain ⟨p, rfl⟩ : ∃ p : Nat, z = p := ⟨z.toNat, by have := inR_t.1 hb1; omega⟩
  have hp : p ≤ s.length := by have := inR_t.1 hb1; omega
  rw [Int.toNat_natCast]
  refine Ok.skip ?_
  refine OQ ?_
  refine EV ?_
  refine ON ?_
  refine OQ ?_
  refine EV ?_
  refine ON ?_
  refine Ok.seq ?_
  refine OQ ?_
  iterate 2 (refine EV ?_)
  refine ON ?_
  refine Ok.block ?_
  refine Ok.loopW (τ := Nat × Nat) (fun x => [(7, .int .i64 (x.2 : Int)), (8, .int .i64 ((128 ^ x.1 : Nat) : Int)), (9, .int .i64 ((p + x.1 : Nat) : Int))]) [4, 5, 6, 16, 17, 18, 19, 20, 21, 22, 23, 24, 25, 26, 27, 28, 29, 30, 31, 32, 33, 34, 35, 36, 37, 38, 39, 40, 41, 42, 43, 44, 45, 46, 47, 48, 49, 50, 51, 52, 53, 54, 55, 56, 57] (fun x => by simp only [kover] <;> rfl) (fun x => rdV s p (5 - x.1) x.1 x.2 = rdV s p 5 0 0 ∧ x.2 < 128 ^ x.1 ∧ x.1 ≤ 5) (fun x => 5 - x.1) (0, 0) (by refine ⟨?_, ?_, ?_, ?_, ?_, ?_, ?_, ?_, ?_, ?_, ?_, ?_, ?_, ?_, ?_, ?_, ?_, ?_, ?_, ?_, ?_, ?_, ?_, ?_, ?_, ?_, ?_, ?_, ?_, ?_, ?_, ?_, ?_, ?_, ?_, ?_, ?_, ?_, ?_, ?_, ?_, ?_, ?_, ?_, ?_, ?_, ?_, ?_, ?_, ?_, ?_, ?_, ?_, ?_, ?_, ?_, ?_, ?_, trivial⟩ <;> first | exact le_any _ | with_reducible exact le_rfl' _ | (exact le_rfl' _) | exact le_rfl' _) (⟨rfl, by decide, by decide⟩) ?_
  rintro ⟨i, n⟩ ⟨h1, h2, h3⟩
  have h1 : rdV s p (5 - i) i n = rdV s p 5 0 0 := h1
  have h2 : n < 128 ^ i := h2
  have h3 : i ≤ 5 := h3
  refine Ok.seq ?_
  refine Ok.seqC [(25, .bool (decide (i < 5 ∧ p + i < s.length)))] [16, 17, 18, 19, 20, 21, 22, 23, 24] (by simp only [kover] <;> rfl) ?_ ?_
  ·
   refine Ok.region ?_
   iterate 5 (refine EV ?_)
   refine OkOps.split (d := 20) (by simp only [kE, kT, kL, kC] <;> rfl) (by simp only [kP] <;> rfl) (by simp only [kP] <;> rfl) (fun hg6_4 => ?_) (fun hg6_4 => ?_)
   ·
    try simp only [bsimp] at hg6_4
    refine OO ?_
    refine EV ?_
    refine OO ?_
    refine EV ?_
    refine OO ?_
    refine OkOps.ev tab_ok rfl (by simp only [kE, kT, kL, kC, wrap_add_five (show p + 5 ≤ 9223372036854775807 by omega)] <;> rfl) (by simp only [kP] <;> rfl) ?_
    refine OO ?_
    iterate 2 (refine EV ?_)
    refine ON ?_
    refine ⟨rfl, ?_, rfl, rfl⟩
    refine ⟨?_, ?_, ?_, ?_, ?_, ?_, ?_, ?_, ?_, ?_, ?_, ?_, ?_, ?_, ?_, ?_, ?_, ?_, ?_, ?_, ?_, ?_, ?_, ?_, ?_, ?_, ?_, ?_, ?_, ?_, ?_, ?_, ?_, ?_, ?_, ?_, ?_, ?_, ?_, ?_, ?_, ?_, ?_, ?_, ?_, ?_, ?_, ?_, ?_, ?_, ?_, ?_, ?_, ?_, ?_, ?_, ?_, ?_, trivial⟩ <;> first | exact le_any _ | with_reducible exact le_rfl' _ | (refine .inl (congrArg V.bool ?_); rw [Bool.eq_iff_iff]; simp only [Bool.false_eq_true, false_iff, decide_eq_true_eq] at *; omega) | exact le_rfl' _
   ·
    try simp only [bsimp] at hg6_4
    refine OkOps.offU rfl rfl (.inl (by simp only [kE, kT, kL, kC, Bool.not_true, Bool.not_false])) (by simp only [kP] <;> rfl) ?_
    refine OkOps.offU rfl rfl (.inl (by simp only [kE, kT, kL, kC, Bool.not_true, Bool.not_false])) (by simp only [kP] <;> rfl) ?_
    refine OkOps.offU rfl rfl (.inl (by simp only [kE, kT, kL, kC, Bool.not_true, Bool.not_false])) (by simp only [kP] <;> rfl) ?_
    refine OkOps.offU rfl rfl (.inl (by simp only [kE, kT, kL, kC, Bool.not_true, Bool.not_false])) (by simp only [kP] <;> rfl) ?_
    refine EV ?_
    refine ON ?_
    refine ⟨rfl, ?_, rfl, rfl⟩
    refine ⟨?_, ?_, ?_, ?_, ?_, ?_, ?_, ?_, ?_, ?_, ?_, ?_, ?_, ?_, ?_, ?_, ?_, ?_, ?_, ?_, ?_, ?_, ?_, ?_, ?_, ?_, ?_, ?_, ?_, ?_, ?_, ?_, ?_, ?_, ?_, ?_, ?_, ?_, ?_, ?_, ?_, ?_, ?_, ?_, ?_, ?_, ?_, ?_, ?_, ?_, ?_, ?_, ?_, ?_, ?_, ?_, ?_, ?_, trivial⟩ <;> first | exact le_any _ | with_reducible exact le_rfl' _ | (refine .inl (congrArg V.bool ?_); rw [Bool.eq_iff_iff]; simp only [Bool.false_eq_true, false_iff, decide_eq_true_eq] at *; omega) | exact le_rfl' _
  ·
   refine Ok.cond (b := _) (by simp only [kE, kT, kL, kC] <;> rfl) (fun hb6 => ?_) (fun hb6 => ?_)
   ·
    try simp only [bsimp] at hb6
    obtain ⟨hi5, hpi⟩ : i < 5 ∧ p + i < s.length := hb6
    have hsh := next_scale hi5
    have hgl := grp_lt (b := s[p + i].toNat) hi5 h2
    have hf : 5 - i = (5 - (i + 1)) + 1 := by omega
    refine Ok.skip ?_
    refine Ok.seq ?_
    refine Ok.block ?_
    refine OQ ?_
    iterate 3 (refine EV ?_)
    refine OkOps.ev tab_ok rfl (ev_byte_lt (by simp only [kE, kT, kL, kC] <;> rfl) (by simp only [kE, kT, kL, kC] <;> rfl) (by omega) rfl) (by simp only [kP] <;> rfl) ?_
    refine EV ?_
    refine OkOps.ev tab_ok rfl (by simp only [kE, kT, kL, kC, rem_byte] <;> rfl) (by simp only [kP] <;> rfl) ?_
    refine EV ?_
    refine OkOps.ev tab_ok rfl (by simp only [kE, kT, kL, kC, mul_grp hi5] <;> rfl) (by simp only [kP] <;> rfl) ?_
    refine OkOps.ev tab_ok rfl (by simp only [kE, kT, kL, kC, add_grp hi5 h2] <;> rfl) (by simp only [kP] <;> rfl) ?_
    refine EV ?_
    refine ON ?_
    refine OQ ?_
    refine EV ?_
    refine OkOps.ev tab_ok rfl (by simp only [kE, kT, kL, kC, hsh] <;> rfl) (by simp only [kP] <;> rfl) ?_
    refine EV ?_
    refine ON ?_
    refine OQ ?_
    iterate 2 (refine EV ?_)
    refine OkOps.ev tab_ok rfl (ev_byte_lt (by simp only [kE, kT, kL, kC] <;> rfl) (by simp only [kE, kT, kL, kC] <;> rfl) (by omega) rfl) (by simp only [kP] <;> rfl) ?_
    refine EV ?_
    refine ON ?_
    refine Ok.cond (b := _) (by simp only [kE, kT, kL, kC] <;> rfl) (fun hb10 => ?_) (fun hb10 => ?_)
    ·
     try simp only [bsimp] at hb10
     have hb : s[p + i].toNat < 128 := by omega
     rw [hf, rdV_lo hpi hb] at h1
     refine Ok.seq ?_
     refine Ok.seqC [(54, .bool (!decide (n + s[p + i].toNat % 128 * 128 ^ i ≤ 1000000000 ∧ varT (n + s[p + i].toNat % 128 * 128 ^ i) = (s.take (p + i + 1)).drop p)))] [43, 44, 45, 46, 47, 48, 49, 50, 51, 52, 53] (by simp only [kover] <;> rfl) ?_ ?_
     ·
      refine Ok.drawn 12 58 [] (by kernel_rfl) (by kernel_rfl) rfl ?_
      iterate 3 (refine SV ?_)
      refine SOps.split (d := 45) (by simp only [kE, kT, kL, kC] <;> rfl) (by simp only [kP] <;> rfl) (by simp only [kP] <;> rfl) (fun hg11_2 => ?_) (fun hg11_2 => ?_)
      ·
       try simp only [bsimp] at hg11_2
       refine SOps.offU rfl rfl (.inl (by simp only [kE, kT, kL, kC, Bool.not_true, Bool.not_false])) (by simp only [kP] <;> rfl) ?_
       refine SOps.offU rfl rfl (.inl (by simp only [kE, kT, kL, kC, Bool.not_true, Bool.not_false])) (by simp only [kP] <;> rfl) ?_
       refine SOps.offU rfl rfl (.inl (by simp only [kE, kT, kL, kC, Bool.not_true, Bool.not_false])) (by simp only [kP] <;> rfl) ?_
       refine SOps.offU rfl rfl (.inl (by simp only [kE, kT, kL, kC, Bool.not_true, Bool.not_false])) (by simp only [kP] <;> rfl) ?_
       refine SOps.offU rfl rfl (.inl (by simp only [kE, kT, kL, kC, Bool.not_true, Bool.not_false])) (by simp only [kP] <;> rfl) ?_
       refine SOps.offU rfl rfl (.inl (by simp only [kE, kT, kL, kC, Bool.not_true, Bool.not_false])) (by simp only [kP] <;> rfl) ?_
       refine SOps.offU rfl rfl (.inl (by simp only [kE, kT, kL, kC, Bool.not_true, Bool.not_false])) (by simp only [kP] <;> rfl) ?_
       refine SOps.offU rfl rfl (.inl (by simp only [kE, kT, kL, kC, Bool.not_true, Bool.not_false])) (by simp only [kP] <;> rfl) ?_
       refine SV ?_
       refine SOps.nil ?_
       refine TOps.nil ?_
       refine ⟨rfl, ?_, rfl, rfl⟩
       refine ⟨?_, ?_, ?_, ?_, ?_, ?_, ?_, ?_, ?_, ?_, ?_, ?_, ?_, ?_, ?_, ?_, ?_, ?_, ?_, ?_, ?_, ?_, ?_, ?_, ?_, ?_, ?_, ?_, ?_, ?_, ?_, ?_, ?_, ?_, ?_, ?_, ?_, ?_, ?_, ?_, ?_, ?_, ?_, ?_, ?_, ?_, ?_, ?_, ?_, ?_, ?_, ?_, ?_, ?_, ?_, ?_, ?_, ?_, trivial⟩ <;> first | exact le_any _ | with_reducible exact le_rfl' _ | (refine .inl (congrArg V.bool ?_); first | (simp only [Int.toNat_natCast]; simp [hn9]; done) | (simp; omega)) | exact le_rfl' _
      ·
       try simp only [bsimp] at hg11_2
       have hn9 : n + s[p + i].toNat % 128 * 128 ^ i ≤ 1000000000 := by omega
       refine SOps.onEv tab_ok rfl rfl (by simp only [kE, kT, kL, kC]) (by simp only [kE, kT, kL, kC] <;> rfl) (by simp only [kP] <;> rfl) ?_
       refine SOps.onS0 rfl rfl (by simp only [kE, kT, kL, kC]) (OpS.weakM rfl (by simp only [kE, kT, kL, kC] <;> rfl) (by simp only [kE, kT, kL, kC] <;> rfl) cl28 (w_spec_l01Var ((n + s[p + i].toNat % 128 * 128 ^ i : Nat) : Int) (by omega))) (by simp only [kP] <;> rfl) ?_
       refine SOps.onEv tab_ok rfl rfl (by simp only [kE, kT, kL, kC]) (by simp only [kE, kT, kL, kC] <;> rfl) (by simp only [kP] <;> rfl) ?_
       refine SOps.onEv tab_ok rfl rfl (by simp only [kE, kT, kL, kC]) (by simp only [kE, kT, kL, kC] <;> rfl) (by simp only [kP] <;> rfl) ?_
       refine SOps.onEv tab_ok rfl rfl (by simp only [kE, kT, kL, kC]) (by simp only [kE, kT, kL, kC] <;> rfl) (by simp only [kP] <;> rfl) ?_
       refine SOps.onEv tab_ok rfl rfl (by simp only [kE, kT, kL, kC]) (by simp only [kE, kT, kL, kC, wrap_add_one (show p + i + 1 ≤ 9223372036854775807 by omega)] <;> rfl) (by simp only [kP] <;> rfl) ?_
       refine SOps.onEv tab_ok rfl rfl (by simp only [kE, kT, kL, kC]) (ev_cut (by simp only [kE, kT, kL, kC] <;> rfl) (by simp only [kE, kT, kL, kC] <;> rfl) (by simp only [kE, kT, kL, kC] <;> rfl) rfl (by omega) (by omega)) (by simp only [kP] <;> rfl) ?_
       refine SOps.onEv tab_ok rfl rfl (by simp only [kE, kT, kL, kC]) (by simp only [kE, kT, kL, kC] <;> rfl) (by simp only [kP] <;> rfl) ?_
       refine SV ?_
       refine SOps.nil ?_
       refine TOps.nil ?_
       refine ⟨rfl, ?_, rfl, rfl⟩
       refine ⟨?_, ?_, ?_, ?_, ?_, ?_, ?_, ?_, ?_, ?_, ?_, ?_, ?_, ?_, ?_, ?_, ?_, ?_, ?_, ?_, ?_, ?_, ?_, ?_, ?_, ?_, ?_, ?_, ?_, ?_, ?_, ?_, ?_, ?_, ?_, ?_, ?_, ?_, ?_, ?_, ?_, ?_, ?_, ?_, ?_, ?_, ?_, ?_, ?_, ?_, ?_, ?_, ?_, ?_, ?_, ?_, ?_, ?_, trivial⟩ <;> first | exact le_any _ | with_reducible exact le_rfl' _ | (refine .inl (congrArg V.bool ?_); first | (simp only [Int.toNat_natCast]; simp [hn9]; done) | (simp; omega)) | exact le_rfl' _
     ·
      refine Ok.cond (b := _) (by simp only [kE, kT, kL, kC] <;> rfl) (fun hb11 => ?_) (fun hb11 => ?_)
      ·
       try simp only [bsimp] at hb11
       rw [if_neg (by simpa using hb11)] at h1
       rw [← h1]
       refine OQ ?_
       iterate 3 (refine EV ?_)
       refine ON ?_
       refine Ok.ret ?_
       with_reducible repeat (first | refine thenQ_ret ?_ | refine blockQ_ret ?_)
       refine retQ.end (by show resVs tab _ [.tmp 4, .tmp 5, .tmp 6] = _; simp only [kE, kT, kL, kC] <;> rfl) rfl ?_
       rfl
      ·
       try simp only [bsimp] at hb11
       have hc : n + s[p + i].toNat % 128 * 128 ^ i ≤ 1000000000 ∧ varT (n + s[p + i].toNat % 128 * 128 ^ i) = (s.take (p + i + 1)).drop p := by simpa using hb11
       rw [if_pos hc] at h1
       rw [← h1]
       refine Ok.skip ?_
       refine OQ ?_
       iterate 2 (refine EV ?_)
       refine OkOps.ev tab_ok rfl (by simp only [kE, kT, kL, kC, wrap_add_one (show p + i + 1 ≤ 9223372036854775807 by omega)] <;> rfl) (by simp only [kP] <;> rfl) ?_
       iterate 3 (refine EV ?_)
       refine ON ?_
       refine Ok.ret ?_
       with_reducible repeat (first | refine thenQ_ret ?_ | refine blockQ_ret ?_)
       refine retQ.end (by show resVs tab _ [.tmp 4, .tmp 5, .tmp 6] = _; simp only [kE, kT, kL, kC] <;> rfl) rfl ?_
       rfl
    ·
     try simp only [bsimp] at hb10
     have hb : ¬ s[p + i].toNat < 128 := by omega
     rw [hf, rdV_hi hpi hb] at h1
     refine Ok.skip ?_
     refine Ok.region ?_
     iterate 3 (refine EV ?_)
     refine ON ?_
     refine ⟨(i + 1, n + s[p + i].toNat % 128 * 128 ^ i), ?_, rfl, rfl, ⟨h1, hgl.1, by omega⟩, by show 5 - (i + 1) < 5 - i; omega⟩
     refine ⟨?_, ?_, ?_, ?_, ?_, ?_, ?_, ?_, ?_, ?_, ?_, ?_, ?_, ?_, ?_, ?_, ?_, ?_, ?_, ?_, ?_, ?_, ?_, ?_, ?_, ?_, ?_, ?_, ?_, ?_, ?_, ?_, ?_, ?_, ?_, ?_, ?_, ?_, ?_, ?_, ?_, ?_, ?_, ?_, ?_, ?_, ?_, ?_, ?_, ?_, ?_, ?_, ?_, ?_, ?_, ?_, ?_, ?_, trivial⟩ <;> first | exact le_any _ | with_reducible exact le_rfl' _ | (first | exact le_rfl' _ | (rw [wrap_add_one (by omega)]; exact le_rfl' _)) | exact le_rfl' _
   ·
    try simp only [bsimp] at hb6
    have he : ¬ (i < 5 ∧ p + i < s.length) := hb6
    have hr : rdV s p (5 - i) i n = none := by by_cases h : p + i < s.length; (rw [show 5 - i = 0 by omega]; rfl); exact rdV_end h
    refine Ok.exit ?_
    refine OQ ?_
    iterate 3 (refine EV ?_)
    refine ON ?_
    refine Ok.ret ?_
    with_reducible repeat (first | refine thenQ_ret ?_ | refine blockQ_ret ?_)
    refine retQ.end (by show resVs tab _ [.tmp 4, .tmp 5, .tmp 6] = _; simp only [kE, kT, kL, kC] <;> rfl) rfl ?_
    rw [← h1, hr]; rfl
theorem w_impl_ReadVar (s : Str) (z : Int) (hs : s.length ≤ 4611686018427387904) : Weak Try.prog 53 [.str s, .int .i64 z] (vR (readVar s z)) := by
 refine Weak.enter tab_ok Try.func53 rfl (.inr (by simp [V.labelsL, V.labels, zz])) (t := [.str s, .int .i64 z, .any, .any, .any, .any, .any, .any, .any, .any, .any, .any, .any, .any, .any, .any, .any, .any, .any, .any, .any, .any, .any, .any, .any, .any, .any, .any, .any, .any, .any, .any, .any, .any, .any, .any, .any, .any, .any, .any, .any, .any, .any, .any, .any, .any, .any, .any, .any, .any, .any, .any, .any, .any, .any, .any, .any, .any, .any, .any, .any, .any, .any, .any, .any, .any, .any, .any, .any]) rfl ?_
 refine OQ ?_
 iterate 3 (refine EV ?_)
 refine ON ?_
 refine Ok.seq ?_
 refine OQ ?_
 iterate 3 (refine EV ?_)
 refine OkOps.S0 rfl (OpS.weak' rfl (by simp only [kE, kT, kL, kC] <;> rfl) (by simp only [kE, kT, kL, kC] <;> rfl) cl22 (w_impl_within _ _ _)) (by simp only [kP] <;> rfl) ?_
 refine EV ?_
 refine ON ?_
 refine Ok.cond (b := _) (by simp only [kE, kT, kL, kC] <;> rfl) (fun hb1 => ?_) (fun hb1 => ?_)
 ·
  try simp only [bsimp] at hb1
  rw [readVar, if_neg (by simp [hb1])]
  refine OQ ?_
  iterate 3 (refine EV ?_)
  refine ON ?_
  refine Ok.ret ?_
  with_reducible repeat (first | refine thenQ_ret ?_ | refine blockQ_ret ?_)
  refine retQ.end (by show resVs tab _ [.tmp 4, .tmp 5, .tmp 6] = _; simp only [kE, kT, kL, kC] <;> rfl) rfl ?_
  rfl
 ·
  try simp only [bsimp] at hb1
  rw [readVar, if_pos hb1]
  obtain ⟨p, rfl⟩ : ∃ p : Nat, z = p := ⟨z.toNat, by have := inR_t.1 hb1; omega⟩
  have hp : p ≤ s.length := by have := inR_t.1 hb1; omega
  rw [Int.toNat_natCast]
  refine Ok.skip ?_
  refine OQ ?_
  refine EV ?_
  refine ON ?_
  refine Ok.seq ?_
  refine OQ ?_
  refine EV ?_
  refine ON ?_
  refine Ok.block ?_
  refine Ok.loopW (τ := Nat × Nat) (fun x => [(7, .int .i64 (x.2 : Int)), (8, .int .i64 (x.1 : Int))]) [4, 5, 6, 9, 10, 16, 17, 18, 19, 20, 21, 22, 23, 24, 25, 26, 27, 28, 29, 30, 31, 32, 33, 34, 35, 36, 37, 38, 39, 40, 41, 42, 43, 44, 45, 46, 47, 48, 49, 50, 51, 52, 53, 54, 55, 56, 57, 58, 59, 60, 61, 62, 63, 64, 65, 66, 67, 68] (fun x => by simp only [kover] <;> rfl) (fun x => rdV s p (5 - x.1) x.1 x.2 = rdV s p 5 0 0 ∧ x.2 < 128 ^ x.1 ∧ x.1 ≤ 5) (fun x => 5 - x.1) (0, 0) (by refine ⟨?_, ?_, ?_, ?_, ?_, ?_, ?_, ?_, ?_, ?_, ?_, ?_, ?_, ?_, ?_, ?_, ?_, ?_, ?_, ?_, ?_, ?_, ?_, ?_, ?_, ?_, ?_, ?_, ?_, ?_, ?_, ?_, ?_, ?_, ?_, ?_, ?_, ?_, ?_, ?_, ?_, ?_, ?_, ?_, ?_, ?_, ?_, ?_, ?_, ?_, ?_, ?_, ?_, ?_, ?_, ?_, ?_, ?_, ?_, ?_, ?_, ?_, ?_, ?_, ?_, ?_, ?_, ?_, ?_, trivial⟩ <;> first | exact le_any _ | with_reducible exact le_rfl' _ | (exact le_rfl' _) | exact le_rfl' _) (⟨rfl, by decide, by decide⟩) ?_
  rintro ⟨i, n⟩ ⟨h1, h2, h3⟩
  have h1 : rdV s p (5 - i) i n = rdV s p 5 0 0 := h1
  have h2 : n < 128 ^ i := h2
  have h3 : i ≤ 5 := h3
  refine Ok.seq ?_
  refine Ok.seqC [(25, .bool (decide (i < 5 ∧ p + i < s.length)))] [16, 17, 18, 19, 20, 21, 22, 23, 24] (by simp only [kover] <;> rfl) ?_ ?_
  ·
   refine Ok.region ?_
   iterate 3 (refine EV ?_)
   refine OkOps.split (d := 18) (by simp only [kE, kT, kL, kC] <;> rfl) (by simp only [kP] <;> rfl) (by simp only [kP] <;> rfl) (fun hg5_2 => ?_) (fun hg5_2 => ?_)
   ·
    try simp only [bsimp] at hg5_2
    refine OO ?_
    refine EV ?_
    refine OO ?_
    refine EV ?_
    refine OO ?_
    refine OkOps.ev tab_ok rfl (by simp only [kE, kT, kL, kC, wrap_add_nat (show p + i ≤ 9223372036854775807 by omega)] <;> rfl) (by simp only [kP] <;> rfl) ?_
    refine OO ?_
    refine EV ?_
    refine OO ?_
    refine EV ?_
    refine OO ?_
    iterate 2 (refine EV ?_)
    refine ON ?_
    refine ⟨rfl, ?_, rfl, rfl⟩
    refine ⟨?_, ?_, ?_, ?_, ?_, ?_, ?_, ?_, ?_, ?_, ?_, ?_, ?_, ?_, ?_, ?_, ?_, ?_, ?_, ?_, ?_, ?_, ?_, ?_, ?_, ?_, ?_, ?_, ?_, ?_, ?_, ?_, ?_, ?_, ?_, ?_, ?_, ?_, ?_, ?_, ?_, ?_, ?_, ?_, ?_, ?_, ?_, ?_, ?_, ?_, ?_, ?_, ?_, ?_, ?_, ?_, ?_, ?_, ?_, ?_, ?_, ?_, ?_, ?_, ?_, ?_, ?_, ?_, ?_, trivial⟩ <;> first | exact le_any _ | with_reducible exact le_rfl' _ | (refine .inl (congrArg V.bool ?_); rw [Bool.eq_iff_iff]; simp only [Bool.false_eq_true, false_iff, decide_eq_true_eq] at *; omega) | exact le_rfl' _
   ·
    try simp only [bsimp] at hg5_2
    refine OkOps.offU rfl rfl (.inl (by simp only [kE, kT, kL, kC, Bool.not_true, Bool.not_false])) (by simp only [kP] <;> rfl) ?_
    refine OkOps.offU rfl rfl (.inl (by simp only [kE, kT, kL, kC, Bool.not_true, Bool.not_false])) (by simp only [kP] <;> rfl) ?_
    refine OkOps.offU rfl rfl (.inl (by simp only [kE, kT, kL, kC, Bool.not_true, Bool.not_false])) (by simp only [kP] <;> rfl) ?_
    refine OkOps.offU rfl rfl (.inl (by simp only [kE, kT, kL, kC, Bool.not_true, Bool.not_false])) (by simp only [kP] <;> rfl) ?_
    refine OkOps.offU rfl rfl (.inl (by simp only [kE, kT, kL, kC, Bool.not_true, Bool.not_false])) (by simp only [kP] <;> rfl) ?_
    refine OkOps.offU rfl rfl (.inl (by simp only [kE, kT, kL, kC, Bool.not_true, Bool.not_false])) (by simp only [kP] <;> rfl) ?_
    refine EV ?_
    refine ON ?_
    refine ⟨rfl, ?_, rfl, rfl⟩
    refine ⟨?_, ?_, ?_, ?_, ?_, ?_, ?_, ?_, ?_, ?_, ?_, ?_, ?_, ?_, ?_, ?_, ?_, ?_, ?_, ?_, ?_, ?_, ?_, ?_, ?_, ?_, ?_, ?_, ?_, ?_, ?_, ?_, ?_, ?_, ?_, ?_, ?_, ?_, ?_, ?_, ?_, ?_, ?_, ?_, ?_, ?_, ?_, ?_, ?_, ?_, ?_, ?_, ?_, ?_, ?_, ?_, ?_, ?_, ?_, ?_, ?_, ?_, ?_, ?_, ?_, ?_, ?_, ?_, ?_, trivial⟩ <;> first | exact le_any _ | with_reducible exact le_rfl' _ | (refine .inl (congrArg V.bool ?_); rw [Bool.eq_iff_iff]; simp only [Bool.false_eq_true, false_iff, decide_eq_true_eq] at *; omega) | exact le_rfl' _
  ·
   refine Ok.cond (b := _) (by simp only [kE, kT, kL, kC] <;> rfl) (fun hb5 => ?_) (fun hb5 => ?_)
   ·
    try simp only [bsimp] at hb5
    obtain ⟨hi5, hpi⟩ : i < 5 ∧ p + i < s.length := hb5
    have hgl := grp_lt (b := s[p + i].toNat) hi5 h2
    have hf : 5 - i = (5 - (i + 1)) + 1 := by omega
    refine Ok.skip ?_
    refine Ok.seq ?_
    refine Ok.block ?_
    refine OQ ?_
    iterate 4 (refine EV ?_)
    refine OkOps.ev tab_ok rfl (by simp only [kE, kT, kL, kC, wrap_add_nat (show p + i ≤ 9223372036854775807 by omega)] <;> rfl) (by simp only [kP] <;> rfl) ?_
    refine OkOps.ev tab_ok rfl (ev_byte_lt (by simp only [kE, kT, kL, kC] <;> rfl) (by simp only [kE, kT, kL, kC] <;> rfl) (by omega) rfl) (by simp only [kP] <;> rfl) ?_
    refine OkOps.ev tab_ok rfl (by simp only [kE, kT, kL, kC, and_byte] <;> rfl) (by simp only [kP] <;> rfl) ?_
    refine OkOps.ev tab_ok rfl (by simp only [kE, kT, kL, kC, wrap_nat (show s[p + i].toNat % 128 ≤ 9223372036854775807 by omega)] <;> rfl) (by simp only [kP] <;> rfl) ?_
    refine EV ?_
    refine OkOps.ev tab_ok rfl (by simp only [kE, kT, kL, kC, mul7 hi5] <;> rfl) (by simp only [kP] <;> rfl) ?_
    refine OkOps.ev tab_ok rfl ((ev_shl (by simp only [kE, kT, kL, kC] <;> rfl) (by simp only [kE, kT, kL, kC] <;> rfl) (by omega)).trans (by simp only [shl_grp hi5] <;> rfl)) (by simp only [kP] <;> rfl) ?_
    refine OkOps.ev tab_ok rfl (by simp only [kE, kT, kL, kC, or_grp hi5 h2] <;> rfl) (by simp only [kP] <;> rfl) ?_
    refine EV ?_
    refine ON ?_
    refine Ok.seq ?_
    refine OQ ?_
    iterate 3 (refine EV ?_)
    refine OkOps.ev tab_ok rfl (by simp only [kE, kT, kL, kC, wrap_add_nat (show p + i ≤ 9223372036854775807 by omega)] <;> rfl) (by simp only [kP] <;> rfl) ?_
    refine OkOps.ev tab_ok rfl (ev_byte_lt (by simp only [kE, kT, kL, kC] <;> rfl) (by simp only [kE, kT, kL, kC] <;> rfl) (by omega) rfl) (by simp only [kP] <;> rfl) ?_
    refine EV ?_
    refine ON ?_
    refine Ok.cond (b := _) (by simp only [kE, kT, kL, kC] <;> rfl) (fun hb8 => ?_) (fun hb8 => ?_)
    ·
     try simp only [bsimp] at hb8
     have hb : ¬ s[p + i].toNat < 128 := by omega
     rw [hf, rdV_hi hpi hb] at h1
     refine Ok.exit ?_
     refine Ok.region ?_
     iterate 3 (refine EV ?_)
     refine ON ?_
     refine ⟨(i + 1, n + s[p + i].toNat % 128 * 128 ^ i), ?_, rfl, rfl, ⟨h1, hgl.1, by omega⟩, by show 5 - (i + 1) < 5 - i; omega⟩
     refine ⟨?_, ?_, ?_, ?_, ?_, ?_, ?_, ?_, ?_, ?_, ?_, ?_, ?_, ?_, ?_, ?_, ?_, ?_, ?_, ?_, ?_, ?_, ?_, ?_, ?_, ?_, ?_, ?_, ?_, ?_, ?_, ?_, ?_, ?_, ?_, ?_, ?_, ?_, ?_, ?_, ?_, ?_, ?_, ?_, ?_, ?_, ?_, ?_, ?_, ?_, ?_, ?_, ?_, ?_, ?_, ?_, ?_, ?_, ?_, ?_, ?_, ?_, ?_, ?_, ?_, ?_, ?_, ?_, ?_, trivial⟩ <;> first | exact le_any _ | with_reducible exact le_rfl' _ | (first | exact le_rfl' _ | (rw [wrap_add_one (by omega)]; exact le_rfl' _)) | exact le_rfl' _
    ·
     try simp only [bsimp] at hb8
     have hb : s[p + i].toNat < 128 := by omega
     rw [hf, rdV_lo hpi hb] at h1
     refine Ok.skip ?_
     refine Ok.seq ?_
     refine OQ ?_
     refine EV ?_
     refine OkOps.S0 rfl (OpS.weak' rfl (by simp only [kE, kT, kL, kC] <;> rfl) (by simp only [kE, kT, kL, kC] <;> rfl) cl48 (w_impl_VarText _)) (by simp only [kP] <;> rfl) ?_
     iterate 5 (refine EV ?_)
     refine ON ?_
     refine Ok.seqC [(63, .bool (!decide (n + s[p + i].toNat % 128 * 128 ^ i ≤ 1000000000 ∧ varT (n + s[p + i].toNat % 128 * 128 ^ i) = (s.take (p + i + 1)).drop p)))] [51, 52, 53, 54, 55, 56, 57, 58, 59, 60, 61, 62] (by simp only [kover] <;> rfl) ?_ ?_
     ·
      refine Ok.region ?_
      iterate 3 (refine EV ?_)
      refine OkOps.split (d := 53) (by simp only [kE, kT, kL, kC] <;> rfl) (by simp only [kP] <;> rfl) (by simp only [kP] <;> rfl) (fun hg10_2 => ?_) (fun hg10_2 => ?_)
      ·
       try simp only [bsimp] at hg10_2
       have hn9 : ¬ n + s[p + i].toNat % 128 * 128 ^ i ≤ 1000000000 := fun hq => by rw [varText_t (inR_t.2 (by omega))] at hg10_2; simp at hg10_2
       refine OkOps.offU rfl rfl (.inl (by simp only [kE, kT, kL, kC, Bool.not_true, Bool.not_false])) (by simp only [kP] <;> rfl) ?_
       refine OkOps.offU rfl rfl (.inl (by simp only [kE, kT, kL, kC, Bool.not_true, Bool.not_false])) (by simp only [kP] <;> rfl) ?_
       refine OkOps.offU rfl rfl (.inl (by simp only [kE, kT, kL, kC, Bool.not_true, Bool.not_false])) (by simp only [kP] <;> rfl) ?_
       refine OkOps.offU rfl rfl (.inl (by simp only [kE, kT, kL, kC, Bool.not_true, Bool.not_false])) (by simp only [kP] <;> rfl) ?_
       refine OkOps.offU rfl rfl (.inl (by simp only [kE, kT, kL, kC, Bool.not_true, Bool.not_false])) (by simp only [kP] <;> rfl) ?_
       refine OkOps.offU rfl rfl (.inl (by simp only [kE, kT, kL, kC, Bool.not_true, Bool.not_false])) (by simp only [kP] <;> rfl) ?_
       refine OkOps.offU rfl rfl (.inl (by simp only [kE, kT, kL, kC, Bool.not_true, Bool.not_false])) (by simp only [kP] <;> rfl) ?_
       refine OkOps.offU rfl rfl (.inl (by simp only [kE, kT, kL, kC, Bool.not_true, Bool.not_false])) (by simp only [kP] <;> rfl) ?_
       refine OkOps.offU rfl rfl (.inl (by simp only [kE, kT, kL, kC, Bool.not_true, Bool.not_false])) (by simp only [kP] <;> rfl) ?_
       refine EV ?_
       refine ON ?_
       refine ⟨rfl, ?_, rfl, rfl⟩
       refine ⟨?_, ?_, ?_, ?_, ?_, ?_, ?_, ?_, ?_, ?_, ?_, ?_, ?_, ?_, ?_, ?_, ?_, ?_, ?_, ?_, ?_, ?_, ?_, ?_, ?_, ?_, ?_, ?_, ?_, ?_, ?_, ?_, ?_, ?_, ?_, ?_, ?_, ?_, ?_, ?_, ?_, ?_, ?_, ?_, ?_, ?_, ?_, ?_, ?_, ?_, ?_, ?_, ?_, ?_, ?_, ?_, ?_, ?_, ?_, ?_, ?_, ?_, ?_, ?_, ?_, ?_, ?_, ?_, ?_, trivial⟩ <;> first | exact le_any _ | with_reducible exact le_rfl' _ | (refine .inl (congrArg V.bool ?_); first | (simp only [varText_t hk, Option.getD_some, Int.toNat_natCast]; simp [hn9]; done) | (simp only [Bool.true_eq, Bool.not_eq_true', decide_eq_false_iff_not]; exact fun hq => hn9 hq.1) | (simp [hn9]; done)) | exact le_rfl' _
      ·
       try simp only [bsimp] at hg10_2
       have hk : inR ((n + s[p + i].toNat % 128 * 128 ^ i : Nat) : Int) 0 1000000000 = true := by cases hq : inR ((n + s[p + i].toNat % 128 * 128 ^ i : Nat) : Int) 0 1000000000 with | true => rfl | false => rw [varText_f hq] at hg10_2; simp at hg10_2
       have hn9 : n + s[p + i].toNat % 128 * 128 ^ i ≤ 1000000000 := by have := inR_t.1 hk; omega
       refine OO ?_
       refine EV ?_
       refine OO ?_
       refine EV ?_
       refine OO ?_
       refine EV ?_
       refine OO ?_
       refine EV ?_
       refine OO ?_
       refine EV ?_
       refine OO ?_
       refine OkOps.ev tab_ok rfl (by simp only [kE, kT, kL, kC, wrap_add_nat (show p + i ≤ 9223372036854775807 by omega)] <;> rfl) (by simp only [kP] <;> rfl) ?_
       refine OO ?_
       refine OkOps.ev tab_ok rfl (by simp only [kE, kT, kL, kC, wrap_add_one (show p + i + 1 ≤ 9223372036854775807 by omega)] <;> rfl) (by simp only [kP] <;> rfl) ?_
       refine OO ?_
       refine OkOps.ev tab_ok rfl (ev_cut (by simp only [kE, kT, kL, kC] <;> rfl) (by simp only [kE, kT, kL, kC] <;> rfl) (by simp only [kE, kT, kL, kC] <;> rfl) rfl (by omega) (by omega)) (by simp only [kP] <;> rfl) ?_
       refine OO ?_
       iterate 2 (refine EV ?_)
       refine ON ?_
       refine ⟨rfl, ?_, rfl, rfl⟩
       refine ⟨?_, ?_, ?_, ?_, ?_, ?_, ?_, ?_, ?_, ?_, ?_, ?_, ?_, ?_, ?_, ?_, ?_, ?_, ?_, ?_, ?_, ?_, ?_, ?_, ?_, ?_, ?_, ?_, ?_, ?_, ?_, ?_, ?_, ?_, ?_, ?_, ?_, ?_, ?_, ?_, ?_, ?_, ?_, ?_, ?_, ?_, ?_, ?_, ?_, ?_, ?_, ?_, ?_, ?_, ?_, ?_, ?_, ?_, ?_, ?_, ?_, ?_, ?_, ?_, ?_, ?_, ?_, ?_, ?_, trivial⟩ <;> first | exact le_any _ | with_reducible exact le_rfl' _ | (refine .inl (congrArg V.bool ?_); first | (simp only [varText_t hk, Option.getD_some, Int.toNat_natCast]; simp [hn9]; done) | (simp only [Bool.true_eq, Bool.not_eq_true', decide_eq_false_iff_not]; exact fun hq => hn9 hq.1) | (simp [hn9]; done)) | exact le_rfl' _
     ·
      refine Ok.cond (b := _) (by simp only [kE, kT, kL, kC] <;> rfl) (fun hb10 => ?_) (fun hb10 => ?_)
      ·
       try simp only [bsimp] at hb10
       rw [if_neg (by simpa using hb10)] at h1
       rw [← h1]
       refine OQ ?_
       iterate 3 (refine EV ?_)
       refine ON ?_
       refine Ok.ret ?_
       with_reducible repeat (first | refine thenQ_ret ?_ | refine blockQ_ret ?_)
       refine retQ.end (by show resVs tab _ [.tmp 4, .tmp 5, .tmp 6] = _; simp only [kE, kT, kL, kC] <;> rfl) rfl ?_
       rfl
      ·
       try simp only [bsimp] at hb10
       have hc : n + s[p + i].toNat % 128 * 128 ^ i ≤ 1000000000 ∧ varT (n + s[p + i].toNat % 128 * 128 ^ i) = (s.take (p + i + 1)).drop p := by simpa using hb10
       rw [if_pos hc] at h1
       rw [← h1]
       refine Ok.skip ?_
       refine OQ ?_
       iterate 3 (refine EV ?_)
       refine OkOps.ev tab_ok rfl (by simp only [kE, kT, kL, kC, wrap_add_nat (show p + i ≤ 9223372036854775807 by omega)] <;> rfl) (by simp only [kP] <;> rfl) ?_
       refine OkOps.ev tab_ok rfl (by simp only [kE, kT, kL, kC, wrap_add_one (show p + i + 1 ≤ 9223372036854775807 by omega)] <;> rfl) (by simp only [kP] <;> rfl) ?_
       iterate 3 (refine EV ?_)
       refine ON ?_
       refine Ok.ret ?_
       with_reducible repeat (first | refine thenQ_ret ?_ | refine blockQ_ret ?_)
       refine retQ.end (by show resVs tab _ [.tmp 4, .tmp 5, .tmp 6] = _; simp only [kE, kT, kL, kC] <;> rfl) rfl ?_
       rfl
   ·
    try simp only [bsimp] at hb5
    have he : ¬ (i < 5 ∧ p + i < s.length) := hb5
    have hr : rdV s p (5 - i) i n = none := by by_cases h : p + i < s.length; (rw [show 5 - i = 0 by omega]; rfl); exact rdV_end h
    refine Ok.exit ?_
    refine OQ ?_
    iterate 3 (refine EV ?_)
    refine ON ?_
    refine Ok.ret ?_
    with_reducible repeat (first | refine thenQ_ret ?_ | refine blockQ_ret ?_)
    refine retQ.end (by show resVs tab _ [.tmp 4, .tmp 5, .tmp 6] = _; simp only [kE, kT, kL, kC] <;> rfl) rfl ?_
    rw [← h1, hr]; rfl
theorem w_spec_ReadShort (s : Str) (z : Int) (hs : s.length ≤ 4611686018427387904) : Weak Try.prog 58 [.str s, .int .i64 z] (vS (readShort s z)) := by
 refine Weak.enter tab_ok Try.func58 rfl (.inr (by simp [V.labelsL, V.labels, zz])) (t := [.str s, .int .i64 z, .any, .any, .any, .any, .any, .any, .any, .any, .any, .any, .any, .any, .any, .any, .any, .any, .any, .any, .any, .any, .any, .any, .any, .any, .any, .any, .any, .any, .any, .any, .any, .any, .any, .any, .any, .any, .any, .any]) rfl ?_
 refine OQ ?_
 iterate 3 (refine EV ?_)
 refine ON ?_
 refine OQ ?_
 iterate 2 (refine EV ?_)
 refine OkOps.S0 rfl (OpS.weak' rfl (by simp only [kE, kT, kL, kC] <;> rfl) (by simp only [kE, kT, kL, kC] <;> rfl) cl57 (w_spec_ReadVar s z hs)) (by simp only [kP] <;> rfl) ?_
 iterate 7 (refine EV ?_)
 refine ON ?_
 refine Ok.seq ?_
 refine Ok.seqC [(30, .bool (!(readShort s z).isSome))] [17, 18, 19, 20, 21, 22, 23, 24, 25, 26, 27, 28, 29] (by simp only [kover] <;> rfl) ?_ ?_
 ·
  refine Ok.region ?_
  iterate 3 (refine EV ?_)
  refine OkOps.split (d := 19) (by simp only [kE, kT, kL, kC] <;> rfl) (by simp only [kP] <;> rfl) (by simp only [kP] <;> rfl) (fun hg2_2 => ?_) (fun hg2_2 => ?_)
  ·
   try simp only [bsimp] at hg2_2
   refine OkOps.offU rfl rfl (.inl (by simp only [kE, kT, kL, kC, Bool.not_true, Bool.not_false])) (by simp only [kP] <;> rfl) ?_
   refine OkOps.offU rfl rfl (.inl (by simp only [kE, kT, kL, kC, Bool.not_true, Bool.not_false])) (by simp only [kP] <;> rfl) ?_
   iterate 2 (refine EV ?_)
   refine OkOps.offU rfl rfl (.inl (by simp only [kE, kT, kL, kC, Bool.not_true, Bool.not_false])) (by simp only [kP] <;> rfl) ?_
   refine OkOps.offU rfl rfl (.inl (by simp only [kE, kT, kL, kC, Bool.not_true, Bool.not_false])) (by simp only [kP] <;> rfl) ?_
   refine OkOps.offU rfl rfl (.inl (by simp only [kE, kT, kL, kC, Bool.not_true, Bool.not_false])) (by simp only [kP] <;> rfl) ?_
   refine OkOps.offU rfl rfl (.inl (by simp only [kE, kT, kL, kC, Bool.not_true, Bool.not_false])) (by simp only [kP] <;> rfl) ?_
   refine OkOps.offU rfl rfl (.inl (by simp only [kE, kT, kL, kC, Bool.not_true, Bool.not_false])) (by simp only [kP] <;> rfl) ?_
   refine OkOps.offU rfl rfl (.inl (by simp only [kE, kT, kL, kC, Bool.not_true, Bool.not_false])) (by simp only [kP] <;> rfl) ?_
   refine EV ?_
   refine ON ?_
   refine ⟨rfl, ?_, rfl, rfl⟩
   refine ⟨?_, ?_, ?_, ?_, ?_, ?_, ?_, ?_, ?_, ?_, ?_, ?_, ?_, ?_, ?_, ?_, ?_, ?_, ?_, ?_, ?_, ?_, ?_, ?_, ?_, ?_, ?_, ?_, ?_, ?_, ?_, ?_, ?_, ?_, ?_, ?_, ?_, ?_, ?_, ?_, trivial⟩ <;> first | exact le_any _ | with_reducible exact le_rfl' _ | (refine .inl (congrArg V.bool ?_); (rw [short_cond hs]; first | (simp [*]; done) | (simp_all; done))) | exact le_rfl' _
  ·
   try simp only [bsimp] at hg2_2
   refine OO ?_
   refine EV ?_
   refine OO ?_
   iterate 3 (refine EV ?_)
   refine OkOps.split (d := 23) (by simp only [kE, kT, kL, kC] <;> rfl) (by simp only [kP] <;> rfl) (by simp only [kP] <;> rfl) (fun hg2_6 => ?_) (fun hg2_6 => ?_)
   ·
    try simp only [bsimp] at hg2_6
    refine OkOps.offU rfl rfl (.inl (by simp only [kE, kT, kL, kC, Bool.not_true, Bool.not_false])) (by simp only [kP] <;> rfl) ?_
    refine OkOps.offU rfl rfl (.inl (by simp only [kE, kT, kL, kC, Bool.not_true, Bool.not_false])) (by simp only [kP] <;> rfl) ?_
    refine OkOps.offU rfl rfl (.inl (by simp only [kE, kT, kL, kC, Bool.not_true, Bool.not_false])) (by simp only [kP] <;> rfl) ?_
    refine OkOps.offU rfl rfl (.inl (by simp only [kE, kT, kL, kC, Bool.not_true, Bool.not_false])) (by simp only [kP] <;> rfl) ?_
    refine OkOps.offU rfl rfl (.inl (by simp only [kE, kT, kL, kC, Bool.not_true, Bool.not_false])) (by simp only [kP] <;> rfl) ?_
    refine OkOps.offU rfl rfl (.inl (by simp only [kE, kT, kL, kC, Bool.not_true, Bool.not_false])) (by simp only [kP] <;> rfl) ?_
    refine EV ?_
    refine ON ?_
    refine ⟨rfl, ?_, rfl, rfl⟩
    refine ⟨?_, ?_, ?_, ?_, ?_, ?_, ?_, ?_, ?_, ?_, ?_, ?_, ?_, ?_, ?_, ?_, ?_, ?_, ?_, ?_, ?_, ?_, ?_, ?_, ?_, ?_, ?_, ?_, ?_, ?_, ?_, ?_, ?_, ?_, ?_, ?_, ?_, ?_, ?_, ?_, trivial⟩ <;> first | exact le_any _ | with_reducible exact le_rfl' _ | (refine .inl (congrArg V.bool ?_); (rw [short_cond hs]; first | (simp [*]; done) | (simp_all; done))) | exact le_rfl' _
   ·
    try simp only [bsimp] at hg2_6
    refine OO ?_
    refine EV ?_
    refine OO ?_
    refine EV ?_
    refine OO ?_
    refine EV ?_
    refine OO ?_
    refine EV ?_
    refine OO ?_
    refine EV ?_
    refine OO ?_
    iterate 2 (refine EV ?_)
    refine ON ?_
    refine ⟨rfl, ?_, rfl, rfl⟩
    refine ⟨?_, ?_, ?_, ?_, ?_, ?_, ?_, ?_, ?_, ?_, ?_, ?_, ?_, ?_, ?_, ?_, ?_, ?_, ?_, ?_, ?_, ?_, ?_, ?_, ?_, ?_, ?_, ?_, ?_, ?_, ?_, ?_, ?_, ?_, ?_, ?_, ?_, ?_, ?_, ?_, trivial⟩ <;> first | exact le_any _ | with_reducible exact le_rfl' _ | (refine .inl (congrArg V.bool ?_); (rw [short_cond hs]; first | (simp [*]; done) | (simp_all; done))) | exact le_rfl' _
 ·
  refine Ok.cond (b := _) (by simp only [kE, kT, kL, kC] <;> rfl) (fun hb2 => ?_) (fun hb2 => ?_)
  ·
   try simp only [bsimp] at hb2
   have hn : readShort s z = none := by simpa using hb2
   rw [hn]
   refine OQ ?_
   iterate 3 (refine EV ?_)
   refine ON ?_
   refine Ok.ret ?_
   with_reducible repeat (first | refine thenQ_ret ?_ | refine blockQ_ret ?_)
   refine retQ.end (by show resVs tab _ [.tmp 4, .tmp 5, .tmp 6] = _; simp only [kE, kT, kL, kC] <;> rfl) rfl ?_
   rfl
  ·
   try simp only [bsimp] at hb2
   obtain ⟨q, hq⟩ : ∃ q, readShort s z = some q := Option.isSome_iff_exists.1 (by simpa using hb2)
   obtain ⟨m, e, hv, hme, rfl⟩ : ∃ m e, readVar s z = some (m, e) ∧ (m ≤ 20000 ∧ m + e ≤ s.length) ∧ q = ((s.take (e + m)).drop e, e + m) := by
     unfold readShort at hq
     split at hq
     · rename_i m e hv
       split at hq
       · rename_i hme; exact ⟨m, e, hv, hme, (Option.some.inj hq).symm⟩
       · cases hq
     · cases hq
   rw [hq]
   simp only [hv, Option.getD_some, Option.isSome_some]
   refine Ok.skip ?_
   refine OQ ?_
   iterate 4 (refine EV ?_)
   refine OkOps.ev tab_ok rfl (by simp only [kE, kT, kL, kC, wrap_add_nat (show e + m ≤ 9223372036854775807 by omega)] <;> rfl) (by simp only [kP] <;> rfl) ?_
   refine OkOps.ev tab_ok rfl (ev_cut (by simp only [kE, kT, kL, kC] <;> rfl) (by simp only [kE, kT, kL, kC] <;> rfl) (by simp only [kE, kT, kL, kC] <;> rfl) rfl (by omega) (by omega)) (by simp only [kP] <;> rfl) ?_
   iterate 2 (refine EV ?_)
   refine OkOps.ev tab_ok rfl (by simp only [kE, kT, kL, kC, wrap_add_nat (show e + m ≤ 9223372036854775807 by omega)] <;> rfl) (by simp only [kP] <;> rfl) ?_
   iterate 3 (refine EV ?_)
   refine ON ?_
   refine Ok.ret ?_
   with_reducible repeat (first | refine thenQ_ret ?_ | refine blockQ_ret ?_)
   refine retQ.end (by show resVs tab _ [.tmp 4, .tmp 5, .tmp 6] = _; simp only [kE, kT, kL, kC] <;> rfl) rfl ?_
   rfl
theorem w_impl_ReadShort (s : Str) (z : Int) (hs : s.length ≤ 4611686018427387904) : Weak Try.prog 54 [.str s, .int .i64 z] (vS (readShort s z)) := by
 refine Weak.enter tab_ok Try.func54 rfl (.inr (by simp [V.labelsL, V.labels, zz])) (t := [.str s, .int .i64 z, .any, .any, .any, .any, .any, .any, .any, .any, .any, .any, .any, .any, .any, .any, .any, .any, .any, .any, .any, .any, .any, .any, .any, .any, .any, .any, .any, .any, .any, .any, .any, .any, .any, .any, .any, .any, .any, .any]) rfl ?_
 refine OQ ?_
 iterate 3 (refine EV ?_)
 refine ON ?_
 refine OQ ?_
 iterate 2 (refine EV ?_)
 refine OkOps.S0 rfl (OpS.weak' rfl (by simp only [kE, kT, kL, kC] <;> rfl) (by simp only [kE, kT, kL, kC] <;> rfl) cl53 (w_impl_ReadVar s z hs)) (by simp only [kP] <;> rfl) ?_
 iterate 7 (refine EV ?_)
 refine ON ?_
 refine Ok.seq ?_
 refine Ok.seqC [(30, .bool (!(readShort s z).isSome))] [17, 18, 19, 20, 21, 22, 23, 24, 25, 26, 27, 28, 29] (by simp only [kover] <;> rfl) ?_ ?_
 ·
  refine Ok.region ?_
  iterate 3 (refine EV ?_)
  refine OkOps.split (d := 19) (by simp only [kE, kT, kL, kC] <;> rfl) (by simp only [kP] <;> rfl) (by simp only [kP] <;> rfl) (fun hg2_2 => ?_) (fun hg2_2 => ?_)
  ·
   try simp only [bsimp] at hg2_2
   refine OkOps.offU rfl rfl (.inl (by simp only [kE, kT, kL, kC, Bool.not_true, Bool.not_false])) (by simp only [kP] <;> rfl) ?_
   refine OkOps.offU rfl rfl (.inl (by simp only [kE, kT, kL, kC, Bool.not_true, Bool.not_false])) (by simp only [kP] <;> rfl) ?_
   iterate 2 (refine EV ?_)
   refine OkOps.offU rfl rfl (.inl (by simp only [kE, kT, kL, kC, Bool.not_true, Bool.not_false])) (by simp only [kP] <;> rfl) ?_
   refine OkOps.offU rfl rfl (.inl (by simp only [kE, kT, kL, kC, Bool.not_true, Bool.not_false])) (by simp only [kP] <;> rfl) ?_
   refine OkOps.offU rfl rfl (.inl (by simp only [kE, kT, kL, kC, Bool.not_true, Bool.not_false])) (by simp only [kP] <;> rfl) ?_
   refine OkOps.offU rfl rfl (.inl (by simp only [kE, kT, kL, kC, Bool.not_true, Bool.not_false])) (by simp only [kP] <;> rfl) ?_
   refine OkOps.offU rfl rfl (.inl (by simp only [kE, kT, kL, kC, Bool.not_true, Bool.not_false])) (by simp only [kP] <;> rfl) ?_
   refine OkOps.offU rfl rfl (.inl (by simp only [kE, kT, kL, kC, Bool.not_true, Bool.not_false])) (by simp only [kP] <;> rfl) ?_
   refine EV ?_
   refine ON ?_
   refine ⟨rfl, ?_, rfl, rfl⟩
   refine ⟨?_, ?_, ?_, ?_, ?_, ?_, ?_, ?_, ?_, ?_, ?_, ?_, ?_, ?_, ?_, ?_, ?_, ?_, ?_, ?_, ?_, ?_, ?_, ?_, ?_, ?_, ?_, ?_, ?_, ?_, ?_, ?_, ?_, ?_, ?_, ?_, ?_, ?_, ?_, ?_, trivial⟩ <;> first | exact le_any _ | with_reducible exact le_rfl' _ | (refine .inl (congrArg V.bool ?_); (rw [short_cond hs]; first | (simp [*]; done) | (simp_all; done))) | exact le_rfl' _
  ·
   try simp only [bsimp] at hg2_2
   refine OO ?_
   refine EV ?_
   refine OO ?_
   iterate 3 (refine EV ?_)
   refine OkOps.split (d := 23) (by simp only [kE, kT, kL, kC] <;> rfl) (by simp only [kP] <;> rfl) (by simp only [kP] <;> rfl) (fun hg2_6 => ?_) (fun hg2_6 => ?_)
   ·
    try simp only [bsimp] at hg2_6
    refine OkOps.offU rfl rfl (.inl (by simp only [kE, kT, kL, kC, Bool.not_true, Bool.not_false])) (by simp only [kP] <;> rfl) ?_
    refine OkOps.offU rfl rfl (.inl (by simp only [kE, kT, kL, kC, Bool.not_true, Bool.not_false])) (by simp only [kP] <;> rfl) ?_
    refine OkOps.offU rfl rfl (.inl (by simp only [kE, kT, kL, kC, Bool.not_true, Bool.not_false])) (by simp only [kP] <;> rfl) ?_
    refine OkOps.offU rfl rfl (.inl (by simp only [kE, kT, kL, kC, Bool.not_true, Bool.not_false])) (by simp only [kP] <;> rfl) ?_
    refine OkOps.offU rfl rfl (.inl (by simp only [kE, kT, kL, kC, Bool.not_true, Bool.not_false])) (by simp only [kP] <;> rfl) ?_
    refine OkOps.offU rfl rfl (.inl (by simp only [kE, kT, kL, kC, Bool.not_true, Bool.not_false])) (by simp only [kP] <;> rfl) ?_
    refine EV ?_
    refine ON ?_
    refine ⟨rfl, ?_, rfl, rfl⟩
    refine ⟨?_, ?_, ?_, ?_, ?_, ?_, ?_, ?_, ?_, ?_, ?_, ?_, ?_, ?_, ?_, ?_, ?_, ?_, ?_, ?_, ?_, ?_, ?_, ?_, ?_, ?_, ?_, ?_, ?_, ?_, ?_, ?_, ?_, ?_, ?_, ?_, ?_, ?_, ?_, ?_, trivial⟩ <;> first | exact le_any _ | with_reducible exact le_rfl' _ | (refine .inl (congrArg V.bool ?_); (rw [short_cond hs]; first | (simp [*]; done) | (simp_all; done))) | exact le_rfl' _
   ·
    try simp only [bsimp] at hg2_6
    refine OO ?_
    refine EV ?_
    refine OO ?_
    refine EV ?_
    refine OO ?_
    refine EV ?_
    refine OO ?_
    refine EV ?_
    refine OO ?_
    refine EV ?_
    refine OO ?_
    iterate 2 (refine EV ?_)
    refine ON ?_
    refine ⟨rfl, ?_, rfl, rfl⟩
    refine ⟨?_, ?_, ?_, ?_, ?_, ?_, ?_, ?_, ?_, ?_, ?_, ?_, ?_, ?_, ?_, ?_, ?_, ?_, ?_, ?_, ?_, ?_, ?_, ?_, ?_, ?_, ?_, ?_, ?_, ?_, ?_, ?_, ?_, ?_, ?_, ?_, ?_, ?_, ?_, ?_, trivial⟩ <;> first | exact le_any _ | with_reducible exact le_rfl' _ | (refine .inl (congrArg V.bool ?_); (rw [short_cond hs]; first | (simp [*]; done) | (simp_all; done))) | exact le_rfl' _
 ·
  refine Ok.cond (b := _) (by simp only [kE, kT, kL, kC] <;> rfl) (fun hb2 => ?_) (fun hb2 => ?_)
  ·
   try simp only [bsimp] at hb2
   have hn : readShort s z = none := by simpa using hb2
   rw [hn]
   refine OQ ?_
   iterate 3 (refine EV ?_)
   refine ON ?_
   refine Ok.ret ?_
   with_reducible repeat (first | refine thenQ_ret ?_ | refine blockQ_ret ?_)
   refine retQ.end (by show resVs tab _ [.tmp 4, .tmp 5, .tmp 6] = _; simp only [kE, kT, kL, kC] <;> rfl) rfl ?_
   rfl
  ·
   try simp only [bsimp] at hb2
   obtain ⟨q, hq⟩ : ∃ q, readShort s z = some q := Option.isSome_iff_exists.1 (by simpa using hb2)
   obtain ⟨m, e, hv, hme, rfl⟩ : ∃ m e, readVar s z = some (m, e) ∧ (m ≤ 20000 ∧ m + e ≤ s.length) ∧ q = ((s.take (e + m)).drop e, e + m) := by
     unfold readShort at hq
     split at hq
     · rename_i m e hv
       split at hq
       · rename_i hme; exact ⟨m, e, hv, hme, (Option.some.inj hq).symm⟩
       · cases hq
     · cases hq
   rw [hq]
   simp only [hv, Option.getD_some, Option.isSome_some]
   refine Ok.skip ?_
   refine OQ ?_
   iterate 4 (refine EV ?_)
   refine OkOps.ev tab_ok rfl (by simp only [kE, kT, kL, kC, wrap_add_nat (show e + m ≤ 9223372036854775807 by omega)] <;> rfl) (by simp only [kP] <;> rfl) ?_
   refine OkOps.ev tab_ok rfl (ev_cut (by simp only [kE, kT, kL, kC] <;> rfl) (by simp only [kE, kT, kL, kC] <;> rfl) (by simp only [kE, kT, kL, kC] <;> rfl) rfl (by omega) (by omega)) (by simp only [kP] <;> rfl) ?_
   iterate 2 (refine EV ?_)
   refine OkOps.ev tab_ok rfl (by simp only [kE, kT, kL, kC, wrap_add_nat (show e + m ≤ 9223372036854775807 by omega)] <;> rfl) (by simp only [kP] <;> rfl) ?_
   iterate 3 (refine EV ?_)
   refine ON ?_
   refine Ok.ret ?_
   with_reducible repeat (first | refine thenQ_ret ?_ | refine blockQ_ret ?_)
   refine retQ.end (by show resVs tab _ [.tmp 4, .tmp 5, .tmp 6] = _; simp only [kE, kT, kL, kC] <;> rfl) rfl ?_
   rfl
theorem w_impl_fourAt (t : Str) (p : Nat) (hp : p + 4 ≤ t.length) (ht : t.length ≤ 4611686018427387904) : Weak Try.prog 52 [.str t, .int .i64 (p : Int)] (.int .i64 ((fourN (t.drop p) : Nat) : Int)) := by
 refine Weak.enter tab_ok Try.func52 rfl (.inr (by simp [V.labelsL, V.labels, zz])) (t := [.str t, .int .i64 (p : Int), .any, .any, .any, .any, .any, .any, .any, .any, .any, .any, .any, .any, .any, .any, .any, .any, .any, .any, .any, .any, .any, .any, .any, .any, .any, .any, .any, .any]) rfl ?_
 refine OQ ?_
 refine EV ?_
 refine ON ?_
 refine Ok.seq ?_
 refine Ok.drawn 26 30 [] (by kernel_rfl) (by kernel_rfl) rfl ?_
 iterate 2 (refine SV ?_)
 refine SOps.ev tab_ok rfl (ev_byte_lt (by simp only [kE, kT, kL, kC] <;> rfl) (by simp only [kE, kT, kL, kC] <;> rfl) (by omega) rfl) (by simp only [kP] <;> rfl) ?_
 refine SOps.ev tab_ok rfl (by simp only [kE, kT, kL, kC, four_b] <;> rfl) (by simp only [kP] <;> rfl) ?_
 refine SOps.ev tab_ok rfl ((ev_shl (by simp only [kE, kT, kL, kC] <;> rfl) (by simp only [kE, kT, kL, kC] <;> rfl) (by omega)).trans (by simp only [four_s1] <;> rfl)) (by simp only [kP] <;> rfl) ?_
 iterate 2 (refine SV ?_)
 refine SOps.ev tab_ok rfl (by simp only [kE, kT, kL, kC, wrap_add_one (show p + 1 ≤ 9223372036854775807 by omega)] <;> rfl) (by simp only [kP] <;> rfl) ?_
 refine SOps.ev tab_ok rfl (ev_byte_lt (by simp only [kE, kT, kL, kC] <;> rfl) (by simp only [kE, kT, kL, kC] <;> rfl) (by omega) rfl) (by simp only [kP] <;> rfl) ?_
 refine SOps.ev tab_ok rfl (by simp only [kE, kT, kL, kC, four_b] <;> rfl) (by simp only [kP] <;> rfl) ?_
 refine SOps.ev tab_ok rfl ((ev_shl (by simp only [kE, kT, kL, kC] <;> rfl) (by simp only [kE, kT, kL, kC] <;> rfl) (by omega)).trans (by simp only [four_s2] <;> rfl)) (by simp only [kP] <;> rfl) ?_
 refine SOps.ev tab_ok rfl (by simp only [kE, kT, kL, kC, four_or1] <;> rfl) (by simp only [kP] <;> rfl) ?_
 iterate 2 (refine SV ?_)
 refine SOps.ev tab_ok rfl (by simp only [kE, kT, kL, kC, wrap_add_two (show p + 2 ≤ 9223372036854775807 by omega)] <;> rfl) (by simp only [kP] <;> rfl) ?_
 refine SOps.ev tab_ok rfl (ev_byte_lt (by simp only [kE, kT, kL, kC] <;> rfl) (by simp only [kE, kT, kL, kC] <;> rfl) (by omega) rfl) (by simp only [kP] <;> rfl) ?_
 refine SOps.ev tab_ok rfl (by simp only [kE, kT, kL, kC, four_b] <;> rfl) (by simp only [kP] <;> rfl) ?_
 refine SOps.ev tab_ok rfl ((ev_shl (by simp only [kE, kT, kL, kC] <;> rfl) (by simp only [kE, kT, kL, kC] <;> rfl) (by omega)).trans (by simp only [four_s3] <;> rfl)) (by simp only [kP] <;> rfl) ?_
 refine SOps.ev tab_ok rfl (by simp only [kE, kT, kL, kC, four_or2] <;> rfl) (by simp only [kP] <;> rfl) ?_
 iterate 2 (refine SV ?_)
 refine SOps.ev tab_ok rfl (by simp only [kE, kT, kL, kC, wrap_add_three (show p + 3 ≤ 9223372036854775807 by omega)] <;> rfl) (by simp only [kP] <;> rfl) ?_
 refine SOps.ev tab_ok rfl (ev_byte_lt (by simp only [kE, kT, kL, kC] <;> rfl) (by simp only [kE, kT, kL, kC] <;> rfl) (by omega) rfl) (by simp only [kP] <;> rfl) ?_
 refine SOps.ev tab_ok rfl (by simp only [kE, kT, kL, kC, four_b] <;> rfl) (by simp only [kP] <;> rfl) ?_
 refine SOps.ev tab_ok rfl (by simp only [kE, kT, kL, kC, four_or3] <;> rfl) (by simp only [kP] <;> rfl) ?_
 refine SV ?_
 refine SOps.nil ?_
 refine TOps.nil ?_
 refine Ok.ret ?_
 with_reducible repeat (first | refine thenQ_ret ?_ | refine blockQ_ret ?_)
 refine RT ?_
 rw [fourN_at hp]; rfl
theorem w_spec_Unsealed (t : Str) (ht : t.length ≤ 4611686018427387904) : Weak Try.prog 33 [.str t] (vO (unsealed t)) := by
 refine Weak.enter tab_ok Try.func33 rfl (.inr (by simp [V.labelsL, V.labels, zz])) (t := [.str t, .any, .any, .any, .any, .any, .any, .any, .any, .any, .any, .any, .any, .any, .any, .any, .any, .any, .any, .any, .any, .any, .any, .any, .any, .any, .any, .any]) rfl ?_
 refine OQ ?_
 iterate 2 (refine EV ?_)
 refine ON ?_
 refine OQ ?_
 iterate 4 (refine EV ?_)
 refine ON ?_
 refine Ok.seq ?_
 refine Ok.seqC [(24, .bool (!(unsealed t).isSome))] [8, 9, 10, 11, 12, 13, 14, 15, 16, 17, 18, 19, 20, 21, 22, 23] (by simp only [kover] <;> rfl) ?_ ?_
 ·
  refine Ok.drawn 17 28 [] (by kernel_rfl) (by kernel_rfl) rfl ?_
  iterate 3 (refine SV ?_)
  refine SOps.split (d := 10) (by simp only [kE, kT, kL, kC] <;> rfl) (by simp only [kP] <;> rfl) (by simp only [kP] <;> rfl) (fun hg2_2 => ?_) (fun hg2_2 => ?_)
  ·
   try simp only [bsimp] at hg2_2
   refine SOps.offU rfl rfl (.inl (by simp only [kE, kT, kL, kC, Bool.not_true, Bool.not_false])) (by simp only [kP] <;> rfl) ?_
   refine SOps.offU rfl rfl (.inl (by simp only [kE, kT, kL, kC, Bool.not_true, Bool.not_false])) (by simp only [kP] <;> rfl) ?_
   iterate 2 (refine SV ?_)
   refine SOps.offU rfl rfl (.inl (by simp only [kE, kT, kL, kC, Bool.not_true, Bool.not_false])) (by simp only [kP] <;> rfl) ?_
   refine SOps.offU rfl rfl (.inl (by simp only [kE, kT, kL, kC, Bool.not_true, Bool.not_false])) (by simp only [kP] <;> rfl) ?_
   refine SOps.offU rfl rfl (.inl (by simp only [kE, kT, kL, kC, Bool.not_true, Bool.not_false])) (by simp only [kP] <;> rfl) ?_
   refine SOps.offU rfl rfl (.inl (by simp only [kE, kT, kL, kC, Bool.not_true, Bool.not_false])) (by simp only [kP] <;> rfl) ?_
   refine SOps.offU rfl rfl (.inl (by simp only [kE, kT, kL, kC, Bool.not_true, Bool.not_false])) (by simp only [kP] <;> rfl) ?_
   refine SOps.offU rfl rfl (.inl (by simp only [kE, kT, kL, kC, Bool.not_true, Bool.not_false])) (by simp only [kP] <;> rfl) ?_
   refine SOps.offU rfl rfl (.inl (by simp only [kE, kT, kL, kC, Bool.not_true, Bool.not_false])) (by simp only [kP] <;> rfl) ?_
   refine SOps.offU rfl rfl (.inl (by simp only [kE, kT, kL, kC, Bool.not_true, Bool.not_false])) (by simp only [kP] <;> rfl) ?_
   refine SOps.offU rfl rfl (.inl (by simp only [kE, kT, kL, kC, Bool.not_true, Bool.not_false])) (by simp only [kP] <;> rfl) ?_
   refine SV ?_
   refine SOps.nil ?_
   refine TOps.nil ?_
   refine ⟨rfl, ?_, rfl, rfl⟩
   refine ⟨?_, ?_, ?_, ?_, ?_, ?_, ?_, ?_, ?_, ?_, ?_, ?_, ?_, ?_, ?_, ?_, ?_, ?_, ?_, ?_, ?_, ?_, ?_, ?_, ?_, ?_, ?_, ?_, trivial⟩ <;> first | exact le_any _ | with_reducible exact le_rfl' _ | (refine .inl (congrArg V.bool ?_); rw [unsealed_condS ht]; first | (simp [*]; done) | (simp [*]; rintro (h | h) <;> omega) | (simp_all; done)) | exact le_rfl' _
  ·
   try simp only [bsimp] at hg2_2
   have h4 : 4 ≤ t.length := by have := wrap_lt4 ht; omega
   have hsub := wrap_sub4 h4 ht
   refine SOps.onEv tab_ok rfl rfl (by simp only [kE, kT, kL, kC]) (by simp only [kE, kT, kL, kC] <;> rfl) (by simp only [kP] <;> rfl) ?_
   refine SOps.onEv tab_ok rfl rfl (by simp only [kE, kT, kL, kC]) (by simp only [kE, kT, kL, kC] <;> rfl) (by simp only [kP] <;> rfl) ?_
   iterate 2 (refine SV ?_)
   refine SOps.split (d := 14) (by simp only [kE, kT, kL, kC] <;> rfl) (by simp only [kP] <;> rfl) (by simp only [kP] <;> rfl) (fun hg2_6 => ?_) (fun hg2_6 => ?_)
   ·
    try simp only [bsimp] at hg2_6
    refine SOps.offU rfl rfl (.inl (by simp only [kE, kT, kL, kC, Bool.not_true, Bool.not_false])) (by simp only [kP] <;> rfl) ?_
    refine SOps.offU rfl rfl (.inl (by simp only [kE, kT, kL, kC, Bool.not_true, Bool.not_false])) (by simp only [kP] <;> rfl) ?_
    refine SOps.offU rfl rfl (.inl (by simp only [kE, kT, kL, kC, Bool.not_true, Bool.not_false])) (by simp only [kP] <;> rfl) ?_
    refine SOps.offU rfl rfl (.inl (by simp only [kE, kT, kL, kC, Bool.not_true, Bool.not_false])) (by simp only [kP] <;> rfl) ?_
    refine SOps.offU rfl rfl (.inl (by simp only [kE, kT, kL, kC, Bool.not_true, Bool.not_false])) (by simp only [kP] <;> rfl) ?_
    refine SOps.offU rfl rfl (.inl (by simp only [kE, kT, kL, kC, Bool.not_true, Bool.not_false])) (by simp only [kP] <;> rfl) ?_
    refine SOps.offU rfl rfl (.inl (by simp only [kE, kT, kL, kC, Bool.not_true, Bool.not_false])) (by simp only [kP] <;> rfl) ?_
    refine SOps.offU rfl rfl (.inl (by simp only [kE, kT, kL, kC, Bool.not_true, Bool.not_false])) (by simp only [kP] <;> rfl) ?_
    refine SOps.offU rfl rfl (.inl (by simp only [kE, kT, kL, kC, Bool.not_true, Bool.not_false])) (by simp only [kP] <;> rfl) ?_
    refine SV ?_
    refine SOps.nil ?_
    refine TOps.nil ?_
    refine ⟨rfl, ?_, rfl, rfl⟩
    refine ⟨?_, ?_, ?_, ?_, ?_, ?_, ?_, ?_, ?_, ?_, ?_, ?_, ?_, ?_, ?_, ?_, ?_, ?_, ?_, ?_, ?_, ?_, ?_, ?_, ?_, ?_, ?_, ?_, trivial⟩ <;> first | exact le_any _ | with_reducible exact le_rfl' _ | (refine .inl (congrArg V.bool ?_); rw [unsealed_condS ht]; first | (simp [*]; done) | (simp [*]; rintro (h | h) <;> omega) | (simp_all; done)) | exact le_rfl' _
   ·
    try simp only [bsimp] at hg2_6
    refine SOps.onEv tab_ok rfl rfl (by simp only [kE, kT, kL, kC]) (by simp only [kE, kT, kL, kC] <;> rfl) (by simp only [kP] <;> rfl) ?_
    refine SOps.onEv tab_ok rfl rfl (by simp only [kE, kT, kL, kC]) (by simp only [kE, kT, kL, kC, hsub] <;> rfl) (by simp only [kP] <;> rfl) ?_
    refine SOps.onEv tab_ok rfl rfl (by simp only [kE, kT, kL, kC]) (ev_cutLo (by simp only [kE, kT, kL, kC] <;> rfl) (by simp only [kE, kT, kL, kC] <;> rfl) rfl (by omega)) (by simp only [kP] <;> rfl) ?_
    refine SOps.onEv tab_ok rfl rfl (by simp only [kE, kT, kL, kC]) (by simp only [kE, kT, kL, kC] <;> rfl) (by simp only [kP] <;> rfl) ?_
    refine SOps.onEv tab_ok rfl rfl (by simp only [kE, kT, kL, kC]) (by simp only [kE, kT, kL, kC, hsub] <;> rfl) (by simp only [kP] <;> rfl) ?_
    refine SOps.onEv tab_ok rfl rfl (by simp only [kE, kT, kL, kC]) (ev_cutHi (by simp only [kE, kT, kL, kC] <;> rfl) (by simp only [kE, kT, kL, kC] <;> rfl) rfl (by omega)) (by simp only [kP] <;> rfl) ?_
    refine SOps.onS0 rfl rfl (by simp only [kE, kT, kL, kC]) (OpS.weakM rfl (by simp only [kE, kT, kL, kC] <;> rfl) (by simp only [kE, kT, kL, kC] <;> rfl) cl51 (w_spec_SumOf (t.take (t.length - 4)) (by rw [List.length_take]; omega))) (by simp only [kP] <;> rfl) ?_
    refine SOps.onS0 rfl rfl (by simp only [kE, kT, kL, kC]) (OpS.weakM rfl (by simp only [kE, kT, kL, kC] <;> rfl) (by simp only [kE, kT, kL, kC] <;> rfl) cl50 (w_spec_l02Four _)) (by simp only [kP] <;> rfl) ?_
    refine SOps.onEv tab_ok rfl rfl (by simp only [kE, kT, kL, kC]) (by simp only [kE, kT, kL, kC] <;> rfl) (by simp only [kP] <;> rfl) ?_
    refine SV ?_
    refine SOps.nil ?_
    refine TOps.nil ?_
    refine ⟨rfl, ?_, rfl, rfl⟩
    refine ⟨?_, ?_, ?_, ?_, ?_, ?_, ?_, ?_, ?_, ?_, ?_, ?_, ?_, ?_, ?_, ?_, ?_, ?_, ?_, ?_, ?_, ?_, ?_, ?_, ?_, ?_, ?_, ?_, trivial⟩ <;> first | exact le_any _ | with_reducible exact le_rfl' _ | (refine .inl (congrArg V.bool ?_); rw [unsealed_condS ht]; first | (simp [*]; done) | (simp [*]; rintro (h | h) <;> omega) | (simp_all; done)) | exact le_rfl' _
 ·
  refine Ok.cond (b := _) (by simp only [kE, kT, kL, kC] <;> rfl) (fun hb2 => ?_) (fun hb2 => ?_)
  ·
   try simp only [bsimp] at hb2
   have hn : unsealed t = none := by simpa using hb2
   rw [hn]
   refine OQ ?_
   iterate 2 (refine EV ?_)
   refine ON ?_
   refine Ok.ret ?_
   with_reducible repeat (first | refine thenQ_ret ?_ | refine blockQ_ret ?_)
   refine RT ?_
   rfl
  ·
   try simp only [bsimp] at hb2
   obtain ⟨q, hq⟩ : ∃ q, unsealed t = some q := Option.isSome_iff_exists.1 (by simpa using hb2)
   have hc := unsealed_len hq
   rw [hq, hc.2.2]
   have hsub := wrap_sub4 hc.1 ht
   refine Ok.skip ?_
   refine OQ ?_
   refine EV ?_
   refine OkOps.ev tab_ok rfl (by simp only [kE, kT, kL, kC, hsub] <;> rfl) (by simp only [kP] <;> rfl) ?_
   refine OkOps.ev tab_ok rfl (ev_cutHi (by simp only [kE, kT, kL, kC] <;> rfl) (by simp only [kE, kT, kL, kC] <;> rfl) rfl (by omega)) (by simp only [kP] <;> rfl) ?_
   iterate 2 (refine EV ?_)
   refine ON ?_
   refine Ok.ret ?_
   with_reducible repeat (first | refine thenQ_ret ?_ | refine blockQ_ret ?_)
   refine RT ?_
   rfl
theorem w_impl_Unsealed (t : Str) (ht : t.length ≤ 4611686018427387904) : Weak Try.prog 29 [.str t] (vO (unsealed t)) := by
 refine Weak.enter tab_ok Try.func29 rfl (.inr (by simp [V.labelsL, V.labels, zz])) (t := [.str t, .any, .any, .any, .any, .any, .any, .any, .any, .any, .any, .any, .any, .any, .any, .any, .any, .any, .any, .any, .any, .any, .any, .any, .any]) rfl ?_
 refine OQ ?_
 iterate 2 (refine EV ?_)
 refine ON ?_
 refine OQ ?_
 iterate 4 (refine EV ?_)
 refine ON ?_
 refine Ok.seq ?_
 refine Ok.seqC [(21, .bool (!(unsealed t).isSome))] [8, 9, 10, 11, 12, 13, 14, 15, 16, 17, 18, 19, 20] (by simp only [kover] <;> rfl) ?_ ?_
 ·
  refine Ok.region ?_
  refine EV ?_
  refine OkOps.S0 rfl (OpS.weak' rfl (by simp only [kE, kT, kL, kC] <;> rfl) (by simp only [kE, kT, kL, kC] <;> rfl) cl22 (w_impl_within _ _ _)) (by simp only [kP] <;> rfl) ?_
  iterate 2 (refine EV ?_)
  refine OkOps.split (d := 11) (by simp only [kE, kT, kL, kC] <;> rfl) (by simp only [kP] <;> rfl) (by simp only [kP] <;> rfl) (fun hg2_3 => ?_) (fun hg2_3 => ?_)
  ·
   try simp only [bsimp] at hg2_3
   refine OkOps.offU rfl rfl (.inl (by simp only [kE, kT, kL, kC, Bool.not_true, Bool.not_false])) (by simp only [kP] <;> rfl) ?_
   refine OkOps.offU rfl rfl (.inl (by simp only [kE, kT, kL, kC, Bool.not_true, Bool.not_false])) (by simp only [kP] <;> rfl) ?_
   refine OkOps.offU rfl rfl (.inl (by simp only [kE, kT, kL, kC, Bool.not_true, Bool.not_false])) (by simp only [kP] <;> rfl) ?_
   refine OkOps.offU rfl rfl (.inl (by simp only [kE, kT, kL, kC, Bool.not_true, Bool.not_false])) (by simp only [kP] <;> rfl) ?_
   refine OkOps.offU rfl rfl (.inl (by simp only [kE, kT, kL, kC, Bool.not_true, Bool.not_false])) (by simp only [kP] <;> rfl) ?_
   refine OkOps.offU rfl rfl (.inl (by simp only [kE, kT, kL, kC, Bool.not_true, Bool.not_false])) (by simp only [kP] <;> rfl) ?_
   refine OkOps.offU rfl rfl (.inl (by simp only [kE, kT, kL, kC, Bool.not_true, Bool.not_false])) (by simp only [kP] <;> rfl) ?_
   refine OkOps.offU rfl rfl (.inl (by simp only [kE, kT, kL, kC, Bool.not_true, Bool.not_false])) (by simp only [kP] <;> rfl) ?_
   refine OkOps.offU rfl rfl (.inl (by simp only [kE, kT, kL, kC, Bool.not_true, Bool.not_false])) (by simp only [kP] <;> rfl) ?_
   refine EV ?_
   refine ON ?_
   refine ⟨rfl, ?_, rfl, rfl⟩
   refine ⟨?_, ?_, ?_, ?_, ?_, ?_, ?_, ?_, ?_, ?_, ?_, ?_, ?_, ?_, ?_, ?_, ?_, ?_, ?_, ?_, ?_, ?_, ?_, ?_, ?_, trivial⟩ <;> first | exact le_any _ | with_reducible exact le_rfl' _ | (refine .inl (congrArg V.bool ?_); rw [unsealed_condI ht]; first | (simp [*]; done) | (simp [*]; rintro (h | h) <;> omega) | (simp_all; done)) | exact le_rfl' _
  ·
   try simp only [bsimp] at hg2_3
   have h4 : 4 ≤ t.length := by have := wrap_lt4 ht; have := inR_t.1 hg2_3; omega
   have hsub := wrap_sub4 h4 ht
   refine OO ?_
   refine EV ?_
   refine OO ?_
   refine OkOps.ev tab_ok rfl (by simp only [kE, kT, kL, kC, hsub] <;> rfl) (by simp only [kP] <;> rfl) ?_
   refine OO ?_
   refine OkOps.ev tab_ok rfl (ev_cutHi (by simp only [kE, kT, kL, kC] <;> rfl) (by simp only [kE, kT, kL, kC] <;> rfl) rfl (by omega)) (by simp only [kP] <;> rfl) ?_
   refine OO ?_
   refine OkOps.S0 rfl (OpS.weak' rfl (by simp only [kE, kT, kL, kC] <;> rfl) (by simp only [kE, kT, kL, kC] <;> rfl) cl47 (w_impl_SumOf (t.take (t.length - 4)) (by rw [List.length_take]; omega))) (by simp only [kP] <;> rfl) ?_
   refine OO ?_
   refine OkOps.ev tab_ok rfl (by simp only [kE, kT, kL, kC, wrap_sum] <;> rfl) (by simp only [kP] <;> rfl) ?_
   refine OO ?_
   refine EV ?_
   refine OO ?_
   refine OkOps.ev tab_ok rfl (by simp only [kE, kT, kL, kC, hsub] <;> rfl) (by simp only [kP] <;> rfl) ?_
   refine OO ?_
   refine OkOps.S0 rfl (OpS.weak' rfl (by simp only [kE, kT, kL, kC] <;> rfl) (by simp only [kE, kT, kL, kC] <;> rfl) cl52 (w_impl_fourAt t (t.length - 4) (by omega) ht)) (by simp only [kP] <;> rfl) ?_
   refine OO ?_
   iterate 2 (refine EV ?_)
   refine ON ?_
   refine ⟨rfl, ?_, rfl, rfl⟩
   refine ⟨?_, ?_, ?_, ?_, ?_, ?_, ?_, ?_, ?_, ?_, ?_, ?_, ?_, ?_, ?_, ?_, ?_, ?_, ?_, ?_, ?_, ?_, ?_, ?_, ?_, trivial⟩ <;> first | exact le_any _ | with_reducible exact le_rfl' _ | (refine .inl (congrArg V.bool ?_); rw [unsealed_condI ht]; first | (simp [*]; done) | (simp [*]; rintro (h | h) <;> omega) | (simp_all; done)) | exact le_rfl' _
 ·
  refine Ok.cond (b := _) (by simp only [kE, kT, kL, kC] <;> rfl) (fun hb2 => ?_) (fun hb2 => ?_)
  ·
   try simp only [bsimp] at hb2
   have hn : unsealed t = none := by simpa using hb2
   rw [hn]
   refine OQ ?_
   iterate 2 (refine EV ?_)
   refine ON ?_
   refine Ok.ret ?_
   with_reducible repeat (first | refine thenQ_ret ?_ | refine blockQ_ret ?_)
   refine RT ?_
   rfl
  ·
   try simp only [bsimp] at hb2
   obtain ⟨q, hq⟩ : ∃ q, unsealed t = some q := Option.isSome_iff_exists.1 (by simpa using hb2)
   have hc := unsealed_len hq
   rw [hq, hc.2.2]
   have hsub := wrap_sub4 hc.1 ht
   refine Ok.skip ?_
   refine OQ ?_
   refine EV ?_
   refine OkOps.ev tab_ok rfl (by simp only [kE, kT, kL, kC, hsub] <;> rfl) (by simp only [kP] <;> rfl) ?_
   refine OkOps.ev tab_ok rfl (ev_cutHi (by simp only [kE, kT, kL, kC] <;> rfl) (by simp only [kE, kT, kL, kC] <;> rfl) rfl (by omega)) (by simp only [kP] <;> rfl) ?_
   iterate 2 (refine EV ?_)
   refine ON ?_
   refine Ok.ret ?_
   with_reducible repeat (first | refine thenQ_ret ?_ | refine blockQ_ret ?_)
   refine RT ?_
   rfl
theorem c_spec_l05Var (c : Scan) (L : Nat) (hs : c.text.length ≤ 4611686018427387904) {h : List V} {n : Nat}  : OkCall Try.prog 35 [.ptr (L + 1) 0 0 (cScan c)] h n (fun r h1 n1 => r = .int .i64 ((scanNum c).1 : Int) ∧ h1 = V.updL (L + 1) 0 (cScan (scanNum c).2) h ∧ n1 = n) := by
 refine OkCall.enter' tab_ok Try.func35 rfl (t := [.ptr (L + 1) 0 0 (cScan c), .any, .any, .any, .any, .any, .any, .any, .any, .any, .any, .any, .any, .any, .any, .any, .any, .any, .any, .any, .any, .any, .any, .any, .any, .any, .any, .any, .any, .any, .any, .any, .any, .any, .any]) rfl ?_
 refine OQ ?_
 refine EV ?_
 refine ON ?_
 refine Ok.seq ?_
 refine Ok.drawn 16 35 [] (by kernel_rfl) (by kernel_rfl) rfl ?_
 iterate 8 (refine SV ?_)
 refine SOps.S0 rfl (OpS.weakM rfl (by simp only [kE, kT, kL, kC] <;> rfl) (by simp only [kE, kT, kL, kC] <;> rfl) cl57 (w_spec_ReadVar c.text c.pos hs)) (by simp only [kP] <;> rfl) ?_
 iterate 7 (refine SV ?_)
 refine SOps.nil ?_
 refine TOps.nil ?_
 refine Ok.seq ?_
 refine Ok.seqC [(26, .bool (c.bad || !(readVar c.text c.pos).isSome))] [19, 20, 21, 22, 23, 24, 25] (by simp only [kover] <;> rfl) ?_ ?_
 ·
  refine Ok.region ?_
  iterate 5 (refine EV ?_)
  refine OkOps.split (d := 23) (by simp only [kE, kT, kL, kC] <;> rfl) (by simp only [kP] <;> rfl) (by simp only [kP] <;> rfl) (fun hg2_4 => ?_) (fun hg2_4 => ?_)
  ·
   try simp only [bsimp] at hg2_4
   refine OkOps.offU rfl rfl (.inl (by simp only [kE, kT, kL, kC, Bool.not_true, Bool.not_false])) (by simp only [kP] <;> rfl) ?_
   refine OkOps.offU rfl rfl (.inl (by simp only [kE, kT, kL, kC, Bool.not_true, Bool.not_false])) (by simp only [kP] <;> rfl) ?_
   refine EV ?_
   refine ON ?_
   refine ⟨rfl, ?_, rfl, rfl⟩
   refine ⟨?_, ?_, ?_, ?_, ?_, ?_, ?_, ?_, ?_, ?_, ?_, ?_, ?_, ?_, ?_, ?_, ?_, ?_, ?_, ?_, ?_, ?_, ?_, ?_, ?_, ?_, ?_, ?_, ?_, ?_, ?_, ?_, ?_, ?_, ?_, trivial⟩ <;> first | exact le_any _ | with_reducible exact le_rfl' _ | (refine .inl (congrArg V.bool ?_); first | (simp [*]; done) | (simp_all; done)) | exact le_rfl' _
  ·
   try simp only [bsimp] at hg2_4
   refine OO ?_
   refine EV ?_
   refine OO ?_
   iterate 2 (refine EV ?_)
   refine ON ?_
   refine ⟨rfl, ?_, rfl, rfl⟩
   refine ⟨?_, ?_, ?_, ?_, ?_, ?_, ?_, ?_, ?_, ?_, ?_, ?_, ?_, ?_, ?_, ?_, ?_, ?_, ?_, ?_, ?_, ?_, ?_, ?_, ?_, ?_, ?_, ?_, ?_, ?_, ?_, ?_, ?_, ?_, ?_, trivial⟩ <;> first | exact le_any _ | with_reducible exact le_rfl' _ | (refine .inl (congrArg V.bool ?_); first | (simp [*]; done) | (simp_all; done)) | exact le_rfl' _
 ·
  refine Ok.cond (b := _) (by simp only [kE, kT, kL, kC] <;> rfl) (fun hb2 => ?_) (fun hb2 => ?_)
  ·
   try simp only [bsimp] at hb2
   have hsc := scanNum_t hb2
   rw [hsc]
   refine OQ ?_
   iterate 3 (refine EV ?_)
   refine OkOps.storeE tab_ok rfl rfl (by simp only [kE, kT, kL, kC] <;> rfl) ⟨_, _, by simp only [kE]; rfl⟩ (by first | (simp [V.labelsL, V.labelsLL, V.labels, zz]; done) | (simp [-List.map_map, -List.map_set, -List.map_drop, -List.map_take, -List.map_tail, -List.drop_one, V.labelsL, V.labelsLL, V.labels, zz]; done)) (by simp only [eq_self, V.updL, V.travL, V.travLL, V.trav, updS, updP, and_self, true_and, and_true, false_and, and_false, Nat.reduceEqDiff, Nat.reduceSub, Nat.le_refl, Nat.zero_le, ↓reduceIte, if_true, if_false, kP, zz] <;> rfl) (rfl) ?_
   refine ON ?_
   refine OQ ?_
   refine EV ?_
   refine ON ?_
   refine Ok.ret ?_
   with_reducible repeat (first | refine thenQ_ret ?_ | refine blockQ_ret ?_)
   refine RT ?_
   exact ⟨rfl, rfl, rfl⟩
  ·
   try simp only [bsimp] at hb2
   obtain ⟨m, e, hv, hsc⟩ := scanNum_f hb2
   rw [hsc]
   simp only [hv, Option.getD_some, Option.isSome_some]
   refine Ok.skip ?_
   refine OQ ?_
   iterate 4 (refine EV ?_)
   refine OkOps.storeE tab_ok rfl rfl (by simp only [kE, kT, kL, kC] <;> rfl) ⟨_, _, by simp only [kE]; rfl⟩ (by first | (simp [V.labelsL, V.labelsLL, V.labels, zz]; done) | (simp [-List.map_map, -List.map_set, -List.map_drop, -List.map_take, -List.map_tail, -List.drop_one, V.labelsL, V.labelsLL, V.labels, zz]; done)) (by simp only [eq_self, V.updL, V.travL, V.travLL, V.trav, updS, updP, and_self, true_and, and_true, false_and, and_false, Nat.reduceEqDiff, Nat.reduceSub, Nat.le_refl, Nat.zero_le, ↓reduceIte, if_true, if_false, kP, zz] <;> rfl) (rfl) ?_
   refine ON ?_
   refine OQ ?_
   iterate 2 (refine EV ?_)
   refine ON ?_
   refine Ok.ret ?_
   with_reducible repeat (first | refine thenQ_ret ?_ | refine blockQ_ret ?_)
   refine RT ?_
   exact ⟨rfl, rfl, rfl⟩
theorem c_impl_scan_num (c : Scan) (L : Nat) (hs : c.text.length ≤ 4611686018427387904) {h : List V} {n : Nat}  : OkCall Try.prog 30 [.ptr (L + 1) 0 0 (cScan c)] h n (fun r h1 n1 => r = .int .i64 ((scanNum c).1 : Int) ∧ h1 = V.updL (L + 1) 0 (cScan (scanNum c).2) h ∧ n1 = n) := by
 refine OkCall.enter' tab_ok Try.func30 rfl (t := [.ptr (L + 1) 0 0 (cScan c), .any, .any, .any, .any, .any, .any, .any, .any, .any, .any, .any, .any, .any, .any, .any, .any, .any, .any, .any, .any, .any, .any, .any, .any, .any, .any, .any, .any, .any, .any, .any, .any, .any, .any]) rfl ?_
 refine OQ ?_
 refine EV ?_
 refine ON ?_
 refine Ok.seq ?_
 refine Ok.drawn 16 35 [] (by kernel_rfl) (by kernel_rfl) rfl ?_
 iterate 8 (refine SV ?_)
 refine SOps.S0 rfl (OpS.weakM rfl (by simp only [kE, kT, kL, kC] <;> rfl) (by simp only [kE, kT, kL, kC] <;> rfl) cl53 (w_impl_ReadVar c.text c.pos hs)) (by simp only [kP] <;> rfl) ?_
 iterate 7 (refine SV ?_)
 refine SOps.nil ?_
 refine TOps.nil ?_
 refine Ok.seq ?_
 refine Ok.seqC [(26, .bool (c.bad || !(readVar c.text c.pos).isSome))] [19, 20, 21, 22, 23, 24, 25] (by simp only [kover] <;> rfl) ?_ ?_
 ·
  refine Ok.region ?_
  iterate 5 (refine EV ?_)
  refine OkOps.split (d := 23) (by simp only [kE, kT, kL, kC] <;> rfl) (by simp only [kP] <;> rfl) (by simp only [kP] <;> rfl) (fun hg2_4 => ?_) (fun hg2_4 => ?_)
  ·
   try simp only [bsimp] at hg2_4
   refine OkOps.offU rfl rfl (.inl (by simp only [kE, kT, kL, kC, Bool.not_true, Bool.not_false])) (by simp only [kP] <;> rfl) ?_
   refine OkOps.offU rfl rfl (.inl (by simp only [kE, kT, kL, kC, Bool.not_true, Bool.not_false])) (by simp only [kP] <;> rfl) ?_
   refine EV ?_
   refine ON ?_
   refine ⟨rfl, ?_, rfl, rfl⟩
   refine ⟨?_, ?_, ?_, ?_, ?_, ?_, ?_, ?_, ?_, ?_, ?_, ?_, ?_, ?_, ?_, ?_, ?_, ?_, ?_, ?_, ?_, ?_, ?_, ?_, ?_, ?_, ?_, ?_, ?_, ?_, ?_, ?_, ?_, ?_, ?_, trivial⟩ <;> first | exact le_any _ | with_reducible exact le_rfl' _ | (refine .inl (congrArg V.bool ?_); first | (simp [*]; done) | (simp_all; done)) | exact le_rfl' _
  ·
   try simp only [bsimp] at hg2_4
   refine OO ?_
   refine EV ?_
   refine OO ?_
   iterate 2 (refine EV ?_)
   refine ON ?_
   refine ⟨rfl, ?_, rfl, rfl⟩
   refine ⟨?_, ?_, ?_, ?_, ?_, ?_, ?_, ?_, ?_, ?_, ?_, ?_, ?_, ?_, ?_, ?_, ?_, ?_, ?_, ?_, ?_, ?_, ?_, ?_, ?_, ?_, ?_, ?_, ?_, ?_, ?_, ?_, ?_, ?_, ?_, trivial⟩ <;> first | exact le_any _ | with_reducible exact le_rfl' _ | (refine .inl (congrArg V.bool ?_); first | (simp [*]; done) | (simp_all; done)) | exact le_rfl' _
 ·
  refine Ok.cond (b := _) (by simp only [kE, kT, kL, kC] <;> rfl) (fun hb2 => ?_) (fun hb2 => ?_)
  ·
   try simp only [bsimp] at hb2
   have hsc := scanNum_t hb2
   rw [hsc]
   refine OQ ?_
   iterate 3 (refine EV ?_)
   refine OkOps.storeE tab_ok rfl rfl (by simp only [kE, kT, kL, kC] <;> rfl) ⟨_, _, by simp only [kE]; rfl⟩ (by first | (simp [V.labelsL, V.labelsLL, V.labels, zz]; done) | (simp [-List.map_map, -List.map_set, -List.map_drop, -List.map_take, -List.map_tail, -List.drop_one, V.labelsL, V.labelsLL, V.labels, zz]; done)) (by simp only [eq_self, V.updL, V.travL, V.travLL, V.trav, updS, updP, and_self, true_and, and_true, false_and, and_false, Nat.reduceEqDiff, Nat.reduceSub, Nat.le_refl, Nat.zero_le, ↓reduceIte, if_true, if_false, kP, zz] <;> rfl) (rfl) ?_
   refine ON ?_
   refine OQ ?_
   refine EV ?_
   refine ON ?_
   refine Ok.ret ?_
   with_reducible repeat (first | refine thenQ_ret ?_ | refine blockQ_ret ?_)
   refine RT ?_
   exact ⟨rfl, rfl, rfl⟩
  ·
   try simp only [bsimp] at hb2
   obtain ⟨m, e, hv, hsc⟩ := scanNum_f hb2
   rw [hsc]
   simp only [hv, Option.getD_some, Option.isSome_some]
   refine Ok.skip ?_
   refine OQ ?_
   iterate 4 (refine EV ?_)
   refine OkOps.storeE tab_ok rfl rfl (by simp only [kE, kT, kL, kC] <;> rfl) ⟨_, _, by simp only [kE]; rfl⟩ (by first | (simp [V.labelsL, V.labelsLL, V.labels, zz]; done) | (simp [-List.map_map, -List.map_set, -List.map_drop, -List.map_take, -List.map_tail, -List.drop_one, V.labelsL, V.labelsLL, V.labels, zz]; done)) (by simp only [eq_self, V.updL, V.travL, V.travLL, V.trav, updS, updP, and_self, true_and, and_true, false_and, and_false, Nat.reduceEqDiff, Nat.reduceSub, Nat.le_refl, Nat.zero_le, ↓reduceIte, if_true, if_false, kP, zz] <;> rfl) (rfl) ?_
   refine ON ?_
   refine OQ ?_
   iterate 2 (refine EV ?_)
   refine ON ?_
   refine Ok.ret ?_
   with_reducible repeat (first | refine thenQ_ret ?_ | refine blockQ_ret ?_)
   refine RT ?_
   exact ⟨rfl, rfl, rfl⟩
theorem c_spec_l05Short (c : Scan) (L : Nat) (hs : c.text.length ≤ 4611686018427387904) {h : List V} {n : Nat}  : OkCall Try.prog 36 [.ptr (L + 1) 0 0 (cScan c)] h n (fun r h1 n1 => r = .str (scanShort c).1 ∧ h1 = V.updL (L + 1) 0 (cScan (scanShort c).2) h ∧ n1 = n) := by
 refine OkCall.enter' tab_ok Try.func36 rfl (t := [.ptr (L + 1) 0 0 (cScan c), .any, .any, .any, .any, .any, .any, .any, .any, .any, .any, .any, .any, .any, .any, .any, .any, .any, .any, .any, .any, .any, .any, .any, .any, .any, .any, .any, .any, .any, .any, .any, .any, .any, .any]) rfl ?_
 refine OQ ?_
 refine EV ?_
 refine ON ?_
 refine Ok.seq ?_
 refine Ok.drawn 16 35 [] (by kernel_rfl) (by kernel_rfl) rfl ?_
 iterate 8 (refine SV ?_)
 refine SOps.S0 rfl (OpS.weakM rfl (by simp only [kE, kT, kL, kC] <;> rfl) (by simp only [kE, kT, kL, kC] <;> rfl) cl58 (w_spec_ReadShort c.text c.pos hs)) (by simp only [kP] <;> rfl) ?_
 iterate 7 (refine SV ?_)
 refine SOps.nil ?_
 refine TOps.nil ?_
 refine Ok.seq ?_
 refine Ok.seqC [(26, .bool (c.bad || !(readShort c.text c.pos).isSome))] [19, 20, 21, 22, 23, 24, 25] (by simp only [kover] <;> rfl) ?_ ?_
 ·
  refine Ok.region ?_
  iterate 5 (refine EV ?_)
  refine OkOps.split (d := 23) (by simp only [kE, kT, kL, kC] <;> rfl) (by simp only [kP] <;> rfl) (by simp only [kP] <;> rfl) (fun hg2_4 => ?_) (fun hg2_4 => ?_)
  ·
   try simp only [bsimp] at hg2_4
   refine OkOps.offU rfl rfl (.inl (by simp only [kE, kT, kL, kC, Bool.not_true, Bool.not_false])) (by simp only [kP] <;> rfl) ?_
   refine OkOps.offU rfl rfl (.inl (by simp only [kE, kT, kL, kC, Bool.not_true, Bool.not_false])) (by simp only [kP] <;> rfl) ?_
   refine EV ?_
   refine ON ?_
   refine ⟨rfl, ?_, rfl, rfl⟩
   refine ⟨?_, ?_, ?_, ?_, ?_, ?_, ?_, ?_, ?_, ?_, ?_, ?_, ?_, ?_, ?_, ?_, ?_, ?_, ?_, ?_, ?_, ?_, ?_, ?_, ?_, ?_, ?_, ?_, ?_, ?_, ?_, ?_, ?_, ?_, ?_, trivial⟩ <;> first | exact le_any _ | with_reducible exact le_rfl' _ | (refine .inl (congrArg V.bool ?_); first | (simp [*]; done) | (simp_all; done)) | exact le_rfl' _
  ·
   try simp only [bsimp] at hg2_4
   refine OO ?_
   refine EV ?_
   refine OO ?_
   iterate 2 (refine EV ?_)
   refine ON ?_
   refine ⟨rfl, ?_, rfl, rfl⟩
   refine ⟨?_, ?_, ?_, ?_, ?_, ?_, ?_, ?_, ?_, ?_, ?_, ?_, ?_, ?_, ?_, ?_, ?_, ?_, ?_, ?_, ?_, ?_, ?_, ?_, ?_, ?_, ?_, ?_, ?_, ?_, ?_, ?_, ?_, ?_, ?_, trivial⟩ <;> first | exact le_any _ | with_reducible exact le_rfl' _ | (refine .inl (congrArg V.bool ?_); first | (simp [*]; done) | (simp_all; done)) | exact le_rfl' _
 ·
  refine Ok.cond (b := _) (by simp only [kE, kT, kL, kC] <;> rfl) (fun hb2 => ?_) (fun hb2 => ?_)
  ·
   try simp only [bsimp] at hb2
   have hsc := scanShort_t hb2
   rw [hsc]
   refine OQ ?_
   iterate 3 (refine EV ?_)
   refine OkOps.storeE tab_ok rfl rfl (by simp only [kE, kT, kL, kC] <;> rfl) ⟨_, _, by simp only [kE]; rfl⟩ (by first | (simp [V.labelsL, V.labelsLL, V.labels, zz]; done) | (simp [-List.map_map, -List.map_set, -List.map_drop, -List.map_take, -List.map_tail, -List.drop_one, V.labelsL, V.labelsLL, V.labels, zz]; done)) (by simp only [eq_self, V.updL, V.travL, V.travLL, V.trav, updS, updP, and_self, true_and, and_true, false_and, and_false, Nat.reduceEqDiff, Nat.reduceSub, Nat.le_refl, Nat.zero_le, ↓reduceIte, if_true, if_false, kP, zz] <;> rfl) (rfl) ?_
   refine ON ?_
   refine OQ ?_
   refine EV ?_
   refine ON ?_
   refine Ok.ret ?_
   with_reducible repeat (first | refine thenQ_ret ?_ | refine blockQ_ret ?_)
   refine RT ?_
   exact ⟨rfl, rfl, rfl⟩
  ·
   try simp only [bsimp] at hb2
   obtain ⟨m, e, hv, hsc⟩ := scanShort_f hb2
   rw [hsc]
   simp only [hv, Option.getD_some, Option.isSome_some]
   refine Ok.skip ?_
   refine OQ ?_
   iterate 4 (refine EV ?_)
   refine OkOps.storeE tab_ok rfl rfl (by simp only [kE, kT, kL, kC] <;> rfl) ⟨_, _, by simp only [kE]; rfl⟩ (by first | (simp [V.labelsL, V.labelsLL, V.labels, zz]; done) | (simp [-List.map_map, -List.map_set, -List.map_drop, -List.map_take, -List.map_tail, -List.drop_one, V.labelsL, V.labelsLL, V.labels, zz]; done)) (by simp only [eq_self, V.updL, V.travL, V.travLL, V.trav, updS, updP, and_self, true_and, and_true, false_and, and_false, Nat.reduceEqDiff, Nat.reduceSub, Nat.le_refl, Nat.zero_le, ↓reduceIte, if_true, if_false, kP, zz] <;> rfl) (rfl) ?_
   refine ON ?_
   refine OQ ?_
   iterate 2 (refine EV ?_)
   refine ON ?_
   refine Ok.ret ?_
   with_reducible repeat (first | refine thenQ_ret ?_ | refine blockQ_ret ?_)
   refine RT ?_
   exact ⟨rfl, rfl, rfl⟩
theorem c_impl_scan_short (c : Scan) (L : Nat) (hs : c.text.length ≤ 4611686018427387904) {h : List V} {n : Nat}  : OkCall Try.prog 31 [.ptr (L + 1) 0 0 (cScan c)] h n (fun r h1 n1 => r = .str (scanShort c).1 ∧ h1 = V.updL (L + 1) 0 (cScan (scanShort c).2) h ∧ n1 = n) := by
 refine OkCall.enter' tab_ok Try.func31 rfl (t := [.ptr (L + 1) 0 0 (cScan c), .any, .any, .any, .any, .any, .any, .any, .any, .any, .any, .any, .any, .any, .any, .any, .any, .any, .any, .any, .any, .any, .any, .any, .any, .any, .any, .any, .any, .any, .any, .any, .any, .any, .any]) rfl ?_
 refine OQ ?_
 refine EV ?_
 refine ON ?_
 refine Ok.seq ?_
 refine Ok.drawn 16 35 [] (by kernel_rfl) (by kernel_rfl) rfl ?_
 iterate 8 (refine SV ?_)
 refine SOps.S0 rfl (OpS.weakM rfl (by simp only [kE, kT, kL, kC] <;> rfl) (by simp only [kE, kT, kL, kC] <;> rfl) cl54 (w_impl_ReadShort c.text c.pos hs)) (by simp only [kP] <;> rfl) ?_
 iterate 7 (refine SV ?_)
 refine SOps.nil ?_
 refine TOps.nil ?_
 refine Ok.seq ?_
 refine Ok.seqC [(26, .bool (c.bad || !(readShort c.text c.pos).isSome))] [19, 20, 21, 22, 23, 24, 25] (by simp only [kover] <;> rfl) ?_ ?_
 ·
  refine Ok.region ?_
  iterate 5 (refine EV ?_)
  refine OkOps.split (d := 23) (by simp only [kE, kT, kL, kC] <;> rfl) (by simp only [kP] <;> rfl) (by simp only [kP] <;> rfl) (fun hg2_4 => ?_) (fun hg2_4 => ?_)
  ·
   try simp only [bsimp] at hg2_4
   refine OkOps.offU rfl rfl (.inl (by simp only [kE, kT, kL, kC, Bool.not_true, Bool.not_false])) (by simp only [kP] <;> rfl) ?_
   refine OkOps.offU rfl rfl (.inl (by simp only [kE, kT, kL, kC, Bool.not_true, Bool.not_false])) (by simp only [kP] <;> rfl) ?_
   refine EV ?_
   refine ON ?_
   refine ⟨rfl, ?_, rfl, rfl⟩
   refine ⟨?_, ?_, ?_, ?_, ?_, ?_, ?_, ?_, ?_, ?_, ?_, ?_, ?_, ?_, ?_, ?_, ?_, ?_, ?_, ?_, ?_, ?_, ?_, ?_, ?_, ?_, ?_, ?_, ?_, ?_, ?_, ?_, ?_, ?_, ?_, trivial⟩ <;> first | exact le_any _ | with_reducible exact le_rfl' _ | (refine .inl (congrArg V.bool ?_); first | (simp [*]; done) | (simp_all; done)) | exact le_rfl' _
  ·
   try simp only [bsimp] at hg2_4
   refine OO ?_
   refine EV ?_
   refine OO ?_
   iterate 2 (refine EV ?_)
   refine ON ?_
   refine ⟨rfl, ?_, rfl, rfl⟩
   refine ⟨?_, ?_, ?_, ?_, ?_, ?_, ?_, ?_, ?_, ?_, ?_, ?_, ?_, ?_, ?_, ?_, ?_, ?_, ?_, ?_, ?_, ?_, ?_, ?_, ?_, ?_, ?_, ?_, ?_, ?_, ?_, ?_, ?_, ?_, ?_, trivial⟩ <;> first | exact le_any _ | with_reducible exact le_rfl' _ | (refine .inl (congrArg V.bool ?_); first | (simp [*]; done) | (simp_all; done)) | exact le_rfl' _
 ·
  refine Ok.cond (b := _) (by simp only [kE, kT, kL, kC] <;> rfl) (fun hb2 => ?_) (fun hb2 => ?_)
  ·
   try simp only [bsimp] at hb2
   have hsc := scanShort_t hb2
   rw [hsc]
   refine OQ ?_
   iterate 3 (refine EV ?_)
   refine OkOps.storeE tab_ok rfl rfl (by simp only [kE, kT, kL, kC] <;> rfl) ⟨_, _, by simp only [kE]; rfl⟩ (by first | (simp [V.labelsL, V.labelsLL, V.labels, zz]; done) | (simp [-List.map_map, -List.map_set, -List.map_drop, -List.map_take, -List.map_tail, -List.drop_one, V.labelsL, V.labelsLL, V.labels, zz]; done)) (by simp only [eq_self, V.updL, V.travL, V.travLL, V.trav, updS, updP, and_self, true_and, and_true, false_and, and_false, Nat.reduceEqDiff, Nat.reduceSub, Nat.le_refl, Nat.zero_le, ↓reduceIte, if_true, if_false, kP, zz] <;> rfl) (rfl) ?_
   refine ON ?_
   refine OQ ?_
   refine EV ?_
   refine ON ?_
   refine Ok.ret ?_
   with_reducible repeat (first | refine thenQ_ret ?_ | refine blockQ_ret ?_)
   refine RT ?_
   exact ⟨rfl, rfl, rfl⟩
  ·
   try simp only [bsimp] at hb2
   obtain ⟨m, e, hv, hsc⟩ := scanShort_f hb2
   rw [hsc]
   simp only [hv, Option.getD_some, Option.isSome_some]
   refine Ok.skip ?_
   refine OQ ?_
   iterate 4 (refine EV ?_)
   refine OkOps.storeE tab_ok rfl rfl (by simp only [kE, kT, kL, kC] <;> rfl) ⟨_, _, by simp only [kE]; rfl⟩ (by first | (simp [V.labelsL, V.labelsLL, V.labels, zz]; done) | (simp [-List.map_map, -List.map_set, -List.map_drop, -List.map_take, -List.map_tail, -List.drop_one, V.labelsL, V.labelsLL, V.labels, zz]; done)) (by simp only [eq_self, V.updL, V.travL, V.travLL, V.trav, updS, updP, and_self, true_and, and_true, false_and, and_false, Nat.reduceEqDiff, Nat.reduceSub, Nat.le_refl, Nat.zero_le, ↓reduceIte, if_true, if_false, kP, zz] <;> rfl) (rfl) ?_
   refine ON ?_
   refine OQ ?_
   iterate 2 (refine EV ?_)
   refine ON ?_
   refine Ok.ret ?_
   with_reducible repeat (first | refine thenQ_ret ?_ | refine blockQ_ret ?_)
   refine RT ?_
   exact ⟨rfl, rfl, rfl⟩
theorem w_impl_ReadPacket (t : Str) (ht : t.length ≤ 4611686018427387904) : Weak Try.prog 8 [.str t] (vP (readS t)) := by
 rw [← read_same]
 refine Weak.enter tab_ok Try.func8 rfl (.inr (by simp [V.labelsL, V.labels, zz])) (t := [.str t, .any, .any, .any, .any, .any, .any, .any, .any, .any, .any, .any, .any, .any, .any, .any, .any, .any, .any, .any, .any, .any, .any, .any, .any, .any, .any, .any, .any, .any, .any, .any, .any, .any, .any, .any, .any, .any, .any, .any, .any, .any, .any, .any, .any, .any, .any, .any, .any, .any, .any, .any, .any]) rfl ?_
 refine OQ ?_
 iterate 2 (refine EV ?_)
 refine ON ?_
 refine OQ ?_
 refine EV ?_
 refine OkOps.S0 rfl (OpS.weak' rfl (by simp only [kE, kT, kL, kC] <;> rfl) (by simp only [kE, kT, kL, kC] <;> rfl) cl29 (w_impl_Unsealed t ht)) (by simp only [kP] <;> rfl) ?_
 iterate 5 (refine EV ?_)
 refine ON ?_
 refine OQ ?_
 refine EV ?_
 refine OkOps.ev tab_ok rfl (by simp [ev1, fillV, kE, kT, kL] <;> first | rfl | exact ⟨rfl, rfl⟩) (by simp only [kP] <;> rfl) ?_
 iterate 2 (refine EV ?_)
 refine ON ?_
 refine OQ ?_
 refine EV ?_
 refine OkOps.upd rfl rfl (by simp only [kE, kT, kL, kC] <;> rfl) (by simp only [kE, kT, kL, kC] <;> rfl) cl30 (fun h => c_impl_scan_num (⟨(unsealed t).getD [], 0, false⟩ : Scan) 1 (Nat.le_trans body_len (by decide))) (by simp only [eq_self, V.updL, V.travL, V.travLL, V.trav, updS, updP, and_self, true_and, and_true, false_and, and_false, Nat.reduceEqDiff, Nat.reduceSub, Nat.le_refl, Nat.zero_le, ↓reduceIte, if_true, if_false, kP, zz] <;> rfl) (rfl) ?_
 refine OkOps.ev tab_ok rfl (by simp [ev1, fillV, kE, kT, kL] <;> first | rfl | exact ⟨rfl, rfl⟩) (by simp only [kP] <;> rfl) ?_
 refine EV ?_
 refine OkOps.storeE tab_ok rfl rfl (by simp only [kE, kT, kL, kC] <;> rfl) ⟨_, _, by simp only [kE]; rfl⟩ (by first | (simp [V.labelsL, V.labelsLL, V.labels, zz]; done) | (simp [-List.map_map, -List.map_set, -List.map_drop, -List.map_take, -List.map_tail, -List.drop_one, V.labelsL, V.labelsLL, V.labels, zz]; done)) (by simp only [eq_self, V.updL, V.travL, V.travLL, V.trav, updS, updP, and_self, true_and, and_true, false_and, and_false, Nat.reduceEqDiff, Nat.reduceSub, Nat.le_refl, Nat.zero_le, ↓reduceIte, if_true, if_false, kP, zz] <;> rfl) (rfl) ?_
 refine ON ?_
 refine OQ ?_
 refine EV ?_
 refine OkOps.upd rfl rfl (by simp only [kE, kT, kL, kC] <;> rfl) (by simp only [kE, kT, kL, kC] <;> rfl) cl30 (fun h => c_impl_scan_num (scan1 ((unsealed t).getD []) false).2 1 (by rw [scan1_text]; exact Nat.le_trans body_len (by decide))) (by simp only [eq_self, V.updL, V.travL, V.travLL, V.trav, updS, updP, and_self, true_and, and_true, false_and, and_false, Nat.reduceEqDiff, Nat.reduceSub, Nat.le_refl, Nat.zero_le, ↓reduceIte, if_true, if_false, kP, zz] <;> rfl) (rfl) ?_
 refine EV ?_
 refine OkOps.storeE tab_ok rfl rfl (by simp only [kE, kT, kL, kC] <;> rfl) ⟨_, _, by simp only [kE]; rfl⟩ (by first | (simp [V.labelsL, V.labelsLL, V.labels, zz]; done) | (simp [-List.map_map, -List.map_set, -List.map_drop, -List.map_take, -List.map_tail, -List.drop_one, V.labelsL, V.labelsLL, V.labels, zz]; done)) (by simp only [eq_self, V.updL, V.travL, V.travLL, V.trav, updS, updP, and_self, true_and, and_true, false_and, and_false, Nat.reduceEqDiff, Nat.reduceSub, Nat.le_refl, Nat.zero_le, ↓reduceIte, if_true, if_false, kP, zz] <;> rfl) (rfl) ?_
 refine ON ?_
 refine OQ ?_
 refine EV ?_
 refine OkOps.upd rfl rfl (by simp only [kE, kT, kL, kC] <;> rfl) (by simp only [kE, kT, kL, kC] <;> rfl) cl30 (fun h => c_impl_scan_num (scan2 ((unsealed t).getD []) false).2 1 (by rw [scan2_text]; exact Nat.le_trans body_len (by decide))) (by simp only [eq_self, V.updL, V.travL, V.travLL, V.trav, updS, updP, and_self, true_and, and_true, false_and, and_false, Nat.reduceEqDiff, Nat.reduceSub, Nat.le_refl, Nat.zero_le, ↓reduceIte, if_true, if_false, kP, zz] <;> rfl) (rfl) ?_
 refine EV ?_
 refine OkOps.storeE tab_ok rfl rfl (by simp only [kE, kT, kL, kC] <;> rfl) ⟨_, _, by simp only [kE]; rfl⟩ (by first | (simp [V.labelsL, V.labelsLL, V.labels, zz]; done) | (simp [-List.map_map, -List.map_set, -List.map_drop, -List.map_take, -List.map_tail, -List.drop_one, V.labelsL, V.labelsLL, V.labels, zz]; done)) (by simp only [eq_self, V.updL, V.travL, V.travLL, V.trav, updS, updP, and_self, true_and, and_true, false_and, and_false, Nat.reduceEqDiff, Nat.reduceSub, Nat.le_refl, Nat.zero_le, ↓reduceIte, if_true, if_false, kP, zz] <;> rfl) (rfl) ?_
 refine ON ?_
 refine OQ ?_
 refine EV ?_
 refine OkOps.upd rfl rfl (by simp only [kE, kT, kL, kC] <;> rfl) (by simp only [kE, kT, kL, kC] <;> rfl) cl31 (fun h => c_impl_scan_short (scan3 ((unsealed t).getD []) false).2 1 (by rw [scan3_text]; exact Nat.le_trans body_len (by decide))) (by simp only [eq_self, V.updL, V.travL, V.travLL, V.trav, updS, updP, and_self, true_and, and_true, false_and, and_false, Nat.reduceEqDiff, Nat.reduceSub, Nat.le_refl, Nat.zero_le, ↓reduceIte, if_true, if_false, kP, zz] <;> rfl) (rfl) ?_
 refine EV ?_
 refine OkOps.storeE tab_ok rfl rfl (by simp only [kE, kT, kL, kC] <;> rfl) ⟨_, _, by simp only [kE]; rfl⟩ (by first | (simp [V.labelsL, V.labelsLL, V.labels, zz]; done) | (simp [-List.map_map, -List.map_set, -List.map_drop, -List.map_take, -List.map_tail, -List.drop_one, V.labelsL, V.labelsLL, V.labels, zz]; done)) (by simp only [eq_self, V.updL, V.travL, V.travLL, V.trav, updS, updP, and_self, true_and, and_true, false_and, and_false, Nat.reduceEqDiff, Nat.reduceSub, Nat.le_refl, Nat.zero_le, ↓reduceIte, if_true, if_false, kP, zz] <;> rfl) (rfl) ?_
 refine ON ?_
 refine Ok.seq ?_
 refine Ok.seqC [(50, .bool (!(readI t).isSome))] [28, 29, 30, 31, 32, 33, 34, 35, 36, 37, 38, 39, 40, 41, 42, 43, 44, 45, 46, 47, 48, 49] (by simp only [kover] <;> rfl) ?_ ?_
 ·
  refine Ok.region ?_
  iterate 3 (refine EV ?_)
  refine OkOps.split (d := 30) (by simp only [kE, kT, kL, kC] <;> rfl) (by simp only [kP] <;> rfl) (by simp only [kP] <;> rfl) (fun hg7_2 => ?_) (fun hg7_2 => ?_)
  ·
   try simp only [bsimp] at hg7_2
   refine OkOps.offU rfl rfl (.inl (by simp only [kE, kT, kL, kC, Bool.not_true, Bool.not_false])) (by simp only [kP] <;> rfl) ?_
   refine OkOps.offU rfl rfl (.inl (by simp only [kE, kT, kL, kC, Bool.not_true, Bool.not_false])) (by simp only [kP] <;> rfl) ?_
   refine OkOps.offU rfl rfl (.inl (by simp only [kE, kT, kL, kC, Bool.not_true, Bool.not_false])) (by simp only [kP] <;> rfl) ?_
   refine OkOps.offU rfl rfl (.inl (by simp only [kE, kT, kL, kC, Bool.not_true, Bool.not_false])) (by simp only [kP] <;> rfl) ?_
   iterate 2 (refine EV ?_)
   refine OkOps.offU rfl rfl (.inl (by simp only [kE, kT, kL, kC, Bool.not_true, Bool.not_false])) (by simp only [kP] <;> rfl) ?_
   refine OkOps.offU rfl rfl (.inl (by simp only [kE, kT, kL, kC, Bool.not_true, Bool.not_false])) (by simp only [kP] <;> rfl) ?_
   refine OkOps.offU rfl rfl (.inl (by simp only [kE, kT, kL, kC, Bool.not_true, Bool.not_false])) (by simp only [kP] <;> rfl) ?_
   refine OkOps.offU rfl rfl (.inl (by simp only [kE, kT, kL, kC, Bool.not_true, Bool.not_false])) (by simp only [kP] <;> rfl) ?_
   refine OkOps.offU rfl rfl (.inl (by simp only [kE, kT, kL, kC, Bool.not_true, Bool.not_false])) (by simp only [kP] <;> rfl) ?_
   refine OkOps.offU rfl rfl (.inl (by simp only [kE, kT, kL, kC, Bool.not_true, Bool.not_false])) (by simp only [kP] <;> rfl) ?_
   refine OkOps.offU rfl rfl (.inl (by simp only [kE, kT, kL, kC, Bool.not_true, Bool.not_false])) (by simp only [kP] <;> rfl) ?_
   iterate 2 (refine EV ?_)
   refine OkOps.offU rfl rfl (.inl (by simp only [kE, kT, kL, kC, Bool.not_true, Bool.not_false])) (by simp only [kP] <;> rfl) ?_
   refine OkOps.offU rfl rfl (.inl (by simp only [kE, kT, kL, kC, Bool.not_true, Bool.not_false])) (by simp only [kP] <;> rfl) ?_
   refine OkOps.offU rfl rfl (.inl (by simp only [kE, kT, kL, kC, Bool.not_true, Bool.not_false])) (by simp only [kP] <;> rfl) ?_
   refine OkOps.offU rfl rfl (.inl (by simp only [kE, kT, kL, kC, Bool.not_true, Bool.not_false])) (by simp only [kP] <;> rfl) ?_
   refine EV ?_
   refine ON ?_
   refine ⟨rfl, ?_, rfl, rfl⟩
   refine ⟨?_, ?_, ?_, ?_, ?_, ?_, ?_, ?_, ?_, ?_, ?_, ?_, ?_, ?_, ?_, ?_, ?_, ?_, ?_, ?_, ?_, ?_, ?_, ?_, ?_, ?_, ?_, ?_, ?_, ?_, ?_, ?_, ?_, ?_, ?_, ?_, ?_, ?_, ?_, ?_, ?_, ?_, ?_, ?_, ?_, ?_, ?_, ?_, ?_, ?_, ?_, ?_, ?_, trivial⟩ <;> first | exact le_any _ | with_reducible exact le_rfl' _ | (refine .inl (congrArg V.bool ?_); rw [readI_cond]; simp only [scan4, scan3, scan2, scan1] at *; first | (simp [*]; done) | (simp_all; done)) | exact le_rfl' _
  ·
   try simp only [bsimp] at hg7_2
   refine OO ?_
   refine EV ?_
   refine OO ?_
   refine EV ?_
   refine OO ?_
   refine EV ?_
   refine OO ?_
   iterate 3 (refine EV ?_)
   refine OkOps.split (d := 36) (by simp only [kE, kT, kL, kC] <;> rfl) (by simp only [kP] <;> rfl) (by simp only [kP] <;> rfl) (fun hg7_8 => ?_) (fun hg7_8 => ?_)
   ·
    try simp only [bsimp] at hg7_8
    refine OkOps.offU rfl rfl (.inl (by simp only [kE, kT, kL, kC, Bool.not_true, Bool.not_false])) (by simp only [kP] <;> rfl) ?_
    refine OkOps.offU rfl rfl (.inl (by simp only [kE, kT, kL, kC, Bool.not_true, Bool.not_false])) (by simp only [kP] <;> rfl) ?_
    refine OkOps.offU rfl rfl (.inl (by simp only [kE, kT, kL, kC, Bool.not_true, Bool.not_false])) (by simp only [kP] <;> rfl) ?_
    refine OkOps.offU rfl rfl (.inl (by simp only [kE, kT, kL, kC, Bool.not_true, Bool.not_false])) (by simp only [kP] <;> rfl) ?_
    refine OkOps.offU rfl rfl (.inl (by simp only [kE, kT, kL, kC, Bool.not_true, Bool.not_false])) (by simp only [kP] <;> rfl) ?_
    refine OkOps.offU rfl rfl (.inl (by simp only [kE, kT, kL, kC, Bool.not_true, Bool.not_false])) (by simp only [kP] <;> rfl) ?_
    refine OkOps.offU rfl rfl (.inl (by simp only [kE, kT, kL, kC, Bool.not_true, Bool.not_false])) (by simp only [kP] <;> rfl) ?_
    iterate 2 (refine EV ?_)
    refine OkOps.offU rfl rfl (.inl (by simp only [kE, kT, kL, kC, Bool.not_true, Bool.not_false])) (by simp only [kP] <;> rfl) ?_
    refine OkOps.offU rfl rfl (.inl (by simp only [kE, kT, kL, kC, Bool.not_true, Bool.not_false])) (by simp only [kP] <;> rfl) ?_
    refine OkOps.offU rfl rfl (.inl (by simp only [kE, kT, kL, kC, Bool.not_true, Bool.not_false])) (by simp only [kP] <;> rfl) ?_
    refine OkOps.offU rfl rfl (.inl (by simp only [kE, kT, kL, kC, Bool.not_true, Bool.not_false])) (by simp only [kP] <;> rfl) ?_
    refine EV ?_
    refine ON ?_
    refine ⟨rfl, ?_, rfl, rfl⟩
    refine ⟨?_, ?_, ?_, ?_, ?_, ?_, ?_, ?_, ?_, ?_, ?_, ?_, ?_, ?_, ?_, ?_, ?_, ?_, ?_, ?_, ?_, ?_, ?_, ?_, ?_, ?_, ?_, ?_, ?_, ?_, ?_, ?_, ?_, ?_, ?_, ?_, ?_, ?_, ?_, ?_, ?_, ?_, ?_, ?_, ?_, ?_, ?_, ?_, ?_, ?_, ?_, ?_, ?_, trivial⟩ <;> first | exact le_any _ | with_reducible exact le_rfl' _ | (refine .inl (congrArg V.bool ?_); rw [readI_cond]; simp only [scan4, scan3, scan2, scan1] at *; first | (simp [*]; done) | (simp_all; done)) | exact le_rfl' _
   ·
    try simp only [bsimp] at hg7_8
    refine OO ?_
    refine EV ?_
    refine OO ?_
    refine EV ?_
    refine OO ?_
    refine EV ?_
    refine OO ?_
    refine EV ?_
    refine OO ?_
    refine EV ?_
    refine OO ?_
    refine EV ?_
    refine OO ?_
    iterate 3 (refine EV ?_)
    refine OkOps.split (d := 45) (by simp only [kE, kT, kL, kC] <;> rfl) (by simp only [kP] <;> rfl) (by simp only [kP] <;> rfl) (fun hg7_17 => ?_) (fun hg7_17 => ?_)
    ·
     try simp only [bsimp] at hg7_17
     refine OkOps.offU rfl rfl (.inl (by simp only [kE, kT, kL, kC, Bool.not_true, Bool.not_false])) (by simp only [kP] <;> rfl) ?_
     refine OkOps.offU rfl rfl (.inl (by simp only [kE, kT, kL, kC, Bool.not_true, Bool.not_false])) (by simp only [kP] <;> rfl) ?_
     refine OkOps.offU rfl rfl (.inl (by simp only [kE, kT, kL, kC, Bool.not_true, Bool.not_false])) (by simp only [kP] <;> rfl) ?_
     refine OkOps.offU rfl rfl (.inl (by simp only [kE, kT, kL, kC, Bool.not_true, Bool.not_false])) (by simp only [kP] <;> rfl) ?_
     refine EV ?_
     refine ON ?_
     refine ⟨rfl, ?_, rfl, rfl⟩
     refine ⟨?_, ?_, ?_, ?_, ?_, ?_, ?_, ?_, ?_, ?_, ?_, ?_, ?_, ?_, ?_, ?_, ?_, ?_, ?_, ?_, ?_, ?_, ?_, ?_, ?_, ?_, ?_, ?_, ?_, ?_, ?_, ?_, ?_, ?_, ?_, ?_, ?_, ?_, ?_, ?_, ?_, ?_, ?_, ?_, ?_, ?_, ?_, ?_, ?_, ?_, ?_, ?_, ?_, trivial⟩ <;> first | exact le_any _ | with_reducible exact le_rfl' _ | (refine .inl (congrArg V.bool ?_); rw [readI_cond]; simp only [scan4, scan3, scan2, scan1] at *; first | (simp [*]; done) | (simp_all; done)) | exact le_rfl' _
    ·
     try simp only [bsimp] at hg7_17
     refine OO ?_
     refine EV ?_
     refine OO ?_
     refine EV ?_
     refine OO ?_
     refine EV ?_
     refine OO ?_
     iterate 2 (refine EV ?_)
     refine ON ?_
     refine ⟨rfl, ?_, rfl, rfl⟩
     refine ⟨?_, ?_, ?_, ?_, ?_, ?_, ?_, ?_, ?_, ?_, ?_, ?_, ?_, ?_, ?_, ?_, ?_, ?_, ?_, ?_, ?_, ?_, ?_, ?_, ?_, ?_, ?_, ?_, ?_, ?_, ?_, ?_, ?_, ?_, ?_, ?_, ?_, ?_, ?_, ?_, ?_, ?_, ?_, ?_, ?_, ?_, ?_, ?_, ?_, ?_, ?_, ?_, ?_, trivial⟩ <;> first | exact le_any _ | with_reducible exact le_rfl' _ | (refine .inl (congrArg V.bool ?_); rw [readI_cond]; simp only [scan4, scan3, scan2, scan1] at *; first | (simp [*]; done) | (simp_all; done)) | exact le_rfl' _
 ·
  refine Ok.cond (b := _) (by simp only [kE, kT, kL, kC] <;> rfl) (fun hb7 => ?_) (fun hb7 => ?_)
  ·
   try simp only [bsimp] at hb7
   have hn : readI t = none := by simpa using hb7
   rw [hn]
   refine OQ ?_
   refine OkOps.ev tab_ok rfl (by simp [ev1, fillV, kE, kT, kL] <;> first | rfl | exact ⟨rfl, rfl⟩) (by simp only [kP] <;> rfl) ?_
   refine OkOps.storeE tab_ok rfl rfl (by simp only [kE, kT, kL, kC] <;> rfl) ⟨_, _, by simp only [kE]; rfl⟩ (by first | (simp [V.labelsL, V.labelsLL, V.labels, zz]; done) | (simp [-List.map_map, -List.map_set, -List.map_drop, -List.map_take, -List.map_tail, -List.drop_one, V.labelsL, V.labelsLL, V.labels, zz]; done)) (by simp only [eq_self, V.updL, V.travL, V.travLL, V.trav, updS, updP, and_self, true_and, and_true, false_and, and_false, Nat.reduceEqDiff, Nat.reduceSub, Nat.le_refl, Nat.zero_le, ↓reduceIte, if_true, if_false, kP, zz] <;> rfl) (rfl) ?_
   refine EV ?_
   refine ON ?_
   refine Ok.ret ?_
   with_reducible repeat (first | refine thenQ_ret ?_ | refine blockQ_ret ?_)
   refine RT ?_
   rfl
  ·
   try simp only [bsimp] at hb7
   rw [readI_some (by simpa using hb7)]
   refine Ok.skip ?_
   refine OQ ?_
   refine EV ?_
   refine OkOps.storeE tab_ok rfl rfl (by simp only [kE, kT, kL, kC] <;> rfl) ⟨_, _, by simp only [kE]; rfl⟩ (by first | (simp [V.labelsL, V.labelsLL, V.labels, zz]; done) | (simp [-List.map_map, -List.map_set, -List.map_drop, -List.map_take, -List.map_tail, -List.drop_one, V.labelsL, V.labelsLL, V.labels, zz]; done)) (by simp only [eq_self, V.updL, V.travL, V.travLL, V.trav, updS, updP, and_self, true_and, and_true, false_and, and_false, Nat.reduceEqDiff, Nat.reduceSub, Nat.le_refl, Nat.zero_le, ↓reduceIte, if_true, if_false, kP, zz] <;> rfl) (rfl) ?_
   refine EV ?_
   refine ON ?_
   refine Ok.ret ?_
   with_reducible repeat (first | refine thenQ_ret ?_ | refine blockQ_ret ?_)
   refine RT ?_
   rfl
theorem w_spec_ReadPacket (t : Str) (ht : t.length ≤ 4611686018427387904) : Weak Try.prog 10 [.str t] (vP (readS t)) := by
 refine Weak.enter tab_ok Try.func10 rfl (.inr (by simp [V.labelsL, V.labels, zz])) (t := [.str t, .any, .any, .any, .any, .any, .any, .any, .any, .any, .any, .any, .any, .any, .any, .any, .any, .any, .any, .any, .any, .any, .any, .any, .any, .any, .any, .any, .any, .any, .any, .any, .any, .any, .any, .any, .any, .any, .any, .any, .any, .any, .any, .any, .any, .any, .any, .any, .any, .any, .any, .any]) rfl ?_
 refine OQ ?_
 iterate 2 (refine EV ?_)
 refine ON ?_
 refine OQ ?_
 refine EV ?_
 refine OkOps.S0 rfl (OpS.weak' rfl (by simp only [kE, kT, kL, kC] <;> rfl) (by simp only [kE, kT, kL, kC] <;> rfl) cl33 (w_spec_Unsealed t ht)) (by simp only [kP] <;> rfl) ?_
 iterate 5 (refine EV ?_)
 refine ON ?_
 refine OQ ?_
 iterate 3 (refine EV ?_)
 refine OkOps.ev tab_ok rfl (by simp [ev1, fillV, kE, kT, kL] <;> first | rfl | exact ⟨rfl, rfl⟩) (by simp only [kP] <;> rfl) ?_
 iterate 2 (refine EV ?_)
 refine ON ?_
 refine OQ ?_
 refine EV ?_
 refine OkOps.upd rfl rfl (by simp only [kE, kT, kL, kC] <;> rfl) (by simp only [kE, kT, kL, kC] <;> rfl) cl35 (fun h => c_spec_l05Var (⟨(unsealed t).getD [], 0, (unsealed t).isNone⟩ : Scan) 1 (Nat.le_trans body_len (by decide))) (by simp only [eq_self, V.updL, V.travL, V.travLL, V.trav, updS, updP, and_self, true_and, and_true, false_and, and_false, Nat.reduceEqDiff, Nat.reduceSub, Nat.le_refl, Nat.zero_le, ↓reduceIte, if_true, if_false, kP, zz] <;> rfl) (rfl) ?_
 refine OkOps.ev tab_ok rfl (by simp [ev1, fillV, kE, kT, kL] <;> first | rfl | exact ⟨rfl, rfl⟩) (by simp only [kP] <;> rfl) ?_
 refine EV ?_
 refine OkOps.storeE tab_ok rfl rfl (by simp only [kE, kT, kL, kC] <;> rfl) ⟨_, _, by simp only [kE]; rfl⟩ (by first | (simp [V.labelsL, V.labelsLL, V.labels, zz]; done) | (simp [-List.map_map, -List.map_set, -List.map_drop, -List.map_take, -List.map_tail, -List.drop_one, V.labelsL, V.labelsLL, V.labels, zz]; done)) (by simp only [eq_self, V.updL, V.travL, V.travLL, V.trav, updS, updP, and_self, true_and, and_true, false_and, and_false, Nat.reduceEqDiff, Nat.reduceSub, Nat.le_refl, Nat.zero_le, ↓reduceIte, if_true, if_false, kP, zz] <;> rfl) (rfl) ?_
 refine ON ?_
 refine OQ ?_
 refine EV ?_
 refine OkOps.upd rfl rfl (by simp only [kE, kT, kL, kC] <;> rfl) (by simp only [kE, kT, kL, kC] <;> rfl) cl35 (fun h => c_spec_l05Var (scan1 ((unsealed t).getD []) (unsealed t).isNone).2 1 (by rw [scan1_text]; exact Nat.le_trans body_len (by decide))) (by simp only [eq_self, V.updL, V.travL, V.travLL, V.trav, updS, updP, and_self, true_and, and_true, false_and, and_false, Nat.reduceEqDiff, Nat.reduceSub, Nat.le_refl, Nat.zero_le, ↓reduceIte, if_true, if_false, kP, zz] <;> rfl) (rfl) ?_
 refine EV ?_
 refine OkOps.storeE tab_ok rfl rfl (by simp only [kE, kT, kL, kC] <;> rfl) ⟨_, _, by simp only [kE]; rfl⟩ (by first | (simp [V.labelsL, V.labelsLL, V.labels, zz]; done) | (simp [-List.map_map, -List.map_set, -List.map_drop, -List.map_take, -List.map_tail, -List.drop_one, V.labelsL, V.labelsLL, V.labels, zz]; done)) (by simp only [eq_self, V.updL, V.travL, V.travLL, V.trav, updS, updP, and_self, true_and, and_true, false_and, and_false, Nat.reduceEqDiff, Nat.reduceSub, Nat.le_refl, Nat.zero_le, ↓reduceIte, if_true, if_false, kP, zz] <;> rfl) (rfl) ?_
 refine ON ?_
 refine OQ ?_
 refine EV ?_
 refine OkOps.upd rfl rfl (by simp only [kE, kT, kL, kC] <;> rfl) (by simp only [kE, kT, kL, kC] <;> rfl) cl35 (fun h => c_spec_l05Var (scan2 ((unsealed t).getD []) (unsealed t).isNone).2 1 (by rw [scan2_text]; exact Nat.le_trans body_len (by decide))) (by simp only [eq_self, V.updL, V.travL, V.travLL, V.trav, updS, updP, and_self, true_and, and_true, false_and, and_false, Nat.reduceEqDiff, Nat.reduceSub, Nat.le_refl, Nat.zero_le, ↓reduceIte, if_true, if_false, kP, zz] <;> rfl) (rfl) ?_
 refine EV ?_
 refine OkOps.storeE tab_ok rfl rfl (by simp only [kE, kT, kL, kC] <;> rfl) ⟨_, _, by simp only [kE]; rfl⟩ (by first | (simp [V.labelsL, V.labelsLL, V.labels, zz]; done) | (simp [-List.map_map, -List.map_set, -List.map_drop, -List.map_take, -List.map_tail, -List.drop_one, V.labelsL, V.labelsLL, V.labels, zz]; done)) (by simp only [eq_self, V.updL, V.travL, V.travLL, V.trav, updS, updP, and_self, true_and, and_true, false_and, and_false, Nat.reduceEqDiff, Nat.reduceSub, Nat.le_refl, Nat.zero_le, ↓reduceIte, if_true, if_false, kP, zz] <;> rfl) (rfl) ?_
 refine ON ?_
 refine OQ ?_
 refine EV ?_
 refine OkOps.upd rfl rfl (by simp only [kE, kT, kL, kC] <;> rfl) (by simp only [kE, kT, kL, kC] <;> rfl) cl36 (fun h => c_spec_l05Short (scan3 ((unsealed t).getD []) (unsealed t).isNone).2 1 (by rw [scan3_text]; exact Nat.le_trans body_len (by decide))) (by simp only [eq_self, V.updL, V.travL, V.travLL, V.trav, updS, updP, and_self, true_and, and_true, false_and, and_false, Nat.reduceEqDiff, Nat.reduceSub, Nat.le_refl, Nat.zero_le, ↓reduceIte, if_true, if_false, kP, zz] <;> rfl) (rfl) ?_
 refine EV ?_
 refine OkOps.storeE tab_ok rfl rfl (by simp only [kE, kT, kL, kC] <;> rfl) ⟨_, _, by simp only [kE]; rfl⟩ (by first | (simp [V.labelsL, V.labelsLL, V.labels, zz]; done) | (simp [-List.map_map, -List.map_set, -List.map_drop, -List.map_take, -List.map_tail, -List.drop_one, V.labelsL, V.labelsLL, V.labels, zz]; done)) (by simp only [eq_self, V.updL, V.travL, V.travLL, V.trav, updS, updP, and_self, true_and, and_true, false_and, and_false, Nat.reduceEqDiff, Nat.reduceSub, Nat.le_refl, Nat.zero_le, ↓reduceIte, if_true, if_false, kP, zz] <;> rfl) (rfl) ?_
 refine ON ?_
 refine OQ ?_
 refine EV ?_
 refine OkOps.S0 rfl (OpS.weak' rfl (by simp only [kE, kT, kL, kC] <;> rfl) (by simp only [kE, kT, kL, kC] <;> rfl) cl7 (w_spec_PacketText (scanP ((unsealed t).getD []) (unsealed t).isNone))) (by simp only [kP] <;> rfl) ?_
 iterate 5 (refine EV ?_)
 refine ON ?_
 refine Ok.seq ?_
 refine Ok.seqC [(49, .bool (!(readS t).isSome))] [37, 38, 39, 40, 41, 42, 43, 44, 45, 46, 47, 48] (by simp only [kover] <;> rfl) ?_ ?_
 ·
  refine Ok.region ?_
  iterate 5 (refine EV ?_)
  refine OkOps.split (d := 41) (by simp only [kE, kT, kL, kC] <;> rfl) (by simp only [kP] <;> rfl) (by simp only [kP] <;> rfl) (fun hg8_4 => ?_) (fun hg8_4 => ?_)
  ·
   try simp only [bsimp] at hg8_4
   refine OkOps.offU rfl rfl (.inl (by simp only [kE, kT, kL, kC, Bool.not_true, Bool.not_false])) (by simp only [kP] <;> rfl) ?_
   refine OkOps.offU rfl rfl (.inl (by simp only [kE, kT, kL, kC, Bool.not_true, Bool.not_false])) (by simp only [kP] <;> rfl) ?_
   iterate 2 (refine EV ?_)
   refine OkOps.offU rfl rfl (.inl (by simp only [kE, kT, kL, kC, Bool.not_true, Bool.not_false])) (by simp only [kP] <;> rfl) ?_
   refine OkOps.offU rfl rfl (.inl (by simp only [kE, kT, kL, kC, Bool.not_true, Bool.not_false])) (by simp only [kP] <;> rfl) ?_
   refine OkOps.offU rfl rfl (.inl (by simp only [kE, kT, kL, kC, Bool.not_true, Bool.not_false])) (by simp only [kP] <;> rfl) ?_
   refine EV ?_
   refine ON ?_
   refine ⟨rfl, ?_, rfl, rfl⟩
   refine ⟨?_, ?_, ?_, ?_, ?_, ?_, ?_, ?_, ?_, ?_, ?_, ?_, ?_, ?_, ?_, ?_, ?_, ?_, ?_, ?_, ?_, ?_, ?_, ?_, ?_, ?_, ?_, ?_, ?_, ?_, ?_, ?_, ?_, ?_, ?_, ?_, ?_, ?_, ?_, ?_, ?_, ?_, ?_, ?_, ?_, ?_, ?_, ?_, ?_, ?_, ?_, ?_, trivial⟩ <;> first | exact le_any _ | with_reducible exact le_rfl' _ | (refine .inl (congrArg V.bool ?_); rw [readS_cond]; simp only [scan4, scan3, scan2, scan1] at *; first | (simp [*]; done) | (simp_all; done)) | exact le_rfl' _
  ·
   try simp only [bsimp] at hg8_4
   refine OO ?_
   refine EV ?_
   refine OO ?_
   iterate 3 (refine EV ?_)
   refine OkOps.split (d := 45) (by simp only [kE, kT, kL, kC] <;> rfl) (by simp only [kP] <;> rfl) (by simp only [kP] <;> rfl) (fun hg8_8 => ?_) (fun hg8_8 => ?_)
   ·
    try simp only [bsimp] at hg8_8
    refine OkOps.offU rfl rfl (.inl (by simp only [kE, kT, kL, kC, Bool.not_true, Bool.not_false])) (by simp only [kP] <;> rfl) ?_
    refine OkOps.offU rfl rfl (.inl (by simp only [kE, kT, kL, kC, Bool.not_true, Bool.not_false])) (by simp only [kP] <;> rfl) ?_
    refine OkOps.offU rfl rfl (.inl (by simp only [kE, kT, kL, kC, Bool.not_true, Bool.not_false])) (by simp only [kP] <;> rfl) ?_
    refine EV ?_
    refine ON ?_
    refine ⟨rfl, ?_, rfl, rfl⟩
    refine ⟨?_, ?_, ?_, ?_, ?_, ?_, ?_, ?_, ?_, ?_, ?_, ?_, ?_, ?_, ?_, ?_, ?_, ?_, ?_, ?_, ?_, ?_, ?_, ?_, ?_, ?_, ?_, ?_, ?_, ?_, ?_, ?_, ?_, ?_, ?_, ?_, ?_, ?_, ?_, ?_, ?_, ?_, ?_, ?_, ?_, ?_, ?_, ?_, ?_, ?_, ?_, ?_, trivial⟩ <;> first | exact le_any _ | with_reducible exact le_rfl' _ | (refine .inl (congrArg V.bool ?_); rw [readS_cond]; simp only [scan4, scan3, scan2, scan1] at *; first | (simp [*]; done) | (simp_all; done)) | exact le_rfl' _
   ·
    try simp only [bsimp] at hg8_8
    refine OO ?_
    refine EV ?_
    refine OO ?_
    refine EV ?_
    refine OO ?_
    iterate 2 (refine EV ?_)
    refine ON ?_
    refine ⟨rfl, ?_, rfl, rfl⟩
    refine ⟨?_, ?_, ?_, ?_, ?_, ?_, ?_, ?_, ?_, ?_, ?_, ?_, ?_, ?_, ?_, ?_, ?_, ?_, ?_, ?_, ?_, ?_, ?_, ?_, ?_, ?_, ?_, ?_, ?_, ?_, ?_, ?_, ?_, ?_, ?_, ?_, ?_, ?_, ?_, ?_, ?_, ?_, ?_, ?_, ?_, ?_, ?_, ?_, ?_, ?_, ?_, ?_, trivial⟩ <;> first | exact le_any _ | with_reducible exact le_rfl' _ | (refine .inl (congrArg V.bool ?_); rw [readS_cond]; simp only [scan4, scan3, scan2, scan1] at *; first | (simp [*]; done) | (simp_all; done)) | exact le_rfl' _
 ·
  refine Ok.cond (b := _) (by simp only [kE, kT, kL, kC] <;> rfl) (fun hb8 => ?_) (fun hb8 => ?_)
  ·
   try simp only [bsimp] at hb8
   have hn : readS t = none := by simpa using hb8
   rw [hn]
   refine OQ ?_
   refine OkOps.ev tab_ok rfl (by simp [ev1, fillV, kE, kT, kL] <;> first | rfl | exact ⟨rfl, rfl⟩) (by simp only [kP] <;> rfl) ?_
   refine OkOps.storeE tab_ok rfl rfl (by simp only [kE, kT, kL, kC] <;> rfl) ⟨_, _, by simp only [kE]; rfl⟩ (by first | (simp [V.labelsL, V.labelsLL, V.labels, zz]; done) | (simp [-List.map_map, -List.map_set, -List.map_drop, -List.map_take, -List.map_tail, -List.drop_one, V.labelsL, V.labelsLL, V.labels, zz]; done)) (by simp only [eq_self, V.updL, V.travL, V.travLL, V.trav, updS, updP, and_self, true_and, and_true, false_and, and_false, Nat.reduceEqDiff, Nat.reduceSub, Nat.le_refl, Nat.zero_le, ↓reduceIte, if_true, if_false, kP, zz] <;> rfl) (rfl) ?_
   refine EV ?_
   refine ON ?_
   refine Ok.ret ?_
   with_reducible repeat (first | refine thenQ_ret ?_ | refine blockQ_ret ?_)
   refine RT ?_
   rfl
  ·
   try simp only [bsimp] at hb8
   rw [readS_some (by simpa using hb8)]
   refine Ok.skip ?_
   refine OQ ?_
   refine EV ?_
   refine OkOps.storeE tab_ok rfl rfl (by simp only [kE, kT, kL, kC] <;> rfl) ⟨_, _, by simp only [kE]; rfl⟩ (by first | (simp [V.labelsL, V.labelsLL, V.labels, zz]; done) | (simp [-List.map_map, -List.map_set, -List.map_drop, -List.map_take, -List.map_tail, -List.drop_one, V.labelsL, V.labelsLL, V.labels, zz]; done)) (by simp only [eq_self, V.updL, V.travL, V.travLL, V.trav, updS, updP, and_self, true_and, and_true, false_and, and_false, Nat.reduceEqDiff, Nat.reduceSub, Nat.le_refl, Nat.zero_le, ↓reduceIte, if_true, if_false, kP, zz] <;> rfl) (rfl) ?_
   refine EV ?_
   refine ON ?_
   refine Ok.ret ?_
   with_reducible repeat (first | refine thenQ_ret ?_ | refine blockQ_ret ?_)
   refine RT ?_
   rfl
end Go.Proofs.Ytckeandnnbnapaa.K

/- Walks: packets drawn, links compared. Printed by w2.py. -/
namespace Go.Proofs.Ytckeandnnbnapaa.K
open Go Go.RowKit
set_option linter.unusedVariables false
set_option linter.unusedSimpArgs false
set_option maxHeartbeats 800000
set_option maxRecDepth 20000
theorem w_laws_sameLink (a b : Link) : Weak Try.prog 17 [.agg (cLink a), .agg (cLink b)] (.bool (decide (a = b))) := by
 refine Weak.enter tab_ok Try.func17 rfl (.inr (by simp [V.labelsL, V.labels, zz])) (t := [.agg (cLink a), .agg (cLink b), .any, .any, .any, .any, .any, .any, .any, .any, .any, .any, .any, .any, .any, .any, .any, .any, .any, .any, .any, .any, .any, .any, .any, .any, .any, .any, .any, .any, .any]) rfl ?_
 refine OQ ?_
 iterate 3 (refine EV ?_)
 refine ON ?_
 refine OQ ?_
 iterate 6 (refine EV ?_)
 refine OkOps.split (d := 10) (by simp only [kE, kT, kL, kC] <;> rfl) (by simp only [kP] <;> rfl) (by simp only [kP] <;> rfl) (fun hg1_5 => ?_) (fun hg1_5 => ?_)
 ·
  try simp only [bsimp] at hg1_5
  refine OO ?_
  refine EV ?_
  refine OO ?_
  refine EV ?_
  refine OO ?_
  refine EV ?_
  refine OO ?_
  refine EV ?_
  refine OO ?_
  refine OkOps.S0 rfl (OpS.weak' rfl (by simp only [kE, kT, kL, kC] <;> rfl) (by simp only [kE, kT, kL, kC] <;> rfl) cl44 (w_laws_sameTexts _ _)) (by simp only [kP] <;> rfl) ?_
  iterate 2 (refine EV ?_)
  refine OkOps.split (d := 17) (by simp only [kE, kT, kL, kC] <;> rfl) (by simp only [kP] <;> rfl) (by simp only [kP] <;> rfl) (fun hg1_12 => ?_) (fun hg1_12 => ?_)
  ·
   try simp only [bsimp] at hg1_12
   refine OO ?_
   refine EV ?_
   refine OO ?_
   refine EV ?_
   refine OO ?_
   refine EV ?_
   refine OO ?_
   refine EV ?_
   refine OO ?_
   iterate 3 (refine EV ?_)
   refine OkOps.split (d := 24) (by simp only [kE, kT, kL, kC] <;> rfl) (by simp only [kP] <;> rfl) (by simp only [kP] <;> rfl) (fun hg1_19 => ?_) (fun hg1_19 => ?_)
   ·
    try simp only [bsimp] at hg1_19
    refine OO ?_
    refine EV ?_
    refine OO ?_
    refine EV ?_
    refine OO ?_
    refine EV ?_
    refine OO ?_
    refine EV ?_
    refine OO ?_
    iterate 3 (refine EV ?_)
    refine ON ?_
    refine Ok.ret ?_
    with_reducible repeat (first | refine thenQ_ret ?_ | refine blockQ_ret ?_)
    refine RT ?_
    first | (rw [show decide (a = b) = decide (a.want = b.want) from decide_eq_decide.2 ⟨fun h => by rw [h], fun h => by cases a; cases b; simp_all⟩]; rfl) | first | (rw [decide_eq_true (by cases a; cases b; simp_all)]; rfl) | (rw [decide_eq_false (by intro h; subst h; simp_all)]; rfl)
   ·
    try simp only [bsimp] at hg1_19
    refine OkOps.offU rfl rfl (.inl (by simp only [kE, kT, kL, kC, Bool.not_true, Bool.not_false])) (by simp only [kP] <;> rfl) ?_
    refine OkOps.offU rfl rfl (.inl (by simp only [kE, kT, kL, kC, Bool.not_true, Bool.not_false])) (by simp only [kP] <;> rfl) ?_
    refine OkOps.offU rfl rfl (.inl (by simp only [kE, kT, kL, kC, Bool.not_true, Bool.not_false])) (by simp only [kP] <;> rfl) ?_
    refine OkOps.offU rfl rfl (.inl (by simp only [kE, kT, kL, kC, Bool.not_true, Bool.not_false])) (by simp only [kP] <;> rfl) ?_
    refine OkOps.offU rfl rfl (.inl (by simp only [kE, kT, kL, kC, Bool.not_true, Bool.not_false])) (by simp only [kP] <;> rfl) ?_
    iterate 2 (refine EV ?_)
    refine ON ?_
    refine Ok.ret ?_
    with_reducible repeat (first | refine thenQ_ret ?_ | refine blockQ_ret ?_)
    refine RT ?_
    first | (rw [show decide (a = b) = decide (a.want = b.want) from decide_eq_decide.2 ⟨fun h => by rw [h], fun h => by cases a; cases b; simp_all⟩]; rfl) | first | (rw [decide_eq_true (by cases a; cases b; simp_all)]; rfl) | (rw [decide_eq_false (by intro h; subst h; simp_all)]; rfl)
  ·
   try simp only [bsimp] at hg1_12
   refine OkOps.offU rfl rfl (.inl (by simp only [kE, kT, kL, kC, Bool.not_true, Bool.not_false])) (by simp only [kP] <;> rfl) ?_
   refine OkOps.offU rfl rfl (.inl (by simp only [kE, kT, kL, kC, Bool.not_true, Bool.not_false])) (by simp only [kP] <;> rfl) ?_
   refine OkOps.offU rfl rfl (.inl (by simp only [kE, kT, kL, kC, Bool.not_true, Bool.not_false])) (by simp only [kP] <;> rfl) ?_
   refine OkOps.offU rfl rfl (.inl (by simp only [kE, kT, kL, kC, Bool.not_true, Bool.not_false])) (by simp only [kP] <;> rfl) ?_
   refine OkOps.offU rfl rfl (.inl (by simp only [kE, kT, kL, kC, Bool.not_true, Bool.not_false])) (by simp only [kP] <;> rfl) ?_
   iterate 2 (refine EV ?_)
   refine OkOps.offU rfl rfl (.inl (by simp only [kE, kT, kL, kC, Bool.not_true, Bool.not_false])) (by simp only [kP] <;> rfl) ?_
   refine OkOps.offU rfl rfl (.inl (by simp only [kE, kT, kL, kC, Bool.not_true, Bool.not_false])) (by simp only [kP] <;> rfl) ?_
   refine OkOps.offU rfl rfl (.inl (by simp only [kE, kT, kL, kC, Bool.not_true, Bool.not_false])) (by simp only [kP] <;> rfl) ?_
   refine OkOps.offU rfl rfl (.inl (by simp only [kE, kT, kL, kC, Bool.not_true, Bool.not_false])) (by simp only [kP] <;> rfl) ?_
   refine OkOps.offU rfl rfl (.inl (by simp only [kE, kT, kL, kC, Bool.not_true, Bool.not_false])) (by simp only [kP] <;> rfl) ?_
   iterate 2 (refine EV ?_)
   refine ON ?_
   refine Ok.ret ?_
   with_reducible repeat (first | refine thenQ_ret ?_ | refine blockQ_ret ?_)
   refine RT ?_
   first | (rw [show decide (a = b) = decide (a.want = b.want) from decide_eq_decide.2 ⟨fun h => by rw [h], fun h => by cases a; cases b; simp_all⟩]; rfl) | first | (rw [decide_eq_true (by cases a; cases b; simp_all)]; rfl) | (rw [decide_eq_false (by intro h; subst h; simp_all)]; rfl)
 ·
  try simp only [bsimp] at hg1_5
  refine OkOps.offU rfl rfl (.inl (by simp only [kE, kT, kL, kC, Bool.not_true, Bool.not_false])) (by simp only [kP] <;> rfl) ?_
  refine OkOps.offU rfl rfl (.inl (by simp only [kE, kT, kL, kC, Bool.not_true, Bool.not_false])) (by simp only [kP] <;> rfl) ?_
  refine OkOps.offU rfl rfl (.inl (by simp only [kE, kT, kL, kC, Bool.not_true, Bool.not_false])) (by simp only [kP] <;> rfl) ?_
  refine OkOps.offU rfl rfl (.inl (by simp only [kE, kT, kL, kC, Bool.not_true, Bool.not_false])) (by simp only [kP] <;> rfl) ?_
  refine OkOps.offU rfl rfl (.inl (by simp only [kE, kT, kL, kC, Bool.not_true, Bool.not_false])) (by simp only [kP] <;> rfl) ?_
  iterate 2 (refine EV ?_)
  refine OkOps.offU rfl rfl (.inl (by simp only [kE, kT, kL, kC, Bool.not_true, Bool.not_false])) (by simp only [kP] <;> rfl) ?_
  refine OkOps.offU rfl rfl (.inl (by simp only [kE, kT, kL, kC, Bool.not_true, Bool.not_false])) (by simp only [kP] <;> rfl) ?_
  refine OkOps.offU rfl rfl (.inl (by simp only [kE, kT, kL, kC, Bool.not_true, Bool.not_false])) (by simp only [kP] <;> rfl) ?_
  refine OkOps.offU rfl rfl (.inl (by simp only [kE, kT, kL, kC, Bool.not_true, Bool.not_false])) (by simp only [kP] <;> rfl) ?_
  refine OkOps.offU rfl rfl (.inl (by simp only [kE, kT, kL, kC, Bool.not_true, Bool.not_false])) (by simp only [kP] <;> rfl) ?_
  iterate 2 (refine EV ?_)
  refine OkOps.offU rfl rfl (.inl (by simp only [kE, kT, kL, kC, Bool.not_true, Bool.not_false])) (by simp only [kP] <;> rfl) ?_
  refine OkOps.offU rfl rfl (.inl (by simp only [kE, kT, kL, kC, Bool.not_true, Bool.not_false])) (by simp only [kP] <;> rfl) ?_
  refine OkOps.offU rfl rfl (.inl (by simp only [kE, kT, kL, kC, Bool.not_true, Bool.not_false])) (by simp only [kP] <;> rfl) ?_
  refine OkOps.offU rfl rfl (.inl (by simp only [kE, kT, kL, kC, Bool.not_true, Bool.not_false])) (by simp only [kP] <;> rfl) ?_
  refine OkOps.offU rfl rfl (.inl (by simp only [kE, kT, kL, kC, Bool.not_true, Bool.not_false])) (by simp only [kP] <;> rfl) ?_
  iterate 2 (refine EV ?_)
  refine ON ?_
  refine Ok.ret ?_
  with_reducible repeat (first | refine thenQ_ret ?_ | refine blockQ_ret ?_)
  refine RT ?_
  first | (rw [show decide (a = b) = decide (a.want = b.want) from decide_eq_decide.2 ⟨fun h => by rw [h], fun h => by cases a; cases b; simp_all⟩]; rfl) | first | (rw [decide_eq_true (by cases a; cases b; simp_all)]; rfl) | (rw [decide_eq_false (by intro h; subst h; simp_all)]; rfl)
theorem w_spec_DrawPacketText (code : Str) (hc : code.length ≤ 4611686018427387904) : Weak Try.prog 5 [.sl 0 1 0 (code.map cB)] (.agg (cPacket (packD (curNew code)).1)) := by
 refine Weak.enter tab_ok Try.func5 rfl (.inr (by simp [V.labelsL, V.labels, zz])) (t := [.sl 0 1 0 (code.map cB), .any, .any, .any, .any, .any]) rfl ?_
 refine OQ ?_
 refine EV ?_
 refine ON ?_
 refine OQ ?_
 refine EV ?_
 refine OkOps.turn _ rfl rfl (by simp only [kE, kT, kL, kC] <;> rfl) (by simp only [kE, kT, kL, kC] <;> rfl) cl21 (fun h => c_spec_l01New code hc) (by first | rfl | (simp only [Nat.add_zero, Nat.reduceAdd] <;> rfl)) (by simp only [List.map_cons, List.map_nil, kturn, fillA_ptr, fillA_far, fillA_self, zz, ne_eq, Nat.reduceEqDiff, not_false_eq_true, List.length_map, id_eq, kP] <;> rfl) (rfl) ?_
 refine OkOps.updF (k := 10) rfl rfl (by simp only [kE, kT, kL, kC] <;> rfl) (by simp only [kE, kT, kL, kC] <;> rfl) cl20 (by intro y hy; simp [V.labelsL, V.labels, V.labelsLL, zz] at hy; omega) (Ahd.nil _) (fun h hlt => c_spec_l17Packet (curNew code) 1 hc hlt (by omega)) (by first | rfl | (simp only [Nat.add_zero, Nat.reduceAdd] <;> rfl)) (by simp only [eq_self, V.updL, V.travL, V.travLL, V.trav, updS, updP, and_self, true_and, and_true, false_and, and_false, Nat.reduceEqDiff, Nat.reduceSub, Nat.le_refl, Nat.zero_le, ↓reduceIte, if_true, if_false, kP, zz] <;> rfl) (rfl) ?_
 refine OkOps.storeE tab_ok rfl rfl (by simp only [kE, kT, kL, kC] <;> rfl) ⟨_, _, by simp only [kE]; rfl⟩ (by first | (simp [V.labelsL, V.labelsLL, V.labels, zz]; done) | (simp [-List.map_map, -List.map_set, -List.map_drop, -List.map_take, -List.map_tail, -List.drop_one, V.labelsL, V.labelsLL, V.labels, zz]; done)) (by simp only [eq_self, V.updL, V.travL, V.travLL, V.trav, updS, updP, and_self, true_and, and_true, false_and, and_false, Nat.reduceEqDiff, Nat.reduceSub, Nat.le_refl, Nat.zero_le, ↓reduceIte, if_true, if_false, kP, zz] <;> rfl) (rfl) ?_
 refine ON ?_
 refine Ok.ret ?_
 with_reducible repeat (first | refine thenQ_ret ?_ | refine blockQ_ret ?_)
 refine RT ?_
 rfl
end Go.Proofs.Ytckeandnnbnapaa.K
