/- Calls of which it is told only that what they give is one of these. -/
import Derived.Test.YtiipkeendfpddaaGreatPM
import Derived.Test.YtiipkeendfpddaaGreatG4
import Derived.Test.YtiipkeendfpddaaGreatG1
import Derived.Test.YtiipkeendfpddaaGreatG9
import Derived.Test.YtiipkeendfpddaaGreatG6
import Derived.Test.YtiipkeendfpddaaGreatG7
import Derived.Test.YtiipkeendfpddaaGreatG8
namespace Go.Proofs.YtiipkeendfpddaaGreat.K
open Go Go.RowKit
set_option linter.unusedVariables false
set_option linter.unusedSimpArgs false
structure WeakX (P : Program) (f : FuncId) (args : List V) (τ : Type) (X : τ → V) (G : τ → Prop) : Prop where
  go : ∀ base σ w vs, (∀ k, base.bad k → k < w.heap.size) → σ 0 = none → (∀ L b o s, σ L = some (b, o, s) → b < w.heap.size) → Ms base σ w args vs → Calls P f vs.toArray w fun e w' => ∃ y v, e = .returned v ∧ G y ∧ M base σ w' (X y) v ∧ Below w.heap.size w w'
section
variable {P : Program} {t h : List V} {n n' : Nat} {Q : Exit → List V → List V → Nat → Prop} {ops : Array Oper} {o : Oper} {l : List Oper} {τ : Type} {X : τ → V} {G : τ → Prop} {E : τ → List V}
theorem WeakX.of {f : FuncId} {args : List V} (hz : ∀ L ∈ V.labelsL args, L = 0) (hc : OkCall P f args [] 1 fun x _ _ => ∃ y, G y ∧ V.erase x = X y) : WeakX P f args τ X G := by
  refine ⟨fun base σ w vs hbad h0 hσ hargs => ?_⟩
  let base1 : Base := ⟨w.heap.size, fun k => base.bad k ∨ ∃ L b o s, σ L = some (b, o, s) ∧ b = k, fun k hk => by
    rcases hk with hk | ⟨L, b, o, s, hs, rfl⟩
    · exact hbad k hk
    · exact hσ L b o s hs⟩
  have inv : Inv base1 noSig w 1 := ⟨Nat.le_refl _, Nat.le_refl _, rfl, fun _ _ => rfl, fun _ _ _ _ h => by simp [noSig] at h, fun _ _ _ _ _ _ _ h => by simp [noSig] at h⟩
  have hargs1 : Ms base1 noSig w args vs := by
    refine ⟨hargs.1, fun i x u hx hu => (hargs.2 i x u hx hu).as fun L hL sz pos room ad hat => ?_⟩
    have hL0 := hz L (labels_in1 hx hL)
    rcases hat with ⟨_, hold⟩ | ⟨b, o, _, _, _, hs, _⟩
    · refine .inl ⟨hL0, hold.1, fun _ _ _ _ h => by simp [noSig] at h, ?_⟩
      rintro (hk | ⟨L, b, o, s, hs, hb⟩)
      · exact hold.2.2 hk
      · exact hold.2.1 L b o s hs hb
    · rw [hL0, h0] at hs; cases hs
  refine (hc base1 w [] noSig w vs inv hargs1 ⟨rfl, by simp⟩ (Below.refl _ _)).mono ?_
  rintro e w' ⟨x, h', n', σ', v, rfl, ⟨y, hy, hxy⟩, hm, _, inv', bel⟩
  refine ⟨y, v, rfl, hy, ?_, bel⟩
  rw [← hxy]
  refine hm.erase fun L _ sz pos room ad hat => ?_
  rcases hat with ⟨_, hold⟩ | ⟨b, o, cur, e, fr, hs, rfl, hh, _⟩
  · exact ⟨hold.1, fun L b o s hs hb => hold.2.2 (.inr ⟨L, b, o, s, hs, hb⟩), fun hk => hold.2.2 (.inl hk)⟩
  · have hge := (inv'.own L b o sz hs).1
    have hge' : w.heap.size ≤ b := hge
    refine ⟨(inv'.own L b o sz hs).2, fun L2 b2 o2 s2 hs2 hb => ?_, fun hk => ?_⟩
    · have := hσ L2 b2 o2 s2 hs2
      have hb' : b2 = b := hb
      omega
    · have : b < w.heap.size := hbad b hk
      omega
theorem WeakX.enter {ti : Tab} (hti : TabOk P ti) {f : FuncId} {fn : Func} {c : Code} {args : List V} (hf : P.funcs[f]? = some fn) (hb : fn.body = some c) (hz : V.labelsL args = [] ∨ ∀ L ∈ V.labelsL args, L = 0)
    (ht : args ++ List.replicate (fn.ntmps - args.length) .any = t) (hk : Ok P c t [] 1 (retQ ti fn fun x _ _ => ∃ y, G y ∧ V.erase x = X y)) : WeakX P f args τ X G :=
  WeakX.of (hz.elim (fun h => by rw [h]; simp) id) (OkCall.enter hti hf hb (ht ▸ hk))
theorem callee_run {fx : Operand} {args : Array Operand} {ts : Array TypeId} {f : FuncId} {caps : List V} (ho : o.op = .call ⟨.value fx, args, ts⟩) (hf : opnd t fx = .fn f caps) (hcl : Callable P f) {base : Base} {σ : Sig} {a : Act} {w : World} (hts : Ms base σ w t a.tmps.toList) :
    ∃ cs, Ms base σ w (args.toList.map (opnd t) ++ caps) (args.toList.map a.eval ++ cs) ∧ (execOp a.eval o).run P w = .ok (.enter f (args.toList.map a.eval ++ cs).toArray) w := by
  obtain ⟨fn, hfn, hbody, hname⟩ := hcl
  have hm := opnd_M hts fx
  rw [hf] at hm
  obtain ⟨cs, hcs, hfv⟩ : ∃ cs : List Value, Ms base σ w caps cs ∧ a.eval fx = .func (.func f) #[] cs.toArray := by
    generalize a.eval fx = fv at hm
    cases hm with
    | fn _ _ vs h1 h6 => exact ⟨vs, ⟨h1, h6⟩, rfl⟩
  have hargs : Ms base σ w (args.toList.map (opnd t)) (args.toList.map a.eval) := by
    refine ⟨by simp, fun i x u hx hu => ?_⟩
    rw [List.getElem?_map] at hx hu
    obtain ⟨q, hq, rfl⟩ := Option.map_eq_some_iff.1 hx
    rw [hq] at hu
    obtain rfl := Option.some.inj hu
    exact opnd_M hts q
  refine ⟨cs, hargs.append hcs, ?_⟩
  have hargs' : (#[] ++ args.map a.eval ++ cs.toArray : Array Value) = (args.toList.map a.eval ++ cs).toArray := by
    apply Array.ext'
    simp
  simp only [execOp, ho, resolve, hfv, Deferred.ofValue, Sem.run_bind, Sem.run_pure, Result.andThen_ok, invoke, callFunc, run_program, hfn, hname, hbody, Bool.false_eq_true, if_false, hargs']
theorem Ok.join {x y : Code} {F : τ → List V} (W : τ → List (Nat × V)) (dead : List Nat) (hF : ∀ z, overW (W z) (overD dead t) = F z) (H : τ → List V) (N : τ → Nat) (p : τ → Prop)
    (hx : Ok P x t h n (thenQ (fun t' h' n' => ∃ z, leL t' (F z) ∧ h' = H z ∧ n' ≤ N z ∧ p z) Q)) (hy : ∀ z, p z → Ok P y (F z) (H z) (N z) Q) : Ok P (.seq x y) t h n Q := by
  refine Ok.seq (hx.mono ?_)
  intro e t1 h1 n1 hq
  cases e with
  | normal =>
    obtain ⟨z, h2, rfl, h4, h5⟩ := hq
    exact Ok.bump h4 (Ok.forget (leL_spec h2).1 (leL_spec h2).2 (hy z h5))
  | exit id => exact hq
  | goto l => exact hq
  | ret => exact hq
  | panic ch => exact hq
  | outgrown => exact hq
theorem OkOps.weakX {fx : Operand} {args : Array Operand} {ts : Array TypeId} {f : FuncId} {caps ags : List V} {T' : τ → List V} (hg : o.guard = none) (ho : o.op = .call ⟨.value fx, args, ts⟩) (hf : opnd t fx = .fn f caps) (ha : args.toList.map (opnd t) ++ caps = ags) (hcl : Callable P f)
    (hp : WeakX P f ags τ X G) (ht : ∀ y, putV t o.dst (X y) = T' y) (hk : ∀ y, G y → OkOps P ops l (T' y) h n Q) : OkOps P ops (o :: l) t h n Q := by
  subst ha
  intro base w0 hv σ a w gd
  unfold wpList
  rw [if_pos (wanted_none hg _)]
  refine .inl ?_
  obtain ⟨cs, hargs, hrun⟩ := callee_run ho hf hcl gd.ts
  have hcall := hp.go base σ w _ (fun k hk => Nat.lt_of_lt_of_le (base.lt k hk) gd.inv.bs) gd.inv.zero (fun L b o s h => (gd.inv.own L b o s h).2) hargs
  unfold Oper.wp
  rw [hrun, Oper.upon_enter]
  refine hcall.mono ?_
  rintro e w' ⟨y, v, rfl, hy, hm2, bel⟩
  have hn : New base σ w n 0 (X y) v w' := ⟨σ, bel, fun _ _ => rfl, fun L _ _ _ h1 h2 => by omega, fun _ _ _ _ _ _ _ h1 h2 => by omega, hm2⟩
  obtain ⟨σ', hk2, h1, h2, h3, h4, bel2⟩ := hn.keeps (fun L b o s h => (gd.inv.own L b o s h).2) (fun L h1 h2 => by omega)
  have hσ : σ' = σ := funext fun L => h1 L M58
  subst hσ
  refine hk y hy base w0 hv σ' _ w' ⟨ht y ▸ (gd.ts.keep hk2).put _ h4, gd.hs.keep hk2, by cases o.dst <;> exact gd.dfr, Below.after gd.bel bel gd.inv.bs, ⟨Nat.le_trans gd.inv.bs bel.size, gd.inv.pos, gd.inv.zero, gd.inv.fresh, fun L b o s hL => ?_, gd.inv.inj⟩⟩
  have := gd.inv.own L b o s hL
  have := bel.size
  omega
theorem OkOps.updX {fx : Operand} {args : Array Operand} {ts : Array TypeId} {f : FuncId} {caps ags : List V} {L j k : Nat} {e0 : List V} {T' H' : τ → List V} (hg : o.guard = none) (ho : o.op = .call ⟨.value fx, args, ts⟩) (hf : opnd t fx = .fn f caps) (ha : args.toList.map (opnd t) ++ caps = ags)
    (hcl : Callable P f) (h1 : Ahd n t) (h2 : Ahd n h) (hc : ∀ h, Ahd n h → V.updL L j e0 h = h → OkCall P f ags h n fun r h1 n1 => ∃ y, G y ∧ r = X y ∧ h1 = V.updL L j (E y) h ∧ n1 = n + k) (hf1 : V.updL L j e0 t = t) (hf2 : V.updL L j e0 h = h) (hn : n + k = n') (ht : ∀ y, putV (V.updL L j (E y) t) o.dst (X y) = T' y) (hh : ∀ y, V.updL L j (E y) h = H' y)
    (hk : ∀ y, G y → OkOps P ops l (T' y) (H' y) n' Q) : OkOps P ops (o :: l) t h n Q := by
  subst ha
  have happ : ∀ (e : List V) (a b : List V), V.updL L j e (a ++ b) = V.updL L j e a ++ V.updL L j e b := fun e a b => by unfold V.updL; rw [travL_eq, travL_eq, travL_eq, List.map_append]
  intro base w0 hv σ a w gd
  unfold wpList
  rw [if_pos (wanted_none hg _)]
  refine .inl ?_
  refine call_wp ho hf hcl (hc (t ++ h) (h1.app h2) (by rw [happ, hf1, hf2])) gd _ _ ?_
  rintro r t1 h1' n1 σ' a' w' ⟨y, hy, rfl, e, rfl⟩ hl gd'
  have e2 : t1 ++ h1' = V.updL L j (E y) t ++ V.updL L j (E y) h := by rw [e, happ]
  obtain ⟨rfl, rfl⟩ := List.append_inj e2 (by unfold V.updL; rw [travL_len]; exact hl)
  refine hk y hy base w0 hv σ' a' w' ?_
  rw [← ht y, ← hh y, ← hn]
  exact gd'
end
end Go.Proofs.YtiipkeendfpddaaGreat.K

/- Walks: stores drawn. Printed by w2.py. -/
namespace Go.Proofs.YtiipkeendfpddaaGreat.K
open Go Go.RowKit
set_option linter.unusedVariables false
set_option linter.unusedSimpArgs false
abbrev nInbox : Str := [105, 110, 98, 111, 120]
abbrev nWork : Str := [119, 111, 114, 107]
abbrev nOld : Str := [111, 108, 100]
abbrev nNew : Str := [110, 101, 119]
abbrev nOther : Str := [111, 116, 104, 101, 114]
abbrev textsL : List Str := [[104, 101, 108, 108, 111], [104, 105, 10], [], [116, 101, 120, 116, 32, 111, 102, 32, 105, 116], [0, 255], [97, 32, 98]]
abbrev names1 : List Str := [nInbox, nWork, nOld]
abbrev names2 : List Str := [nInbox, nWork, nNew, nOther]
theorem pick_len {c : Cur} {xs : List Str} {m : Nat} (h : 0 < xs.length) (hm : ∀ z ∈ xs, z.length ≤ m) : (pickS c xs).1.length ≤ m := hm _ (pickS_mem h)
theorem lz : (∀ (y : Nat) (l : List Mail), (y ∈ V.labelsLL (l.map cMail)) = (y = 0 ∧ l ≠ [])) ∧ (∀ (y : Nat) (l : List Box), (y ∈ V.labelsLL (l.map cBox)) = (y = 0 ∧ l ≠ [])) := by
  refine ⟨fun y l => propext ⟨fun h => ⟨?_, ?_⟩, ?_⟩, fun y l => propext ⟨fun h => ⟨?_, ?_⟩, ?_⟩⟩
  · exact labels0_map (f := cMail) (fun x L hL => by simp [cMail, V.labelsL, V.labels, zz, zf, zy] at hL; exact hL) l y h
  · rintro rfl; cases h
  · rintro ⟨rfl, hl⟩
    obtain ⟨m, l, rfl⟩ := List.exists_cons_of_ne_nil hl
    simp [V.labelsLL, V.labelsL, V.labels, cMail]
  · refine labels0_map (f := cBox) (fun x L hL => ?_) l y h
    simp [cBox, V.labelsL, V.labels, zz, zf] at hL
    rcases hL with h | h | h
    · exact h
    · exact labels0_map (f := cMail) (fun x L hL => by simp [cMail, V.labelsL, V.labels, zz, zf, zy] at hL; exact hL) _ L h
    · exact h
  · rintro rfl; cases h
  · rintro ⟨rfl, hl⟩
    obtain ⟨m, l, rfl⟩ := List.exists_cons_of_ne_nil hl
    simp [V.labelsLL, V.labelsL, V.labels, cBox]
theorem storeNew_ok {b : Int} (h : b = 1 ∨ b = 2) : storeOk ⟨b, 0, [], []⟩ = true := by rcases h with rfl | rfl <;> rfl
theorem base_add {b i : Nat} (h : b ≤ 900) (h2 : i ≤ 1000) : IntKind.i64.wrap ((b : Int) + (i : Int)) = (b : Int) + (i : Int) := by rw [IntKind.wrap_i64]; omega
theorem makeBox_ok {s : Store} (g : Int) (n : Str) (h : storeOk s = true) : storeOk (makeBox s g n).1 = true ∧ (makeBox s g n).1.by_ = s.by_ := by
  unfold makeBox
  split
  · exact ⟨h, rfl⟩
  · split
    · rename_i h2; exact ⟨h2, rfl⟩
    · exact ⟨h, rfl⟩
theorem renameBox_ok {s : Store} (g : Int) (n : Str) (h : storeOk s = true) : storeOk (renameBox s g n).1 = true ∧ (renameBox s g n).1.by_ = s.by_ := by
  unfold renameBox
  split
  · exact ⟨h, rfl⟩
  · split
    · rename_i h2; exact ⟨h2, by show (nameOut s _ n).by_ = _; unfold nameOut; split <;> rfl⟩
    · exact ⟨h, rfl⟩
theorem stamped_ok {s : Store} (i : Nat) (b : Box) (h : storeOk s = true) : storeOk (stamped s i b).1 = true ∧ (stamped s i b).1.by_ = s.by_ := by
  unfold stamped
  split
  · rename_i h2; exact ⟨h2, rfl⟩
  · exact ⟨h, rfl⟩
theorem putMail_ok {s : Store} (b g f : Int) (t : Str) (h : storeOk s = true) : storeOk (putMail s b g f t).1 = true ∧ (putMail s b g f t).1.by_ = s.by_ := by
  unfold putMail
  split
  · exact ⟨h, rfl⟩
  · split
    · exact stamped_ok _ _ h
    · exact ⟨h, rfl⟩
theorem markMail_ok {s : Store} (b g f : Int) (h : storeOk s = true) : storeOk (markMail s b g f).1 = true ∧ (markMail s b g f).1.by_ = s.by_ := by
  unfold markMail
  split
  · exact ⟨h, rfl⟩
  · split
    · exact stamped_ok _ _ h
    · exact ⟨h, rfl⟩
set_option maxHeartbeats 4000000
set_option maxRecDepth 20000
theorem c_spec_l05Text (c : Cur) (L : Nat) (hb : c.b.length ≤ 4611686018427387904) {h : List V} {n : Nat} (hlt : Ahd n h) (hL : L + 1 < n) : OkCall Tryz.prog 88 [.ptr (L + 1) 0 0 (cCur c)] h n (fun r h1 n1 => r = .str (pickS c textsL).1 ∧ h1 = V.updL (L + 1) 0 (cCur (pickS c textsL).2) h ∧ n1 = n + 1) := by
 have nd := NDL [L + 1, n, 0]
 refine OkCall.enter' tab_ok Tryz.func88 rfl (ht := ANYS 5) ?_
 refine S53 ?_
 refine OkOps.ev tab_ok rfl (ev_bs M53 M53 M57 M57 M37 M16) M52 ?_
 refine OkOps.upd rfl rfl M48 M48 cl25 (fun h => c_spec_l01Pick c textsL L n hb M57 M58) M3 (rfl) ?_
 refine S22 ?_
 exact ⟨rfl, rfl, rfl⟩
theorem w_spec_StoreNew (by_ : Int) : Weak Tryz.prog 64 [.int .i64 by_] (.agg (cStore ⟨by_, 0, [], []⟩)) := by
 refine Weak.enter tab_ok Tryz.func64 rfl (.inr M46) (ht := ANYS 4) ?_
 refine S53 ?_
 refine OkOps.ev tab_ok rfl M36 M112 ?_
 refine S17 ?_
 refine S3 ?_
 first | rfl | (simp [V.erase, V.trav, V.travL, V.travLL, packV, zz, zf, zy]; done)
theorem c_spec_l07Use (c : Cur) (s : Store) (m base : Nat) (L : Nat) (hb : c.b.length ≤ 4611686018427387904) (hs : storeOk s = true) (hm : m ≤ 13) (hbase : base ≤ 900) {h : List V} {n : Nat} (hlt : Ahd n h) (hL : L + 1 < n) (hfix : V.updL (L + 1) 0 (cCur c) h = h) : OkCall Tryz.prog 63 [.ptr (L + 1) 0 0 (cCur c), .agg (cStore s), .int .i64 (m : Int), .int .i64 (base : Int)] h n (fun r h1 n1 => ∃ y : Store × Cur, (storeOk y.1 = true ∧ y.1.by_ = s.by_ ∧ y.2.b = c.b) ∧ r = .agg (cStore y.1) ∧ h1 = V.updL (L + 1) 0 (cCur y.2) h ∧ n1 = n + 400) := by
 obtain ⟨n, rfl⟩ : ∃ k, n = k + 1 := ⟨n - 1, by omega⟩
 have nd := NDL [L + 1, n + 1, n + 1 + 1, 0]
 have ne := fun k : Nat => NDL [L + 1, n + 1 + 1 + k + 1, n + 1 + 1 + k + 1 + 1, n + 1 + 1 + k + 1 + 1 + 1, n + 1 + 1 + k + 1 + 1 + 1 + 1, n + 1, n + 1 + 1, 0]
 refine OkCall.enter' tab_ok Tryz.func63 rfl (ht := ANYS 123) ?_
 refine S10 ?_
 refine S28 ?_
 refine Ok.loopHN (τ := Nat × Store × Cur × Nat) (fun x => [(0, .ptr (L + 1) 0 0 (cCur x.2.2.1)), (5, .ptr (n + 1) 0 0 (cStore x.2.1)), (9, .int .i64 (x.1 : Int))]) [10, 11, 12, 13, 14, 15, 16, 17, 18, 19, 20, 21, 22, 23, 24, 25, 26, 27, 28, 29, 30, 31, 32, 33, 34, 35, 36, 37, 38, 39, 40, 41, 42, 43, 44, 45, 46, 47, 48, 49, 50, 51, 52, 53, 54, 55, 56, 57, 58, 59, 60, 61, 62, 63, 64, 65, 66, 67, 68, 69, 70, 71, 72, 73, 74, 75, 76, 77, 78, 79, 80, 81, 82, 83, 84, 85, 86, 87, 88, 89, 90, 91, 92, 93, 94, 95, 96, 97, 98, 99, 100, 101, 102, 103, 104, 105, 106, 107, 108, 109, 110, 111, 112, 113, 114, 115, 116, 117, 118, 119, 120, 121, 122, 123, 124, 125] (fun x => by simp only [kover] <;> rfl) (fun x => V.updL (L + 1) 0 (cCur x.2.2.1) h) (fun x => n + 1 + 1 + x.2.2.2 + 1) (fun x => x.1 ≤ m ∧ storeOk x.2.1 = true ∧ x.2.1.by_ = s.by_ ∧ x.2.2.1.b = c.b ∧ x.2.2.2 ≤ 20 * x.1) (fun x => m - x.1) (0, s, c, 0) (by (repeat (first | exact trivial | refine leC ?_ | refine leK ?_ ?_)) <;> first | (first | exact le_rfl' _ | exact le_eqm rfl) | exact le_rfl' _) (hfix.symm) ((by dsimp only; omega)) (⟨Nat.zero_le _, hs, rfl, rfl, Nat.le_refl _⟩) ?_
 rintro ⟨i, s1, cc, k⟩ ⟨h1, hs1, hby, hcb, hk⟩
 dsimp only at h1 hs1 hby hcb hk ⊢
 have hbc : cc.b.length ≤ 4611686018427387904 := by rw [hcb]; exact hb
 have hss := store_small hs1
 have hb5 := hss.boxes
 refine S5 ?_
 refine S4 ?_
 refine OC (fun hb2 => ?_) (fun hb2 => ?_)
 ·
  try simp only [bsimp] at hb2
  refine S14 ?_
  refine S8 ?_
  refine S8 ?_
  refine Ok.join (τ := Int × Int × Cur × Nat) (fun x => [(0, .ptr (L + 1) 0 0 (cCur x.2.2.1)), (10, .int .i64 x.1), (11, .int .i64 x.2.1)]) [12, 19, 20, 21, 22, 23, 24, 25, 26, 27, 28, 29, 30, 31, 32, 33, 34, 35, 36, 37, 38, 39, 40, 41, 42, 43, 44, 45, 46, 47] (fun x => by simp only [kover] <;> rfl) (fun x => V.updL (L + 1) 0 (cCur x.2.2.1) h) (fun x => n + 1 + 1 + x.2.2.2 + 1) (fun x => x.2.2.1.b = c.b ∧ x.2.2.2 ≤ 20 * i + 4) ?_ ?_
  ·
   refine S64 ?_
   refine OC (fun hb6 => ?_) (fun hb6 => ?_)
   ·
    try simp only [bsimp] at hb6
    have hbl : 0 < s1.boxes.length := by omega
    have hp1 := curBelow_lt (c := cc) (n := s1.boxes.length) hbl
    refine Ok.seq ?_
    refine Ok.stages 127 [0, 1, 2, 3, 4, 5, 9] [(6, [0, 1, 9], [7, 8]), (10, [], [])] M56 M56 rfl ?_
    simp only [ixs, List.getElem?_toArray, List.getElem?_cons_zero, List.getElem?_cons_succ]
    iterate 7 (refine SV ?_)
    refine SOps.nil ?_
    refine Pend.updF (k := 0) (by simp only [List.getElem?_toArray, List.getElem?_cons_zero, List.getElem?_cons_succ] <;> rfl) M59 M59 M48 M48 cl23 M29 (by repeat (first | exact hlt | exact hlt.mono (by omega) | refine Ahd.upd ?_ (Ahd.cur (by omega) _))) (fun h hlt => c_spec_l01Below cc s1.boxes.length L hbc hbl) (by first | rfl | (simp only [Nat.add_zero, Nat.reduceAdd] <;> rfl)) (by simp only [eq_self, V.updL, V.travL, V.travLL, V.trav, updS, updP, and_self, true_and, and_true, false_and, and_false, Nat.reduceEqDiff, Nat.reduceSub, Nat.le_refl, Nat.zero_le, ↓reduceIte, if_true, if_false, kP, zz, zf, zy, nd, ne] <;> rfl) (upd_twice (by simp [V.travL, V.trav, updS, zz, zf, zy]) h) ?_
    simp only [ixs, List.getElem?_toArray, List.getElem?_cons_zero, List.getElem?_cons_succ]
    refine SOps.ev tab_ok rfl (ev_idx_map M48 M48 (hp1) M48) M52 ?_
    refine SV ?_
    refine SOps.nil ⟨LateA.alloc (ia := 9) tab_ok M59 M59 M59 (by show nth _ 12 = _; simp only [kE, kT, kL, kC] <;> rfl) M79 M58 M58 (fun hm => absurd (((by repeat (first | exact hlt | exact hlt.mono (by omega) | refine Ahd.upd ?_ (Ahd.cur (by omega) _))) : Ahd _ _) _ hm) (Nat.lt_irrefl _)) (by intro hm; simp [V.labelsL, V.labels, V.labelsLL, zz, zf, zy, lz] at hm <;> omega) (LateOk.cons (i := 0) tab_ok (by rfl) (by rfl) (by (try simp only [List.getElem_toArray, List.getElem_cons_succ, List.getElem_cons_zero]); exact (by simp only [kE, kT, kL, kC] <;> rfl)) (by show nth _ 23 = _; simp only [kE, kT, kL, kC] <;> rfl) (LateOk.cons (i := 1) tab_ok (by rfl) (by rfl) (by (try simp only [List.getElem_toArray, List.getElem_cons_succ, List.getElem_cons_zero]); exact (by simp only [kE, kT, kL, kC] <;> rfl)) (by show nth _ 24 = _; simp only [kE, kT, kL, kC] <;> rfl) LateOk.nil)) (by decide), ?_⟩
    refine Pend.store tab_ok (by simp only [List.getElem?_toArray, List.getElem?_cons_zero, List.getElem?_cons_succ] <;> rfl) M59 M59 M59 M48 ⟨_, _, by simp only [kE]; rfl⟩ M7 M62 (Ahd.updL (by repeat (first | exact hlt | exact hlt.mono (by omega) | refine Ahd.upd ?_ (Ahd.cur (by omega) _)))) ?_
    simp only [ixs, List.getElem?_toArray, List.getElem?_cons_zero, List.getElem?_cons_succ]
    refine SOps.nil ⟨LateOk.A LateOk.nil M58, ?_⟩
    refine Pend.nil ?_
    refine S34 ?_
    refine S64 ?_
    refine OC (fun hb9 => ?_) (fun hb9 => ?_)
    ·
     try simp only [bsimp] at hb9
     have hml : 0 < (s1.boxes[(curBelow cc s1.boxes.length).1]'hp1).mails.length := by omega
     have hq1 := curBelow_lt (c := (curBelow cc s1.boxes.length).2) (n := (s1.boxes[(curBelow cc s1.boxes.length).1]'hp1).mails.length) hml
     refine Ok.stages 127 [0, 1, 2, 3, 4, 5] [(6, [0, 1], [7, 8, 9, 10])] M56 M56 rfl ?_
     simp only [ixs, List.getElem?_toArray, List.getElem?_cons_zero, List.getElem?_cons_succ]
     iterate 6 (refine SV ?_)
     refine SOps.nil ?_
     refine Pend.updF (k := 0) (by simp only [List.getElem?_toArray, List.getElem?_cons_zero, List.getElem?_cons_succ] <;> rfl) M59 M59 M48 M48 cl23 M29 (by repeat (first | exact hlt | exact hlt.mono (by omega) | refine Ahd.upd ?_ (Ahd.cur (by omega) _))) (fun h hlt => c_spec_l01Below (curBelow cc s1.boxes.length).2 (s1.boxes[(curBelow cc s1.boxes.length).1]'hp1).mails.length L (by rw [curBelow_b]; exact hbc) hml) (by first | rfl | (simp only [Nat.add_zero, Nat.reduceAdd] <;> rfl)) (by simp only [eq_self, V.updL, V.travL, V.travLL, V.trav, updS, updP, and_self, true_and, and_true, false_and, and_false, Nat.reduceEqDiff, Nat.reduceSub, Nat.le_refl, Nat.zero_le, ↓reduceIte, if_true, if_false, kP, zz, zf, zy, nd, ne] <;> rfl) (upd_twice (by simp [V.travL, V.trav, updS, zz, zf, zy]) h) ?_
     simp only [ixs, List.getElem?_toArray, List.getElem?_cons_zero, List.getElem?_cons_succ]
     refine SOps.ev tab_ok rfl (ev_idx_map M48 M48 (hq1) M48) M52 ?_
     iterate 3 (refine SV ?_)
     refine SOps.nil ⟨LateOk.A (LateOk.cons (i := 0) tab_ok M59 M59 M79 (by show nth _ 38 = _; simp only [kE, kT, kL, kC] <;> rfl) (LateOk.cons (i := 1) tab_ok M59 M59 M79 (by show nth _ 39 = _; simp only [kE, kT, kL, kC] <;> rfl) LateOk.nil)) M58, ?_⟩
     refine Pend.nil ?_
     refine ⟨((s1.boxes[(curBelow cc s1.boxes.length).1]'hp1).gid, ((s1.boxes[(curBelow cc s1.boxes.length).1]'hp1).mails[(curBelow (curBelow cc s1.boxes.length).2 (s1.boxes[(curBelow cc s1.boxes.length).1]'hp1).mails.length).1]'hq1).gid, (curBelow (curBelow cc s1.boxes.length).2 (s1.boxes[(curBelow cc s1.boxes.length).1]'hp1).mails.length).2, k + 1), ?_, rfl, M54, ⟨by dsimp only; rw [curBelow_b, curBelow_b]; exact hcb, by dsimp only; omega⟩⟩
     (repeat (first | exact trivial | refine leC ?_ | refine leK ?_ ?_)) <;> first | (exact le_eqm rfl) | exact le_rfl' _
    try simp only [bsimp] at hb9
    refine Ok.skip ?_
    refine ⟨((s1.boxes[(curBelow cc s1.boxes.length).1]'hp1).gid, 0, (curBelow cc s1.boxes.length).2, k + 1), ?_, rfl, M54, ⟨by dsimp only; rw [curBelow_b]; exact hcb, by dsimp only; omega⟩⟩
    (repeat (first | exact trivial | refine leC ?_ | refine leK ?_ ?_)) <;> first | (exact le_eqm rfl) | exact le_rfl' _
   try simp only [bsimp] at hb6
   refine Ok.skip ?_
   refine ⟨(0, 0, cc, k), ?_, rfl, M54, ⟨hcb, by dsimp only; omega⟩⟩
   (repeat (first | exact trivial | refine leC ?_ | refine leK ?_ ?_)) <;> first | (exact le_eqm rfl) | exact le_rfl' _
  rintro ⟨bx, gd, c2, k2⟩ ⟨hc2, hk2⟩
  dsimp only at hc2 hk2 ⊢
  have hbc2 : c2.b.length ≤ 4611686018427387904 := by rw [hc2]; exact hb
  have hwb := base_add (b := base) (i := i) hbase M58
  refine S6 ?_
  refine OkOps.upd rfl rfl M48 M48 cl23 (fun h => c_spec_l01Below c2 12 L hbc2 M57) M2 (upd_twice M45 h) ?_
  refine S21 ?_
  refine S19 ?_
  refine OP (d := 61) (fun hg14_2 => ?_) (fun hg14_2 => ?_)
  ·
   try simp only [bsimp] at hg14_2
   refine S61 ?_
   refine S1 ?_
   refine Ok.cond_true M48 ?_
   refine Ok.stages 127 [0, 1, 2, 3, 4, 5] [(6, [0, 1, 2, 3], [7, 8, 9, 10]), (11, [10], [])] M56 M56 rfl ?_
   simp only [ixs, List.getElem?_toArray, List.getElem?_cons_zero, List.getElem?_cons_succ]
   iterate 3 (refine SV ?_)
   refine SOps.ev tab_ok rfl (by simp only [kE, kT, kL, kC, hwb] <;> rfl) M52 ?_
   refine SV ?_
   refine SOps.ev tab_ok rfl (ev_bs M53 M53 M57 M57 M37 M16) M52 ?_
   refine SOps.nil ?_
   refine Pend.updF (k := 0) (by simp only [List.getElem?_toArray, List.getElem?_cons_zero, List.getElem?_cons_succ] <;> rfl) M59 M59 M48 M48 cl25 M29 (by repeat (first | exact hlt | exact hlt.mono (by omega) | refine Ahd.upd ?_ (Ahd.cur (by omega) _))) (fun h hlt => c_spec_l01Pick (curBelow c2 12).2 names1 L (n + 1 + 1 + k2 + 1) (by rw [curBelow_b]; exact hbc2) (by decide) (by omega)) (by first | rfl | (simp only [Nat.add_zero, Nat.reduceAdd] <;> rfl)) (by simp only [eq_self, V.updL, V.travL, V.travLL, V.trav, updS, updP, and_self, true_and, and_true, false_and, and_false, Nat.reduceEqDiff, Nat.reduceSub, Nat.le_refl, Nat.zero_le, ↓reduceIte, if_true, if_false, kP, zz, zf, zy, nd, ne] <;> rfl) (upd_twice (by simp [V.travL, V.trav, updS, zz, zf, zy]) h) ?_
   simp only [ixs, List.getElem?_toArray, List.getElem?_cons_zero, List.getElem?_cons_succ]
   refine SOps.S0 rfl (OpS.weakM rfl M48 M48 cl86 (w_spec_MakeBox s1 ((base : Int) + (i : Int)) (pickS (curBelow c2 12).2 names1).1 (store_sm hs1) (Nat.le_trans (pick_len (m := 5) M57 M57) M57))) M52 ?_
   iterate 3 (refine SV ?_)
   refine SOps.nil ⟨LateOk.A (LateOk.cons (i := 0) tab_ok M59 M59 M79 (by show nth _ 66 = _; simp only [kE, kT, kL, kC] <;> rfl) (LateOk.cons (i := 1) tab_ok M59 M59 M79 (by show nth _ 67 = _; simp only [kE, kT, kL, kC] <;> rfl) (LateOk.cons (i := 2) tab_ok M59 M59 M79 (by show nth _ 68 = _; simp only [kE, kT, kL, kC] <;> rfl) (LateOk.cons (i := 3) tab_ok M59 M59 M18 (by show nth _ 69 = _; simp only [kE, kT, kL, kC, hwb] <;> rfl) LateOk.nil)))) M58, ?_⟩
   refine Pend.store tab_ok (by simp only [List.getElem?_toArray, List.getElem?_cons_zero, List.getElem?_cons_succ] <;> rfl) M59 M59 M59 M48 ⟨_, _, by simp only [kE]; rfl⟩ M7 M62 (Ahd.updL (by repeat (first | exact hlt | exact hlt.mono (by omega) | refine Ahd.upd ?_ (Ahd.cur (by omega) _)))) ?_
   simp only [ixs, List.getElem?_toArray, List.getElem?_cons_zero, List.getElem?_cons_succ]
   refine SOps.nil ⟨LateOk.A (LateOk.cons (i := 10) tab_ok M59 M59 M79 (by show nth _ 75 = _; simp only [kE, kT, kL, kC] <;> rfl) LateOk.nil) M58, ?_⟩
   refine Pend.nil ?_
   refine S12 ?_
   refine ⟨(i + 1, (makeBox s1 ((base : Int) + (i : Int)) (pickS (curBelow c2 12).2 names1).1).1, (pickS (curBelow c2 12).2 names1).2, k2 + 4), ?_, rfl, M54, ⟨by dsimp only; omega, (makeBox_ok _ _ hs1).1, (makeBox_ok _ _ hs1).2.trans hby, by dsimp only; simp only [curBelow_b, pickS_b]; exact hc2, by dsimp only; omega⟩, by dsimp only; omega⟩
   (repeat (first | exact trivial | refine leC ?_ | refine leK ?_ ?_)) <;> first | (first | exact le_rfl' _ | (rw [wrap_succ (by omega)]; exact le_rfl' _)) | exact le_rfl' _
  try simp only [bsimp] at hg14_2
  refine S18 ?_
  refine S4 ?_
  refine OC (fun hb14 => ?_) (fun hb14 => ?_)
  ·
   try simp only [bsimp] at hb14
   refine Ok.stages 127 [0, 1, 2, 3, 4, 5] [(6, [0, 1, 2, 3], [7, 8, 9, 10]), (11, [10], [])] M56 M56 rfl ?_
   simp only [ixs, List.getElem?_toArray, List.getElem?_cons_zero, List.getElem?_cons_succ]
   iterate 3 (refine SV ?_)
   refine SOps.ev tab_ok rfl (by simp only [kE, kT, kL, kC, hwb] <;> rfl) M52 ?_
   refine SV ?_
   refine SOps.ev tab_ok rfl (ev_bs M53 M53 M57 M57 M37 M16) M52 ?_
   refine SOps.nil ?_
   refine Pend.updF (k := 0) (by simp only [List.getElem?_toArray, List.getElem?_cons_zero, List.getElem?_cons_succ] <;> rfl) M59 M59 M48 M48 cl25 M29 (by repeat (first | exact hlt | exact hlt.mono (by omega) | refine Ahd.upd ?_ (Ahd.cur (by omega) _))) (fun h hlt => c_spec_l01Pick (curBelow c2 12).2 names1 L (n + 1 + 1 + k2 + 1) (by rw [curBelow_b]; exact hbc2) (by decide) (by omega)) (by first | rfl | (simp only [Nat.add_zero, Nat.reduceAdd] <;> rfl)) (by simp only [eq_self, V.updL, V.travL, V.travLL, V.trav, updS, updP, and_self, true_and, and_true, false_and, and_false, Nat.reduceEqDiff, Nat.reduceSub, Nat.le_refl, Nat.zero_le, ↓reduceIte, if_true, if_false, kP, zz, zf, zy, nd, ne] <;> rfl) (upd_twice (by simp [V.travL, V.trav, updS, zz, zf, zy]) h) ?_
   simp only [ixs, List.getElem?_toArray, List.getElem?_cons_zero, List.getElem?_cons_succ]
   refine SOps.S0 rfl (OpS.weakM rfl M48 M48 cl86 (w_spec_MakeBox s1 ((base : Int) + (i : Int)) (pickS (curBelow c2 12).2 names1).1 (store_sm hs1) (Nat.le_trans (pick_len (m := 5) M57 M57) M57))) M52 ?_
   iterate 3 (refine SV ?_)
   refine SOps.nil ⟨LateOk.A (LateOk.cons (i := 0) tab_ok M59 M59 M79 (by show nth _ 66 = _; simp only [kE, kT, kL, kC] <;> rfl) (LateOk.cons (i := 1) tab_ok M59 M59 M79 (by show nth _ 67 = _; simp only [kE, kT, kL, kC] <;> rfl) (LateOk.cons (i := 2) tab_ok M59 M59 M79 (by show nth _ 68 = _; simp only [kE, kT, kL, kC] <;> rfl) (LateOk.cons (i := 3) tab_ok M59 M59 M18 (by show nth _ 69 = _; simp only [kE, kT, kL, kC, hwb] <;> rfl) LateOk.nil)))) M58, ?_⟩
   refine Pend.store tab_ok (by simp only [List.getElem?_toArray, List.getElem?_cons_zero, List.getElem?_cons_succ] <;> rfl) M59 M59 M59 M48 ⟨_, _, by simp only [kE]; rfl⟩ M7 M62 (Ahd.updL (by repeat (first | exact hlt | exact hlt.mono (by omega) | refine Ahd.upd ?_ (Ahd.cur (by omega) _)))) ?_
   simp only [ixs, List.getElem?_toArray, List.getElem?_cons_zero, List.getElem?_cons_succ]
   refine SOps.nil ⟨LateOk.A (LateOk.cons (i := 10) tab_ok M59 M59 M79 (by show nth _ 75 = _; simp only [kE, kT, kL, kC] <;> rfl) LateOk.nil) M58, ?_⟩
   refine Pend.nil ?_
   refine S12 ?_
   refine ⟨(i + 1, (makeBox s1 ((base : Int) + (i : Int)) (pickS (curBelow c2 12).2 names1).1).1, (pickS (curBelow c2 12).2 names1).2, k2 + 4), ?_, rfl, M54, ⟨by dsimp only; omega, (makeBox_ok _ _ hs1).1, (makeBox_ok _ _ hs1).2.trans hby, by dsimp only; simp only [curBelow_b, pickS_b]; exact hc2, by dsimp only; omega⟩, by dsimp only; omega⟩
   (repeat (first | exact trivial | refine leC ?_ | refine leK ?_ ?_)) <;> first | (first | exact le_rfl' _ | (rw [wrap_succ (by omega)]; exact le_rfl' _)) | exact le_rfl' _
  try simp only [bsimp] at hb14
  refine S34 ?_
  refine OC (fun hb16 => ?_) (fun hb16 => ?_)
  ·
   try simp only [bsimp] at hb16
   refine Ok.stages 127 [0, 1, 2, 3, 4, 5, 7] [(6, [0, 1, 2, 3, 4, 7], []), (8, [0, 1, 2, 3, 4], [9, 10, 11, 12]), (13, [12], [])] M56 M56 rfl ?_
   simp only [ixs, List.getElem?_toArray, List.getElem?_cons_zero, List.getElem?_cons_succ]
   iterate 4 (refine SV ?_)
   refine SOps.ev tab_ok rfl (by simp only [kE, kT, kL, kC, hwb] <;> rfl) M52 ?_
   iterate 2 (refine SV ?_)
   refine SOps.nil ?_
   refine Pend.updF (k := 0) (by simp only [List.getElem?_toArray, List.getElem?_cons_zero, List.getElem?_cons_succ] <;> rfl) M59 M59 M48 M48 cl23 M29 (by repeat (first | exact hlt | exact hlt.mono (by omega) | refine Ahd.upd ?_ (Ahd.cur (by omega) _))) (fun h hlt => c_spec_l01Below (curBelow c2 12).2 8 L (by rw [curBelow_b]; exact hbc2) (by decide)) (by first | rfl | (simp only [Nat.add_zero, Nat.reduceAdd] <;> rfl)) (by simp only [eq_self, V.updL, V.travL, V.travLL, V.trav, updS, updP, and_self, true_and, and_true, false_and, and_false, Nat.reduceEqDiff, Nat.reduceSub, Nat.le_refl, Nat.zero_le, ↓reduceIte, if_true, if_false, kP, zz, zf, zy, nd, ne] <;> rfl) (upd_twice (by simp [V.travL, V.trav, updS, zz, zf, zy]) h) ?_
   simp only [ixs, List.getElem?_toArray, List.getElem?_cons_zero, List.getElem?_cons_succ]
   refine SOps.nil ⟨LateOk.A (LateOk.cons (i := 0) tab_ok M59 M59 M79 (by show nth _ 80 = _; simp only [kE, kT, kL, kC] <;> rfl) (LateOk.cons (i := 1) tab_ok M59 M59 M79 (by show nth _ 81 = _; simp only [kE, kT, kL, kC] <;> rfl) (LateOk.cons (i := 2) tab_ok M59 M59 M79 (by show nth _ 82 = _; simp only [kE, kT, kL, kC] <;> rfl) (LateOk.cons (i := 3) tab_ok M59 M59 M79 (by show nth _ 83 = _; simp only [kE, kT, kL, kC] <;> rfl) (LateOk.cons (i := 4) tab_ok M59 M59 M18 (by show nth _ 84 = _; simp only [kE, kT, kL, kC, hwb] <;> rfl) (LateOk.cons (i := 7) tab_ok M59 M59 M79 (by show nth _ 87 = _; simp only [kE, kT, kL, kC] <;> rfl) LateOk.nil)))))) M58, ?_⟩
   refine Pend.updF (k := 1) (by simp only [List.getElem?_toArray, List.getElem?_cons_zero, List.getElem?_cons_succ] <;> rfl) M59 M59 M48 M48 cl88 M29 (by repeat (first | exact hlt | exact hlt.mono (by omega) | refine Ahd.upd ?_ (Ahd.cur (by omega) _))) (fun h hlt => c_spec_l05Text (curBelow (curBelow c2 12).2 8).2 L (by rw [curBelow_b, curBelow_b]; exact hbc2) hlt (by omega)) (by first | rfl | (simp only [Nat.add_zero, Nat.reduceAdd] <;> rfl)) (by simp only [eq_self, V.updL, V.travL, V.travLL, V.trav, updS, updP, and_self, true_and, and_true, false_and, and_false, Nat.reduceEqDiff, Nat.reduceSub, Nat.le_refl, Nat.zero_le, ↓reduceIte, if_true, if_false, kP, zz, zf, zy, nd, ne] <;> rfl) (upd_twice (by simp [V.travL, V.trav, updS, zz, zf, zy]) h) ?_
   simp only [ixs, List.getElem?_toArray, List.getElem?_cons_zero, List.getElem?_cons_succ]
   refine SOps.S0 rfl (OpS.weakM rfl M48 M48 cl87 (w_spec_PutMail s1 bx ((base : Int) + (i : Int)) ((curBelow (curBelow c2 12).2 8).1 : Int) (pickS (curBelow (curBelow c2 12).2 8).2 textsL).1 (store_sm hs1) (Nat.le_trans (pick_len (m := 10) M57 M57) M57))) M52 ?_
   iterate 3 (refine SV ?_)
   refine SOps.nil ⟨LateOk.A (LateOk.cons (i := 0) tab_ok M59 M59 M79 (by show nth _ 80 = _; simp only [kE, kT, kL, kC] <;> rfl) (LateOk.cons (i := 1) tab_ok M59 M59 M79 (by show nth _ 81 = _; simp only [kE, kT, kL, kC] <;> rfl) (LateOk.cons (i := 2) tab_ok M59 M59 M79 (by show nth _ 82 = _; simp only [kE, kT, kL, kC] <;> rfl) (LateOk.cons (i := 3) tab_ok M59 M59 M79 (by show nth _ 83 = _; simp only [kE, kT, kL, kC] <;> rfl) (LateOk.cons (i := 4) tab_ok M59 M59 M18 (by show nth _ 84 = _; simp only [kE, kT, kL, kC, hwb] <;> rfl) LateOk.nil))))) M58, ?_⟩
   refine Pend.store tab_ok (by simp only [List.getElem?_toArray, List.getElem?_cons_zero, List.getElem?_cons_succ] <;> rfl) M59 M59 M59 M48 ⟨_, _, by simp only [kE]; rfl⟩ M7 M62 (Ahd.updL (by repeat (first | exact hlt | exact hlt.mono (by omega) | refine Ahd.upd ?_ (Ahd.cur (by omega) _)))) ?_
   simp only [ixs, List.getElem?_toArray, List.getElem?_cons_zero, List.getElem?_cons_succ]
   refine SOps.nil ⟨LateOk.A (LateOk.cons (i := 12) tab_ok M59 M59 M79 (by show nth _ 91 = _; simp only [kE, kT, kL, kC] <;> rfl) LateOk.nil) M58, ?_⟩
   refine Pend.nil ?_
   refine S12 ?_
   refine ⟨(i + 1, (putMail s1 bx ((base : Int) + (i : Int)) ((curBelow (curBelow c2 12).2 8).1 : Int) (pickS (curBelow (curBelow c2 12).2 8).2 textsL).1).1, (pickS (curBelow (curBelow c2 12).2 8).2 textsL).2, k2 + 4), ?_, rfl, M54, ⟨by dsimp only; omega, (putMail_ok _ _ _ _ hs1).1, (putMail_ok _ _ _ _ hs1).2.trans hby, by dsimp only; simp only [curBelow_b, pickS_b, curBelow_b]; exact hc2, by dsimp only; omega⟩, by dsimp only; omega⟩
   (repeat (first | exact trivial | refine leC ?_ | refine leK ?_ ?_)) <;> first | (first | exact le_rfl' _ | (rw [wrap_succ (by omega)]; exact le_rfl' _)) | exact le_rfl' _
  try simp only [bsimp] at hb16
  refine S34 ?_
  refine OC (fun hb18 => ?_) (fun hb18 => ?_)
  ·
   try simp only [bsimp] at hb18
   refine Ok.stages 127 [0, 1, 2, 3] [(4, [0, 1, 2], [5, 6, 7, 8]), (9, [8], [])] M56 M56 rfl ?_
   simp only [ixs, List.getElem?_toArray, List.getElem?_cons_zero, List.getElem?_cons_succ]
   refine S62 ?_
   refine Pend.updF (k := 0) (by simp only [List.getElem?_toArray, List.getElem?_cons_zero, List.getElem?_cons_succ] <;> rfl) M59 M59 M48 M48 cl23 M29 (by repeat (first | exact hlt | exact hlt.mono (by omega) | refine Ahd.upd ?_ (Ahd.cur (by omega) _))) (fun h hlt => c_spec_l01Below (curBelow c2 12).2 8 L (by rw [curBelow_b]; exact hbc2) (by decide)) (by first | rfl | (simp only [Nat.add_zero, Nat.reduceAdd] <;> rfl)) (by simp only [eq_self, V.updL, V.travL, V.travLL, V.trav, updS, updP, and_self, true_and, and_true, false_and, and_false, Nat.reduceEqDiff, Nat.reduceSub, Nat.le_refl, Nat.zero_le, ↓reduceIte, if_true, if_false, kP, zz, zf, zy, nd, ne] <;> rfl) (upd_twice (by simp [V.travL, V.trav, updS, zz, zf, zy]) h) ?_
   simp only [ixs, List.getElem?_toArray, List.getElem?_cons_zero, List.getElem?_cons_succ]
   refine SOps.S0 rfl (OpS.weakM rfl M48 M48 cl89 (w_spec_MarkMail s1 bx gd ((curBelow (curBelow c2 12).2 8).1 : Int) (store_sm hs1))) M52 ?_
   iterate 3 (refine SV ?_)
   refine SOps.nil ⟨LateOk.A (LateOk.cons (i := 0) tab_ok M59 M59 M79 (by show nth _ 96 = _; simp only [kE, kT, kL, kC] <;> rfl) (LateOk.cons (i := 1) tab_ok M59 M59 M79 (by show nth _ 97 = _; simp only [kE, kT, kL, kC] <;> rfl) (LateOk.cons (i := 2) tab_ok M59 M59 M79 (by show nth _ 98 = _; simp only [kE, kT, kL, kC] <;> rfl) LateOk.nil))) M58, ?_⟩
   refine Pend.store tab_ok (by simp only [List.getElem?_toArray, List.getElem?_cons_zero, List.getElem?_cons_succ] <;> rfl) M59 M59 M59 M48 ⟨_, _, by simp only [kE]; rfl⟩ M7 M62 (Ahd.updL (by repeat (first | exact hlt | exact hlt.mono (by omega) | refine Ahd.upd ?_ (Ahd.cur (by omega) _)))) ?_
   simp only [ixs, List.getElem?_toArray, List.getElem?_cons_zero, List.getElem?_cons_succ]
   refine SOps.nil ⟨LateOk.A (LateOk.cons (i := 8) tab_ok M59 M59 M79 (by show nth _ 103 = _; simp only [kE, kT, kL, kC] <;> rfl) LateOk.nil) M58, ?_⟩
   refine Pend.nil ?_
   refine S12 ?_
   refine ⟨(i + 1, (markMail s1 bx gd ((curBelow (curBelow c2 12).2 8).1 : Int)).1, (curBelow (curBelow c2 12).2 8).2, k2 + 4), ?_, rfl, M54, ⟨by dsimp only; omega, (markMail_ok _ _ _ hs1).1, (markMail_ok _ _ _ hs1).2.trans hby, by dsimp only; simp only [curBelow_b, curBelow_b]; exact hc2, by dsimp only; omega⟩, by dsimp only; omega⟩
   (repeat (first | exact trivial | refine leC ?_ | refine leK ?_ ?_)) <;> first | (first | exact le_rfl' _ | (rw [wrap_succ (by omega)]; exact le_rfl' _)) | exact le_rfl' _
  try simp only [bsimp] at hb18
  refine S34 ?_
  refine OC (fun hb20 => ?_) (fun hb20 => ?_)
  ·
   try simp only [bsimp] at hb20
   refine S26 ?_
   refine OW cl90 (w_spec_DropMail s1 bx gd (store_sm hs1)) ?_
   iterate 3 (refine EV ?_)
   refine OkOps.storeE tab_ok rfl rfl M48 ⟨_, _, by simp only [kE]; rfl⟩ M7 M62 (Ahd.updL (by repeat (first | exact hlt | exact hlt.mono (by omega) | refine Ahd.upd ?_ (Ahd.cur (by omega) _)))) ?_
   refine ON ?_
   refine S12 ?_
   refine ⟨(i + 1, (dropMail s1 bx gd).1, (curBelow c2 12).2, k2 + 4), ?_, rfl, M54, ⟨by dsimp only; omega, (dropMail_ok _ _ hs1).1, (dropMail_ok _ _ hs1).2.trans hby, by dsimp only; simp only [curBelow_b]; exact hc2, by dsimp only; omega⟩, by dsimp only; omega⟩
   (repeat (first | exact trivial | refine leC ?_ | refine leK ?_ ?_)) <;> first | (first | exact le_rfl' _ | (rw [wrap_succ (by omega)]; exact le_rfl' _)) | exact le_rfl' _
  try simp only [bsimp] at hb20
  refine S34 ?_
  refine OC (fun hb22 => ?_) (fun hb22 => ?_)
  ·
   try simp only [bsimp] at hb22
   refine Ok.stages 127 [0, 1, 2, 3] [(4, [0, 1], [5, 6, 7, 8]), (9, [8], [])] M56 M56 rfl ?_
   simp only [ixs, List.getElem?_toArray, List.getElem?_cons_zero, List.getElem?_cons_succ]
   iterate 3 (refine SV ?_)
   refine SOps.ev tab_ok rfl (ev_bs M53 M53 M57 M57 M37 M16) M52 ?_
   refine SOps.nil ?_
   refine Pend.updF (k := 0) (by simp only [List.getElem?_toArray, List.getElem?_cons_zero, List.getElem?_cons_succ] <;> rfl) M59 M59 M48 M48 cl25 M29 (by repeat (first | exact hlt | exact hlt.mono (by omega) | refine Ahd.upd ?_ (Ahd.cur (by omega) _))) (fun h hlt => c_spec_l01Pick (curBelow c2 12).2 names2 L (n + 1 + 1 + k2 + 1) (by rw [curBelow_b]; exact hbc2) (by decide) (by omega)) (by first | rfl | (simp only [Nat.add_zero, Nat.reduceAdd] <;> rfl)) (by simp only [eq_self, V.updL, V.travL, V.travLL, V.trav, updS, updP, and_self, true_and, and_true, false_and, and_false, Nat.reduceEqDiff, Nat.reduceSub, Nat.le_refl, Nat.zero_le, ↓reduceIte, if_true, if_false, kP, zz, zf, zy, nd, ne] <;> rfl) (upd_twice (by simp [V.travL, V.trav, updS, zz, zf, zy]) h) ?_
   simp only [ixs, List.getElem?_toArray, List.getElem?_cons_zero, List.getElem?_cons_succ]
   refine SOps.S0 rfl (OpS.weakM rfl M48 M48 cl91 (w_spec_RenameBox s1 bx (pickS (curBelow c2 12).2 names2).1 (store_sm hs1) (Nat.le_trans (pick_len (m := 5) M57 M57) M57))) M52 ?_
   iterate 3 (refine SV ?_)
   refine SOps.nil ⟨LateOk.A (LateOk.cons (i := 0) tab_ok M59 M59 M79 (by show nth _ 118 = _; simp only [kE, kT, kL, kC] <;> rfl) (LateOk.cons (i := 1) tab_ok M59 M59 M79 (by show nth _ 119 = _; simp only [kE, kT, kL, kC] <;> rfl) LateOk.nil)) M58, ?_⟩
   refine Pend.store tab_ok (by simp only [List.getElem?_toArray, List.getElem?_cons_zero, List.getElem?_cons_succ] <;> rfl) M59 M59 M59 M48 ⟨_, _, by simp only [kE]; rfl⟩ M7 M62 (Ahd.updL (by repeat (first | exact hlt | exact hlt.mono (by omega) | refine Ahd.upd ?_ (Ahd.cur (by omega) _)))) ?_
   simp only [ixs, List.getElem?_toArray, List.getElem?_cons_zero, List.getElem?_cons_succ]
   refine SOps.nil ⟨LateOk.A (LateOk.cons (i := 8) tab_ok M59 M59 M79 (by show nth _ 125 = _; simp only [kE, kT, kL, kC] <;> rfl) LateOk.nil) M58, ?_⟩
   refine Pend.nil ?_
   refine S12 ?_
   refine ⟨(i + 1, (renameBox s1 bx (pickS (curBelow c2 12).2 names2).1).1, (pickS (curBelow c2 12).2 names2).2, k2 + 4), ?_, rfl, M54, ⟨by dsimp only; omega, (renameBox_ok _ _ hs1).1, (renameBox_ok _ _ hs1).2.trans hby, by dsimp only; simp only [curBelow_b, pickS_b]; exact hc2, by dsimp only; omega⟩, by dsimp only; omega⟩
   (repeat (first | exact trivial | refine leC ?_ | refine leK ?_ ?_)) <;> first | (first | exact le_rfl' _ | (rw [wrap_succ (by omega)]; exact le_rfl' _)) | exact le_rfl' _
  try simp only [bsimp] at hb22
  refine S6 ?_
  refine OkOps.upd rfl rfl M48 M48 cl43 (fun h => c_spec_l01Once (curBelow c2 12).2 3 L (by rw [curBelow_b]; exact hbc2) M57) M2 (upd_twice M45 h) ?_
  refine ON ?_
  refine OC (fun hb12 => ?_) (fun hb12 => ?_)
  ·
   try simp only [bsimp] at hb12
   refine S20 ?_
   refine OW cl92 (w_spec_DropBox s1 bx (store_sm hs1)) ?_
   iterate 3 (refine EV ?_)
   refine OkOps.storeE tab_ok rfl rfl M48 ⟨_, _, by simp only [kE]; rfl⟩ M7 M62 (Ahd.updL (by repeat (first | exact hlt | exact hlt.mono (by omega) | refine Ahd.upd ?_ (Ahd.cur (by omega) _)))) ?_
   refine ON ?_
   refine S12 ?_
   refine ⟨(i + 1, (dropBox s1 bx).1, (curBelow (curBelow c2 12).2 3).2, k2 + 4), ?_, rfl, M54, ⟨by dsimp only; omega, (dropBox_ok _ hs1).1, (dropBox_ok _ hs1).2.trans hby, by dsimp only; simp only [curBelow_b, curBelow_b]; exact hc2, by dsimp only; omega⟩, by dsimp only; omega⟩
   (repeat (first | exact trivial | refine leC ?_ | refine leK ?_ ?_)) <;> first | (first | exact le_rfl' _ | (rw [wrap_succ (by omega)]; exact le_rfl' _)) | exact le_rfl' _
  try simp only [bsimp] at hb12
  refine S42 ?_
  refine ⟨(i + 1, s1, (curBelow (curBelow c2 12).2 3).2, k2 + 4), ?_, rfl, M54, ⟨by dsimp only; omega, ((And.intro hs1 rfl : storeOk s1 = true ∧ s1.by_ = s1.by_)).1, ((And.intro hs1 rfl : storeOk s1 = true ∧ s1.by_ = s1.by_)).2.trans hby, by dsimp only; simp only [curBelow_b, curBelow_b]; exact hc2, by dsimp only; omega⟩, by dsimp only; omega⟩
  (repeat (first | exact trivial | refine leC ?_ | refine leK ?_ ?_)) <;> first | (first | exact le_rfl' _ | (rw [wrap_succ (by omega)]; exact le_rfl' _)) | exact le_rfl' _
 try simp only [bsimp] at hb2
 refine S54 ?_
 refine Ok.bump (n' := n + 1 + 400) M58 ?_
 refine S15 ?_
 refine OkOps.storeE tab_ok rfl rfl M48 ⟨_, _, by simp only [kE]; rfl⟩ M7 M62 (Ahd.updL (by repeat (first | exact hlt | exact hlt.mono (by omega) | refine Ahd.upd ?_ (Ahd.cur (by omega) _)))) ?_
 refine S36 ?_
 exact ⟨(s1, cc), ⟨hs1, hby, hcb⟩, rfl, rfl, rfl⟩
theorem c_spec_l07Store (c : Cur) (L : Nat) (hb : c.b.length ≤ 4611686018427387904) {h : List V} {n : Nat} (hlt : Ahd n h) (hL : L + 1 < n) (hfix : V.updL (L + 1) 0 (cCur c) h = h) : OkCall Tryz.prog 46 [.ptr (L + 1) 0 0 (cCur c)] h n (fun r h1 n1 => ∃ y : Store × Cur, (storeOk y.1 = true ∧ y.2.b = c.b) ∧ r = .agg (cStore y.1) ∧ h1 = V.updL (L + 1) 0 (cCur y.2) h ∧ n1 = n + 401) := by
 obtain ⟨n, rfl⟩ : ∃ k, n = k + 1 := ⟨n - 1, by omega⟩
 have nd := NDL [L + 1, n + 1, 0]
 refine OkCall.enter' tab_ok Tryz.func46 rfl (ht := ANYS 13) ?_
 refine S45 ?_
 have hq1 := curBelow_lt (c := c) (n := 12) M57
 have hw2 : IntKind.i64.wrap (2 + ((curBelow c 12).1 : Int)) = ((2 + (curBelow c 12).1 : Nat) : Int) := by rw [IntKind.wrap_i64]; omega
 refine S15 ?_
 refine OkOps.upd rfl rfl M48 M48 cl23 (fun h => c_spec_l01Below c 12 L hb M57) M3 (rfl) ?_
 refine OkOps.ev tab_ok rfl (by simp only [kE, kT, kL, kC, hw2] <;> rfl) M52 ?_
 refine S55 ?_
 have hq2 := curBelow_lt (c := (curBelow c 12).2) (n := 2) M57
 have hw1 : IntKind.i64.wrap (1 + ((curBelow (curBelow c 12).2 2).1 : Int)) = 1 + ((curBelow (curBelow c 12).2 2).1 : Int) := by rw [IntKind.wrap_i64]; omega
 refine S20 ?_
 refine OkOps.upd rfl rfl M48 M48 cl23 (fun h => c_spec_l01Below (curBelow c 12).2 2 L (by rw [curBelow_b]; exact hb) M57) M3 (upd_twice M45 h) ?_
 refine OkOps.ev tab_ok rfl M105 M52 ?_
 refine OW cl64 (w_spec_StoreNew (1 + ((curBelow (curBelow c 12).2 2).1 : Int))) ?_
 refine EV ?_
 refine OkOps.updX (k := 400) rfl rfl M48 M48 cl63 M29 (by repeat (first | exact hlt | exact hlt.mono (by omega) | refine Ahd.upd ?_ (Ahd.cur (by omega) _))) (fun h hlt hfix => c_spec_l07Use (curBelow (curBelow c 12).2 2).2 ⟨1 + ((curBelow (curBelow c 12).2 2).1 : Int), 0, [], []⟩ (2 + (curBelow c 12).1) 100 L (by rw [curBelow_b, curBelow_b]; exact hb) (storeNew_ok (by omega)) (by omega) (by decide) hlt (by omega) hfix) (by simp only [eq_self, V.updL, V.travL, V.travLL, V.trav, updS, updP, and_self, true_and, and_true, false_and, and_false, Nat.reduceEqDiff, Nat.reduceSub, Nat.le_refl, Nat.zero_le, ↓reduceIte, if_true, if_false, zz, zf, zy, nd]) (by first | exact hfix | rfl | exact upd_twice (by simp [V.travL, V.trav, updS, zz, zf, zy]) _) (by first | rfl | (simp only [Nat.add_zero, Nat.reduceAdd] <;> rfl)) (fun y => by simp only [eq_self, V.updL, V.travL, V.travLL, V.trav, updS, updP, and_self, true_and, and_true, false_and, and_false, Nat.reduceEqDiff, Nat.reduceSub, Nat.le_refl, Nat.zero_le, ↓reduceIte, if_true, if_false, kP, zz, zf, zy, nd] <;> rfl) (fun y => upd_twice (by simp [V.travL, V.trav, updS, zz, zf, zy]) _) ?_
 rintro ⟨s1, c1⟩ ⟨hs1, hy1, hb1⟩
 dsimp only
 refine OkOps.storeE tab_ok rfl rfl M48 ⟨_, _, by simp only [kE]; rfl⟩ M7 M64 (Ahd.updL (by repeat (first | exact hlt | exact hlt.mono (by omega) | refine Ahd.upd ?_ (Ahd.cur (by omega) _)))) ?_
 refine S36 ?_
 exact ⟨(s1, c1), ⟨hs1, by rw [hb1, curBelow_b, curBelow_b]⟩, rfl, rfl, by omega⟩
end Go.Proofs.YtiipkeendfpddaaGreat.K

/- Walks: mails, boxes, stores read, as the reference has it. Printed by w2.py. -/
namespace Go.Proofs.YtiipkeendfpddaaGreat.K
open Go Go.RowKit
set_option linter.unusedVariables false
set_option linter.unusedSimpArgs false
set_option maxHeartbeats 4000000
set_option maxRecDepth 20000
end Go.Proofs.YtiipkeendfpddaaGreat.K

/- Walks: syncs begun. Printed by w2.py. -/
namespace Go.Proofs.YtiipkeendfpddaaGreat.K
open Go Go.RowKit
set_option linter.unusedVariables false
set_option linter.unusedSimpArgs false
set_option maxHeartbeats 4000000
set_option maxRecDepth 20000
theorem p_impl_put0 (e : Int) {t : Str} (h : pieceN t ≤ 1000) : Pure Tryz.prog 34 [.agg (cLink ⟨e, [], 1, 1⟩), .str (begH t)] (.tup [.agg (cLink (begL e t 0)), .bool true]) := by
  have q := p_impl_LinkPut ⟨e, [], 1, 1⟩ (begH t) M119
  rw [beg_put0 e h] at q; exact q
theorem p_impl_put1 (e : Int) (t : Str) (i : Nat) : Pure Tryz.prog 34 [.agg (cLink (begL e t i)), .str (80 :: pieceT t i)] (.tup [.agg (cLink (begL e t (i + 1))), .bool (decide (i + 1 < 60))]) := by
  have q := p_impl_LinkPut (begL e t i) (80 :: pieceT t i) (Nat.le_trans (begL_way e t i) M57)
  rw [beg_put e t i] at q; exact q
theorem w_spec_put0 (e : Int) {t : Str} (h : pieceN t ≤ 1000) : Weak Tryz.prog 39 [.agg (cLink ⟨e, [], 1, 1⟩), .str (begH t)] (.tup [.agg (cLink (begL e t 0)), .bool true]) := by
  have q := w_spec_LinkPut ⟨e, [], 1, 1⟩ (begH t) M119
  rw [beg_put0 e h] at q; exact q
theorem w_spec_put1 (e : Int) (t : Str) (i : Nat) : Weak Tryz.prog 39 [.agg (cLink (begL e t i)), .str (80 :: pieceT t i)] (.tup [.agg (cLink (begL e t (i + 1))), .bool (decide (i + 1 < 60))]) := by
  have q := w_spec_LinkPut (begL e t i) (80 :: pieceT t i) (Nat.le_trans (begL_way e t i) M57)
  rw [beg_put e t i] at q; exact q
theorem p_impl_SyncBegin (s : Store) (h : smStore s) (e : Int) : Pure Tryz.prog 9 [.agg (cStore s), .int .i64 e] (.tup [.agg (cSync (begY s e)), .bool (begOk s)]) := by
 have hn1 := stT_len s
 have hn2 : pieceN (stT s) ≤ 1000 := by unfold pieceN; omega
 have hn3 := varT_len5 (n := pieceN (stT s)) M58
 have hbg : ([84] : Str) ++ varsZ [((pieceN (stT s) : Nat) : Int)] = begH (stT s) := by simp [varsZ, begH]
 refine Pure.of M44 (OkCall.enter' tab_ok Tryz.func9 rfl (t := [.agg (cStore s), .int .i64 e, .any, .any, .any, .any, .any, .any, .any, .any, .any, .any, .any, .any, .any, .any, .any, .any, .any, .any, .any, .any, .any, .any, .any, .any, .any, .any, .any, .any, .any, .any, .any, .any, .any, .any, .any, .any, .any, .any, .any, .any, .any, .any, .any, .any, .any, .any, .any, .any, .any, .any, .any, .any, .any, .any, .any, .any, .any, .any, .any]) rfl ?_)
 refine S34 ?_
 refine S6 ?_
 refine OW cl33 (w_impl_StoreText s h) ?_
 refine S24 ?_
 refine Ok.seq ?_
 refine Ok.seq ?_
 refine Ok.drop [15, 16, 17, 18, 19] M51 ?_
 refine S27 ?_
 refine OC (fun hb2 => ?_) (fun hb2 => ?_)
 ·
  try simp only [bsimp] at hb2
  have hk : begOk s = false := by unfold begOk; rw [show (storeText s).isSome = false by simpa using hb2]; rfl
  rw [begY_no e hk, hk]
  refine Ok.seq ?_
  refine Ok.drop [20, 21] M51 ?_
  refine Ok.region ?_
  refine OkOps.ev tab_ok rfl M36 M112 ?_
  refine OkOps.storeN tab_ok rfl rfl M48 ⟨_, _, by simp only [kE]; rfl⟩ M17 (fun W hW hF => by have f0 := far0 hW (fun h => by omega); have p0 := fun i o e => hW.ptr (1) i o e M125; simp only [List.map_cons, List.map_nil, hW.int, hW.str, hW.bool, hW.any, hW.tup0, hW.agg, hW.nilV, hF.ptr, f0, p0, kP] <;> rfl) ?_
  refine S22 ?_
  first | (exact ⟨by simp [V.erase, V.trav, V.travL, V.travLL, packV, zz, zf, zy, zSync, begL], by simp [V.labels, V.labelsL, V.labelsLL, packV, zz, zf, zy, zSync] <;> omega, by simp [V.labels, V.labelsL, V.labelsLL, packV, zz, zf, zy, zSync]⟩)
 try simp only [bsimp] at hb2
 have hs2 : (storeText s).isSome = true := by simpa using hb2
 refine S7 ?_
 refine Ok.drop [20, 21] M51 ?_
 refine S15 ?_
 refine OW cl12 (w_impl_PiecesOf (stT s) hn1) ?_
 refine S55 ?_
 refine Ok.drop [23, 24] M51 ?_
 refine S15 ?_
 refine OW cl35 (w_impl_LinkNew e) ?_
 refine EV ?_
 refine OkOps.ev tab_ok rfl M122 M52 ?_
 refine OkOps.ev tab_ok rfl (ev_bs M53 M53 M57 M57 M37 M16) M52 ?_
 refine OkOps.S0 rfl (OpS.weakE rfl M48 M27 cl36 M42 (w_impl_vars [((pieceN (stT s)) : Int)] (by intro z hz; simp only [List.mem_cons, List.not_mem_nil, or_false] at hz; rcases hz with rfl; exact in9 M58) M119)) M52 ?_
 refine OkOps.ev tab_ok rfl (ev_cat M48 M48 M0) M112 ?_
 refine OkOps.S' rfl (OpS.pure' rfl (by simp only [kE, kT, kL, kC, hbg] <;> rfl) (by simp only [kE, kT, kL, kC, hbg, V.eraseL, V.erase, V.travL, V.trav, zz, zf, zy] <;> rfl) cl34 M44 (p_impl_put0 e hn2)) M30 M23 ?_
 iterate 4 (refine EV ?_)
 refine OkOps.drop [25, 27, 30, 33] M51 ?_
 refine OkOps.storeN tab_ok rfl rfl M48 ⟨_, _, by simp only [kE]; rfl⟩ M17 (fun W hW hF => by have f0 := far0 hW (fun h => by omega); have wz := hW.far (.sl 0 1 0 []) (fun y hy h => by (simp [V.labels, V.labelsLL] at hy; omega)); have wy := hW.far (.sl 3 1 0 [[.int .i64 ((pieceN (stT s)) : Int)]]) (fun y hy h => by (simp [V.labels, V.labelsL, V.labelsLL] at hy; omega)); have w3 := hW.far (.sl 4 1 0 ((begL e (stT s) 0).way.map cS)) (fun y hy h => by (simp [V.labels, V.labelsLL, zz, zf, zy] at hy; omega)); have p0 := fun i o e => hW.ptr (1) i o e M125;  have p1 := fun i o e => hW.ptr (2) i o e M125; simp only [List.map_cons, List.map_nil, hW.int, hW.str, hW.bool, hW.any, hW.tup0, hW.agg, hW.nilV, hF.ptr, f0, w3, wz, wy, p0, p1, kP] <;> rfl) ?_
 refine S55 ?_
 refine Ok.seq ?_
 refine Ok.drop [25, 26, 27, 28, 29, 30, 31, 32, 33, 34, 35] M51 ?_
 refine S12 ?_
 refine Ok.block ?_
 refine Ok.loopN (τ := Nat × Nat × Nat) (fun x => [(9, .ptr 5 0 0 [.int .i64 e, .sl (x.2.1 + 1) 1 0 ((begL e (stT s) x.1).way.map cS), .int .i64 1, .int .i64 1]), (10, .bool (decide (x.1 < 60))), (38, .int .i64 (x.1 : Int))]) [12, 13, 14, 39, 40, 41, 42, 43, 44, 45, 46, 47, 48, 49, 50, 51, 52, 53, 54] (fun x => by simp only [kover] <;> rfl) (fun x => x.2.2 + 1) (fun x => x.1 ≤ (pieceN (stT s)) ∧ 3 ≤ x.2.1 ∧ x.2.1 ≠ 4 ∧ x.2.1 < x.2.2 ∧ 5 ≤ x.2.2) (fun x => (pieceN (stT s)) - x.1) (0, 3, 5) (by (repeat (first | exact trivial | refine leC ?_ | refine leK ?_ ?_)) <;> first | (first | exact le_rfl' _ | exact le_eqm rfl) | exact le_rfl' _) (by decide) (⟨Nat.zero_le _, by decide, by decide, by decide, by decide⟩) ?_
 rintro ⟨i, L, k⟩ ⟨h1, h2, h3, h4, h5⟩
 dsimp only at h1 h2 h3 h4 h5 ⊢
 refine S45 ?_
 refine OC (fun hb7 => ?_) (fun hb7 => ?_)
 ·
  try simp only [bsimp] at hb7
  have hi : i < (pieceN (stT s)) := by rw [pieces_len] at hb7; omega
  have hg := pieces_get (t := stT s) hi
  have hpl := piece_len (stT s) i
  refine S14 ?_
  refine Ok.seq ?_
  refine Ok.drop [39] M51 ?_
  refine Ok.region ?_
  refine OkOps.ev tab_ok rfl (ev_idx_map M48 M48 M58 M48) M52 ?_
  refine OkOps.ev tab_ok rfl (by simp only [kE, kT, kL, kC, pieces_getE] <;> rfl) M52 ?_
  refine S55 ?_
  refine Ok.drop [40, 41] M51 ?_
  refine S20 ?_
  refine OkOps.ev tab_ok rfl (ev_cat M48 M48 M0) M112 ?_
  refine OkOps.S' rfl (OpS.pure' rfl M83 (by simp only [kE, kT, kL, kC, List.cons_append, List.nil_append, pieces_getE, V.eraseL, V.erase, V.travL, V.trav, zz, zf, zy] <;> rfl) cl34 M44 (p_impl_put1 e (stT s) i)) M30 M23 ?_
  iterate 4 (refine EV ?_)
  refine OkOps.drop [42, 46] M51 ?_
  refine OkOps.storeN tab_ok rfl rfl M48 ⟨_, _, by simp only [kE]; rfl⟩ M17 (fun W hW hF => by have f0 := far0 hW (fun h => by omega); have w3 := hW.far (.sl (L + 1) 1 0 ((begL e (stT s) i).way.map cS)) (fun y hy h => by (simp [V.labels, V.labelsLL, zz, zf, zy] at hy; omega)); have w4 := hW.far (.sl (k + 1) 1 0 ((begL e (stT s) (i + 1)).way.map cS)) (fun y hy h => by (simp [V.labels, V.labelsLL, zz, zf, zy] at hy; omega)); have p0 := fun i o e => hW.ptr (1) i o e M125;  have p1 := fun i o e => hW.ptr (2) i o e M125;  have p2 := fun i o e => hW.ptr (5) i o e M125; simp only [List.map_cons, List.map_nil, hW.int, hW.str, hW.bool, hW.any, hW.tup0, hW.agg, hW.nilV, hF.ptr, f0, w3, w4, p0, p1, p2, kP] <;> rfl) ?_
  refine S55 ?_
  refine Ok.drop [42, 43, 44, 45, 46, 47, 48] M51 ?_
  refine S15 ?_
  refine OkOps.storeN tab_ok rfl rfl M48 ⟨_, _, by simp only [kE]; rfl⟩ M17 (fun W hW hF => by have f0 := far0 hW (fun h => by omega); have w4 := hW.far (.sl (k + 1) 1 0 ((begL e (stT s) (i + 1)).way.map cS)) (fun y hy h => by (simp [V.labels, V.labelsLL, zz, zf, zy] at hy; omega)); have p0 := fun i o e => hW.ptr (1) i o e M125;  have p1 := fun i o e => hW.ptr (2) i o e M125;  have p3 := fun i o e => hW.ptr (k + 1 + 1) i o e M125; simp only [List.map_cons, List.map_nil, hW.int, hW.str, hW.bool, hW.any, hW.tup0, hW.agg, hW.nilV, hF.ptr, f0, w4, p0, p1, p3, kP] <;> rfl) ?_
  refine ON ?_
  refine Ok.drop [49] M51 ?_
  refine S20 ?_
  refine OP (d := 51) (fun hg11_1 => ?_) (fun hg11_1 => ?_)
  ·
   try simp only [bsimp] at hg11_1
   refine OO ?_
   refine S4 ?_
   refine Ok.drop [50, 51, 52, 53] M51 ?_
   refine S27 ?_
   refine ⟨(i + 1, k, k + 2), ?_, rfl, M54, ⟨hi, by dsimp only; omega, by dsimp only; omega, by dsimp only; omega, by dsimp only; omega⟩, by dsimp only; omega⟩
   (repeat (first | exact trivial | refine leC ?_ | refine leK ?_ ?_)) <;> first | (first | exact le_rfl' _ | (rw [wrap_add_one (by omega)]; exact le_rfl' _) | (show V.le (V.bool false) (V.bool (decide (i + 1 < 60))); rw [show decide (i + 1 < 60) = false from decide_eq_false (by (try simp only [decide_eq_false_iff_not] at hg11_1); omega)]; exact le_rfl' _)) | exact le_rfl' _
  try simp only [bsimp] at hg11_1
  refine OU ?_
  refine S1 ?_
  refine Ok.drop [50, 51, 52, 53] M51 ?_
  refine S27 ?_
  refine ⟨(i + 1, k, k + 2), ?_, rfl, M54, ⟨hi, by dsimp only; omega, by dsimp only; omega, by dsimp only; omega, by dsimp only; omega⟩, by dsimp only; omega⟩
  (repeat (first | exact trivial | refine leC ?_ | refine leK ?_ ?_)) <;> first | (first | exact le_rfl' _ | (rw [wrap_add_one (by omega)]; exact le_rfl' _) | (show V.le (V.bool false) (V.bool (decide (i + 1 < 60))); rw [show decide (i + 1 < 60) = false from decide_eq_false (by (try simp only [decide_eq_false_iff_not] at hg11_1); omega)]; exact le_rfl' _)) | exact le_rfl' _
 try simp only [bsimp] at hb7
 obtain rfl : i = (pieceN (stT s)) := by rw [pieces_len] at hb7; omega
 refine S54 ?_
 refine Ok.seq ?_
 refine Ok.drop [39] M51 ?_
 refine S27 ?_
 refine OC (fun hb13 => ?_) (fun hb13 => ?_)
 ·
  try simp only [bsimp] at hb13
  have hk : begOk s = false := by unfold begOk; rw [hs2]; simpa using hb13
  rw [begY_no e hk, hk]
  refine Ok.seq ?_
  refine Ok.drop [55, 56] M51 ?_
  refine Ok.region ?_
  refine OkOps.ev tab_ok rfl M36 M112 ?_
  refine OkOps.storeN tab_ok rfl rfl M48 ⟨_, _, by simp only [kE]; rfl⟩ M17 (fun W hW hF => by have f0 := far0 hW (fun h => by omega); have w4 := hW.far (.sl (L + 1) 1 0 ((begL e (stT s) (pieceN (stT s))).way.map cS)) (fun y hy h => by (simp [V.labels, V.labelsLL, zz, zf, zy] at hy; omega)); have p0 := fun i o e => hW.ptr (1) i o e M125;  have p2 := fun i o e => hW.ptr (5) i o e M125; simp only [List.map_cons, List.map_nil, hW.int, hW.str, hW.bool, hW.any, hW.tup0, hW.agg, hW.nilV, hF.ptr, f0, w4, p0, p2, kP] <;> rfl) ?_
  refine S22 ?_
  first | (exact ⟨by simp [V.erase, V.trav, V.travL, V.travLL, packV, zz, zf, zy, zSync, begL], by simp [V.labels, V.labelsL, V.labelsLL, packV, zz, zf, zy, zSync] <;> omega, by simp [V.labels, V.labelsL, V.labelsLL, packV, zz, zf, zy, zSync]⟩)
 try simp only [bsimp] at hb13
 have hk : begOk s = true := by unfold begOk; rw [hs2]; simpa using hb13
 rw [begY_yes e hk, hk]
 refine S7 ?_
 refine Ok.drop [55, 56] M51 ?_
 refine S20 ?_
 refine OkOps.ev tab_ok rfl M36 M112 ?_
 refine OkOps.storeN tab_ok rfl rfl M48 ⟨_, _, by simp only [kE]; rfl⟩ M17 (fun W hW hF => by have f0 := far0 hW (fun h => by omega); have w4 := hW.far (.sl (L + 1) 1 0 ((begL e (stT s) (pieceN (stT s))).way.map cS)) (fun y hy h => by (simp [V.labels, V.labelsLL, zz, zf, zy] at hy; omega)); have p0 := fun i o e => hW.ptr (1) i o e M125;  have p2 := fun i o e => hW.ptr (5) i o e M125; simp only [List.map_cons, List.map_nil, hW.int, hW.str, hW.bool, hW.any, hW.tup0, hW.agg, hW.nilV, hF.ptr, f0, w4, p0, p2, kP] <;> rfl) ?_
 refine S22 ?_
 first | (exact ⟨by simp [V.erase, V.trav, V.travL, V.travLL, packV, zz, zf, zy, zSync, begL], by simp [V.labels, V.labelsL, V.labelsLL, packV, zz, zf, zy, zSync] <;> omega, by simp [V.labels, V.labelsL, V.labelsLL, packV, zz, zf, zy, zSync]⟩)
theorem w_spec_SyncBegin (s : Store) (h : smStore s) (e : Int) : Weak Tryz.prog 10 [.agg (cStore s), .int .i64 e] (.tup [.agg (cSync (begY s e)), .bool (begOk s)]) := by
 have hn1 := stT_len s
 have hn2 : pieceN (stT s) ≤ 1000 := by unfold pieceN; omega
 have hn3 := varT_len5 (n := pieceN (stT s)) M58
 have hbg : ([84] : Str) ++ varsZ [((pieceN (stT s) : Nat) : Int)] = begH (stT s) := by simp [varsZ, begH]
 have hbh : ([84] : Str) ++ varT (pieceN (stT s)) = begH (stT s) := rfl
 refine Weak.enter tab_ok Tryz.func10 rfl (.inr M33) (ht := ANYS 62) ?_
 refine S34 ?_
 refine S6 ?_
 refine OW cl37 (w_spec_StoreText s h) ?_
 refine S24 ?_
 refine S65 ?_
 refine OC (fun hb2 => ?_) (fun hb2 => ?_)
 ·
  try simp only [bsimp] at hb2
  have hk : begOk s = false := by unfold begOk; rw [show (storeText s).isSome = false by simpa using hb2]; rfl
  rw [begY_no e hk, hk]
  refine OQ ?_
  refine OkOps.ev tab_ok rfl M36 M112 ?_
  refine S30 ?_
  first | rfl | (simp [V.erase, V.trav, V.travL, V.travLL, packV, zz, zf, zy, zSync]; done) | (simp [V.erase, V.trav, V.travL, V.travLL, packV, zz, zf, zy, zSync] <;> exact ⟨rfl, rfl, rfl⟩)
 try simp only [bsimp] at hb2
 have hs2 : (storeText s).isSome = true := by simpa using hb2
 refine S60 ?_
 refine OW cl17 (w_spec_PiecesOf (stT s) hn1) ?_
 refine S2 ?_
 refine S11 ?_
 refine OW cl38 (w_spec_LinkNew e) ?_
 refine OkOps.ev tab_ok rfl M36 M112 ?_
 refine S33 ?_
 refine Ok.seq ?_
 refine Ok.drawn 11 64 [9] M56 M56 rfl ?_
 iterate 3 (refine SV ?_)
 refine SOps.ev tab_ok rfl M122 M52 ?_
 refine SOps.S0 rfl (OpS.weakM rfl (by simp only [kE, kT, kL, kC, Int.toNat_natCast, pieces_len] <;> rfl) (by simp only [kE, kT, kL, kC, Int.toNat_natCast, pieces_len] <;> rfl) cl40 (w_spec_l01Var ((pieceN (stT s)) : Int) M58)) M52 ?_
 refine SOps.ev tab_ok rfl (ev_cat M48 M48 M0) M112 ?_
 refine SOps.S0 rfl (OpS.weakM rfl (by simp only [kE, kT, kL, kC, hbh, Int.toNat_natCast] <;> rfl) (by simp only [kE, kT, kL, kC, hbh, Int.toNat_natCast] <;> rfl) cl39 (w_spec_put0 e hn2)) M52 ?_
 refine S62 ?_
 refine TOps.storeL tab_ok rfl rfl rfl M48 ⟨_, _, by simp only [kE]; rfl⟩ M7 M65 (rfl) (LateOk.cons (i := 9) tab_ok M126 M126 M71 M93 LateOk.nil) ?_
 refine TOps.evL tab_ok rfl M48 M52 (LateOk.cons (i := 9) tab_ok M59 M59 M79 M93 LateOk.nil) ?_
 refine TOps.nil ?_
 refine S11 ?_
 refine S17 ?_
 refine S28 ?_
 refine Ok.bump (n' := 5) M58 ?_
 refine Ok.loopWZ (τ := Nat) (fun x => [(9, .ptr 3 0 0 [.int .i64 e, .int .i64 e, .sl 0 1 0 ((begL e (stT s) x).way.map cS), .int .i64 1, .int .i64 1, .int .i64 0, .nil 1, .bool false, .bool false]), (11, .bool (decide (x < 60))), (12, .int .i64 (x : Int))]) [28, 38, 39, 40, 41, 42, 43, 44, 45, 46, 47, 48, 49, 50, 51, 52, 53, 54, 55, 56, 57, 58, 59] (fun x => by simp only [kover] <;> rfl) (fun x => x ≤ (pieceN (stT s))) (fun x => (pieceN (stT s)) - x) 0 M58 (by (repeat (first | exact trivial | refine leC ?_ | refine leK ?_ ?_)) <;> first | (first | exact le_rfl' _ | exact le_eqm rfl) | exact le_rfl' _) (Nat.zero_le _) ?_
 rintro i h1
 refine S5 ?_
 iterate 5 (refine EV ?_)
 refine OP (d := 43) (fun hg9_4 => ?_) (fun hg9_4 => ?_)
 ·
  try simp only [bsimp] at hg9_4
  refine S39 ?_
  refine OC (fun hb9 => ?_) (fun hb9 => ?_)
  ·
   try simp only [bsimp] at hb9
   have hi : i < (pieceN (stT s)) := by (first | omega | (simp only [decide_eq_true_eq, decide_eq_false_iff_not, Bool.not_eq_true, Bool.not_eq_false, pieces_len] at *; omega) | (simp at *; omega))
   have hg := pieces_get (t := stT s) hi
   have hpl := piece_len (stT s) i
   refine S14 ?_
   refine Ok.drawn 12 64 [10] M56 M56 rfl ?_
   iterate 4 (refine SV ?_)
   refine SOps.ev tab_ok rfl (ev_idx_map M48 M48 M58 M48) M52 ?_
   refine SOps.ev tab_ok rfl (by simp only [kE, kT, kL, kC, pieces_getE] <;> rfl) M52 ?_
   refine SOps.ev tab_ok rfl (ev_cat M48 M48 M0) M112 ?_
   refine SOps.S0 rfl (OpS.weakM rfl M83 M83 cl39 (w_spec_put1 e (stT s) i)) M52 ?_
   refine S62 ?_
   refine TOps.storeL tab_ok rfl rfl rfl M48 ⟨_, _, by simp only [kE]; rfl⟩ M7 M65 (rfl) (LateOk.cons (i := 10) tab_ok M126 M126 M71 (by show nth _ 58 = _; simp only [kE, kT, kL, kC] <;> rfl) LateOk.nil) ?_
   refine TOps.evL tab_ok rfl M48 M52 (LateOk.cons (i := 10) tab_ok M59 M59 M79 (by show nth _ 58 = _; simp only [kE, kT, kL, kC] <;> rfl) LateOk.nil) ?_
   refine TOps.nil ?_
   refine S12 ?_
   refine ⟨i + 1, ?_, rfl, hi, by omega⟩
   simp only [V.renL, V.travL, V.travLL, V.trav, frz, zz, zf, zy, Nat.reduceLeDiff, ↓reduceIte]
   (repeat (first | exact trivial | refine leC ?_ | refine leK ?_ ?_)) <;> first | (first | exact le_rfl' _ | (rw [wrap_add_one (by omega)]; exact le_rfl' _)) | exact le_rfl' _
  try simp only [bsimp] at hb9
  refine Ok.exit ?_
  refine S65 ?_
  refine OC (fun hb12 => ?_) (fun hb12 => ?_)
  ·
   try simp only [bsimp] at hb12
   have hq : ¬ pieceN (stT s) < 60 := by (first | omega | (simp only [decide_eq_true_eq, decide_eq_false_iff_not, Bool.not_eq_true, Bool.not_eq_false, pieces_len] at *; omega) | (simp at *; omega))
   have hk : begOk s = false := by unfold begOk; rw [hs2, decide_eq_false hq]; rfl
   rw [begY_no e hk, hk]
   refine OQ ?_
   refine OkOps.ev tab_ok rfl M36 M112 ?_
   refine S30 ?_
   first | rfl | (simp [V.erase, V.trav, V.travL, V.travLL, packV, zz, zf, zy, zSync]; done) | (simp [V.erase, V.trav, V.travL, V.travLL, packV, zz, zf, zy, zSync] <;> exact ⟨rfl, rfl, rfl⟩)
  try simp only [bsimp] at hb12
  have hq : pieceN (stT s) < 60 := by (first | omega | (simp only [decide_eq_true_eq, decide_eq_false_iff_not, Bool.not_eq_true, Bool.not_eq_false, pieces_len] at *; omega) | (simp at *; omega))
  have hk : begOk s = true := by unfold begOk; rw [hs2, decide_eq_true hq]; rfl
  obtain rfl : i = pieceN (stT s) := by (first | omega | (simp only [decide_eq_true_eq, decide_eq_false_iff_not, Bool.not_eq_true, Bool.not_eq_false, pieces_len] at *; omega) | (simp at *; omega))
  rw [begY_yes e hk, hk]
  refine S60 ?_
  refine S30 ?_
  first | rfl | (simp [V.erase, V.trav, V.travL, V.travLL, packV, zz, zf, zy, zSync]; done) | (simp [V.erase, V.trav, V.travL, V.travLL, packV, zz, zf, zy, zSync] <;> exact ⟨rfl, rfl, rfl⟩)
 try simp only [bsimp] at hg9_4
 refine OU ?_
 refine S2 ?_
 refine Ok.cond_false M48 ?_
 refine Ok.exit ?_
 refine S65 ?_
 refine OC (fun hb12 => ?_) (fun hb12 => ?_)
 ·
  try simp only [bsimp] at hb12
  have hq : ¬ pieceN (stT s) < 60 := by (first | omega | (simp only [decide_eq_true_eq, decide_eq_false_iff_not, Bool.not_eq_true, Bool.not_eq_false, pieces_len] at *; omega) | (simp at *; omega))
  have hk : begOk s = false := by unfold begOk; rw [hs2, decide_eq_false hq]; rfl
  rw [begY_no e hk, hk]
  refine OQ ?_
  refine OkOps.ev tab_ok rfl M36 M112 ?_
  refine S30 ?_
  first | rfl | (simp [V.erase, V.trav, V.travL, V.travLL, packV, zz, zf, zy, zSync]; done) | (simp [V.erase, V.trav, V.travL, V.travLL, packV, zz, zf, zy, zSync] <;> exact ⟨rfl, rfl, rfl⟩)
 try simp only [bsimp] at hb12
 have hq : pieceN (stT s) < 60 := by (first | omega | (simp only [decide_eq_true_eq, decide_eq_false_iff_not, Bool.not_eq_true, Bool.not_eq_false, pieces_len] at *; omega) | (simp at *; omega))
 have hk : begOk s = true := by unfold begOk; rw [hs2, decide_eq_true hq]; rfl
 obtain rfl : i = pieceN (stT s) := by (first | omega | (simp only [decide_eq_true_eq, decide_eq_false_iff_not, Bool.not_eq_true, Bool.not_eq_false, pieces_len] at *; omega) | (simp at *; omega))
 rw [begY_yes e hk, hk]
 refine S60 ?_
 refine S30 ?_
 first | rfl | (simp [V.erase, V.trav, V.travL, V.travLL, packV, zz, zf, zy, zSync]; done) | (simp [V.erase, V.trav, V.travL, V.travLL, packV, zz, zf, zy, zSync] <;> exact ⟨rfl, rfl, rfl⟩)
end Go.Proofs.YtiipkeendfpddaaGreat.K

/- Walks: syncs that hear. Printed by w2.py. -/
namespace Go.Proofs.YtiipkeendfpddaaGreat.K
open Go Go.RowKit
set_option linter.unusedVariables false
set_option linter.unusedSimpArgs false
set_option maxHeartbeats 4000000
set_option maxRecDepth 20000
theorem w_impl_SyncHears (y : Sync) (p : Packet) (h : smSync y) (hp : p.text.length ≤ 1000000) (hf : y.pieces.flatten.length ≤ 1000000) : Weak Tryz.prog 6 [.agg (cSync y), .agg (cPacket p)] (vYS (syncHears y p)) := by
 refine Weak.enter tab_ok Tryz.func6 rfl (.inr M33) (ht := ANYS 101) ?_
 refine S64 ?_
 refine S6 ?_
 refine OkOps.S' rfl (OpS.pure' rfl M48 M27 cl27 M44 (p_impl_copySync y h)) M30 M23 ?_
 refine S33 ?_
 refine S19 ?_
 refine OW cl28 (w_impl_LinkHears y.link p M114) ?_
 iterate 5 (refine EV ?_)
 refine OE ?_
 refine S1 ?_
 refine Ok.seq ?_
 obtain ⟨⟨L1, T, b1⟩, hlh⟩ : ∃ z, linkHears y.link p = z := ⟨_, rfl⟩
 have htl := linkHears_text y.link p
 rw [hlh] at htl ⊢
 dsimp only at htl ⊢
 refine S20 ?_
 refine S17 ?_
 refine S65 ?_
 refine OC (fun hb4 => ?_) (fun hb4 => ?_)
 ·
  try simp only [bsimp] at hb4
  obtain rfl : b1 = false := by simpa using hb4
  rw [syncHears_no hlh]
  refine S6 ?_
  refine S30 ?_
  first | rfl | (simp [V.erase, V.trav, V.travL, V.travLL, packV, zz, zf, zy, hE1, hE2, hE3, hE4, hoP, hot]; done) | (simp [-List.map_append, V.erase, V.trav, V.travL, V.travLL, packV, zz, zf, zy]; done) | (simp [V.erase, V.trav, V.travL, V.travLL, packV, zz, zf, zy]; done)
 try simp only [bsimp] at hb4
 obtain rfl : b1 = true := by simpa using hb4
 rw [syncHears_yes hlh]
 refine S14 ?_
 refine Ok.seqC [(33, .bool (isB 84 T))] [34, 35, 36, 37, 38, 39, 40] M51 ?_ ?_
 ·
  refine S26 ?_
  refine OP (d := 36) (fun hg8_2 => ?_) (fun hg8_2 => ?_)
  ·
   try simp only [bsimp] at hg8_2
   refine S18 ?_
   refine OkOps.ev tab_ok rfl (ev_byte_lt (j := 0) M48 M48 (List.length_pos_iff.2 (by simpa using hg8_2)) rfl) M52 ?_
   refine OO ?_
   refine S4 ?_
   refine ⟨rfl, ?_, rfl, rfl⟩
   (repeat (first | exact trivial | refine leC ?_ | refine leK ?_ ?_)) <;> first | (refine .inl (congrArg V.bool ?_); (first | exact isB84 _ | exact isB80 _ | (simp_all [isB]; done))) | exact le_rfl' _
  try simp only [bsimp] at hg8_2
  iterate 3 (refine OU ?_)
  refine S1 ?_
  refine ⟨rfl, ?_, rfl, rfl⟩
  (repeat (first | exact trivial | refine leC ?_ | refine leK ?_ ?_)) <;> first | (refine .inl (congrArg V.bool ?_); (first | exact isB84 _ | exact isB80 _ | (simp_all [isB]; done))) | exact le_rfl' _
 refine OC (fun hb8 => ?_) (fun hb8 => ?_)
 ·
  try simp only [bsimp] at hb8
  refine S6 ?_
  refine OW cl29 (w_impl_ReadVar T 1 M58) ?_
  iterate 7 (refine EV ?_)
  refine S29 ?_
  refine Ok.seqC [(58, .bool (tellB T))] [47, 48, 49, 50, 51, 52, 53, 54, 55, 56, 57] M51 ?_ ?_
  ·
   refine S26 ?_
   refine OP (d := 49) (fun hg10_2 => ?_) (fun hg10_2 => ?_)
   ·
    try simp only [bsimp] at hg10_2
    iterate 4 (refine OU ?_)
    iterate 2 (refine EV ?_)
    refine S61 ?_
    refine S2 ?_
    refine ⟨rfl, ?_, rfl, rfl⟩
    (repeat (first | exact trivial | refine leC ?_ | refine leK ?_ ?_)) <;> first | (refine .inl (congrArg V.bool ?_); (first | (simp [tellB, *]; done) | (simp [tellB, *] <;> omega) | (rw [Bool.eq_iff_iff]; simp [tellB, *] <;> omega) | (simp_all [tellB]; done))) | exact le_rfl' _
   try simp only [bsimp] at hg10_2
   iterate 3 (refine OX ?_)
   refine S31 ?_
   refine OP (d := 55) (fun hg10_8 => ?_) (fun hg10_8 => ?_)
   ·
    try simp only [bsimp] at hg10_8
    refine S61 ?_
    refine S2 ?_
    refine ⟨rfl, ?_, rfl, rfl⟩
    (repeat (first | exact trivial | refine leC ?_ | refine leK ?_ ?_)) <;> first | (refine .inl (congrArg V.bool ?_); (first | (simp [tellB, *]; done) | (simp [tellB, *] <;> omega) | (rw [Bool.eq_iff_iff]; simp [tellB, *] <;> omega) | (simp_all [tellB]; done))) | exact le_rfl' _
   try simp only [bsimp] at hg10_8
   refine S18 ?_
   refine S1 ?_
   refine ⟨rfl, ?_, rfl, rfl⟩
   (repeat (first | exact trivial | refine leC ?_ | refine leK ?_ ?_)) <;> first | (refine .inl (congrArg V.bool ?_); (first | (simp [tellB, *]; done) | (simp [tellB, *] <;> omega) | (rw [Bool.eq_iff_iff]; simp [tellB, *] <;> omega) | (simp_all [tellB]; done))) | exact le_rfl' _
  refine OC (fun hb10 => ?_) (fun hb10 => ?_)
  ·
   try simp only [bsimp] at hb10
   rw [syncText_F hb8 (tell_no hb10)]
   refine S6 ?_
   refine S17 ?_
   refine S6 ?_
   refine S30 ?_
   first | rfl | (simp [V.erase, V.trav, V.travL, V.travLL, packV, zz, zf, zy, hE1, hE2, hE3, hE4, hoP, hot]; done) | (simp [-List.map_append, V.erase, V.trav, V.travL, V.travLL, packV, zz, zf, zy]; done) | (simp [V.erase, V.trav, V.travL, V.travLL, packV, zz, zf, zy]; done)
  try simp only [bsimp] at hb10
  rw [syncText_T hb8 (tell_yes hb10)]
  obtain ⟨o, ho⟩ : ∃ o : Sync, o = { y with link := L1, total := (((readVar T 1).getD (0, 0)).1 : Int) } := ⟨_, rfl⟩
  rw [← ho]
  have hop : o.pieces.flatten.length ≤ 2000000 := by rw [ho]; show y.pieces.flatten.length ≤ _; omega
  have hot : o.total = (((readVar T 1).getD (0, 0)).1 : Int) := by rw [ho]
  have hoP : y.pieces.map cS = o.pieces.map cS := by rw [ho]
  have hol : o.pieces.length ≤ 2097152 := by rw [ho]; exact (by have := h.2.1; show y.pieces.length ≤ _; omega)
  obtain ⟨hE1, hE2, hE3, hE4⟩ : o.epoch = y.epoch ∧ o.link = L1 ∧ o.done = y.done ∧ o.failed = y.failed := by rw [ho]; exact ⟨rfl, rfl, rfl, rfl⟩
  clear ho
  refine Ok.skip ?_
  refine S20 ?_
  refine S17 ?_
  refine Ok.seq ?_
  rw [hoP]
  refine Ok.seqC [(88, .bool (doneB o))] [78, 79, 80, 81, 82, 83, 84, 85, 86, 87] M51 ?_ ?_
  ·
   refine S35 ?_
   refine OP (d := 81) (fun hg16_3 => ?_) (fun hg16_3 => ?_)
   ·
    try simp only [bsimp] at hg16_3
    iterate 6 (refine OU ?_)
    refine S2 ?_
    refine ⟨rfl, ?_, rfl, rfl⟩
    (repeat (first | exact trivial | refine leC ?_ | refine leK ?_ ?_)) <;> first | (refine .inl (congrArg V.bool ?_); (first | (simp [doneB, hot, *]; done) | (simp_all [doneB]; done))) | exact le_rfl' _
   try simp only [bsimp] at hg16_3
   iterate 5 (refine OX ?_)
   refine S39 ?_
   refine ⟨rfl, ?_, rfl, rfl⟩
   (repeat (first | exact trivial | refine leC ?_ | refine leK ?_ ?_)) <;> first | (refine .inl (congrArg V.bool ?_); (first | (simp [doneB, hot, *]; done) | (simp_all [doneB]; done))) | exact le_rfl' _
  refine OC (fun hb16 => ?_) (fun hb16 => ?_)
  ·
   try simp only [bsimp] at hb16
   rw [done_no hb16]
   refine S6 ?_
   refine S30 ?_
   first | rfl | (simp [V.erase, V.trav, V.travL, V.travLL, packV, zz, zf, zy, hE1, hE2, hE3, hE4, hoP, hot]; done) | (simp [-List.map_append, V.erase, V.trav, V.travL, V.travLL, packV, zz, zf, zy]; done) | (simp [V.erase, V.trav, V.travL, V.travLL, packV, zz, zf, zy]; done)
  try simp only [bsimp] at hb16
  rw [done_yes hb16]
  refine Ok.skip ?_
  refine S8 ?_
  refine S50 ?_
  refine Ok.block ?_
  refine Ok.loopW (τ := Nat) (fun x => [(13, .str ((o.pieces.take x).flatten)), (93, .int .i64 (x : Int))]) [15, 94, 95, 96, 97, 98, 99, 100] (fun x => by simp only [kover] <;> rfl) (fun x => x ≤ o.pieces.length) (fun x => o.pieces.length - x) 0 (by (repeat (first | exact trivial | refine leC ?_ | refine leK ?_ ?_)) <;> first | (first | exact le_rfl' _ | exact le_eqm rfl) | exact le_rfl' _) (Nat.zero_le _) ?_
  rintro i h1
  refine S45 ?_
  refine OC (fun hb20 => ?_) (fun hb20 => ?_)
  ·
   try simp only [bsimp] at hb20
   have hi : i < o.pieces.length := by omega
   have hfl := flat_take hi
   have hfb := flatT_le (l := o.pieces) (i + 1)
   rw [hfl, List.length_append] at hfb
   refine S14 ?_
   refine OQ ?_
   refine OkOps.ev tab_ok rfl (ev_idx_map M48 M48 M58 M48) M52 ?_
   refine S1 ?_
   refine S20 ?_
   refine OkOps.ev tab_ok rfl (ev_cat M48 M48 M21) M112 ?_
   refine S2 ?_
   refine S27 ?_
   refine ⟨i + 1, ?_, rfl, rfl, by omega, by omega⟩
   (repeat (first | exact trivial | refine leC ?_ | refine leK ?_ ?_)) <;> first | (first | exact le_rfl' _ | (rw [wrap_add_one (by omega)]; exact le_rfl' _) | (rw [hfl]; exact le_rfl' _)) | exact le_rfl' _
  try simp only [bsimp] at hb20
  rw [show i = o.pieces.length by omega, List.take_length]
  refine Ok.exit ?_
  refine S11 ?_
  refine S30 ?_
  first | rfl | (simp [V.erase, V.trav, V.travL, V.travLL, packV, zz, zf, zy, hE1, hE2, hE3, hE4, hoP, hot]; done) | (simp [-List.map_append, V.erase, V.trav, V.travL, V.travLL, packV, zz, zf, zy]; done) | (simp [V.erase, V.trav, V.travL, V.travLL, packV, zz, zf, zy]; done)
 try simp only [bsimp] at hb8
 refine Ok.seqC [(63, .bool (isB 80 T))] [64, 65, 66, 67, 68, 69, 70] M51 ?_ ?_
 ·
  refine S26 ?_
  refine OP (d := 66) (fun hg14_2 => ?_) (fun hg14_2 => ?_)
  ·
   try simp only [bsimp] at hg14_2
   refine S18 ?_
   refine OkOps.ev tab_ok rfl (ev_byte_lt (j := 0) M48 M48 (List.length_pos_iff.2 (by simpa using hg14_2)) rfl) M52 ?_
   refine OO ?_
   refine S4 ?_
   refine ⟨rfl, ?_, rfl, rfl⟩
   (repeat (first | exact trivial | refine leC ?_ | refine leK ?_ ?_)) <;> first | (refine .inl (congrArg V.bool ?_); (first | exact isB84 _ | exact isB80 _ | (simp_all [isB]; done))) | exact le_rfl' _
  try simp only [bsimp] at hg14_2
  iterate 3 (refine OU ?_)
  refine S1 ?_
  refine ⟨rfl, ?_, rfl, rfl⟩
  (repeat (first | exact trivial | refine leC ?_ | refine leK ?_ ?_)) <;> first | (refine .inl (congrArg V.bool ?_); (first | exact isB84 _ | exact isB80 _ | (simp_all [isB]; done))) | exact le_rfl' _
 refine OC (fun hb14 => ?_) (fun hb14 => ?_)
 ·
  try simp only [bsimp] at hb14
  rw [syncText_P hb8 hb14]
  obtain ⟨r, hxr⟩ := isB_cond.1 hb14
  have hT1 : 1 ≤ T.length := by rw [hxr]; simp
  obtain ⟨o, ho⟩ : ∃ o : Sync, o = { y with link := L1, pieces := y.pieces ++ [T.drop 1] } := ⟨_, rfl⟩
  rw [← ho]
  have hot : o.total = y.total := by rw [ho]
  have hol : o.pieces.length ≤ 2097152 := by rw [ho]; show (y.pieces ++ [_]).length ≤ _; have := h.2.1; simp only [List.length_append, List.length_singleton]; omega
  have hoP : y.pieces.map cS ++ [[V.str (T.drop 1)]] = o.pieces.map cS := by rw [ho]; simp
  obtain ⟨hE1, hE2, hE3, hE4⟩ : o.epoch = y.epoch ∧ o.link = L1 ∧ o.done = y.done ∧ o.failed = y.failed := by rw [ho]; exact ⟨rfl, rfl, rfl, rfl⟩
  have hop : o.pieces.flatten.length ≤ 2000000 := by rw [ho]; show (y.pieces ++ [T.drop 1]).flatten.length ≤ _; simp only [List.flatten_append, List.flatten_cons, List.flatten_nil, List.append_nil, List.length_append, List.length_drop]; omega
  clear ho
  refine Ok.drawn 5 103 [] M56 M56 rfl ?_
  iterate 3 (refine SV ?_)
  refine SOps.ev tab_ok rfl (ev_cutLo (a := 1) M48 M48 rfl M58) M52 ?_
  refine SOps.ev tab_ok rfl (ev_bs M53 M53 M57 M57 M37 M16) M52 ?_
  refine SOps.nil ?_
  refine TOps.append tab_ok rfl rfl M53 M53 M57 rfl M48 (.inl ⟨_, _, by simp only [kE, kT, kL, kC] <;> rfl⟩) M58 M58 (by have := h.2.1; simp only [List.length_map, List.length_cons, List.length_nil]; omega) (by have := h.2.1; simp only [List.length_map, List.length_cons, List.length_nil]; omega) M55 M13 M10 (rfl) ?_
  refine TV ?_
  refine TOps.storeE tab_ok rfl rfl M48 ⟨_, _, by simp only [kE]; rfl⟩ M7 M65 (rfl) ?_
  refine TOps.nil ?_
  refine Ok.seq ?_
  rw [hoP]
  refine Ok.seqC [(88, .bool (doneB o))] [78, 79, 80, 81, 82, 83, 84, 85, 86, 87] M51 ?_ ?_
  ·
   refine S35 ?_
   refine OP (d := 81) (fun hg16_3 => ?_) (fun hg16_3 => ?_)
   ·
    try simp only [bsimp] at hg16_3
    iterate 6 (refine OU ?_)
    refine S2 ?_
    refine ⟨rfl, ?_, rfl, rfl⟩
    (repeat (first | exact trivial | refine leC ?_ | refine leK ?_ ?_)) <;> first | (refine .inl (congrArg V.bool ?_); (first | (simp [doneB, hot, *]; done) | (simp_all [doneB]; done))) | exact le_rfl' _
   try simp only [bsimp] at hg16_3
   iterate 5 (refine OX ?_)
   refine S39 ?_
   refine ⟨rfl, ?_, rfl, rfl⟩
   (repeat (first | exact trivial | refine leC ?_ | refine leK ?_ ?_)) <;> first | (refine .inl (congrArg V.bool ?_); (first | (simp [doneB, hot, *]; done) | (simp_all [doneB]; done))) | exact le_rfl' _
  refine OC (fun hb16 => ?_) (fun hb16 => ?_)
  ·
   try simp only [bsimp] at hb16
   rw [done_no hb16]
   refine S6 ?_
   refine S30 ?_
   first | rfl | (simp [V.erase, V.trav, V.travL, V.travLL, packV, zz, zf, zy, hE1, hE2, hE3, hE4, hoP, hot]; done) | (simp [-List.map_append, V.erase, V.trav, V.travL, V.travLL, packV, zz, zf, zy]; done) | (simp [V.erase, V.trav, V.travL, V.travLL, packV, zz, zf, zy]; done)
  try simp only [bsimp] at hb16
  rw [done_yes hb16]
  refine Ok.skip ?_
  refine S8 ?_
  refine S50 ?_
  refine Ok.block ?_
  refine Ok.loopW (τ := Nat) (fun x => [(13, .str ((o.pieces.take x).flatten)), (93, .int .i64 (x : Int))]) [15, 94, 95, 96, 97, 98, 99, 100] (fun x => by simp only [kover] <;> rfl) (fun x => x ≤ o.pieces.length) (fun x => o.pieces.length - x) 0 (by (repeat (first | exact trivial | refine leC ?_ | refine leK ?_ ?_)) <;> first | (first | exact le_rfl' _ | exact le_eqm rfl) | exact le_rfl' _) (Nat.zero_le _) ?_
  rintro i h1
  refine S45 ?_
  refine OC (fun hb20 => ?_) (fun hb20 => ?_)
  ·
   try simp only [bsimp] at hb20
   have hi : i < o.pieces.length := by omega
   have hfl := flat_take hi
   have hfb := flatT_le (l := o.pieces) (i + 1)
   rw [hfl, List.length_append] at hfb
   refine S14 ?_
   refine OQ ?_
   refine OkOps.ev tab_ok rfl (ev_idx_map M48 M48 M58 M48) M52 ?_
   refine S1 ?_
   refine S20 ?_
   refine OkOps.ev tab_ok rfl (ev_cat M48 M48 M21) M112 ?_
   refine S2 ?_
   refine S27 ?_
   refine ⟨i + 1, ?_, rfl, rfl, by omega, by omega⟩
   (repeat (first | exact trivial | refine leC ?_ | refine leK ?_ ?_)) <;> first | (first | exact le_rfl' _ | (rw [wrap_add_one (by omega)]; exact le_rfl' _) | (rw [hfl]; exact le_rfl' _)) | exact le_rfl' _
  try simp only [bsimp] at hb20
  rw [show i = o.pieces.length by omega, List.take_length]
  refine Ok.exit ?_
  refine S11 ?_
  refine S30 ?_
  first | rfl | (simp [V.erase, V.trav, V.travL, V.travLL, packV, zz, zf, zy, hE1, hE2, hE3, hE4, hoP, hot]; done) | (simp [-List.map_append, V.erase, V.trav, V.travL, V.travLL, packV, zz, zf, zy]; done) | (simp [V.erase, V.trav, V.travL, V.travLL, packV, zz, zf, zy]; done)
 try simp only [bsimp] at hb14
 rw [syncText_X hb8 hb14]
 refine S6 ?_
 refine S17 ?_
 refine S6 ?_
 refine S30 ?_
 first | rfl | (simp [V.erase, V.trav, V.travL, V.travLL, packV, zz, zf, zy, hE1, hE2, hE3, hE4, hoP, hot]; done) | (simp [-List.map_append, V.erase, V.trav, V.travL, V.travLL, packV, zz, zf, zy]; done) | (simp [V.erase, V.trav, V.travL, V.travLL, packV, zz, zf, zy]; done)
end Go.Proofs.YtiipkeendfpddaaGreat.K
