/- More rules, as a walk uses them. Nothing here depends on the program. -/
import Derived.Test.YtjhfabimacljhaaKv
namespace Go.Proofs.Ytjhfabimacljhaa.K
open Go Go.RowKit
set_option linter.unusedVariables false
set_option linter.unusedSimpArgs false

section
variable {P : Program} {ti : Tab} {t t' h h' : List V} {n n' c : Nat} {Q : Exit → List V → List V → Nat → Prop} {ops : Array Oper} {o : Oper} {l : List Oper} {X : V}
theorem OkCall.enter' (hti : TabOk P ti) {f : FuncId} {fn : Func} {c : Code} {args : List V} {Q : V → List V → Nat → Prop} (hf : P.funcs[f]? = some fn) (hb : fn.body = some c)
    (ht : args ++ List.replicate (fn.ntmps - args.length) .any = t) (hk : Ok P c t h n (retQ ti fn Q)) : OkCall P f args h n Q := OkCall.enter hti hf hb (ht ▸ hk)
/-- A call that turns one element of one array. -/
theorem OkOps.upd {fx : Operand} {args : Array Operand} {ts : Array TypeId} {f : FuncId} {caps as : List V} {L j : Nat} {e' : List V} {x : V} (hg : o.guard = none) (ho : o.op = .call ⟨.value fx, args, ts⟩) (hf : opnd t fx = .fn f caps) (ha : args.toList.map (opnd t) ++ caps = as)
    (hcl : Callable P f) (hc : ∀ h, OkCall P f as h n fun r h1 n1 => r = x ∧ h1 = V.updL L j e' h ∧ n1 = n) (ht : putV (V.updL L j e' t) o.dst x = t') (hh : V.updL L j e' h = h') (hk : OkOps P ops l t' h' n Q) : OkOps P ops (o :: l) t h n Q := by
  refine OkOps.step hg (t' := t') (h' := h') (n' := n) ?_ hk
  rw [← ht, ← hh]
  refine OpOk.call ho hf hcl ?_ ?_
  · unfold V.updL; rw [travL_len]
  · rw [ha]
    refine (hc (t ++ h)).mono ?_
    rintro r h1 n1 ⟨rfl, rfl, rfl⟩
    exact ⟨rfl, by unfold V.updL; rw [travL_eq, travL_eq, travL_eq, List.map_append], rfl⟩
theorem OkOps.S0 (hg : o.guard = none) (hs : OpS P o t n X 0) (ht : putV t o.dst X = t') (hk : OkOps P ops l t' h n Q) : OkOps P ops (o :: l) t h n Q := OkOps.S hg hs ht hk
theorem SOps.S0 {Q : List V → Nat → Prop} (hg : o.guard = none) (hs : OpS P o (mask (o.looksAt ops) t) n X 0) (ht : putV t o.dst X = t') (hk : SOps P ops l t' n Q) : SOps P ops (o :: l) t n Q := SOps.S hg hs ht hk
theorem SOps.onS0 {Q : List V → Nat → Prop} {j d : Nat} {want : Bool} (hg : o.guard = some (j, want)) (hd : (ops[j]?).bind (·.dst) = some d) (hb : nth t d = .bool want) (hs : OpS P o (mask (o.looksAt ops) t) n X 0) (ht : putV t o.dst X = t') (hk : SOps P ops l t' n Q) : SOps P ops (o :: l) t n Q := SOps.onS hg hd hb hs ht hk
theorem OkOps.S' (hg : o.guard = none) (hs : OpS P o t n X c) (hn : n + c = n') (ht : putV t o.dst X = t') (hk : OkOps P ops l t' h n' Q) : OkOps P ops (o :: l) t h n Q :=
  OkOps.S hg hs ht (hn ▸ hk)
theorem SOps.S' {Q : List V → Nat → Prop} (hg : o.guard = none) (hs : OpS P o (mask (o.looksAt ops) t) n X c) (hn : n + c = n') (ht : putV t o.dst X = t') (hk : SOps P ops l t' n' Q) : SOps P ops (o :: l) t n Q :=
  SOps.S hg hs ht (hn ▸ hk)
theorem TOps.S0 (hg : o.guard = none) (hs : OpS P o t n X 0) (ht : putV t o.dst X = t') (hk : TOps P ops [] Q l t' h n) : TOps P ops [] Q (o :: l) t h n :=
  TOps.ok h hg (ht ▸ hs.ok) hk
theorem TOps.S (hg : o.guard = none) (hs : OpS P o t n X c) (ht : putV t o.dst X = t') (hk : TOps P ops [] Q l t' h (n + c)) : TOps P ops [] Q (o :: l) t h n :=
  TOps.ok h hg (ht ▸ hs.ok) hk
theorem TOps.S' (hg : o.guard = none) (hs : OpS P o t n X c) (hn : n + c = n') (ht : putV t o.dst X = t') (hk : TOps P ops [] Q l t' h n') : TOps P ops [] Q (o :: l) t h n :=
  TOps.S hg hs ht (hn ▸ hk)
end

section
variable {P : Program} {t : List V} {ops : Array Oper} {o : Oper}
/-- A call that tells numbers and texts alone may look at the caller's own memory. -/
theorem OpS.weakE {fx : Operand} {args : Array Operand} {ts : Array TypeId} {f : FuncId} {caps as : List V} {x : V} {r : Nat} (ho : o.op = .call ⟨.value fx, args, ts⟩) (hf : opnd t fx = .fn f caps) (ha : V.eraseL (args.toList.map (opnd t) ++ caps) = as) (hcl : Callable P f) (hx : V.labels x = []) (hp : Weak P f as x) : OpS P o t r x 0 := by
  subst ha
  intro base σ w ρ hb h0 hσ hρ hr _
  obtain ⟨fn, hfn, hbody, hname⟩ := hcl
  have hm := hρ fx
  rw [hf] at hm
  obtain ⟨cs, hcs, hfv⟩ : ∃ cs : List Value, Ms base σ w caps cs ∧ ρ fx = .func (.func f) #[] cs.toArray := by
    generalize ρ fx = fv at hm
    cases hm with
    | fn _ _ vs h1 h6 => exact ⟨vs, ⟨h1, h6⟩, rfl⟩
  have hargs : Ms base σ w (args.toList.map (opnd t)) (args.toList.map ρ) := by
    refine ⟨by simp, fun i x u hx hu => ?_⟩
    rw [List.getElem?_map] at hx hu
    obtain ⟨q, hq, rfl⟩ := Option.map_eq_some_iff.1 hx
    rw [hq] at hu
    obtain rfl := Option.some.inj hu
    exact hρ q
  have hall := Ms.erase (base' := bare w.heap.size) (fun _ h => h) (hargs.append hcs)
  refine .inr ⟨f, (args.toList.map ρ ++ cs).toArray, ?_, ?_⟩
  · have hargs' : (#[] ++ args.map ρ ++ cs.toArray : Array Value) = (args.toList.map ρ ++ cs).toArray := by
      apply Array.ext'
      simp
    simp only [execOp, ho, resolve, hfv, Deferred.ofValue, Sem.run_bind, Sem.run_pure, Result.andThen_ok, invoke, callFunc, run_program, hfn, hname, hbody, Bool.false_eq_true, if_false, hargs']
  · refine (hp (bare w.heap.size) noSig w _ (fun _ h => h.elim) rfl (fun _ _ _ _ h => by simp [noSig] at h) hall).mono ?_
    rintro e w' ⟨v, rfl, hm', bel⟩
    refine ⟨v, rfl, σ, bel, fun _ _ => rfl, fun L _ _ _ h1 h2 => by omega, fun _ _ _ _ _ _ _ h1 h2 => by omega, ?_⟩
    exact hm'.as fun L hL => by rw [hx] at hL; cases hL
theorem OpS.weakEM {fx : Operand} {args : Array Operand} {ts : Array TypeId} {f : FuncId} {caps as : List V} {x : V} {r : Nat} (ho : o.op = .call ⟨.value fx, args, ts⟩) (hf : opnd t fx = .fn f caps) (ha : V.eraseL (args.toList.map (opnd t) ++ caps) = as) (hcl : Callable P f) (hx : V.labels x = []) (hp : Weak P f as x) : OpS P o (mask (o.looksAt ops) t) r x 0 :=
  OpS.weakE ho ((callMask ho).1.trans hf) (by rw [(callMask ho).2]; exact ha) hcl hx hp
end
/-- Slots laid over a frame. -/
def overW : List (Nat × V) → List V → List V
  | [], t => t
  | (d, x) :: l, t => overW l (setN t d x)
def overD : List Nat → List V → List V
  | [], t => t
  | d :: l, t => overD l (setN t d .any)
theorem kover : (∀ (t : List V), overW [] t = t) ∧ (∀ (d : Nat) (x : V) (l : List (Nat × V)) (t : List V), overW ((d, x) :: l) t = overW l (setN t d x)) ∧ (∀ (t : List V), overD [] t = t) ∧ (∀ (d : Nat) (l : List Nat) (t : List V), overD (d :: l) t = overD l (setN t d .any)) ∧
    (∀ (y : V) (l : List V) (x : V), setN (y :: l) 0 x = x :: l) ∧ (∀ (y : V) (l : List V) (i : Nat) (x : V), setN (y :: l) (i + 1) x = y :: setN l i x) :=
  ⟨fun _ => rfl, fun _ _ _ _ => rfl, fun _ => rfl, fun _ _ _ => rfl, kput_2, kput_3⟩
section
variable {P : Program} {t h : List V} {n : Nat} {Q : Exit → List V → List V → Nat → Prop}
/-- A region whose end is told as one frame, whatever way it went. -/
theorem Ok.seqC {x y : Code} {F : List V} (W : List (Nat × V)) (dead : List Nat) (hF : overW W (overD dead t) = F) (hx : Ok P x t h n (fun e t' h' n1 => e = .normal ∧ leL t' F ∧ h' = h ∧ n1 = n)) (hy : Ok P y F h n Q) : Ok P (.seq x y) t h n Q := by
  refine Ok.seq (hx.mono ?_)
  rintro e t' h' n1 ⟨rfl, hl, rfl, rfl⟩
  exact Ok.forget (leL_spec hl).1 (leL_spec hl).2 hy
theorem Ok.loopW {τ : Type} {c : Code} {F : τ → List V} (W : τ → List (Nat × V)) (dead : List Nat) (hF : ∀ x, overW (W x) (overD dead t) = F x) (p : τ → Prop) (m : τ → Nat) (x : τ) (hle : leL t (F x)) (hp : p x)
    (round : ∀ x, p x → Ok P c (F x) h n (thenQ (fun t' h' n' => ∃ y, leL t' (F y) ∧ h' = h ∧ n' = n ∧ p y ∧ m y < m x) Q)) : Ok P (.loop c) t h n Q := Ok.loopF F p m x hle hp round
theorem Ok.loopWZ {τ : Type} {c : Code} {F : τ → List V} (W : τ → List (Nat × V)) (dead : List Nat) (hF : ∀ x, overW (W x) (overD dead t) = F x) (p : τ → Prop) (m : τ → Nat) (x : τ) (hn : 1 ≤ n) (hle : leL t (F x)) (hp : p x)
    (round : ∀ x, p x → Ok P c (F x) h n (thenQ (fun t' h' _ => ∃ y, leL (V.renL (frz n) t') (F y) ∧ V.renL (frz n) h' = h ∧ p y ∧ m y < m x) Q)) : Ok P (.loop c) t h n Q := Ok.loopZ F p m x hn hle hp round
/-- A loop in which the callers' values turn too. -/
theorem Ok.loopH {τ : Type} {c : Code} {F : τ → List V} (W : τ → List (Nat × V)) (dead : List Nat) (hF : ∀ x, overW (W x) (overD dead t) = F x) (H : τ → List V) (p : τ → Prop) (m : τ → Nat) (x : τ) (hle : leL t (F x)) (hH : h = H x) (hp : p x)
    (round : ∀ x, p x → Ok P c (F x) (H x) n (thenQ (fun t' h' n' => ∃ y, leL t' (F y) ∧ h' = H y ∧ n' = n ∧ p y ∧ m y < m x) Q)) : Ok P (.loop c) t h n Q := by
  refine Ok.loop (fun x t' h' n' => leL t' (F x) ∧ h' = H x ∧ n' = n ∧ p x) m x ⟨hle, hH, rfl, hp⟩ ?_
  rintro x t' h' n' ⟨h1, rfl, rfl, h4⟩
  refine Ok.forget (leL_spec h1).1 (leL_spec h1).2 ((round x h4).mono ?_)
  intro e t2 h2 n2 hq
  cases e with
  | normal => obtain ⟨y, a, b, c, d, e⟩ := hq; exact ⟨y, ⟨a, b, c, d⟩, e⟩
  | exit id => exact hq
  | goto l => exact hq
  | ret => exact hq
  | panic ch => exact hq
  | outgrown => exact hq
end

section
variable {ti : Tab} {t : List V} {n : Nat}
theorem ev_idx_map {α : Type} {f : α → List V} {xs : List α} {ty T : TypeId} {x ix : Operand} {L sz off j : Nat} {k : IntKind} (hx : opnd t x = .sl L sz off (xs.map f)) (hi : opnd t ix = .int k (j : Int)) (hj : j < xs.length) (hz : esz ti T = some (f xs[j]).length) :
    ev1 ti t n ty (.indexAddr T x ix) = some (.ptr L (off + j) 0 (f xs[j]), n) :=
  ev_idx hx hi (by rw [List.getElem?_map, List.getElem?_eq_getElem hj]; rfl) hz
theorem ev_byte_lt {ty T : TypeId} {x ix : Operand} {j : Nat} {k : IntKind} {s : List UInt8} {s1 b1 : Nat} {z : List V} (hx : opnd t x = .str s) (hi : opnd t ix = .int k (j : Int)) (hj : j < s.length) (hz : ti T = some ⟨.str, s1, b1, z⟩) :
    ev1 ti t n ty (.index T x ix) = some (.int .u8 (s[j].toNat : Int), n) := ev_byte hx hi (List.getElem?_eq_getElem hj) hz
theorem ev_cat {ty T T' : TypeId} {x y : Operand} {a b : List UInt8} (hx : opnd t x = .str a) (hy : opnd t y = .str b) (hl : a.length + b.length ≤ 9223372036854775807) : ev1 ti t n ty (.binOp .add T x y T') = some (.str (a ++ b), n) := by
  simp only [ev1, hx, hy, binV, strBin, if_pos hl, Option.map_some]
theorem ev_shl {ty T T' : TypeId} {x y : Operand} {k k' : IntKind} {a b : Int} (hx : opnd t x = .int k a) (hy : opnd t y = .int k' b) (hb : 0 ≤ b) : ev1 ti t n ty (.binOp .shl T x y T') = some (.int k (k.wrap (a * 2 ^ min b.toNat k.bits)), n) := by
  simp only [ev1, hx, hy, binV, if_neg (show ¬ b < 0 by omega), Option.map_some]
theorem ev_shr {ty T T' : TypeId} {x y : Operand} {k k' : IntKind} {a b : Int} (hx : opnd t x = .int k a) (hy : opnd t y = .int k' b) (hb : 0 ≤ b) : ev1 ti t n ty (.binOp .shr T x y T') = some (.int k (k.wrap (a.fdiv (2 ^ min b.toNat k.bits))), n) ∨ ev1 ti t n ty (.binOp .shr T x y T') = some (.int k (a.fdiv (2 ^ min b.toNat k.bits)), n) := by
  right
  simp only [ev1, hx, hy, binV, if_neg (show ¬ b < 0 by omega), Option.map_some]
theorem bound_some {m b : Nat} {k : IntKind} (h : b ≤ m) : boundV m (some (.int k (b : Int))) = some b := by
  simp only [boundV]
  rw [if_pos ⟨by omega, by omega⟩]
  simp
/-- s[a:b]; the missing bounds as they are. -/
theorem ev_cut {ty T : TypeId} {x lo hi : Operand} {s : List UInt8} {k k' : IntKind} {a b s1 b1 : Nat} {z : List V} (hx : opnd t x = .str s) (hlo : opnd t lo = .int k (a : Int)) (hhi : opnd t hi = .int k' (b : Int)) (hT : ti T = some ⟨.str, s1, b1, z⟩) (h1 : a ≤ b) (h2 : b ≤ s.length) :
    ev1 ti t n ty (.slice T x (some lo) (some hi) none) = some (.str ((s.take b).drop a), n) := by
  simp only [ev1, hx, Option.map_some, hlo, hhi, sliceV, hT, bound_some h2, Option.bind_some, lowV, bound_some h1]
theorem ev_cutHi {ty T : TypeId} {x hi : Operand} {s : List UInt8} {k' : IntKind} {b s1 b1 : Nat} {z : List V} (hx : opnd t x = .str s) (hhi : opnd t hi = .int k' (b : Int)) (hT : ti T = some ⟨.str, s1, b1, z⟩) (h2 : b ≤ s.length) :
    ev1 ti t n ty (.slice T x none (some hi) none) = some (.str (s.take b), n) := by
  simp only [ev1, hx, Option.map_some, Option.map_none, hhi, sliceV, hT, bound_some h2, Option.bind_some, lowV, List.drop_zero]
theorem ev_cutLo {ty T : TypeId} {x lo : Operand} {s : List UInt8} {k : IntKind} {a s1 b1 : Nat} {z : List V} (hx : opnd t x = .str s) (hlo : opnd t lo = .int k (a : Int)) (hT : ti T = some ⟨.str, s1, b1, z⟩) (h1 : a ≤ s.length) :
    ev1 ti t n ty (.slice T x (some lo) none none) = some (.str (s.drop a), n) := by
  simp only [ev1, hx, Option.map_some, Option.map_none, hlo, sliceV, hT, boundV, Option.bind_some, lowV]
  rw [if_pos ⟨by omega, by omega⟩]
  simp
/-- xs[a:b] of a slice. -/
theorem ev_part {ty T e : TypeId} {x lo hi : Operand} {L sz off : Nat} {es : List (List V)} {k k' : IntKind} {a b s1 b1 : Nat} {z : List V} (hx : opnd t x = .sl L sz off es) (hlo : opnd t lo = .int k (a : Int)) (hhi : opnd t hi = .int k' (b : Int)) (hT : ti T = some ⟨.slice e, s1, b1, z⟩)
    (he : (ti e).map (·.size) = some sz) (h1 : a ≤ b) (h2 : b ≤ es.length) : ev1 ti t n ty (.slice T x (some lo) (some hi) none) = some (.sl L sz (off + a) ((es.take b).drop a), n) := by
  simp only [ev1, hx, Option.map_some, hlo, hhi, sliceV, hT, bound_some h2, Option.bind_some, lowV, bound_some h1, he, if_true]
theorem ev_partHi {ty T e : TypeId} {x hi : Operand} {L sz off : Nat} {es : List (List V)} {k' : IntKind} {b s1 b1 : Nat} {z : List V} (hx : opnd t x = .sl L sz off es) (hhi : opnd t hi = .int k' (b : Int)) (hT : ti T = some ⟨.slice e, s1, b1, z⟩)
    (he : (ti e).map (·.size) = some sz) (h2 : b ≤ es.length) : ev1 ti t n ty (.slice T x none (some hi) none) = some (.sl L sz off (es.take b), n) := by
  simp only [ev1, hx, Option.map_some, Option.map_none, hhi, sliceV, hT, bound_some h2, Option.bind_some, lowV, he, if_true, List.drop_zero, Nat.add_zero]
theorem ev_partLo {ty T e : TypeId} {x lo : Operand} {L sz off : Nat} {es : List (List V)} {k : IntKind} {a s1 b1 : Nat} {z : List V} (hx : opnd t x = .sl L sz off es) (hlo : opnd t lo = .int k (a : Int)) (hT : ti T = some ⟨.slice e, s1, b1, z⟩)
    (he : (ti e).map (·.size) = some sz) (h1 : a ≤ es.length) : ev1 ti t n ty (.slice T x (some lo) none none) = some (.sl L sz (off + a) (es.drop a), n) := by
  simp only [ev1, hx, Option.map_some, Option.map_none, hlo, sliceV, hT, boundV, Option.bind_some, lowV]
  rw [if_pos ⟨by omega, by omega⟩]
  simp [he]
theorem ev_part_map {α : Type} {f : α → List V} {xs : List α} {ty T e : TypeId} {x lo hi : Operand} {L sz off : Nat} {k k' : IntKind} {a b s1 b1 : Nat} {z : List V} (hx : opnd t x = .sl L sz off (xs.map f)) (hlo : opnd t lo = .int k (a : Int)) (hhi : opnd t hi = .int k' (b : Int)) (hT : ti T = some ⟨.slice e, s1, b1, z⟩)
    (he : (ti e).map (·.size) = some sz) (h1 : a ≤ b) (h2 : b ≤ xs.length) : ev1 ti t n ty (.slice T x (some lo) (some hi) none) = some (.sl L sz (off + a) (((xs.take b).drop a).map f), n) := by
  rw [List.map_drop, List.map_take]; exact ev_part hx hlo hhi hT he h1 (by rw [List.length_map]; exact h2)
theorem ev_partHi_map {α : Type} {f : α → List V} {xs : List α} {ty T e : TypeId} {x hi : Operand} {L sz off : Nat} {k' : IntKind} {b s1 b1 : Nat} {z : List V} (hx : opnd t x = .sl L sz off (xs.map f)) (hhi : opnd t hi = .int k' (b : Int)) (hT : ti T = some ⟨.slice e, s1, b1, z⟩)
    (he : (ti e).map (·.size) = some sz) (h2 : b ≤ xs.length) : ev1 ti t n ty (.slice T x none (some hi) none) = some (.sl L sz off ((xs.take b).map f), n) := by
  rw [List.map_take]; exact ev_partHi hx hhi hT he (by rw [List.length_map]; exact h2)
theorem ev_partLo_map {α : Type} {f : α → List V} {xs : List α} {ty T e : TypeId} {x lo : Operand} {L sz off : Nat} {k : IntKind} {a s1 b1 : Nat} {z : List V} (hx : opnd t x = .sl L sz off (xs.map f)) (hlo : opnd t lo = .int k (a : Int)) (hT : ti T = some ⟨.slice e, s1, b1, z⟩)
    (he : (ti e).map (·.size) = some sz) (h1 : a ≤ xs.length) : ev1 ti t n ty (.slice T x (some lo) none none) = some (.sl L sz (off + a) ((xs.drop a).map f), n) := by
  rw [List.map_drop]; exact ev_partLo hx hlo hT he (by rw [List.length_map]; exact h1)
theorem ev_bs {ty T e : TypeId} {len : Nat} {parts : Array (Nat × Operand)} {s1 b1 sz b : Nat} {z1 z : List V} {k : Kind} {ps : List (Nat × V)} {es : List (List V)} (hT : ti T = some ⟨.slice e, s1, b1, z1⟩) (he : ti e = some ⟨k, sz, b, z⟩) (hl : len ≠ 0)
    (h1 : len * sz ≤ 16777216 ∧ 0 < sz ∧ z.length = sz) (hp : (parts.toList.map fun p => (p.1, opnd t p.2)) = ps) (hf : fillE sz (List.replicate len z) ps = some es) : ev1 ti t n ty (.buildSlice T len parts) = some (.sl n sz 0 es, n + 1) := by
  simp only [ev1, hT, he, if_neg hl, if_pos h1, hp, hf, Option.map_some]
def convW (ti : Tab) (i j : Option TInfo) (x : V) : Option V :=
  match i, j, x with
  | some _, some ⟨.int k, _, _, _⟩, .int _ n => some (.int k (k.wrap n))
  | some ⟨.str, _, _, _⟩, some ⟨.str, _, _, _⟩, .str s => some (.str s)
  | some ⟨.slice e, _, _, _⟩, some ⟨.str, _, _, _⟩, .sl _ _ _ es => (ti e).bind fun i => match i.kind with | .int .u8 => (bytesV es).map .str | _ => none
  | some ⟨.slice e, _, _, _⟩, some ⟨.str, _, _, _⟩, .nil _ => (ti e).bind fun i => match i.kind with | .int .u8 => some (.str []) | _ => none
  | _, _, _ => none
theorem kcv : (∀ (ti : Tab) (s d : TypeId) (x : V), convV ti s d x = convW ti (ti s) (ti d) x) ∧ (∀ (ti : Tab) (i : TInfo) (k k' : IntKind) (a b : Nat) (z : List V) (n : Int), convW ti (some i) (some ⟨.int k, a, b, z⟩) (.int k' n) = some (.int k (k.wrap n))) ∧ (∀ (α β : Type) (f : α → β) (x : α), (some x).map f = some (f x)) :=
  ⟨fun _ _ _ _ => rfl, fun _ _ _ _ _ _ _ _ => rfl, fun _ _ _ _ => rfl⟩
theorem kfe : (∀ (sz : Nat) (es : List (List V)), fillE sz es [] = some es) ∧ (∀ (sz : Nat) (es : List (List V)) (i : Nat) (x : V) (r : List (Nat × V)), fillE sz es ((i, x) :: r) = if x.known && (cellsV x).length == sz && decide (i < es.length) then fillE sz (es.set i (cellsV x)) r else none) ∧
    (∀ k m, (V.int k m).known = true) ∧ (∀ s, (V.str s).known = true) ∧ (∀ b, (V.bool b).known = true) ∧ (∀ c, (V.agg c).known = true) ∧ (∀ a b c d, (V.sl a b c d).known = true) ∧ (∀ a, (V.nil a).known = true) ∧
    (∀ k m, cellsV (V.int k m) = [.int k m]) ∧ (∀ s, cellsV (V.str s) = [.str s]) ∧ (∀ b, cellsV (V.bool b) = [.bool b]) ∧ (∀ c, cellsV (V.agg c) = c) ∧ (∀ a b c d, cellsV (V.sl a b c d) = [.sl a b c d]) ∧ (∀ a, cellsV (V.nil a) = [.nil a]) ∧
    (∀ (n : Nat) (z : List V), List.replicate (n + 1) z = z :: List.replicate n z) ∧ (∀ z : List V, List.replicate 0 z = []) ∧ (∀ (x y : List V) (l : List (List V)), (x :: l).set 0 y = y :: l) ∧ (∀ (x y : List V) (l : List (List V)) (i : Nat), (x :: l).set (i + 1) y = x :: l.set i y) ∧ (∀ (x : List V) (l : List (List V)), (x :: l).length = l.length + 1) ∧ ([] : List (List V)).length = 0 ∧
    (∀ (x : V) (l : List V), (x :: l).length = l.length + 1) ∧ ([] : List V).length = 0 :=
  ⟨fun _ _ => rfl, fun _ _ _ _ _ => rfl, fun _ _ => rfl, fun _ => rfl, fun _ => rfl, fun _ => rfl, fun _ _ _ _ => rfl, fun _ => rfl, fun _ _ => rfl, fun _ => rfl, fun _ => rfl, fun _ => rfl, fun _ _ _ _ => rfl, fun _ => rfl, fun _ _ => rfl, fun _ => rfl, fun _ _ _ => rfl, fun _ _ _ _ => rfl, fun _ _ => rfl, rfl, fun _ _ => rfl, rfl⟩
abbrev cB (b : UInt8) : List V := [.int .u8 (b.toNat : Int)]
theorem bytesV_map (xs : List UInt8) : bytesV (xs.map cB) = some xs := by
  induction xs with
  | nil => rfl
  | cons x xs ih => simp only [List.map_cons, bytesV, ih, Option.map_some, Int.toNat_natCast, UInt8.ofNat_toNat]
theorem ev_text {ty s d e : TypeId} {x : Operand} {L sz off : Nat} {xs : List UInt8} {s1 b1 s2 b2 s3 b3 : Nat} {z1 z2 z3 : List V} (hx : opnd t x = .sl L sz off (xs.map cB)) (hs : ti s = some ⟨.slice e, s1, b1, z1⟩) (hd : ti d = some ⟨.str, s2, b2, z2⟩) (he : ti e = some ⟨.int .u8, s3, b3, z3⟩) :
    ev1 ti t n ty (.convert s d x) = some (.str xs, n) := by
  simp only [ev1, hx, convV, hs, hd, he, Option.bind_some, bytesV_map, Option.map_some]
end
end Go.Proofs.Ytjhfabimacljhaa.K
