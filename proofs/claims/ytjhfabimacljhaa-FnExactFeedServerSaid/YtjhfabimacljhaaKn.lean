/- Stores, make, append. Nothing here depends on the program. -/
import Derived.Test.YtjhfabimacljhaaKm
import Derived.Laws.AppendOwn
namespace Go.Proofs.Ytjhfabimacljhaa.K
open Go Go.RowKit

section
variable {P : Program} {ti : Tab} {t h : List V} {n : Nat} {o : Oper}

/-- Cells stored one behind the other into a block. -/
theorem storeCells_run (b q : Nat) (et : TypeId) (fr : Nat × Nat) : ∀ (vs : List Value) (i : Nat) (cur : Array Value) (w : World), w.heap[b]? = some (.cells cur et fr) → Nf fr cur.size → q + i + vs.length ≤ cur.size → (∀ v ∈ vs, v.oneCell' = true) →
    ∃ w' cur', (storeCells ⟨b, q, none⟩ vs i).run P w = .ok () w' ∧ w'.heap[b]? = some (.cells cur' et fr) ∧ cur'.size = cur.size ∧
      (∀ p, cur'[p]? = if q + i ≤ p ∧ p < q + i + vs.length then vs[p - (q + i)]? else cur[p]?) ∧ (∀ k, k ≠ b → w'.heap[k]? = w.heap[k]?) ∧
      w'.os = w.os ∧ w'.tape = w.tape ∧ w'.output = w.output ∧ w'.heap.size = w.heap.size
  | [], i, cur, w, hb, hnf, hsz, h1 => ⟨w, cur, rfl, hb, rfl, fun p => by rw [if_neg (by simp)], fun _ _ => rfl, rfl, rfl, rfl, rfl⟩
  | v :: vs, i, cur, w, hb, hnf, hsz, h1 => by
    simp only [List.length_cons] at hsz
    have hadd := add_none b q i
    have hcell : w.cell? ⟨b, q + i, none⟩ = some (cur[q + i]'(by omega)) := by rw [cell_at hb]; exact Array.getElem?_eq_getElem _
    have hfz : w.frozen? ⟨b, q + i, none⟩ = false := by
      simp only [World.frozen?, hb]
      rcases hnf with h | h <;> simp <;> omega
    have hrun : (store (⟨b, q + i, none⟩ : Addr) v).run P w = .ok () (w.setCell ⟨b, q + i, none⟩ v) := by
      rw [run_store P w _ _ _ (h1 v List.mem_cons_self), hcell]
      simp [hfz]
    have hb' : (w.setCell ⟨b, q + i, none⟩ v).heap[b]? = some (.cells (cur.setIfInBounds (q + i) v) et fr) := by
      simp [World.setCell, Array.getElem?_modify, hb]
    obtain ⟨w', cur', h2, h3, h4, h5, h6, h7, h8, h9, h10⟩ := storeCells_run b q et fr vs (i + 1) _ _ hb' (by rw [Array.size_setIfInBounds]; exact hnf) (by rw [Array.size_setIfInBounds]; omega) (fun u hu => h1 u (List.mem_cons_of_mem _ hu))
    refine ⟨w', cur', ?_, h3, by rw [h4, Array.size_setIfInBounds], fun p => ?_, fun k hk => (h6 k hk).trans (Below.heap_setCell _ _ _ _ hk), h7, h8, h9, by rw [h10]; simp [World.setCell]⟩
    · simp only [storeCells, hadd, Sem.run_bind, hrun, Result.andThen_ok]
      exact h2
    · rw [h5 p]
      simp only [List.length_cons]
      by_cases hp : q + (i + 1) ≤ p ∧ p < q + (i + 1) + vs.length
      · rw [if_pos hp, if_pos (by omega)]
        rw [show p - (q + i) = (p - (q + (i + 1))) + 1 by omega]
        rfl
      · rw [if_neg hp, Array.getElem?_setIfInBounds]
        by_cases hq : q + i = p
        · subst hq
          rw [if_pos rfl, if_pos (by omega), if_pos (by omega)]
          simp
        · rw [if_neg hq, if_neg (by omega)]

theorem Ms.setAt_ {base : Base} {σ : Sig} {w : World} (seg : List V) : ∀ (e : List V) (o : Nat) (u : Nat → Value) (l : List Value), (∀ (c : Nat) x, e[c]? = some x → M base σ w x (u c)) → Ms base σ w seg l → o + seg.length ≤ e.length →
    ∀ (c : Nat) x, (setAt e o seg)[c]? = some x → M base σ w x (if o ≤ c ∧ c < o + seg.length then l.getD (c - o) undef else u c) := by
  induction seg with
  | nil => intro e o u l he hl _ c x hx; rw [if_neg (by simp)]; exact he c x hx
  | cons y seg ih =>
    intro e o u l he hl hle c x hx
    cases l with
    | nil => have := hl.1; simp at this
    | cons v l =>
      simp only [List.length_cons] at hle
      have htail : Ms base σ w seg l := ⟨by have := hl.1; simpa using this, fun i y v hy hv => hl.2 (i + 1) y v hy hv⟩
      have hy : M base σ w y v := hl.2 0 y v rfl rfl
      have hset : ∀ (c : Nat) x, (e.set o y)[c]? = some x → M base σ w x ((fun c => if c = o then v else u c) c) := by
        intro c x hx
        rw [List.getElem?_set] at hx
        by_cases hc : o = c
        · rw [if_pos hc] at hx
          split at hx
          · obtain rfl := Option.some.inj hx
            simp only [hc, if_true]; exact hy
          · cases hx
        · rw [if_neg hc] at hx
          simp only []
          rw [if_neg (fun e => hc e.symm)]
          exact he c x hx
      have := ih (e.set o y) (o + 1) _ l hset htail (by rw [List.length_set]; omega) c x hx
      simp only [List.length_cons]
      by_cases h1 : o + 1 ≤ c ∧ c < o + 1 + seg.length
      · rw [if_pos h1] at this
        rw [if_pos (by omega)]
        rw [show c - o = (c - (o + 1)) + 1 by omega]
        exact this
      · rw [if_neg h1] at this
        by_cases h2 : c = o
        · subst h2
          rw [if_pos (by omega)]
          simp only [if_true] at this
          simpa using this
        · rw [if_neg (by omega)]
          rw [if_neg h2] at this
          exact this

/-- What a store leaves: the element's cells. -/
def storeV (i : TInfo) (p x : V) : Option (Nat × Nat × List V) :=
  match p with
  | .ptr L j o e => if x.known && (cellsV x).length == i.size && (cellsV x).all V.one && decide (o + (cellsV x).length ≤ e.length) && L != 0 then some (L, j, setAt e o (cellsV x)) else none
  | _ => none

theorem ok_store {T : TypeId} {i : TInfo} {p x : Operand} {L j : Nat} {e' : List V} (ht : TOk P T i) (ho : o.op = .store T p x) (hs : storeV i (opnd t p) (opnd t x) = some (L, j, e')) (hfree : L ∉ V.labelsL e') :
    OpOk P o t h n (putV (V.updL L j e' t) o.dst .any) (V.updL L j e' h) n := by
  intro base w0 hv σ a w g K Q hK
  have hp := opnd_M g.ts p
  have hx := opnd_M g.ts x
  generalize hpv : a.eval p = pv at hp
  generalize hxv : a.eval x = xv at hx
  generalize opnd t p = pp at hs hp
  generalize opnd t x = xx at hs hx
  unfold storeV at hs
  split at hs
  · rename_i L0 j0 o0 e0
    split at hs
    · rename_i hc
      simp only [Bool.and_eq_true, beq_iff_eq, decide_eq_true_eq, bne_iff_ne, ne_eq, List.all_eq_true] at hc
      obtain ⟨⟨⟨⟨hk, hsz⟩, hone⟩, hle⟩, hL⟩ := hc
      simp only [Option.some.injEq, Prod.mk.injEq] at hs
      obtain ⟨rfl, rfl, rfl⟩ := hs
      have hcells := cells_M hk hx
      have hlen : (cellsV xx).length = xv.cells.size := by simpa using hcells.1
      cases hp with
      | ptr _ _ _ _ ad u h4 h5 h6 =>
        rcases h4 with ⟨h0, _⟩ | ⟨b, oo, cur, et, fr, hσ, rfl, hh, hnf, hroom⟩
        · exact absurd h0 hL
        · have hone' : ∀ v ∈ xv.cells.toList, v.oneCell' = true := by
            intro v hv
            obtain ⟨q, hq⟩ := List.mem_iff_getElem?.1 hv
            have hql : q < (cellsV xx).length := by have := (List.getElem?_eq_some_iff.1 hq).1; rw [hcells.1]; exact this
            have hxq : (cellsV xx)[q]? = some (cellsV xx)[q] := List.getElem?_eq_getElem hql
            exact one_cell (hone _ (List.mem_of_getElem? hxq)) (hcells.2 q _ v hxq hq)
          obtain ⟨w', cur', hrun, hb', hsize, hcur, hoth, hos, htape, hout, hhs⟩ := storeCells_run (P := P) b (oo + j0 * e0.length + o0) et fr xv.cells.toList 0 cur w hh hnf (by simp; omega) hone'
          rw [Nat.add_zero] at hcur
          have hput : Put base σ w w' L0 j0 (setAt e0 o0 (cellsV xx)) := by
            refine ⟨b, oo, e0.length, cur, cur', et, fr, fun c => if o0 ≤ c ∧ c < o0 + (cellsV xx).length then xv.cells.toList.getD (c - o0) undef else u c, hσ, hh, hb', hsize, (g.inv.own L0 b oo _ hσ).1, ?_, hoth, ?_, setAt_len _ _ _, ?_, ?_⟩
            · intro q hq
              rw [hcur q, if_neg (by simp; omega)]
            · intro L2 b2 o2 s2 hne h2 hbb
              subst hbb
              exact hne (g.inv.inj L2 L0 b2 _ _ _ _ h2 hσ)
            · intro c y hy
              have hcl : c < e0.length := by have := (List.getElem?_eq_some_iff.1 hy).1; rw [setAt_len] at this; exact this
              show cur'[oo + j0 * e0.length + c]? = some (if o0 ≤ c ∧ c < o0 + (cellsV xx).length then xv.cells.toList.getD (c - o0) undef else u c)
              rw [hcur]
              by_cases hin : o0 ≤ c ∧ c < o0 + (cellsV xx).length
              · rw [if_pos (by simp; omega), if_pos hin]
                rw [show oo + j0 * e0.length + c - (oo + j0 * e0.length + o0) = c - o0 by omega]
                have : c - o0 < xv.cells.toList.length := by simp; omega
                rw [List.getElem?_eq_getElem this, List.getD_eq_getElem?_getD, List.getElem?_eq_getElem this]
                rfl
              · rw [if_neg (by simp; omega), if_neg hin]
                have := h5 c _ (List.getElem?_eq_getElem hcl)
                rw [add_none, cell_at hh] at this
                exact this
            · intro c y hy
              have hm := Ms.setAt_ (base := base) (σ := σ) (w := w) (cellsV xx) e0 o0 u xv.cells.toList h6 hcells hle c y hy
              have hkeep : Keeps (some L0) base σ w σ w' := by
                refine ⟨fun k hk => ?_, fun L2 b2 o2 s2 hne h2 => ⟨h2, hoth b2 ?_⟩⟩
                · have he := hoth k (Ne.symm (hk.2.1 L0 b oo _ hσ))
                  refine ⟨⟨?_, hk.2⟩, he⟩
                  rw [Array.getElem?_eq_getElem hk.1] at he
                  exact (Array.getElem?_eq_some_iff.1 he).1
                · rintro rfl
                  exact hne (by rw [g.inv.inj L2 L0 b2 _ _ _ _ h2 hσ])
              refine hm.keep hkeep fun L2 hL2 e => hfree ?_
              obtain rfl := Option.some.inj e
              exact mem_labelsL.2 ⟨y, List.mem_of_getElem? hy, hL2⟩
          have hrun' : (execOp a.eval o).run P w = .ok .skip w' := by
            have hst : (storeVar T ((⟨b, oo + j0 * e0.length, none⟩ : Addr).add o0) xv).run P w = .ok () w' := by
              unfold storeVar
              simp only [Sem.run_bind, run_sizeOf_ ht, Result.andThen_ok]
              rw [if_neg (by omega), add_none]
              exact hrun
            simp only [execOp, ho, hpv, hxv, Instr.storeAt, Instr.sureAddr, Sem.run_bind, Sem.run_pure, Result.andThen_ok, hst]
          unfold Oper.wp
          rw [hrun']
          have hbase := (g.inv.own L0 b oo _ hσ).1
          refine hK σ _ _ ⟨(g.ts.upd g.inv.zero hput).put _ (.any _), g.hs.upd g.inv.zero hput, by cases o.dst <;> exact g.dfr, ?_, ?_⟩
          · exact ⟨hos.trans g.bel.os, htape.trans g.bel.tape, hout.trans g.bel.output, by rw [hhs]; exact g.bel.size, fun k hk => (hoth k (by omega)).trans (g.bel.block k hk)⟩
          · exact ⟨by rw [hhs]; exact g.inv.bs, g.inv.pos, g.inv.zero, g.inv.fresh, fun L b o s hh => by rw [hhs]; exact g.inv.own L b o s hh, g.inv.inj⟩
    · cases hs
  · cases hs
end
end Go.Proofs.Ytjhfabimacljhaa.K
