/- append, make. Nothing here depends on the program. -/
import Derived.Test.YtjhfabimacljhaaKn
namespace Go.Proofs.Ytjhfabimacljhaa.K
open Go Go.RowKit

section
variable {P : Program} {ti : Tab} {t h : List V} {n : Nat} {o : Oper} {base : Base} {σ : Sig} {w : World}

/-- The cells of a slice, in a row. -/
theorem sl_cells {L sz off : Nat} {es : List (List V)} {v : Value} (hm : M base σ w (.sl L sz off es) v) : ∃ (A : Option Addr) (cap : Nat) (vs : List Value), v = .slice A es.length cap ∧ es.length ≤ cap ∧ cap ≤ maxLen ∧
    (∀ e ∈ es, e.length = sz) ∧ ((L = 0 ∧ es = []) ∨ cap = 0 ∨ ∃ ad, A = some ad ∧ At base σ w L sz (off * sz) (cap * sz) ad) ∧ vs.length = es.length * sz ∧ (∀ ad, A = some ad → ∀ (j : Nat) u, vs[j]? = some u → w.cell? (ad.add j) = some u) ∧
    (∀ (j : Nat) e (c : Nat) y, es[j]? = some e → e[c]? = some y → ∃ u, vs[j * sz + c]? = some u ∧ M base σ w y u) ∧ ((∀ e ∈ es, ∀ y ∈ e, V.one y = true) → ∀ u ∈ vs, u.oneCell' = true) := by
  cases hm with
  | sl _ _ _ _ A cap u h1 h2 h3 h4 h5 h6 =>
    have hget : ∀ q, q < es.length * sz → ∃ e y, es[q / sz]? = some e ∧ e[q % sz]? = some y ∧ q / sz * sz + q % sz = q := by
      intro q hq
      have hsz : 0 < sz := by
        rcases Nat.eq_zero_or_pos sz with h | h
        · rw [h] at hq; omega
        · exact h
      have hj : q / sz < es.length := Nat.div_lt_of_lt_mul (by rw [Nat.mul_comm]; exact hq)
      have hc : q % sz < (es[q / sz]).length := by rw [h3 _ (List.getElem_mem hj)]; exact Nat.mod_lt _ hsz
      exact ⟨es[q / sz], (es[q / sz])[q % sz], List.getElem?_eq_getElem hj, List.getElem?_eq_getElem hc, by rw [Nat.mul_comm]; exact Nat.div_add_mod q sz⟩
    have hvs : ∀ (q : Nat) x, ((List.range (es.length * sz)).map fun q => u (q / sz) (q % sz))[q]? = some x → q < es.length * sz ∧ x = u (q / sz) (q % sz) := by
      intro q x hx
      rw [List.getElem?_map] at hx
      obtain ⟨q', hq', rfl⟩ := Option.map_eq_some_iff.1 hx
      have hlt : q < es.length * sz := by have := (List.getElem?_eq_some_iff.1 hq').1; simpa using this
      rw [List.getElem?_range hlt] at hq'
      obtain rfl := Option.some.inj hq'
      exact ⟨hlt, rfl⟩
    refine ⟨A, cap, (List.range (es.length * sz)).map fun q => u (q / sz) (q % sz), rfl, h1, h2, h3, h4, by simp, ?_, ?_, ?_⟩
    · intro ad hA q x hx
      obtain ⟨hlt, rfl⟩ := hvs q x hx
      obtain ⟨e, y, he, hy, hq⟩ := hget q hlt
      have := h5 ad hA _ e _ y he hy
      rw [hq] at this
      exact this
    · intro j e c y he hy
      have hcl : c < sz := by have := (List.getElem?_eq_some_iff.1 hy).1; rw [h3 _ (List.mem_of_getElem? he)] at this; exact this
      have hjl := (List.getElem?_eq_some_iff.1 he).1
      have hlt : j * sz + c < es.length * sz := by
        have : (j + 1) * sz ≤ es.length * sz := Nat.mul_le_mul_right _ hjl
        rw [Nat.add_mul] at this; omega
      refine ⟨u j c, ?_, h6 j e c y he hy⟩
      rw [List.getElem?_map, List.getElem?_range hlt]
      have hd : (j * sz + c) / sz = j := by
        rw [Nat.mul_comm, Nat.mul_add_div (by omega), Nat.div_eq_of_lt hcl, Nat.add_zero]
      simp only [Option.map_some, hd, mod_row hcl]
    · intro hone x hx
      obtain ⟨q, hq⟩ := List.mem_iff_getElem?.1 hx
      obtain ⟨hlt, rfl⟩ := hvs q x hq
      obtain ⟨e, y, he, hy, _⟩ := hget q hlt
      exact one_cell (hone e (List.mem_of_getElem? he) y (List.mem_of_getElem? hy)) (h6 _ e _ y he hy)

theorem Old.addSig {L b' o' sz k : Nat} {w' : World} (h : Old base σ w k) (hb : b' = k → False) (hs : w.heap.size ≤ w'.heap.size) : Old base (addSig σ L b' o' sz) w' k := by
  refine ⟨by have := h.1; omega, fun L2 b o s hs2 => ?_, h.2.2⟩
  by_cases h2 : L2 = L
  · subst h2
    rw [addSig_self] at hs2
    obtain ⟨rfl, _⟩ : b' = b ∧ _ := by simpa using hs2
    exact hb
  · rw [addSig_ne h2] at hs2
    exact h.2.1 L2 b o s hs2
/-- The naming with one name turned. -/
theorem addSig_inv {L b' o' sz : Nat} (inv : Inv base σ w n) {w' : World} (hL0 : L ≠ 0) (hLn : L < n) (hs : w.heap.size ≤ w'.heap.size) (hb : base.lim ≤ b') (hb' : b' < w'.heap.size)
    (hfar : ∀ L2 o2 s2, L2 ≠ L → σ L2 = some (b', o2, s2) → False) : Inv base (addSig σ L b' o' sz) w' n := by
  refine ⟨by have := inv.bs; omega, inv.pos, by rw [addSig_ne (Ne.symm hL0)]; exact inv.zero, fun L2 h2 => by rw [addSig_ne (by omega)]; exact inv.fresh L2 h2, ?_, ?_⟩
  · intro L2 b o s h
    by_cases h2 : L2 = L
    · subst h2
      rw [addSig_self] at h
      obtain ⟨rfl, rfl, rfl⟩ : b' = b ∧ o' = o ∧ sz = s := by simpa using h
      exact ⟨hb, hb'⟩
    · rw [addSig_ne h2] at h
      have := inv.own L2 b o s h
      exact ⟨this.1, by omega⟩
  · intro L1 L2 b o1 s1 o2 s2 h1 h2
    by_cases e1 : L1 = L <;> by_cases e2 : L2 = L
    · omega
    · subst e1
      rw [addSig_self] at h1
      rw [addSig_ne e2] at h2
      obtain ⟨rfl, _⟩ : b' = b ∧ _ := by simpa using h1
      exact (hfar L2 _ _ e2 h2).elim
    · subst e2
      rw [addSig_self] at h2
      rw [addSig_ne e1] at h1
      obtain ⟨rfl, _⟩ : b' = b ∧ _ := by simpa using h2
      exact (hfar L1 _ _ e1 h1).elim
    · rw [addSig_ne e1] at h1
      rw [addSig_ne e2] at h2
      exact inv.inj L1 L2 b _ _ _ _ h1 h2

theorem joined_M {L sz b' o' cap' : Nat} {es es2 : List (List V)} {vs vs2 : List Value} {σ' : Sig} {w' : World} {cur' : Array Value} {et : TypeId} {fr : Nat × Nat} (hk : Keeps (some L) base σ w σ' w') (hσ : σ' L = some (b', o', sz))
    (hh : w'.heap[b']? = some (.cells cur' et fr)) (hnf : Nf fr cur'.size) (hroom : o' + cap' * sz ≤ cur'.size) (hc1 : es.length + es2.length ≤ cap') (hc2 : cap' ≤ maxLen) (h3 : ∀ e ∈ es, e.length = sz) (h3' : ∀ e ∈ es2, e.length = sz)
    (hl : vs.length = es.length * sz) (hcur : ∀ (q : Nat) u, (vs ++ vs2)[q]? = some u → cur'[o' + q]? = some u)
    (hm : ∀ (j : Nat) e (c : Nat) y, es[j]? = some e → e[c]? = some y → ∃ u, vs[j * sz + c]? = some u ∧ M base σ w y u) (hm2 : ∀ (j : Nat) e (c : Nat) y, es2[j]? = some e → e[c]? = some y → ∃ u, vs2[j * sz + c]? = some u ∧ M base σ w y u) :
    M base σ' w' (.sl L sz 0 (V.killLL L (es ++ es2))) (.slice (some ⟨b', o', none⟩) (es.length + es2.length) cap') := by
  have hlen : (V.killLL L (es ++ es2)).length = es.length + es2.length := by unfold V.killLL; rw [travLL_len, List.length_append]
  have hall : ∀ (j : Nat) e (c : Nat) y, (V.killLL L (es ++ es2))[j]? = some e → e[c]? = some y → ∃ u, (vs ++ vs2)[j * sz + c]? = some u ∧ M base σ' w' y u := by
    intro j e c y hj hc
    unfold V.killLL at hj
    rw [travLL_get] at hj
    obtain ⟨e1, he1, rfl⟩ := Option.map_eq_some_iff.1 hj
    rw [travL_get] at hc
    obtain ⟨y1, hy1, rfl⟩ := Option.map_eq_some_iff.1 hc
    have hcl : c < sz := by
      have := (List.getElem?_eq_some_iff.1 hy1).1
      rcases List.mem_append.1 (List.mem_of_getElem? he1) with h | h
      · rw [h3 _ h] at this; exact this
      · rw [h3' _ h] at this; exact this
    rw [List.getElem?_append] at he1
    split at he1
    · rename_i hjl
      obtain ⟨u, hu, hmu⟩ := hm j e1 c y1 he1 hy1
      refine ⟨u, ?_, hmu.kill hk⟩
      rw [List.getElem?_append_left]
      · exact hu
      · exact (List.getElem?_eq_some_iff.1 hu).1
    · rename_i hjl
      obtain ⟨u, hu, hmu⟩ := hm2 (j - es.length) e1 c y1 he1 hy1
      refine ⟨u, ?_, hmu.kill hk⟩
      have hge : vs.length ≤ j * sz + c := by
        rw [hl]
        have : es.length * sz ≤ j * sz := Nat.mul_le_mul_right _ (by omega)
        omega
      rw [List.getElem?_append_right hge]
      have : j * sz + c - vs.length = (j - es.length) * sz + c := by
        rw [hl, Nat.sub_mul]
        have : es.length * sz ≤ j * sz := Nat.mul_le_mul_right _ (by omega)
        omega
      rw [this]
      exact hu
  rw [← hlen]
  refine .sl L sz 0 _ _ cap' (fun j c => ((vs ++ vs2)[j * sz + c]?).getD undef) (by omega) hc2 ?_ (.inr (.inr ⟨_, rfl, .inr ⟨b', o', cur', et, fr, hσ, by simp, hh, hnf, by omega⟩⟩)) ?_ ?_
  · intro e he
    unfold V.killLL at he
    rw [travLL_eq] at he
    obtain ⟨e1, he1, rfl⟩ := List.mem_map.1 he
    rw [travL_len]
    rcases List.mem_append.1 he1 with h | h
    · exact h3 _ h
    · exact h3' _ h
  · intro ad hA j e c y hj hc
    obtain rfl := Option.some.inj hA
    obtain ⟨u, hu, _⟩ := hall j e c y hj hc
    rw [add_none, cell_at hh, hcur _ u hu, hu]
    rfl
  · intro j e c y hj hc
    obtain ⟨u, hu, hmu⟩ := hall j e c y hj hc
    simp only [hu, Option.getD_some]
    exact hmu

/-- append to a slice of the call's own. -/
theorem ok_append {T e : TypeId} {i : TInfo} {s x : Operand} {L off : Nat} {es es2 : List (List V)} {s1 b1 : Nat} {z1 : List V} (hti : TabOk P ti) (hT : ti T = some ⟨.slice e, s1, b1, z1⟩) (he : ti e = some i) (hi : 0 < i.size) (hz : i.zero.length = i.size)
    (ho : o.op = .call ⟨.builtin .append, #[s, x], #[T, T]⟩) (hs : opnd t s = .sl L i.size off es) (hx : (∃ L2 off2, opnd t x = .sl L2 i.size off2 es2) ∨ (es2 = [] ∧ ∃ q, opnd t x = .nil q)) (hL : L ≠ 0) (hLn : L < n)
    (hb : (es.length + es2.length) * i.bytes ≤ 140737488355328) (hb2 : es.length + es2.length ≤ 9223372036854775807) (hone : ∀ e ∈ es2, ∀ y ∈ e, V.one y = true) :
    OpOk P o t h n (putV (V.killL L t) o.dst (.sl L i.size 0 (V.killLL L (es ++ es2)))) (V.killL L h) n := by
  intro base w0 hv σ a w g K Q hK
  have hms := opnd_M g.ts s
  rw [hs] at hms
  have hmx := opnd_M g.ts x
  have hund := und_slice (hti _ _ hT) rfl
  obtain ⟨inf, hinf, hinfs, hinfb, hinfz⟩ := (hti _ _ he).inf
  have hzne : i.zero ≠ [] := fun hz' => by rw [hz'] at hz; simp at hz; omega
  obtain ⟨zv, hzv, hzok⟩ := hinfz hzne
  have hzs : zv.cells.size = i.size := by have := (zerosOk_Ms (base := base) (σ := σ) (w := w) hzok).1; simp at this; omega
  obtain ⟨A, cap, vs, hsv, hc1, hc2, hel, hat, hvl, hvc, hvm, _⟩ := sl_cells hms
  -- what is appended
  have hxx : ∃ (A2 : Option Addr) (cap2 : Nat) (vs2 : List Value), a.eval x = .slice A2 es2.length cap2 ∧ vs2.length = es2.length * i.size ∧ (∀ ad, A2 = some ad → ∀ (j : Nat) u, vs2[j]? = some u → w.cell? (ad.add j) = some u) ∧ (A2 = none → es2 = []) ∧
      (∀ e ∈ es2, e.length = i.size) ∧ (∀ (j : Nat) e (c : Nat) y, es2[j]? = some e → e[c]? = some y → ∃ u, vs2[j * i.size + c]? = some u ∧ M base σ w y u) ∧ (∀ u ∈ vs2, u.oneCell' = true) := by
    rcases hx with ⟨L2, off2, hx⟩ | ⟨rfl, q, hx⟩
    · rw [hx] at hmx
      obtain ⟨A2, cap2, vs2, h1, h2, _, h3, h4, h5, h6, h7, h8⟩ := sl_cells hmx
      refine ⟨A2, cap2, vs2, h1, h5, h6, ?_, h3, h7, h8 hone⟩
      intro hn
      rcases h4 with ⟨_, h⟩ | h | ⟨ad, hA, _⟩
      · exact h
      · exact List.eq_nil_of_length_eq_zero (by omega)
      · rw [hn] at hA; cases hA
    · rw [hx] at hmx
      generalize a.eval x = xv at hmx
      cases hmx
      exact ⟨_, 0, [], rfl, by simp, by simp, fun _ => rfl, by simp, by simp, by simp⟩
  obtain ⟨A2, cap2, vs2, hxv, hvl2, hvc2, hA2, hel2, hvm2, hvone⟩ := hxx
  have hrun0 : (execOp a.eval o).run P w = ((Builtin.append_ #[T, T] o.type #[.slice A es.length cap, .slice A2 es2.length cap2]).run P w).andThen (fun v => (pure (Next.value v) : Sem Next).run P) := by
    simp only [execOp, ho, resolve, invoke, builtin, Sem.run_bind, Sem.run_pure, Result.andThen_ok]
    have hargs : (#[s, x] : Array Operand).map a.eval = #[.slice A es.length cap, .slice A2 es2.length cap2] := by simp [hsv, hxv]
    rw [hargs]
    generalize (Builtin.append_ #[T, T] o.type #[.slice A es.length cap, .slice A2 es2.length cap2]).run P w = R
    cases R <;> rfl
  have finish : ∀ (σ' : Sig) (w' : World) (v' : Value), (Builtin.append_ #[T, T] o.type #[.slice A es.length cap, .slice A2 es2.length cap2]).run P w = .ok v' w' → Keeps (some L) base σ w σ' w' → M base σ' w' (.sl L i.size 0 (V.killLL L (es ++ es2))) v' →
      Inv base σ' w' n → Below base.lim w0 w' → o.wp P a w K Q := by
    intro σ' w' v' hr hk hm inv bel
    unfold Oper.wp
    rw [hrun0, hr]
    exact hK σ' _ _ ⟨(g.ts.kill hk).put _ hm, g.hs.kill hk, by cases o.dst <;> exact g.dfr, bel, inv⟩
  by_cases hroom : es.length + es2.length ≤ cap
  · -- there is room
    rcases hat with ⟨h0, _⟩ | hcap | ⟨ad, rfl, hat⟩
    · exact absurd h0 hL
    · -- nothing at all
      have e1 : es = [] := List.eq_nil_of_length_eq_zero (by omega)
      have e2 : es2 = [] := List.eq_nil_of_length_eq_zero (by omega)
      subst e1 e2
      subst hcap
      have hnews : vs2 = [] := List.eq_nil_of_length_eq_zero (by simpa using hvl2)
      subst hnews
      have hf : (Builtin.firstCells inf.size 0 (.slice A2 0 cap2)).run P w = .ok #[] w := by
        cases A2 with
        | none => simp [Builtin.firstCells]
        | some ad2 => simpa using run_firstCells_some (P := P) w inf.size 0 ad2 0 cap2 [] (by simp) (by simp)
      have hr : (Builtin.append_ #[T, T] o.type #[.slice A ([] : List (List V)).length 0, .slice A2 ([] : List (List V)).length cap2]).run P w = .ok (.slice A 0 0) w := by
        cases A with
        | none => simp [Builtin.append_, run_underlying hund, sizeOf, typeInfo, hinf, Builtin.lenOf, hf]
        | some ad => simp [Builtin.append_, run_underlying hund, sizeOf, typeInfo, hinf, Builtin.lenOf, hf, storeCells]
      refine finish σ w _ hr ⟨fun _ h => ⟨h, rfl⟩, fun _ _ _ _ _ h => ⟨h, rfl⟩⟩ ?_ g.inv g.bel
      exact .sl L i.size 0 [] A 0 (fun _ _ => undef) (Nat.le_refl _) (Nat.zero_le _) (by simp) (.inr (.inl rfl)) (by simp) (by simp)
    · rcases hat with ⟨h0, _⟩ | ⟨b, oo, cur, et, fr, hσ, rfl, hh, hnf, hrm⟩
      · exact absurd h0 hL
      · have hmul : (es.length + es2.length) * i.size ≤ cap * i.size := Nat.mul_le_mul_right _ hroom
        rw [Nat.add_mul] at hmul
        obtain ⟨w', cur', hst, hb', hsize, hcur, hoth, hos, htape, hout, hhs⟩ := storeCells_run (P := P) b (oo + off * i.size + es.length * i.size) et fr vs2 0 cur w hh hnf (by omega) hvone
        rw [Nat.add_zero] at hcur
        have hf : (Builtin.firstCells inf.size es2.length (.slice A2 es2.length cap2)).run P w = .ok vs2.toArray w := by
          cases A2 with
          | none =>
            have : es2 = [] := hA2 rfl
            subst this
            have hnews : vs2 = [] := List.eq_nil_of_length_eq_zero (by simpa using hvl2)
            subst hnews
            simp [Builtin.firstCells]
          | some ad2 => exact run_firstCells_some (P := P) w inf.size es2.length ad2 es2.length cap2 vs2 (by rw [hinfs]; exact hvl2) (hvc2 ad2 rfl)
        have hr : (Builtin.append_ #[T, T] o.type #[.slice (some ⟨b, oo + off * i.size, none⟩) es.length cap, .slice A2 es2.length cap2]).run P w = .ok (.slice (some ⟨b, oo + off * i.size, none⟩) (es.length + es2.length) cap) w' := by
          have hadd : (⟨b, oo + off * i.size, none⟩ : Addr).add (es.length * inf.size) = ⟨b, oo + off * i.size + es.length * i.size, none⟩ := by rw [add_none, hinfs]
          simp [Builtin.append_, run_underlying hund, sizeOf, typeInfo, hinf, Builtin.lenOf, hroom, hf, hadd, hst]
        have hbase := g.inv.own L b oo _ hσ
        have hfar : ∀ L2 o2 s2, L2 ≠ L → σ L2 = some (b, o2, s2) → False := fun L2 o2 s2 hne h2 => hne (g.inv.inj L2 L b _ _ _ _ h2 hσ)
        have hk : Keeps (some L) base σ w (addSig σ L b (oo + off * i.size) i.size) w' := by
          refine ⟨fun k hk' => ⟨Old.addSig hk' (fun e => hk'.2.1 L b oo _ hσ e) (by omega), hoth k (Ne.symm (hk'.2.1 L b oo _ hσ))⟩, fun L2 b2 o2 s2 hne h2 => ⟨?_, hoth b2 ?_⟩⟩
          · rw [addSig_ne (fun e => hne (by rw [e]))]; exact h2
          · rintro rfl
            exact hfar L2 _ _ (fun e => hne (by rw [e])) h2
        refine finish _ w' _ hr hk ?_ (addSig_inv g.inv hL hLn (by omega) hbase.1 (by omega) hfar) ?_
        · refine joined_M (vs := vs) (vs2 := vs2) hk (addSig_self _ _ _ _ _) hb' (by rw [hsize]; exact hnf) (by rw [hsize]; exact hrm) hroom hc2 hel hel2 hvl ?_ hvm hvm2
          intro q u hu
          rw [hcur]
          rw [List.getElem?_append] at hu
          split at hu
          · rename_i hq
            rw [if_neg (by omega)]
            have := hvc _ rfl q u hu
            rw [add_none, cell_at hh] at this
            exact this
          · rename_i hq
            have hq2 := (List.getElem?_eq_some_iff.1 hu).1
            rw [if_pos (by omega)]
            rw [show oo + off * i.size + q - (oo + off * i.size + es.length * i.size) = q - vs.length by omega]
            exact hu
        · exact ⟨hos.trans g.bel.os, htape.trans g.bel.tape, hout.trans g.bel.output, by rw [hhs]; exact g.bel.size, fun k hk => (hoth k (by omega)).trans (g.bel.block k hk)⟩
  · -- it grows
    have hpos : 0 < es2.length := by omega
    obtain ⟨ad2, rfl⟩ : ∃ ad2, A2 = some ad2 := by
      cases A2 with
      | none => rw [hA2 rfl] at hpos; simp at hpos
      | some ad2 => exact ⟨ad2, rfl⟩
    have hfits : Builtin.nextslicecap (es.length + es2.length) cap * inf.bytes ≤ 281474976710656 := by
      rw [hinfb]; exact growslice_fits (by omega) hb
    have hr : ∃ cap' cs, (Builtin.append_ #[T, T] o.type #[.slice A es.length cap, .slice (some ad2) es2.length cap2]).run P w = .ok (.slice (some ⟨w.heap.size, 0, none⟩) (es.length + es2.length) cap') (w.drew.alloc (.cells cs e)) ∧
        es.length + es2.length ≤ cap' ∧ cap' ≤ maxLen ∧ cap' * i.size ≤ cs.size ∧ ∀ (q : Nat) u, (vs ++ vs2)[q]? = some u → cs[q]? = some u := by
      have hge := grownCap_ge w (es.length + es2.length) cap e
      have hcells : ∀ (N : Nat), N * i.size ≤ ((vs ++ vs2).toArray ++ Builtin.zeroCells zv.cells (N - (es.length + es2.length))).size ∧ ∀ (q : Nat) u, (vs ++ vs2)[q]? = some u → ((vs ++ vs2).toArray ++ Builtin.zeroCells zv.cells (N - (es.length + es2.length)))[q]? = some u := by
        intro N
        refine ⟨?_, fun q u hu => ?_⟩
        · have hz0 := size_zeroCells zv.cells (N - (es.length + es2.length))
          rw [hzs] at hz0
          simp only [Array.size_append, List.size_toArray, List.length_append, hvl, hvl2, hz0, ← Nat.add_mul]
          exact Nat.mul_le_mul_right _ (by omega)
        · have hlt := (List.getElem?_eq_some_iff.1 hu).1
          rw [Array.getElem?_append_left (by simpa using hlt)]
          simpa using hu
      cases A with
      | some ad =>
        have hr := run_append_grow (P := P) w T o.type e inf zv hund hinf hzv ad es.length cap vs (by rw [hinfs]; exact hvl) (hvc ad rfl) ad2 es2.length cap2 vs2 (by rw [hinfs]; exact hvl2) (hvc2 ad2 rfl) (by omega) (by omega) hfits
        rw [show vs.toArray ++ vs2.toArray = (vs ++ vs2).toArray by simp] at hr
        exact ⟨_, _, hr, hge, grownCap_le_maxLen w _ cap e (by unfold maxLen; omega), (hcells _).1, (hcells _).2⟩
      | none =>
        have hes : es = [] ∧ cap = 0 := by
          rcases hat with ⟨h0, _⟩ | h | ⟨ad, h, _⟩
          · exact absurd h0 hL
          · exact ⟨List.eq_nil_of_length_eq_zero (by omega), h⟩
          · cases h
        obtain ⟨rfl, rfl⟩ := hes
        have hvs : vs = [] := List.eq_nil_of_length_eq_zero (by simpa using hvl)
        subst hvs
        have h48 : es2.length * inf.bytes ≤ 281474976710656 := by rw [hinfb]; simp only [List.length_nil, Nat.zero_add] at hb; omega
        have hr := run_append_nil (P := P) w T o.type e inf zv hund hinf hzv ad2 es2.length cap2 vs2 (by rw [hinfs]; exact hvl2) (hvc2 ad2 rfl) hpos (by simp at hb2; omega) h48
        have hN := hcells (grownCap w es2.length 0 e)
        simp only [List.length_nil, Nat.zero_add, List.nil_append] at hN hge ⊢
        exact ⟨_, _, hr, hge, grownCap_le_maxLen w _ 0 e (by unfold maxLen; simp at hb2; omega), hN.1, hN.2⟩
    obtain ⟨cap', cs, hr, hcap1, hcap2, hsz, hcs⟩ := hr
    have hk : Keeps (some L) base σ w (addSig σ L w.heap.size 0 i.size) (w.drew.alloc (.cells cs e)) := by
      refine ⟨fun k hk' => ⟨Old.addSig hk' (fun e => by have := hk'.1; omega) (by simp), (Below.heap_alloc w.drew _ k hk'.1).trans rfl⟩, fun L2 b2 o2 s2 hne h2 => ⟨?_, (Below.heap_alloc w.drew _ b2 (g.inv.own L2 b2 o2 s2 h2).2).trans rfl⟩⟩
      rw [addSig_ne (fun e => hne (by rw [e]))]; exact h2
    have hh' : (w.drew.alloc (.cells cs e)).heap[w.heap.size]? = some (.cells cs e (0, 0)) := heap_alloc_new w.drew _
    have hsz' : (w.drew.alloc (.cells cs e)).heap.size = w.heap.size + 1 := by simp
    refine finish _ _ _ hr hk ?_ (addSig_inv g.inv hL hLn (by omega) g.inv.bs (by omega) ?_) ?_
    · refine joined_M (vs := vs) (vs2 := vs2) hk (addSig_self _ _ _ _ _) hh' (nf_zero _) (by omega) hcap1 hcap2 hel hel2 hvl (fun q u hu => by rw [Nat.zero_add]; exact hcs q u hu) hvm hvm2
    · intro L2 o2 s2 _ h2
      have := (g.inv.own L2 _ _ _ h2).2
      omega
    · exact (g.bel.drew).alloc (by exact g.inv.bs) _

/-- append to an empty slice without room. -/
theorem ok_append_nil {T e : TypeId} {i : TInfo} {s x : Operand} {q : Nat} {es2 : List (List V)} {s1 b1 : Nat} {z1 : List V} (hti : TabOk P ti) (hT : ti T = some ⟨.slice e, s1, b1, z1⟩) (he : ti e = some i) (hi : 0 < i.size) (hz : i.zero.length = i.size)
    (ho : o.op = .call ⟨.builtin .append, #[s, x], #[T, T]⟩) (hs : opnd t s = .nil q) (hx : (∃ L2 off2, opnd t x = .sl L2 i.size off2 es2) ∨ (es2 = [] ∧ ∃ q, opnd t x = .nil q))
    (hb : es2.length * i.bytes ≤ 140737488355328) (hb2 : es2.length ≤ 9223372036854775807) : OpS P o t n (.sl n i.size 0 es2) 1 := by
  have hund := und_slice (hti _ _ hT) rfl
  obtain ⟨inf, hinf, hinfs, hinfb, hinfz⟩ := (hti _ _ he).inf
  have hzne : i.zero ≠ [] := fun hz' => by rw [hz'] at hz; simp at hz; omega
  obtain ⟨zv, hzv, hzok⟩ := hinfz hzne
  have hzs : zv.cells.size = i.size := by have := (zerosOk_Ms (base := ⟨0, fun _ => False, fun _ h => h.elim⟩) (σ := noSig) (w := (default : World)) hzok).1; simp at this; omega
  rcases List.eq_nil_or_concat es2 with rfl | ⟨es0, e0, hcc⟩
  · intro base σ w ρ _ _ _ hρ _ hf
    have hms := hρ s
    rw [hs] at hms
    have hmx := hρ x
    obtain ⟨A, hA⟩ : ∃ A, ρ s = .slice A 0 0 := by generalize ρ s = u at hms; cases hms; exact ⟨_, rfl⟩
    obtain ⟨A2, cap2, hxv⟩ : ∃ A2 cap2, ρ x = .slice A2 0 cap2 := by
      rcases hx with ⟨L2, off2, hx⟩ | ⟨_, q, hx⟩
      · rw [hx] at hmx
        obtain ⟨A2, cap2, vs2, hxv, _⟩ := sl_cells hmx
        exact ⟨A2, cap2, hxv⟩
      · rw [hx] at hmx
        generalize ρ x = v at hmx
        cases hmx
        exact ⟨_, 0, rfl⟩
    have hf0 : (Builtin.firstCells inf.size 0 (.slice A2 0 cap2)).run P w = .ok #[] w := by
      cases A2 with
      | none => simp [Builtin.firstCells]
      | some ad2 => simpa using run_firstCells_some (P := P) w inf.size 0 ad2 0 cap2 [] (by simp) (by simp)
    have hr : (Builtin.append_ #[T, T] o.type #[.slice A 0 0, .slice A2 0 cap2]).run P w = .ok (.slice A 0 0) w := by
      cases A with
      | none => simp [Builtin.append_, run_underlying hund, sizeOf, typeInfo, hinf, Builtin.lenOf, hf0]
      | some ad => simp [Builtin.append_, run_underlying hund, sizeOf, typeInfo, hinf, Builtin.lenOf, hf0, storeCells]
    refine .inl ⟨.slice A 0 0, w, ?_, σ, Below.refl _ _, fun _ _ => rfl, fun L b o s h1 h2 h3 => ?_, fun L L' _ _ _ _ _ h1 h2 h3 h4 _ _ => by omega, ?_⟩
    · simp only [execOp, ho, resolve, invoke, builtin, Sem.run_bind, Sem.run_pure, Result.andThen_ok]
      have hargs : (#[s, x] : Array Operand).map ρ = #[.slice A 0 0, .slice A2 0 cap2] := by simp [hA, hxv]
      rw [hargs, hr]
      rfl
    · rw [hf L h1 h2] at h3; cases h3
    · exact .sl n i.size 0 [] A 0 (fun _ _ => undef) (Nat.le_refl _) (Nat.zero_le _) (by simp) (.inr (.inl rfl)) (by simp) (by simp)
  · have hne : es2 ≠ [] := by rw [hcc]; simp
    obtain ⟨L2, off2, hx⟩ : ∃ L2 off2, opnd t x = .sl L2 i.size off2 es2 := by
      rcases hx with h | ⟨h, _⟩
      · exact h
      · exact absurd h hne
    by_cases hlen : ∀ e ∈ es2, e.length = i.size
    · refine OpS.newSlice rfl hlen fun base σ w ρ hρ => ?_
      have hms := hρ s
      rw [hs] at hms
      have hmx := hρ x
      rw [hx] at hmx
      obtain ⟨A, hA⟩ : ∃ A, ρ s = .slice A 0 0 := by generalize ρ s = u at hms; cases hms; exact ⟨_, rfl⟩
      obtain ⟨A2, cap2, vs2, hxv, hx1, hx2, hx3, hx4, hvl2, hvc2, hvm2, _⟩ := sl_cells hmx
      have hpos : 0 < es2.length := List.length_pos_iff.2 hne
      obtain ⟨ad2, rfl⟩ : ∃ ad2, A2 = some ad2 := by
        rcases hx4 with ⟨_, h⟩ | h | ⟨ad, hA, _⟩
        · exact absurd h hne
        · omega
        · exact ⟨ad, hA⟩
      have hfits : Builtin.nextslicecap (0 + es2.length) 0 * inf.bytes ≤ 281474976710656 := by
        rw [hinfb]; exact growslice_fits (by omega) (by simpa using hb)
      have hr : (Builtin.append_ #[T, T] o.type #[.slice A 0 0, .slice (some ad2) es2.length cap2]).run P w = .ok (.slice (some ⟨w.heap.size, 0, none⟩) es2.length (grownCap w es2.length 0 e)) (w.drew.alloc (.cells (vs2.toArray ++ Builtin.zeroCells zv.cells (grownCap w es2.length 0 e - es2.length)) e)) := by
        cases A with
        | none => exact run_append_nil (P := P) w T o.type e inf zv hund hinf hzv ad2 es2.length cap2 vs2 (by rw [hinfs]; exact hvl2) (hvc2 ad2 rfl) hpos (by omega) (by rw [hinfb]; omega)
        | some ad =>
          have hr := run_append_grow (P := P) w T o.type e inf zv hund hinf hzv ad 0 0 [] (by simp) (by simp) ad2 es2.length cap2 vs2 (by rw [hinfs]; exact hvl2) (hvc2 ad2 rfl) (by omega) (by omega) hfits
          simpa using hr
      have hge := grownCap_ge w es2.length 0 e
      have hz0 := size_zeroCells zv.cells (grownCap w es2.length 0 e - es2.length)
      rw [hzs] at hz0
      refine ⟨vs2.toArray ++ Builtin.zeroCells zv.cells (grownCap w es2.length 0 e - es2.length), e, (0, 0), 1, grownCap w es2.length 0 e, ?_, nf_zero _, hge, grownCap_le_maxLen w _ 0 e (by unfold maxLen; omega), ?_, ?_⟩
      · simp only [execOp, ho, resolve, invoke, builtin, Sem.run_bind, Sem.run_pure, Result.andThen_ok]
        have hargs : (#[s, x] : Array Operand).map ρ = #[.slice A 0 0, .slice (some ad2) es2.length cap2] := by simp [hA, hxv]
        rw [hargs, hr]
        rfl
      · simp only [Array.size_append, List.size_toArray, hvl2, hz0, ← Nat.add_mul]
        exact Nat.mul_le_mul_right _ (by omega)
      · intro j e' c y hj hc
        obtain ⟨u, hu, hmu⟩ := hvm2 j e' c y hj hc
        have hlt := (List.getElem?_eq_some_iff.1 hu).1
        refine ⟨u, ?_, hmu⟩
        rw [Array.getElem?_append_left (by simpa using hlt)]
        simpa using hu
    · intro base σ w ρ _ _ _ hρ _ _
      have hmx := hρ x
      rw [hx] at hmx
      obtain ⟨_, _, _, _, _, _, hx3, _⟩ := sl_cells hmx
      exact absurd hx3 hlen

/-- make of a slice. -/
theorem ok_makeSlice {T e : TypeId} {i : TInfo} {l c : Operand} {k k' : IntKind} {a b : Int} {s1 b1 : Nat} {z1 : List V} (hti : TabOk P ti) (hT : ti T = some ⟨.slice e, s1, b1, z1⟩) (he : ti e = some i) (hi : 0 < i.size) (hz : i.zero.length = i.size)
    (ho : o.op = .makeSlice T l c) (hl : opnd t l = .int k a) (hc : opnd t c = .int k' b) (h0 : 0 ≤ a) (hab : a ≤ b) (hb : b ≤ 4611686018427387904) (hbb : (i.bytes : Int) * b ≤ 281474976710656) :
    OpS P o t n (.sl n i.size 0 (List.replicate a.toNat i.zero)) 1 := by
  refine OpS.newSlice rfl (fun e he => by rw [List.eq_of_mem_replicate he]; exact hz) fun base σ w ρ hρ => ?_
  have hml := hρ l
  rw [hl] at hml
  have hmc := hρ c
  rw [hc] at hmc
  have hlv : ρ l = .int k a := by generalize ρ l = v at hml; cases hml; rfl
  have hcv : ρ c = .int k' b := by generalize ρ c = v at hmc; cases hmc; rfl
  have hund := und_slice (hti _ _ hT) rfl
  obtain ⟨inf, hinf, hinfs, hinfb, hinfz⟩ := (hti _ _ he).inf
  have hzne : i.zero ≠ [] := fun hz' => by rw [hz'] at hz; simp at hz; omega
  obtain ⟨zv, hzv, hzok⟩ := hinfz hzne
  have hw1 : IntKind.i64.wrap a = a := by rw [IntKind.wrap_i64]; omega
  have hw2 : IntKind.i64.wrap b = b := by rw [IntKind.wrap_i64]; omega
  have hrow := rows_zero (base := base) (σ := σ) (w := w) hzok hz b.toNat
  refine ⟨(Array.range (b.toNat * i.size)).map (zv.cells[· % zv.cells.size]!), e, (0, 0), 0, b.toNat, ?_, nf_zero _, by rw [List.length_replicate]; omega, by unfold maxLen; omega, by simp, ?_⟩
  · have ht1 : ¬ (b < 0) := by omega
    have ht2 : ¬ ((inf.bytes : Int) * b > 281474976710656) := by rw [hinfb]; omega
    have ht3 : ¬ (a < 0) := by omega
    have ht4 : ¬ (a > b) := by omega
    simp only [execOp, ho, hlv, hcv, Instr.makeSlice, Sem.run_bind, run_underlying hund, Result.andThen_ok, asInt, asIntOf, Sem.run_pure, typeInfo, run_program, hinf, hw1, hw2]
    have hcond : (decide (b < 0) || decide ((inf.bytes : Int) * b > 2 ^ 48)) = false := by
      simp only [Bool.or_eq_false_iff, decide_eq_false_iff_not]
      exact ⟨ht1, by rw [show (2 : Int) ^ 48 = 281474976710656 from rfl]; exact ht2⟩
    rw [if_neg (by simp only [hcond]; simp; omega)]
    by_cases hzero : b.toNat * i.size = 0
    · have : (Array.range (b.toNat * i.size)).map (zv.cells[· % zv.cells.size]!) = #[] := by rw [hzero]; exact Array.eq_empty_of_size_eq_zero (by simp)
      have hr0 : ∀ f : Nat → Value, (Array.range 0).map f = #[] := fun f => Array.eq_empty_of_size_eq_zero (by simp)
      rw [this]
      simp only [Sem.run_bind, run_askRoom, Result.andThen_ok, sizeOf, typeInfo, run_program, hinf, Sem.run_pure, hinfs, hzero, if_true, newRow, run_newObj_alloc, List.length_replicate, hr0]
      rfl
    · simp only [Sem.run_bind, run_askRoom, Result.andThen_ok, sizeOf, typeInfo, run_program, hinf, Sem.run_pure, hinfs, hzero, if_false, zeroValue, hzv, newRow, run_newObj_alloc, List.length_replicate]
      rfl
  · intro j e' c' y hj hc'
    rw [List.getElem?_replicate] at hj
    split at hj
    · rename_i hlt
      refine hrow.2.2 j e' c' y ?_ hc'
      rw [List.getElem?_replicate, if_pos (by omega)]
      exact hj
    · cases hj
end
end Go.Proofs.Ytjhfabimacljhaa.K
