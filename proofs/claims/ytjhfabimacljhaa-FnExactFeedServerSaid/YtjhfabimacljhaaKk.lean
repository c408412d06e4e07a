/- ev1 is what the machine does: structs and slices that are written out, bytes and texts. And all of ev1. Nothing here depends on the program. -/
import Derived.Test.YtjhfabimacljhaaKj
import Derived.Laws.Tables
namespace Go.Proofs.Ytjhfabimacljhaa.K
open Go Go.RowKit

section
variable {P : Program} {ti : Tab} {t h : List V} {n : Nat} {o : Oper} {base : Base} {σ : Sig} {w : World}

/-- Cells laid over cells, in the machine. -/
theorem fold_Ms (seg : List V) : ∀ (ls : List Value) (cs : List V) (l : List Value) (off k : Nat), Ms base σ w cs l → Ms base σ w seg ls →
    Ms base σ w (setAt cs (off + k) seg) ((ls.zipIdx k).foldl (fun (a : Array Value) (p : Value × Nat) => a.setIfInBounds (off + p.2) p.1) l.toArray).toList := by
  induction seg with
  | nil =>
    intro ls cs l off k hc hs
    have : ls = [] := List.eq_nil_of_length_eq_zero (by simpa using hs.1.symm)
    subst this
    simpa [setAt] using hc
  | cons x xs ih =>
    intro ls cs l off k hc hs
    cases ls with
    | nil => have := hs.1; simp at this
    | cons u ls =>
      have hx : M base σ w x u := hs.2 0 x u rfl rfl
      have htail : Ms base σ w xs ls := ⟨by have := hs.1; simpa using this, fun i y v hy hv => hs.2 (i + 1) y v hy hv⟩
      have hset : Ms base σ w (cs.set (off + k) x) (l.set (off + k) u) := by
        refine ⟨by simpa using hc.1, fun i y v hy hv => ?_⟩
        rw [List.getElem?_set] at hy hv
        by_cases hd : off + k = i
        · rw [if_pos hd] at hy hv
          split at hy
          · split at hv
            · obtain rfl := Option.some.inj hy
              obtain rfl := Option.some.inj hv
              exact hx
            · cases hv
          · cases hy
        · rw [if_neg hd] at hy hv
          exact hc.2 i y v hy hv
      have := ih ls (cs.set (off + k) x) (l.set (off + k) u) off (k + 1) hset htail
      simp only [setAt]
      rw [show off + k + 1 = off + (k + 1) from rfl]
      simpa [List.zipIdx_cons] using this

theorem laid_eq (v : Value) (a : Array Value) (off : Nat) : (v.cells.zipIdx.foldl (fun cs (x : Value × Nat) => match x with | (c, j) => cs.setIfInBounds (off + j) c) a) =
    (v.cells.toList.zipIdx 0).foldl (fun (a : Array Value) (p : Value × Nat) => a.setIfInBounds (off + p.2) p.1) a := by
  rw [← Array.foldl_toList, Array.toList_zipIdx]

theorem fill_M {fs : List (Nat × TypeId)} {places : Array (Nat × Nat)}
    (hp : ∀ (i : Nat) off ty inf, fs[i]? = some (off, ty) → ti ty = some inf → places[i]? = some (off, inf.size)) {ρ : Operand → Value} (hρ : ∀ y, M base σ w (opnd t y) (ρ y)) :
    ∀ (parts : List (Nat × Operand)) (cs : List V) (l : List Value) (r : List V), Ms base σ w cs l → fillV ti fs cs (parts.map fun p => (p.1, opnd t p.2)) = some r →
      ∃ l', Instr.fill (places[·]?) l.toArray (parts.map fun p => (p.1, ρ p.2)) = some l'.toArray ∧ Ms base σ w r l' := by
  intro parts
  induction parts with
  | nil =>
    intro cs l r hc hr
    obtain rfl := Option.some.inj hr
    exact ⟨l, rfl, hc⟩
  | cons p parts ih =>
    intro cs l r hc hr
    obtain ⟨i, y⟩ := p
    simp only [List.map_cons, fillV] at hr
    split at hr
    · rename_i off ty hfi
      split at hr
      · rename_i inf hinf
        split at hr
        · rename_i hcond
          simp only [Bool.and_eq_true, beq_iff_eq, decide_eq_true_eq] at hcond
          obtain ⟨⟨hk, hsz⟩, hle⟩ := hcond
          have hm := cells_M hk (hρ y)
          have hl1 : (cellsV (opnd t y)).length = (ρ y).cells.size := by simpa using hm.1
          have hl2 : cs.length = l.length := hc.1
          have hnew := fold_Ms (cellsV (opnd t y)) (ρ y).cells.toList cs l off 0 hc hm
          rw [Nat.add_zero] at hnew
          obtain ⟨l', h1, h2⟩ := ih _ _ r hnew hr
          refine ⟨l', ?_, h2⟩
          simp only [List.map_cons, Instr.fill, hp i off ty inf hfi hinf]
          rw [if_neg (by simp; omega), laid_eq]
          simpa using h1
        · cases hr
      · cases hr
    · cases hr

theorem places_of (hti : TabOk P ti) : ∀ (fields : List Field), (∀ f ∈ fields, (ti f.type).isSome = true) →
    ∃ l : List (Nat × Nat), fields.mapM (fun f => (P.info? f.type).map fun i => (f.offset, i.size)) = some l ∧ ∀ (i : Nat) f inf, fields[i]? = some f → ti f.type = some inf → l[i]? = some (f.offset, inf.size)
  | [], _ => ⟨[], rfl, by simp⟩
  | f :: fields, hs => by
    obtain ⟨l, h1, h2⟩ := places_of hti fields (fun g hg => hs g (List.mem_cons_of_mem _ hg))
    obtain ⟨inf, hinf⟩ := Option.isSome_iff_exists.1 (hs f List.mem_cons_self)
    obtain ⟨x, hx, hxs, _⟩ := (hti _ _ hinf).inf
    refine ⟨(f.offset, inf.size) :: l, ?_, ?_⟩
    · rw [List.mapM_cons, hx, h1]
      simp [hxs]
    · intro i g inf' hg hgi
      cases i with
      | zero =>
        obtain rfl := Option.some.inj hg
        rw [hinf] at hgi
        obtain rfl := Option.some.inj hgi
        rfl
      | succ i => exact h2 i g inf' hg hgi

theorem ok_build {T : TypeId} {parts : Array (Nat × Operand)} {fs : List (Nat × TypeId)} {sz by_ : Nat} {z cs : List V} (hti : TabOk P ti) (hT : ti T = some ⟨.struct fs, sz, by_, z⟩) (ho : o.op = .build T parts) (hz : z ≠ [])
    (ha : (fs.all fun p => (ti p.2).isSome) = true) (hf : fillV ti fs z (parts.toList.map fun p => (p.1, opnd t p.2)) = some cs) : OpS P o t n (.agg cs) 0 := by
  refine OpS.val fun base σ w ρ hρ => ?_
  obtain ⟨d, hd, hk, -⟩ := (hti _ _ hT).und
  obtain ⟨fields, rfl⟩ : ∃ fields, d = .struct fields := by
    cases d with
    | struct fields => exact ⟨fields, rfl⟩
    | _ => exact hk.elim
  have hk' : fields.toList.map (fun f => (f.offset, f.type)) = fs := hk
  obtain ⟨x, hx, hxs, _, hzz⟩ := (hti _ _ hT).inf
  obtain ⟨zv, hz1, hz2⟩ := hzz hz
  have hall : ∀ f ∈ fields.toList, (ti f.type).isSome = true := by
    intro f hf
    have := List.all_eq_true.1 ha (f.offset, f.type) (by rw [← hk']; exact List.mem_map.2 ⟨f, hf, rfl⟩)
    simpa using this
  obtain ⟨places, hp1, hp2⟩ := places_of (P := P) hti fields.toList hall
  have hp : ∀ (i : Nat) off ty inf, fs[i]? = some (off, ty) → ti ty = some inf → places.toArray[i]? = some (off, inf.size) := by
    intro i off ty inf hfi hinf
    rw [← hk', List.getElem?_map] at hfi
    obtain ⟨f, hf, he⟩ := Option.map_eq_some_iff.1 hfi
    simp only [Prod.mk.injEq] at he
    obtain ⟨rfl, rfl⟩ := he
    simpa using hp2 i f inf hf hinf
  obtain ⟨l', h1, h2⟩ := fill_M (base := base) (σ := σ) (w := w) (t := t) hp hρ parts.toList z zv.cells.toList cs (zerosOk_Ms hz2) hf
  refine ⟨.agg l'.toArray, ?_, .agg _ _ h2.1 h2.2⟩
  have hb : P.built T (parts.map fun (i, x) => (i, ρ x)).toList = some l'.toArray := by
    unfold Program.built
    simp only [hx, hd, hz1, hp1]
    have : (parts.map fun (i, x) => (i, ρ x)).toList = parts.toList.map fun p => (p.1, ρ p.2) := by simp
    rw [this]
    simpa using h1
  have hrun := run_build (P := P) w T (parts.map fun (i, x) => (i, ρ x)) l'.toArray hb
  simp only [execOp, ho, Sem.run_bind, hrun, Result.andThen_ok, Sem.run_pure]

/-- Elements of sz cells, in a row. -/
def RowsM (base : Base) (σ : Sig) (w : World) (sz : Nat) (es : List (List V)) (cs : Array Value) : Prop :=
  (∀ e ∈ es, e.length = sz) ∧ cs.size = es.length * sz ∧ ∀ (j : Nat) e (c : Nat) y, es[j]? = some e → e[c]? = some y → ∃ u, cs[j * sz + c]? = some u ∧ M base σ w y u

theorem mod_row {j c sz : Nat} (hc : c < sz) : (j * sz + c) % sz = c := by
  rw [Nat.mul_comm, Nat.mul_add_mod, Nat.mod_eq_of_lt hc]
theorem rows_zero {i : TInfo} {z : Array Value} (hz : zerosOk i.zero z.toList = true) (hl : i.zero.length = i.size) (m : Nat) :
    RowsM base σ w i.size (List.replicate m i.zero) ((Array.range (m * i.size)).map (z[· % z.size]!)) := by
  have hm := zerosOk_Ms (base := base) (σ := σ) (w := w) hz
  have hzs : z.size = i.size := by have := hm.1; simp at this; omega
  refine ⟨fun e he => by rw [List.eq_of_mem_replicate he]; exact hl, by simp, fun j e c y hj hc => ?_⟩
  rw [List.getElem?_replicate] at hj
  split at hj
  · rename_i hjm
    obtain rfl := Option.some.inj hj
    have hcl : c < i.size := by have := (List.getElem?_eq_some_iff.1 hc).1; omega
    have hlt : j * i.size + c < m * i.size := by
      have : (j + 1) * i.size ≤ m * i.size := Nat.mul_le_mul_right _ hjm
      rw [Nat.add_mul] at this; omega
    have hcz : c < z.size := by omega
    refine ⟨z[c], ?_, hm.2 c y _ hc (by simp [hcz])⟩
    have hr : (Array.range (m * i.size))[j * i.size + c]? = some (j * i.size + c) := by simp [hlt]
    rw [Array.getElem?_map, hr]
    simp only [Option.map_some, hzs, mod_row hcl]
    congr 1
    exact getElem!_pos z c hcz
  · cases hj
theorem fold_get (ls : List Value) : ∀ (a : Array Value) (off k q : Nat), ((ls.zipIdx k).foldl (fun (a : Array Value) (p : Value × Nat) => a.setIfInBounds (off + p.2) p.1) a)[q]? =
    if off + k ≤ q ∧ q < off + k + ls.length ∧ q < a.size then ls[q - (off + k)]? else a[q]? := by
  induction ls with
  | nil => intro a off k q; rw [if_neg (by simp; omega)]; rfl
  | cons u ls ih =>
    intro a off k q
    rw [List.zipIdx_cons, List.foldl_cons, ih]
    simp only [Array.size_setIfInBounds, List.length_cons]
    by_cases h1 : off + (k + 1) ≤ q ∧ q < off + (k + 1) + ls.length ∧ q < a.size
    · rw [if_pos h1, if_pos (by omega)]
      rw [show q - (off + k) = (q - (off + (k + 1))) + 1 by omega]
      rfl
    · rw [if_neg h1, Array.getElem?_setIfInBounds]
      by_cases h2 : off + k = q
      · subst h2
        rw [if_pos rfl]
        by_cases h3 : off + k < a.size
        · rw [if_pos h3, if_pos (by omega)]
          simp
        · rw [if_neg h3, if_neg (by omega)]
          simp; omega
      · rw [if_neg h2, if_neg (by omega)]
theorem fold_size (ls : List Value) : ∀ (a : Array Value) (off k : Nat), ((ls.zipIdx k).foldl (fun (a : Array Value) (p : Value × Nat) => a.setIfInBounds (off + p.2) p.1) a).size = a.size := by
  induction ls with
  | nil => intro a off k; rfl
  | cons u ls ih => intro a off k; rw [List.zipIdx_cons, List.foldl_cons, ih, Array.size_setIfInBounds]
theorem rows_set {sz : Nat} {es : List (List V)} {cs : Array Value} {e : List V} {l : List Value} (hr : RowsM base σ w sz es cs) (hl : Ms base σ w e l) (hs : e.length = sz) (i : Nat) (hi : i < es.length) :
    RowsM base σ w sz (es.set i e) ((l.zipIdx 0).foldl (fun (a : Array Value) (p : Value × Nat) => a.setIfInBounds (i * sz + p.2) p.1) cs) := by
  obtain ⟨h1, h2, h3⟩ := hr
  refine ⟨fun e' he' => ?_, by rw [fold_size, h2, List.length_set], fun j e' c y hj hc => ?_⟩
  · rcases List.mem_or_eq_of_mem_set he' with h | rfl
    · exact h1 _ h
    · exact hs
  · rw [fold_get, Nat.add_zero]
    have hll : l.length = sz := by rw [← hl.1]; exact hs
    rw [List.getElem?_set] at hj
    by_cases hij : i = j
    · subst hij
      rw [if_pos rfl, if_pos hi] at hj
      obtain rfl := Option.some.inj hj
      have hcl : c < sz := by have := (List.getElem?_eq_some_iff.1 hc).1; omega
      have hlt : i * sz + c < cs.size := by
        rw [h2]
        have : (i + 1) * sz ≤ es.length * sz := Nat.mul_le_mul_right _ hi
        rw [Nat.add_mul] at this; omega
      rw [if_pos (by omega)]
      rw [show i * sz + c - i * sz = c by omega]
      have hcl' : c < l.length := by omega
      exact ⟨l[c], List.getElem?_eq_getElem hcl', hl.2 c y _ hc (List.getElem?_eq_getElem hcl')⟩
    · rw [if_neg hij] at hj
      have hcl : c < sz := by have := (List.getElem?_eq_some_iff.1 hc).1; have := h1 _ (List.mem_of_getElem? hj); omega
      have hfar := idx_far (p := j) (q := i) (fun e => hij e.symm) hcl
      rw [if_neg (by omega)]
      exact h3 j e' c y hj hc
theorem fillE_M {sz : Nat} {ρ : Operand → Value} (hρ : ∀ y, M base σ w (opnd t y) (ρ y)) : ∀ (parts : List (Nat × Operand)) (es : List (List V)) (cs : Array Value) (r : List (List V)), RowsM base σ w sz es cs →
    fillE sz es (parts.map fun p => (p.1, opnd t p.2)) = some r →
    ∃ cs', Instr.fill (fun i => some (i * sz, sz)) cs (parts.map fun p => (p.1, ρ p.2)) = some cs' ∧ RowsM base σ w sz r cs' ∧ r.length = es.length := by
  intro parts
  induction parts with
  | nil =>
    intro es cs r hc hr
    obtain rfl := Option.some.inj hr
    exact ⟨cs, rfl, hc, rfl⟩
  | cons p parts ih =>
    intro es cs r hc hr
    obtain ⟨i, y⟩ := p
    simp only [List.map_cons, fillE] at hr
    split at hr
    · rename_i hcond
      simp only [Bool.and_eq_true, beq_iff_eq, decide_eq_true_eq] at hcond
      obtain ⟨⟨hk, hsz⟩, hle⟩ := hcond
      have hm := cells_M hk (hρ y)
      have hl1 : (cellsV (opnd t y)).length = (ρ y).cells.size := by simpa using hm.1
      have hnew := rows_set hc hm hsz i hle
      obtain ⟨cs', h1, h2, h3⟩ := ih _ _ r hnew hr
      refine ⟨cs', ?_, h2, by rw [h3, List.length_set]⟩
      have hsize := hc.2.1
      have : (i + 1) * sz ≤ es.length * sz := Nat.mul_le_mul_right _ hle
      rw [Nat.add_mul] at this
      simp only [List.map_cons, Instr.fill]
      rw [if_neg (by simp; omega), laid_eq]
      exact h1
    · cases hr

theorem ok_buildSlice {T e : TypeId} {len : Nat} {parts : Array (Nat × Operand)} {inf : TInfo} {s1 b1 : Nat} {z1 : List V} {es : List (List V)} (hti : TabOk P ti) (hT : ti T = some ⟨.slice e, s1, b1, z1⟩) (he : ti e = some inf)
    (ho : o.op = .buildSlice T len parts) (hlen : len * inf.size ≤ 16777216) (hs : 0 < inf.size) (hl : inf.zero.length = inf.size) (hf : fillE inf.size (List.replicate len inf.zero) (parts.toList.map fun p => (p.1, opnd t p.2)) = some es) :
    OpS P o t n (.sl n inf.size 0 es) 1 := by
  have hund := und_slice (hti _ _ hT) rfl
  have hz : inf.zero ≠ [] := fun hz => by rw [hz] at hl; simp at hl; omega
  -- its elements have their cells
  have hel : ∀ e ∈ es, e.length = inf.size := by
    have : ∀ (parts : List (Nat × V)) (a b : List (List V)), (∀ e ∈ a, e.length = inf.size) → fillE inf.size a parts = some b → ∀ e ∈ b, e.length = inf.size := by
      intro parts
      induction parts with
      | nil => intro a b ha hb; obtain rfl := Option.some.inj hb; exact ha
      | cons p parts ih =>
        intro a b ha hb
        simp only [fillE] at hb
        split at hb
        · rename_i hc
          simp only [Bool.and_eq_true, beq_iff_eq, decide_eq_true_eq] at hc
          refine ih _ _ ?_ hb
          intro e he
          rcases List.mem_or_eq_of_mem_set he with h | rfl
          · exact ha _ h
          · exact hc.1.2
        · cases hb
    exact this _ _ _ (fun e he => by rw [List.eq_of_mem_replicate he]; exact hl) hf
  refine OpS.newSlice rfl hel fun base σ w ρ hρ => ?_
  obtain ⟨zv, hz1, hz2⟩ := run_zeroValue_ (hti _ _ he) hz w
  obtain ⟨cs', h1, h2, h3⟩ := fillE_M (base := base) (σ := σ) (w := w) (ρ := ρ) hρ parts.toList _ _ es (rows_zero hz2 hl len) hf
  have hlen' : es.length = len := by rw [h3, List.length_replicate]
  refine ⟨cs', e, (0, 0), 0, len, ?_, nf_zero _, by omega, ?_, by rw [h2.2.1, hlen']; exact Nat.le_refl _, h2.2.2⟩
  · have hparts : (parts.map fun (i, x) => (i, ρ x)).toList = parts.toList.map fun p => (p.1, ρ p.2) := by simp
    have hbig : ¬ len * inf.size > 2 ^ 24 := by omega
    by_cases h0 : len * inf.size = 0
    · have hl0 : len = 0 := by
        rcases Nat.mul_eq_zero.1 h0 with h | h
        · exact h
        · omega
      subst hl0
      have hr : ∀ f : Nat → Value, (Array.range (0 * inf.size)).map f = #[] := fun f => Array.eq_empty_of_size_eq_zero (by simp)
      rw [hr] at h1
      simp only [execOp, ho, Instr.buildSlice, Sem.run_bind, run_underlying hund, Result.andThen_ok, run_sizeOf_ (hti _ _ he)]
      rw [if_neg hbig, if_pos h0]
      simp only [Sem.run_pure, Result.andThen_ok, Sem.run_bind, hr, hparts, h1, newRow, run_newObj_alloc, hlen']
      rfl
    · simp only [execOp, ho, Instr.buildSlice, Sem.run_bind, run_underlying hund, Result.andThen_ok, run_sizeOf_ (hti _ _ he)]
      rw [if_neg hbig, if_neg h0]
      simp only [Sem.run_bind, hz1, Result.andThen_ok, Sem.run_pure, hparts, h1, newRow, run_newObj_alloc, hlen']
      rfl
  · unfold maxLen
    have : len * 1 ≤ len * inf.size := Nat.mul_le_mul_left _ hs
    omega

/-- A slice written out with nothing in it. -/
theorem ok_buildSlice0 {T e : TypeId} {parts : Array (Nat × Operand)} {inf : TInfo} {s1 b1 : Nat} {z1 : List V} (hti : TabOk P ti) (hT : ti T = some ⟨.slice e, s1, b1, z1⟩) (he : ti e = some inf)
    (ho : o.op = .buildSlice T 0 parts) (hp : parts.size = 0) : OpS P o t n (.nil inf.size) 0 := by
  obtain rfl : parts = #[] := Array.eq_empty_of_size_eq_zero hp
  have hund := und_slice (hti _ _ hT) rfl
  refine OpS.newNil rfl fun base σ w ρ hρ => ⟨some ⟨w.heap.size, 0, none⟩, .cells #[] e, 0, ?_⟩
  have hr : ∀ f : Nat → Value, (Array.range 0).map f = #[] := fun f => Array.eq_empty_of_size_eq_zero (by simp)
  simp only [execOp, ho, Instr.buildSlice, Sem.run_bind, run_underlying hund, Result.andThen_ok, run_sizeOf_ (hti _ _ he), Nat.zero_mul]
  rw [if_neg (by omega)]
  simp [Instr.fill, newRow, hr, World.drewN]
end
end Go.Proofs.Ytjhfabimacljhaa.K
