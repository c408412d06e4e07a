/- Loads, fields, elements, parts of slices: what the machine makes of abstract values. Nothing here depends on the program. -/
import Derived.Test.YtjhfabimacljhaaKe
namespace Go.Proofs.Ytjhfabimacljhaa.K
open Go Go.RowKit

theorem add_add' (a : Addr) (i j : Nat) : (a.add i).add j = a.add (i + j) := by
  unfold Addr.add
  by_cases hi : i = 0
  · subst hi; simp
  · by_cases hj : j = 0
    · subst hj; simp [hi]
    · have : ¬ i + j = 0 := by omega
      simp [hi, hj, Nat.add_assoc]

section
variable {P : Program} {base : Base} {σ : Sig} {w : World}
theorem run_isAgg_ {ty : TypeId} {i : TInfo} (ht : TOk P ty i) (w : World) : (isAgg ty).run P w = .ok i.kind.isAgg w := by
  obtain ⟨d, hd, hf, hn⟩ := ht.und
  unfold isAgg
  simp only [Sem.run_bind, run_underlying hd, Result.andThen_ok]
  cases hk : i.kind with
  | struct fs =>
    rw [hk] at hf
    cases d <;> first | exact hf.elim | rfl
  | _ =>
    have := hn (by rw [hk]; rfl)
    split at this
    · cases this
    · cases this
    · simp_all [Kind.isAgg]
theorem run_sizeOf_ {ty : TypeId} {i : TInfo} (ht : TOk P ty i) (w : World) : (sizeOf ty).run P w = .ok i.size w := by
  obtain ⟨x, hx, hs, _⟩ := ht.inf
  simp [sizeOf, typeInfo, hx, hs]
theorem run_zeroValue_ {ty : TypeId} {i : TInfo} (ht : TOk P ty i) (hz : i.zero ≠ []) (w : World) : ∃ z, (zeroValue ty).run P w = .ok z w ∧ zerosOk i.zero z.cells.toList = true := by
  obtain ⟨x, hx, _, _, hzz⟩ := ht.inf
  obtain ⟨z, h1, h2⟩ := hzz hz
  exact ⟨z, by simp [zeroValue, typeInfo, hx, h1], h2⟩
theorem und_slice {t e : TypeId} {i : TInfo} (ht : TOk P t i) (hk : i.kind = .slice e) : P.underlying t = some (.slice e) := by
  obtain ⟨d, hd, hf, _⟩ := ht.und
  rw [hk] at hf
  rw [hd, show d = .slice e from hf]
theorem und_str {t : TypeId} {i : TInfo} (ht : TOk P t i) (hk : i.kind = .str) : P.underlying t = some .string := by
  obtain ⟨d, hd, hf, _⟩ := ht.und
  rw [hk] at hf
  rw [hd, show d = .string from hf]
theorem und_int {t : TypeId} {i : TInfo} {k : IntKind} (ht : TOk P t i) (hk : i.kind = .int k) : P.underlying t = some (.int k) := by
  obtain ⟨d, hd, hf, _⟩ := ht.und
  rw [hk] at hf
  rw [hd, show d = .int k from hf]
theorem und_bool {t : TypeId} {i : TInfo} (ht : TOk P t i) (hk : i.kind = .bool) : P.underlying t = some .bool := by
  obtain ⟨d, hd, hf, _⟩ := ht.und
  rw [hk] at hf
  rw [hd, show d = .bool from hf]

/-- A part of cells, as a value of a type. -/
def partV (i : TInfo) (e : List V) (o : Nat) : Option V :=
  if i.kind.isAgg then (if o + i.size ≤ e.length then some (.agg ((e.drop o).take i.size)) else none) else e[o]?
def loadV (i : TInfo) : V → Option V
  | .ptr _ _ o e => partV i e o
  | _ => none

theorem load_M {ty : TypeId} {i : TInfo} (ht : TOk P ty i) {p x : V} {v : Value} (hp : M base σ w p v) (hl : loadV i p = some x) : ∃ ad u, v = .pointer (some ad) ∧ (loadVar ty ad).run P w = .ok u w ∧ M base σ w x u := by
  cases hp with
  | ptr L k o e ad u h4 h5 h6 =>
    simp only [loadV, partV] at hl
    by_cases ha : i.kind.isAgg = true
    · rw [if_pos ha] at hl
      split at hl
      · rename_i hle
        obtain rfl := Option.some.inj hl
        have hcs : ∀ (j : Nat) v, ((List.range i.size).map fun c => u (o + c))[j]? = some v → w.cell? ((ad.add o).add j) = some v := by
          intro j v hv
          rw [List.getElem?_map] at hv
          obtain ⟨c, hc, rfl⟩ := Option.map_eq_some_iff.1 hv
          have hjc : j < i.size := by
            have := (List.getElem?_eq_some_iff.1 hc).1
            simpa using this
          rw [List.getElem?_range hjc] at hc
          obtain rfl := Option.some.inj hc
          rw [add_add']
          have : o + j < e.length := by omega
          exact h5 (o + j) _ (List.getElem?_eq_getElem this)
        have hrun := run_loadCells_list (P := P) w (ad.add o) ((List.range i.size).map fun c => u (o + c)) hcs
        refine ⟨ad.add o, .agg ((List.range i.size).map fun c => u (o + c)).toArray, rfl, ?_, ?_⟩
        · unfold loadVar
          simp only [Sem.run_bind, run_isAgg_ ht, run_sizeOf_ ht, Result.andThen_ok, ha, if_true]
          rw [List.length_map, List.length_range] at hrun
          rw [hrun]
          rfl
        · refine .agg _ _ (by simp; omega) fun c y v hy hv => ?_
          rw [List.getElem?_map] at hv
          obtain ⟨c', hc', rfl⟩ := Option.map_eq_some_iff.1 hv
          have hjc : c < i.size := by
            have := (List.getElem?_eq_some_iff.1 hc').1
            simpa using this
          rw [List.getElem?_range hjc] at hc'
          obtain rfl := Option.some.inj hc'
          rw [List.getElem?_take, if_pos hjc, List.getElem?_drop] at hy
          exact h6 (o + c) y hy
      · cases hl
    · rw [if_neg ha] at hl
      refine ⟨ad.add o, u o, rfl, ?_, h6 o x hl⟩
      unfold loadVar
      have ha' : i.kind.isAgg = false := by simpa using ha
      simp only [Sem.run_bind, run_isAgg_ ht, Result.andThen_ok, ha', Bool.false_eq_true, if_false]
      have := h5 o x hl
      simp [load, Sem.run, this]
  | _ => simp [loadV] at hl

theorem part_M {ty : TypeId} {i : TInfo} (ht : TOk P ty i) {cs : List V} {vs : List Value} (hp : Ms base σ w cs vs) {o : Nat} {x : V} (hl : partV i cs o = some x) : ∃ u, (part ty vs.toArray o).run P w = .ok u w ∧ M base σ w x u := by
  unfold partV at hl
  unfold part
  by_cases ha : i.kind.isAgg = true
  · rw [if_pos ha] at hl
    split at hl
    · rename_i hle
      obtain rfl := Option.some.inj hl
      refine ⟨.agg (vs.toArray.extract o (o + i.size)), by simp only [Sem.run_bind, run_isAgg_ ht, run_sizeOf_ ht, Result.andThen_ok, ha, if_true]; rfl, ?_⟩
      have hl2 := hp.1
      rw [show vs.toArray.extract o (o + i.size) = ((vs.drop o).take i.size).toArray by simp]
      refine .agg _ _ (by simp; omega) fun c y v hy hv => ?_
      rw [List.getElem?_take] at hy hv
      split at hy
      · rw [if_pos (by assumption)] at hv
        rw [List.getElem?_drop] at hy hv
        exact hp.2 _ _ _ hy hv
      · cases hy
    · cases hl
  · rw [if_neg ha] at hl
    have ha' : i.kind.isAgg = false := by simpa using ha
    have hlt : o < vs.length := by have := (List.getElem?_eq_some_iff.1 hl).1; have := hp.1; omega
    have hv : vs[o]? = some vs[o] := List.getElem?_eq_getElem hlt
    refine ⟨vs[o], ?_, hp.2 o x _ hl hv⟩
    simp only [Sem.run_bind, run_isAgg_ ht, Result.andThen_ok, ha', Bool.false_eq_true, if_false]
    simp [hlt]
end
end Go.Proofs.Ytjhfabimacljhaa.K
