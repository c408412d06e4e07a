/- ev1 is what the machine does: fields, elements, parts, structs and slices that are written out, bytes. Nothing here depends on the program. -/
import Derived.Test.YtjhfabimacljhaaKi
namespace Go.Proofs.Ytjhfabimacljhaa.K
open Go Go.RowKit

section
variable {P : Program} {ti : Tab} {t h : List V} {n : Nat} {o : Oper}

theorem fieldOf_und {T : TypeId} {f off : Nat} {fty : TypeId} (hti : TabOk P ti) (hf : fieldOf ti T f = some (off, fty)) :
    ∃ fields fd, P.underlying T = some (.struct fields) ∧ fields[f]? = some fd ∧ fd.offset = off ∧ fd.type = fty := by
  unfold fieldOf at hf
  split at hf
  · rename_i fs _ _ _ heq
    obtain ⟨d, hd, hk, -⟩ := (hti _ _ heq).und
    obtain ⟨fields, rfl⟩ : ∃ fields, d = .struct fields := by
      cases d with
      | struct fields => exact ⟨fields, rfl⟩
      | _ => exact hk.elim
    have hk' : fields.toList.map (fun f => (f.offset, f.type)) = fs := hk
    rw [← hk', List.getElem?_map] at hf
    obtain ⟨fd, hfd, he⟩ := Option.map_eq_some_iff.1 hf
    simp only [Prod.mk.injEq] at he
    exact ⟨fields, fd, hd, by simpa using hfd, he.1, he.2⟩
  · cases hf

theorem ok_fieldAddr {T : TypeId} {x : Operand} {f L i o' off : Nat} {e : List V} {fty : TypeId} {inf : TInfo} (hti : TabOk P ti) (ho : o.op = .fieldAddr T x f) (hx : opnd t x = .ptr L i o' e)
    (hf : fieldOf ti T f = some (off, fty)) (hi : ti fty = some inf) (hs : inf.size ≠ 0) : OpS P o t n (.ptr L i (o' + off) e) 0 := by
  refine OpS.val fun base σ w ρ hρ => ?_
  have hm := hρ x
  rw [hx] at hm
  generalize hv : ρ x = v at hm
  obtain ⟨fields, fd, hd, hfd, rfl, rfl⟩ := fieldOf_und hti hf
  cases hm with
  | ptr _ _ _ _ ad u h4 h5 h6 =>
    refine ⟨.pointer (some ((ad.add o').add fd.offset)), ?_, by rw [add_add']; exact .ptr L i _ e ad u h4 h5 h6⟩
    simp only [execOp, ho, hv, Instr.fieldAt, Sem.run_bind, run_underlying hd, Result.andThen_ok, hfd, Instr.sureAddr, Sem.run_pure, fieldPlace, run_sizeOf_ (hti _ _ hi), hs, if_false]

theorem ok_field {T : TypeId} {x : Operand} {f off : Nat} {cs : List V} {fty : TypeId} {inf : TInfo} {z : V} (hti : TabOk P ti) (ho : o.op = .field T x f) (hx : opnd t x = .agg cs)
    (hf : fieldOf ti T f = some (off, fty)) (hi : ti fty = some inf) (hz : partV inf cs off = some z) : OpS P o t n z 0 := by
  refine OpS.val fun base σ w ρ hρ => ?_
  have hm := hρ x
  rw [hx] at hm
  generalize hv : ρ x = v at hm
  obtain ⟨fields, fd, hd, hfd, rfl, rfl⟩ := fieldOf_und hti hf
  cases hm with
  | agg _ vs h1 h6 =>
    obtain ⟨u, hu, hmu⟩ := part_M (P := P) (base := base) (σ := σ) (w := w) (hti _ _ hi) ⟨h1, h6⟩ hz
    refine ⟨u, ?_, hmu⟩
    simp only [execOp, ho, hv, Instr.field, Sem.run_bind, run_underlying hd, Result.andThen_ok, hfd, asAgg, Sem.run_pure, hu]

theorem esz_spec {T : TypeId} {m : Nat} (hti : TabOk P ti) (he : esz ti T = some m) : ∃ e i, P.underlying T = some (.slice e) ∧ ti e = some i ∧ i.size = m := by
  unfold esz at he
  split at he
  · rename_i e _ _ _ heq
    obtain ⟨i, hi, rfl⟩ := Option.map_eq_some_iff.1 he
    exact ⟨e, i, und_slice (hti _ _ heq) rfl, hi, rfl⟩
  · cases he

theorem ok_indexAddr {T : TypeId} {x ix : Operand} {z : V} (hti : TabOk P ti) (ho : o.op = .indexAddr T x ix) (hz : idxV ti T (opnd t x) (opnd t ix) = some z) : OpS P o t n z 0 := by
  refine OpS.val fun base σ w ρ hρ => ?_
  have hm := hρ x
  have hi := hρ ix
  generalize hu : ρ x = u at hm
  generalize hv : ρ ix = v at hi
  generalize opnd t x = X at hz hm
  generalize opnd t ix = I at hz hi
  unfold idxV at hz
  split at hz
  · rename_i L sz off es k i
    split at hz
    · rename_i h0
      split at hz
      · rename_i e he
        split at hz
        · rename_i hsz
          obtain rfl := Option.some.inj hz
          obtain ⟨et, inf, hund, hie, hisz⟩ := esz_spec hti hsz
          cases hi
          cases hm with
          | sl _ _ _ _ A cap uu h1 h2 h3 h4 h5 h6 =>
            have hlt : i.toNat < es.length := (List.getElem?_eq_some_iff.1 he).1
            have hesz : e.length = sz := h3 e (List.mem_of_getElem? he)
            rcases h4 with ⟨_, rfl⟩ | hcap | ⟨ad, rfl, hat⟩
            · simp at he
            · omega
            · refine ⟨.pointer (some (ad.add (i.toNat * sz))), ?_, ?_⟩
              · simp only [execOp, ho, hu, hv, Instr.indexAt, asIntOf, Sem.run_bind, Sem.run_pure, run_underlying hund, Result.andThen_ok]
                have hcond : 0 ≤ i ∧ i < (es.length : Int) := ⟨h0, by omega⟩
                rw [if_pos hcond]
                simp only [Sem.run_bind, run_sizeOf_ (hti _ _ hie), Result.andThen_ok, hisz, hesz, Sem.run_pure]
              · have hpos : At base σ w L e.length ((off + i.toNat) * e.length) e.length (ad.add (i.toNat * sz)) := by
                  rw [hesz]
                  rcases hat with ⟨rfl, hb⟩ | ⟨b, o1, cur, et', fr, hs, rfl, hh, hnf, hroom⟩
                  · exact .inl ⟨rfl, by rw [add_blk]; exact hb⟩
                  · refine .inr ⟨b, o1, cur, et', fr, hs, by rw [add_none, Nat.add_mul, Nat.add_assoc], hh, hnf, ?_⟩
                    have : (i.toNat + 1) * sz ≤ cap * sz := Nat.mul_le_mul_right _ (by omega)
                    rw [Nat.add_mul] at this ⊢
                    omega
                have := M.ptr (base := base) (σ := σ) (w := w) L (off + i.toNat) 0 e (ad.add (i.toNat * sz)) (uu i.toNat) hpos
                  (fun c x hc => by rw [add_add']; exact h5 ad rfl i.toNat e c x he hc) (fun c x hc => h6 i.toNat e c x he hc)
                exact this
        · cases hz
      · cases hz
    · cases hz
  · cases hz

theorem ok_index {T : TypeId} {x ix : Operand} {z : V} (hti : TabOk P ti) (ho : o.op = .index T x ix) (hz : byteV ti T (opnd t x) (opnd t ix) = some z) : OpS P o t n z 0 := by
  refine OpS.val fun base σ w ρ hρ => ?_
  have hm := hρ x
  have hi := hρ ix
  generalize hu : ρ x = u at hm
  generalize hv : ρ ix = v at hi
  generalize opnd t x = X at hz hm
  generalize opnd t ix = I at hz hi
  unfold byteV at hz
  split at hz
  · rename_i s k i heq
    have hund := und_str (hti _ _ heq) rfl
    split at hz
    · rename_i h0
      obtain ⟨b, hb, rfl⟩ := Option.map_eq_some_iff.1 hz
      cases hm; cases hi
      refine ⟨_, ?_, .int _ _⟩
      have hget : (⟨s.toArray⟩ : ByteArray)[i.toNat]? = some b := by
        have hlt := (List.getElem?_eq_some_iff.1 hb).1
        have he := (List.getElem?_eq_some_iff.1 hb).2
        have hsz : i.toNat < (⟨s.toArray⟩ : ByteArray).size := by simp [ByteArray.size]; exact hlt
        rw [getElem?_pos (⟨s.toArray⟩ : ByteArray) i.toNat hsz]
        congr 1
      simp only [execOp, ho, hu, hv, Instr.index, asIntOf, Sem.run_bind, Sem.run_pure, run_underlying hund, Result.andThen_ok]
      rw [if_pos h0, hget]
      rfl
    · cases hz
  · cases hz

theorem bound_one {m : Nat} {y : V} {r : Nat} {z : Value} (hx : boundV m (some y) = some r) {base : Base} {σ : Sig} {w : World} (hz : M base σ w y z) :
    r ≤ m ∧ ∀ (m' : Nat) (code : BoundsCode), m ≤ m' → (Instr.sliceBound z m' code).run P w = .ok r w := by
  unfold boundV at hx
  split at hx
  · rename_i heq; cases heq
  · rename_i k i heq
    obtain rfl := Option.some.inj heq
    split at hx
    · rename_i hb
      obtain rfl := Option.some.inj hx
      cases hz
      refine ⟨by omega, fun m' code hm => ?_⟩
      simp only [Instr.sliceBound, asIntOf, Sem.run_bind, Sem.run_pure, Result.andThen_ok]
      rw [if_pos ⟨hb.1, by omega⟩]
      rfl
    · cases hx
  · cases hx
theorem bounds_run {len cap hh l : Nat} {lo hi : Option V} {lo' hi' : Option Value} (isS : Bool) (hlen : len ≤ cap) (h1 : boundV len hi = some hh) (h2 : lowV lo hh = some l) {base : Base} {σ : Sig} {w : World}
    (hlo : (lo = none ∧ lo' = none) ∨ ∃ y z, lo = some y ∧ lo' = some z ∧ M base σ w y z) (hhi : (hi = none ∧ hi' = none) ∨ ∃ y z, hi = some y ∧ hi' = some z ∧ M base σ w y z) :
    l ≤ hh ∧ hh ≤ len ∧ (Instr.sliceBounds isS len cap lo' hi' none).run P w = .ok (l, hh, cap) w := by
  unfold Instr.sliceBounds
  rcases hhi with ⟨rfl, rfl⟩ | ⟨y, z, rfl, rfl, hm⟩
  · obtain rfl := Option.some.inj h1
    rcases hlo with ⟨rfl, rfl⟩ | ⟨y, z, rfl, rfl, hm⟩
    · obtain rfl := Option.some.inj h2
      exact ⟨Nat.zero_le _, Nat.le_refl _, rfl⟩
    · obtain ⟨hr, hrun⟩ := bound_one (P := P) (show boundV len (some y) = some l from h2) hm
      refine ⟨hr, Nat.le_refl _, ?_⟩
      simp only [Sem.run_bind, Sem.run_pure, Result.andThen_ok, hrun _ _ (Nat.le_refl _)]
  · obtain ⟨hr, hrun⟩ := bound_one (P := P) h1 hm
    rcases hlo with ⟨rfl, rfl⟩ | ⟨y2, z2, rfl, rfl, hm2⟩
    · obtain rfl := Option.some.inj h2
      refine ⟨Nat.zero_le _, hr, ?_⟩
      simp only [Sem.run_bind, Sem.run_pure, Result.andThen_ok, hrun _ _ hlen]
    · obtain ⟨hr2, hrun2⟩ := bound_one (P := P) (show boundV hh (some y2) = some l from h2) hm2
      refine ⟨hr2, hr, ?_⟩
      simp only [Sem.run_bind, Sem.run_pure, Result.andThen_ok, hrun _ _ hlen, hrun2 _ _ (Nat.le_refl _)]

theorem ok_slice {T : TypeId} {x : Operand} {lo hi : Option Operand} {z : V} (hti : TabOk P ti) (ho : o.op = .slice T x lo hi none) (hz : sliceV ti T (opnd t x) (lo.map (opnd t)) (hi.map (opnd t)) = some z) :
    OpS P o t n z 0 := by
  refine OpS.val fun base σ w ρ hρ => ?_
  have hm := hρ x
  have hop : ∀ q : Option Operand, (q.map (opnd t) = none ∧ q.map ρ = none) ∨ ∃ y z, q.map (opnd t) = some y ∧ q.map ρ = some z ∧ M base σ w y z := by
    intro q
    cases q with
    | none => exact .inl ⟨rfl, rfl⟩
    | some q => exact .inr ⟨_, _, rfl, rfl, hρ q⟩
  have hlo := hop lo
  have hhi := hop hi
  have hrun : (execOp ρ o).run P w = ((Instr.sliceAt T (ρ x) (lo.map ρ) (hi.map ρ) none).run P w).andThen (fun v => (pure (Next.value v) : Sem Next).run P) := by
    simp only [execOp, ho, Option.map_none, Sem.run_bind]
  rw [hrun]
  generalize lo.map (opnd t) = LO at hz hlo
  generalize hi.map (opnd t) = HI at hz hhi
  generalize lo.map ρ = lo' at hlo
  generalize hi.map ρ = hi' at hhi
  generalize ρ x = u at hm
  generalize opnd t x = X at hz hm
  unfold sliceV at hz
  split at hz
  · rename_i s heq
    have hund := und_str (hti _ _ heq) rfl
    obtain ⟨hh, h1, hz⟩ := Option.bind_eq_some_iff.1 hz
    obtain ⟨l, h2, hz⟩ := Option.bind_eq_some_iff.1 hz
    obtain rfl := Option.some.inj hz
    cases hm
    have hsz : (⟨s.toArray⟩ : ByteArray).size = s.length := by simp [ByteArray.size]
    obtain ⟨hl1, hl2, hb⟩ := bounds_run (P := P) (base := base) (σ := σ) (w := w) false (Nat.le_refl s.length) h1 h2 hlo hhi
    refine ⟨_, ?_, .str _⟩
    have hex : (⟨s.toArray⟩ : ByteArray).extract l hh = ⟨((s.take hh).drop l).toArray⟩ := by
      apply ByteArray.ext
      simp [List.drop_take]
    simp only [Instr.sliceAt, Sem.run_bind, run_underlying hund, Result.andThen_ok, Instr.slice, hsz, hb, hex, Option.isSome_none, Bool.false_eq_true, if_false, Sem.run_pure]
  · rename_i e _ _ _ L sz off es heq
    have hund := und_slice (hti _ _ heq) rfl
    obtain ⟨hh, h1, hz⟩ := Option.bind_eq_some_iff.1 hz
    obtain ⟨l, h2, hz⟩ := Option.bind_eq_some_iff.1 hz
    split at hz
    · rename_i hsz
      obtain ⟨inf, hinf, hinfs⟩ := Option.map_eq_some_iff.1 hsz
      obtain rfl := Option.some.inj hz
      cases hm with
      | sl _ _ _ _ A cap uu g1 g2 g3 g4 g5 g6 =>
        obtain ⟨hl1, hl2, hb⟩ := bounds_run (P := P) (base := base) (σ := σ) (w := w) true g1 h1 h2 hlo hhi
        refine ⟨.slice (if cap = l then A else A.map (·.add (l * sz))) (hh - l) (cap - l), ?_, ?_⟩
        · simp only [Instr.sliceAt, Sem.run_bind, run_underlying hund, Result.andThen_ok, Instr.slice, hb, run_sizeOf_ (hti _ _ hinf), hinfs, Sem.run_pure]
        · have hlen : ((es.take hh).drop l).length = hh - l := by simp; omega
          have hget : ∀ (j : Nat) e, ((es.take hh).drop l)[j]? = some e → es[l + j]? = some e := by
            intro j e hj
            rw [List.getElem?_drop, List.getElem?_take] at hj
            split at hj
            · exact hj
            · cases hj
          rw [← hlen]
          refine .sl L sz (off + l) _ _ (cap - l) (fun j c => uu (l + j) c) (by omega) (by omega) ?_ ?_ ?_ ?_
          · intro e he
            exact g3 e (List.mem_of_mem_take (List.mem_of_mem_drop he))
          · rcases g4 with ⟨hL, rfl⟩ | hcap | ⟨ad, rfl, hat⟩
            · exact .inl ⟨hL, by simp⟩
            · exact .inr (.inl (by omega))
            · by_cases hcl : cap = l
              · exact .inr (.inl (by omega))
              · rw [if_neg hcl]
                refine .inr (.inr ⟨ad.add (l * sz), rfl, ?_⟩)
                rcases hat with ⟨rfl, hbb⟩ | ⟨b, o1, cur, et', fr, hs, rfl, hq, hnf, hroom⟩
                · exact .inl ⟨rfl, by rw [add_blk]; exact hbb⟩
                · refine .inr ⟨b, o1, cur, et', fr, hs, by rw [add_none, Nat.add_mul, Nat.add_assoc], hq, hnf, ?_⟩
                  have : l * sz + (cap - l) * sz = cap * sz := by rw [← Nat.add_mul]; congr 1; omega
                  rw [Nat.add_mul]; omega
          · intro ad hA j e c y hj hc
            have hj' := hget j e hj
            have hlt := (List.getElem?_eq_some_iff.1 hj').1
            by_cases hcl : cap = l
            · omega
            · rw [if_neg hcl] at hA
              obtain ⟨ad0, rfl, rfl⟩ := Option.map_eq_some_iff.1 hA
              rw [add_add', ← Nat.add_assoc, ← Nat.add_mul]
              exact g5 ad0 rfl (l + j) e c y hj' hc
          · intro j e c y hj hc
            exact g6 (l + j) e c y (hget j e hj) hc
    · cases hz
  · rename_i e _ _ _ sz heq
    have hund := und_slice (hti _ _ heq) rfl
    obtain ⟨hh, h1, hz⟩ := Option.bind_eq_some_iff.1 hz
    obtain ⟨l, h2, hz⟩ := Option.bind_eq_some_iff.1 hz
    split at hz
    · rename_i hsome
      obtain ⟨inf, hinf⟩ := Option.isSome_iff_exists.1 hsome
      obtain rfl := Option.some.inj hz
      obtain ⟨A, rfl⟩ : ∃ A, u = .slice A 0 0 := by cases hm; exact ⟨_, rfl⟩
      obtain ⟨hl1, hl2, hb⟩ := bounds_run (P := P) (base := base) (σ := σ) (w := w) true (Nat.le_refl 0) h1 h2 hlo hhi
      have hl0 : l = 0 := by omega
      have hh0 : hh = 0 := by omega
      subst hl0 hh0
      refine ⟨.slice A 0 0, ?_, .nil _ A⟩
      simp only [Instr.sliceAt, Sem.run_bind, run_underlying hund, Result.andThen_ok, Instr.slice, hb, run_sizeOf_ (hti _ _ hinf), Sem.run_pure]
      simp
    · cases hz
  · cases hz
end
end Go.Proofs.Ytjhfabimacljhaa.K
