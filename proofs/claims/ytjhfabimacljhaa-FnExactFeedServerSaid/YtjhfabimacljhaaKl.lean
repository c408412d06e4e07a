/- Conversions, make, and all of ev1. Nothing here depends on the program. -/
import Derived.Test.YtjhfabimacljhaaKk
import Derived.Lib.ConvBytes
import Derived.Laws.BytesString
import Derived.Laws.AppendOwn
namespace Go.Proofs.Ytjhfabimacljhaa.K
open Go Go.RowKit

section
variable {P : Program} {ti : Tab} {t h : List V} {n : Nat} {o : Oper}

theorem bytesV_spec : ∀ (es : List (List V)) (s : List UInt8), bytesV es = some s → ∃ ns : List Int, es = ns.map (fun n => [.int .u8 n]) ∧ s = ns.map (fun n => UInt8.ofNat n.toNat)
  | [], s, h => ⟨[], rfl, by obtain rfl := Option.some.inj h; rfl⟩
  | e :: es, s, h => by
    unfold bytesV at h
    split at h
    · rename_i heq; cases heq
    · rename_i m es' heq
      simp only [List.cons.injEq] at heq
      obtain ⟨rfl, rfl⟩ := heq
      obtain ⟨s', hs', rfl⟩ := Option.map_eq_some_iff.1 h
      obtain ⟨ns, rfl, rfl⟩ := bytesV_spec es s' hs'
      exact ⟨m :: ns, rfl, rfl⟩
    · cases h
theorem push_fold (ns : List Int) : ∀ (acc : List UInt8), ns.foldl (fun (r : ByteArray) n => r.push (UInt8.ofNat n.toNat)) ⟨acc.toArray⟩ = ⟨(acc ++ ns.map (fun n => UInt8.ofNat n.toNat)).toArray⟩ := by
  induction ns with
  | nil => intro acc; simp
  | cons n ns ih =>
    intro acc
    rw [List.foldl_cons]
    have : (⟨acc.toArray⟩ : ByteArray).push (UInt8.ofNat n.toNat) = ⟨(acc ++ [UInt8.ofNat n.toNat]).toArray⟩ := by
      simp [ByteArray.push]
    rw [this, ih]
    simp

theorem ok_convert {s d : TypeId} {x : Operand} {z : V} (hti : TabOk P ti) (ho : o.op = .convert s d x) (hz : convV ti s d (opnd t x) = some z) : OpS P o t n z 0 := by
  refine OpS.val fun base σ w ρ hρ => ?_
  have hm := hρ x
  have hrun : (execOp ρ o).run P w = ((convert s d (ρ x)).run P w).andThen (fun v => (pure (Next.value v) : Sem Next).run P) := by
    simp only [execOp, ho, Sem.run_bind]
  rw [hrun]
  generalize ρ x = u at hm
  generalize opnd t x = X at hz hm
  unfold convV at hz
  split at hz
  · rename_i i0 k _ _ _ k' m h1 h2
    obtain rfl := Option.some.inj hz
    cases hm
    obtain ⟨ds, hds, _⟩ := (hti _ _ h1).und
    have hdd := und_int (hti _ _ h2) rfl
    refine ⟨_, ?_, .int _ _⟩
    simp only [convert, Sem.run_bind, run_underlying hds, run_underlying hdd, Result.andThen_ok]
    cases ds <;> rfl
  · rename_i h1 h2
    obtain rfl := Option.some.inj hz
    cases hm
    have hds := und_str (hti _ _ h1) rfl
    have hdd := und_str (hti _ _ h2) rfl
    refine ⟨_, ?_, .str _⟩
    simp only [convert, Sem.run_bind, run_underlying hds, run_underlying hdd, Result.andThen_ok]
    rfl
  · rename_i e _ _ _ _ _ _ L sz off es h1 h2
    obtain ⟨i, hi, hz⟩ := Option.bind_eq_some_iff.1 hz
    split at hz
    · rename_i hk
      obtain ⟨bs, hb, rfl⟩ := Option.map_eq_some_iff.1 hz
      obtain ⟨ns, rfl, rfl⟩ := bytesV_spec es bs hb
      have hds := und_slice (hti _ _ h1) rfl
      have hdd := und_str (hti _ _ h2) rfl
      have hee := und_int (hti _ _ hi) hk
      cases hm with
      | sl _ _ _ _ A cap uu g1 g2 g3 g4 g5 g6 =>
        refine ⟨.string ⟨(ns.map (fun n => UInt8.ofNat n.toNat)).toArray⟩, ?_, .str _⟩
        simp only [convert, Sem.run_bind, run_underlying hds, run_underlying hdd, Result.andThen_ok, run_underlying hee]
        cases ns with
        | nil =>
          cases A with
          | none => rfl
          | some ad =>
            have hl : (loadCells ad 0).run P w = .ok (([] : List Int).map (Value.int .u8)).toArray w := rfl
            have := run_bytesToString (P := P) w ad 0 cap [] hl
            simp only [List.map_nil, List.length_nil]
            rw [this]
            rfl
        | cons n0 ns0 =>
          have hsz : sz = 1 := by have := g3 [.int .u8 n0] (by simp); simpa using this.symm
          subst hsz
          rcases g4 with ⟨_, h0⟩ | hcap | ⟨ad, rfl, hat⟩
          · cases h0
          · simp at g1; omega
          · have hcells : ∀ (j : Nat) v, (((n0 :: ns0).map (Value.int .u8)))[j]? = some v → w.cell? (ad.add j) = some v := by
              intro j v hv
              rw [List.getElem?_map] at hv
              obtain ⟨q, hq, rfl⟩ := Option.map_eq_some_iff.1 hv
              have hj : ((n0 :: ns0).map (fun n => [V.int .u8 n]))[j]? = some [.int .u8 q] := by rw [List.getElem?_map, hq]; rfl
              have h5 := g5 ad rfl j _ 0 _ hj rfl
              have h6 := g6 j _ 0 _ hj rfl
              rw [Nat.mul_one, Nat.add_zero] at h5
              rw [h5]
              generalize uu j 0 = q' at h6
              cases h6
              rfl
            have hl := run_loadCells_list (P := P) w ad ((n0 :: ns0).map (Value.int .u8)) hcells
            rw [List.length_map] at hl
            have := run_bytesToString (P := P) w ad (n0 :: ns0).length cap (n0 :: ns0) hl
            rw [List.length_map, this]
            have hf := push_fold (n0 :: ns0) []
            simp only [List.nil_append] at hf
            have he : ByteArray.empty = ⟨([] : List UInt8).toArray⟩ := rfl
            rw [he, hf]
            rfl
    · cases hz
  · rename_i e _ _ _ _ _ _ sz h1 h2
    obtain ⟨i, hi, hz⟩ := Option.bind_eq_some_iff.1 hz
    split at hz
    · rename_i hk
      obtain rfl := Option.some.inj hz
      have hds := und_slice (hti _ _ h1) rfl
      have hdd := und_str (hti _ _ h2) rfl
      have hee := und_int (hti _ _ hi) hk
      obtain ⟨A, rfl⟩ : ∃ A, u = .slice A 0 0 := by cases hm; exact ⟨_, rfl⟩
      refine ⟨.string ⟨([] : List UInt8).toArray⟩, ?_, .str []⟩
      simp only [convert, Sem.run_bind, run_underlying hds, run_underlying hdd, Result.andThen_ok, run_underlying hee]
      cases A with
      | none => rfl
      | some ad =>
        have hl : (loadCells ad 0).run P w = .ok (([] : List Int).map (Value.int .u8)).toArray w := rfl
        have := run_bytesToString (P := P) w ad 0 0 [] hl
        rw [this]
        rfl
    · cases hz
  · cases hz

end
end Go.Proofs.Ytjhfabimacljhaa.K
