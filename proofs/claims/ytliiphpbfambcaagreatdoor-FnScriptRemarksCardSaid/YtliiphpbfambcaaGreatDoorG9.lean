/- Structs compared. Nothing here depends on the program. -/
import Derived.Test.YtliiphpbfambcaaGreatDoorG3
import Derived.Laws.StructEq
namespace Go.Proofs.YtliiphpbfambcaaGreatDoor.K
open Go Go.RowKit
set_option linter.unusedVariables false
set_option linter.unusedSimpArgs false
def eq1 (i : Option TInfo) (x y : V) : Option Bool :=
  match i, x, y with
  | some ⟨.int _, _, _, _⟩, .int k a, .int k' b => if k = k' then some (decide (a = b)) else none
  | some ⟨.bool, _, _, _⟩, .bool a, .bool b => some (a == b)
  | some ⟨.str, _, _, _⟩, .str a, .str b => some (decide (a = b))
  | _, _, _ => none
theorem eq1_cases {i : Option TInfo} {x y : V} {r : Bool} (h : eq1 i x y = some r) : (∃ k s1 b1 z1 kk a b, i = some ⟨.int k, s1, b1, z1⟩ ∧ x = .int kk a ∧ y = .int kk b ∧ r = decide (a = b)) ∨ (∃ s1 b1 z1 a b, i = some ⟨.bool, s1, b1, z1⟩ ∧ x = .bool a ∧ y = .bool b ∧ r = (a == b)) ∨ (∃ s1 b1 z1 a b, i = some ⟨.str, s1, b1, z1⟩ ∧ x = .str a ∧ y = .str b ∧ r = decide (a = b)) := by
  unfold eq1 at h
  split at h
  · split at h
    · rename_i hkk
      subst hkk
      exact .inl ⟨_, _, _, _, _, _, _, rfl, rfl, rfl, (Option.some.inj h).symm⟩
    · cases h
  · exact .inr (.inl ⟨_, _, _, _, _, rfl, rfl, rfl, (Option.some.inj h).symm⟩)
  · exact .inr (.inr ⟨_, _, _, _, _, rfl, rfl, rfl, (Option.some.inj h).symm⟩)
  · cases h
def eqF (S : TypeId → V → V → Option Bool) (ti : Tab) (a b : List V) : List (Nat × TypeId) → Option Bool
  | [] => some true
  | (o, t) :: r => match ti t with
    | some i => match partV i a o, partV i b o with
      | some x, some y => match S t x y, eqF S ti a b r with | some p, some q => some (p && q) | _, _ => none
      | _, _ => none
    | none => none
def eqV (ti : Tab) : Nat → TypeId → V → V → Option Bool
  | 0, _, _, _ => none
  | d + 1, t, x, y => match ti t, x, y with
    | some ⟨.struct fs, _, _, _⟩, .agg a, .agg b => eqF (eqV ti d) ti a b fs
    | i, x, y => eq1 i x y
def eqNames (P : Program) : Nat → TypeId → Bool
  | 0, _ => true
  | d + 1, t => match P.underlying t with
    | some (.struct fs) => !P.stoodInHeld t && fs.toList.all fun f => !(f.name == "_") && eqNames P d f.type
    | _ => true
section
variable {P : Program} {ti : Tab} {base : Base} {σ : Sig} {w : World}
theorem eqF_run (hti : TabOk P ti) {S : TypeId → V → V → Option Bool} {dd : Nat} (hS : ∀ t x y u v r, S t x y = some r → M base σ w x u → M base σ w y v → (∃ d, eqNames P d t = true ∧ S = eqV ti d) → (Op.equalIn dd t u v).run P w = .ok r w) {d : Nat} (hd : S = eqV ti d)
    {a b : List V} {as1 bs : List Value} (ha : Ms base σ w a as1) (hb : Ms base σ w b bs) : ∀ (fs : List Field) (r : Bool), eqF S ti a b (fs.map fun f => (f.offset, f.type)) = some r → (fs.all fun f => !(f.name == "_") && eqNames P d f.type) = true → (Op.eqFields dd as1.toArray bs.toArray fs).run P w = .ok r w
  | [], r, h, _ => by obtain rfl := Option.some.inj h; simp [Op.eqFields]
  | f :: fs, r, h, hn => by
    simp only [List.all_cons, Bool.and_eq_true, Bool.not_eq_true'] at hn
    simp only [List.map_cons, eqF] at h
    split at h
    · rename_i i hi
      split at h
      · rename_i x y hx hy
        split at h
        · rename_i p q hp hq
          obtain rfl := Option.some.inj h
          obtain ⟨u, hu, hmu⟩ := part_M (hti _ _ hi) ha hx
          obtain ⟨v, hv, hmv⟩ := part_M (hti _ _ hi) hb hy
          have he := hS f.type x y u v p hp hmu hmv ⟨d, hn.1.2, hd⟩
          have ih := eqF_run hti hS hd ha hb fs q hq hn.2
          have hne : f.name ≠ "_" := by simpa using hn.1.1
          rw [Op.eqFields]
          simp only [if_pos hne, Sem.run_bind, hu, hv, he, Result.andThen_ok]
          cases p
          · simp
          · simpa using ih
        · cases h
      · cases h
    · cases h
theorem eqV_run (hti : TabOk P ti) : ∀ (d dd : Nat), d ≤ dd → ∀ (t : TypeId) (x y : V) (u v : Value) (r : Bool), eqV ti d t x y = some r → M base σ w x u → M base σ w y v → eqNames P d t = true → (Op.equalIn dd t u v).run P w = .ok r w
  | 0, _, _, _, _, _, _, _, _, h, _, _, _ => by simp [eqV] at h
  | d + 1, 0, hd, _, _, _, _, _, _, _, _, _, _ => by omega
  | d + 1, dd + 1, hd, t, x, y, u, v, r, h, hx, hy, hn => by
    simp only [eqV] at h
    split at h
    · rename_i fs s1 b1 z1 a b heq
      cases hx with
      | agg _ as1 ha1 ha2 =>
        cases hy with
        | agg _ bs hb1 hb2 =>
          obtain ⟨dsc, hdsc, hk, -⟩ := (hti _ _ heq).und
          obtain ⟨fields, rfl⟩ : ∃ fields, dsc = .struct fields := by
            cases dsc with
            | struct fields => exact ⟨fields, rfl⟩
            | _ => exact hk.elim
          have hk' : fields.toList.map (fun f => (f.offset, f.type)) = fs := hk
          have hfo : P.fieldsOf t = fields := by simp [Program.fieldsOf, hdsc]
          simp only [eqNames, hdsc, Bool.and_eq_true, Bool.not_eq_true'] at hn
          rw [run_equalIn_struct (P := P) w dd t as1.toArray bs.toArray (by rw [hfo]; exact hdsc) hn.1, hfo]
          refine eqF_run hti (S := eqV ti d) (d := d) ?_ rfl ⟨ha1, ha2⟩ ⟨hb1, hb2⟩ fields.toList r (by rw [hk']; exact h) hn.2
          rintro t' x' y' u' v' r' h' hx' hy' ⟨d', hn', hS⟩
          rcases Nat.lt_or_ge d' d with hlt | hge
          · rw [hS] at h'
            exact eqV_run hti d' dd (by omega) t' x' y' u' v' r' h' hx' hy' hn'
          · exact eqV_run hti d dd (by omega) t' x' y' u' v' r' h' hx' hy' (eqNames_mono hge hn')
    · have h := eq1_cases h
      rcases h with ⟨k, s1, b1, z1, kk, a, b, hi, rfl, rfl, rfl⟩ | ⟨s1, b1, z1, a, b, hi, rfl, rfl, rfl⟩ | ⟨s1, b1, z1, a, b, hi, rfl, rfl, rfl⟩
      · obtain ⟨dsc, hdsc, hk, -⟩ := (hti _ _ hi).und
        obtain rfl : dsc = .int k := hk
        cases hx
        cases hy
        simp only [Op.equalIn, Sem.run_bind, run_underlying hdsc, Result.andThen_ok, if_true, Sem.run_pure]
        rfl
      · obtain ⟨dsc, hdsc, hk, -⟩ := (hti _ _ hi).und
        obtain rfl : dsc = .bool := hk
        cases hx
        cases hy
        simp only [Op.equalIn, Sem.run_bind, run_underlying hdsc, Result.andThen_ok, Sem.run_pure]
      · obtain ⟨dsc, hdsc, hk, -⟩ := (hti _ _ hi).und
        obtain rfl : dsc = .string := hk
        cases hx
        cases hy
        simp only [Op.equalIn, Sem.run_bind, run_underlying hdsc, Result.andThen_ok, Sem.run_pure, beq_toListBytes]
        congr 1
        rw [ByteArray.toList_eq, ByteArray.toList_eq]
        by_cases hab : a = b
        · subst hab; simp
        · rw [decide_eq_false hab]; simpa using hab
where
  eqNames_mono {P : Program} : ∀ {d d' : Nat} {t : TypeId}, d' ≥ d → eqNames P d' t = true → eqNames P d t = true
    | 0, _, _, _, _ => rfl
    | d + 1, 0, _, h, _ => by omega
    | d + 1, d' + 1, t, h, hn => by
      simp only [eqNames] at hn ⊢
      split at hn
      · rename_i fs hu
        simp only [Bool.and_eq_true, Bool.not_eq_true', List.all_eq_true] at hn ⊢
        exact ⟨hn.1, fun f hf => ⟨(hn.2 f hf).1, eqNames_mono (by omega) (hn.2 f hf).2⟩⟩
      · rename_i hu
        first | rfl | (split <;> first | rfl | (rename_i fs hu'; exact (hu fs hu').elim))
variable {t : List V} {n : Nat} {o : Oper} {ops : Array Oper}
theorem OpS.eqS (d : Nat) (hti : TabOk P ti) {op : BinOp} {T T' : TypeId} {x y : Operand} {a b : List V} {r r' : Bool} (ho : o.op = .binOp op T x y T') (hx : opnd t x = .agg a) (hy : opnd t y = .agg b) (he : eqV ti d T (.agg a) (.agg b) = some r) (hop : (op = .eql ∧ r' = r) ∨ (op = .neq ∧ r' = !r))
    (hn : eqNames P d T = true) (hd : d ≤ Op.maxDepth) (hgt : P.eqGuardType P.depth T = false) : OpS P o t n (.bool r') 0 := by
  refine OpS.val fun base σ w ρ hρ => ?_
  have hmx := hρ x
  have hmy := hρ y
  rw [hx] at hmx
  rw [hy] at hmy
  have hrun := eqV_run hti d Op.maxDepth hd T _ _ _ _ r he hmx hmy hn
  obtain ⟨as1, hax⟩ : ∃ as1, ρ x = .agg as1 := by generalize ρ x = u at hmx; cases hmx; exact ⟨_, rfl⟩
  obtain ⟨bs, hay⟩ : ∃ bs, ρ y = .agg bs := by generalize ρ y = u at hmy; cases hmy; exact ⟨_, rfl⟩
  rw [hax, hay] at hrun
  refine ⟨.bool r', ?_, .bool _⟩
  have hg : (eqGuard op T x y (.agg as1) (.agg bs)).run P w = .ok () w := by
    rcases hop with ⟨rfl, _⟩ | ⟨rfl, _⟩ <;> simp [eqGuard, Sem.run_bind, run_program, Result.andThen_ok, hgt]
  rcases hop with ⟨rfl, rfl⟩ | ⟨rfl, rfl⟩
  · simp only [execOp, ho, hax, hay, binOp, Op.equal, Sem.run_bind, hg, hrun, Result.andThen_ok, Sem.run_pure]
  · simp only [execOp, ho, hax, hay, binOp, Op.equal, Sem.run_bind, hg, hrun, Result.andThen_ok, Sem.run_pure]
theorem OpS.eqSM (d : Nat) (hti : TabOk P ti) {op : BinOp} {T T' : TypeId} {x y : Operand} {a b : List V} {r r' : Bool} (ho : o.op = .binOp op T x y T') (hx : opnd t x = .agg a) (hy : opnd t y = .agg b) (he : eqV ti d T (.agg a) (.agg b) = some r) (hop : (op = .eql ∧ r' = r) ∨ (op = .neq ∧ r' = !r))
    (hn : eqNames P d T = true) (hd : d ≤ Op.maxDepth) (hgt : P.eqGuardType P.depth T = false) : OpS P o (mask (o.looksAt ops) t) n (.bool r') 0 :=
  OpS.eqS d hti ho ((opnd_mask (by rw [ho]; simp [Op.operands])).trans hx) ((opnd_mask (by rw [ho]; simp [Op.operands])).trans hy) he hop hn hd hgt
end
end Go.Proofs.YtliiphpbfambcaaGreatDoor.K
