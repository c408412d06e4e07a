/- Tactic blocks and rows of steps that the texts of this claim use again and again, named once: what a name stands for is run where the name is used. -/
import Derived.KernelRfl
namespace Go.Proofs.YtiipkeendfpddaaGreat.K
def neTo (a : Nat) : List Nat → Prop
  | [] => True
  | b :: l => ((a = b) = False ∧ (b = a) = False) ∧ neTo a l
def allNe : List Nat → Prop
  | [] => True
  | a :: l => neTo a l ∧ allNe l
theorem neTo_of {a : Nat} : ∀ {l : List Nat}, ¬ a ∈ l → neTo a l
  | [], _ => trivial
  | b :: l, h => ⟨⟨eq_false fun e => h (e ▸ List.mem_cons_self ..), eq_false fun e => h (e ▸ List.mem_cons_self ..)⟩, neTo_of fun e => h (List.mem_cons_of_mem _ e)⟩
theorem allNe_of : ∀ {l : List Nat}, l.Nodup → allNe l
  | [], _ => trivial
  | a :: l, h => ⟨neTo_of (List.nodup_cons.1 h).1, allNe_of (List.nodup_cons.1 h).2⟩
theorem NDL (l : List Nat) {R : Prop} (hl : l.Nodup := by simp only [List.nodup_cons, List.mem_cons, List.not_mem_nil, or_false, not_or, not_false_eq_true, List.nodup_nil, and_true]; (repeat' apply And.intro) <;> omega) (h : allNe l → R := by intro h; simp only [allNe, neTo, and_true] at h; exact h) : R := h (allNe_of hl)
theorem M0 {P : Prop} (h : P := by first | (rw [pieces_getE]; simp only [List.length_cons, List.length_nil]; omega) | omega | (simp only [varsZ, Int.toNat_natCast, List.length_append, List.length_nil, List.length_cons] at *; omega) | (simp only [varsZ, varsZ_flat, Int.toNat_natCast, List.length_append, List.length_nil, List.length_cons] at *; omega)) : P := h
theorem M1 {P : Prop} (h : P := by first | omega | (simp only [varsZ, Int.toNat_natCast, List.length_append, List.length_nil, List.length_cons] at *; omega) | (simp only [varsZ, varsZ_flat, Int.toNat_natCast, List.length_append, List.length_nil, List.length_cons] at *; omega)) : P := h
theorem M2 {P : Prop} (h : P := by simp only [eq_self, V.updL, V.travL, V.travLL, V.trav, updS, updP, and_self, true_and, and_true, false_and, and_false, Nat.reduceEqDiff, Nat.reduceSub, Nat.le_refl, Nat.zero_le, ↓reduceIte, if_true, if_false, kP, zz, zf, zy, nd, ne] <;> rfl) : P := h
theorem M3 {P : Prop} (h : P := by simp only [eq_self, V.updL, V.travL, V.travLL, V.trav, updS, updP, and_self, true_and, and_true, false_and, and_false, Nat.reduceEqDiff, Nat.reduceSub, Nat.le_refl, Nat.zero_le, ↓reduceIte, if_true, if_false, kP, zz, zf, zy, nd] <;> rfl) : P := h
theorem M4 {P : Prop} (h : P := by simp only [eq_self, V.updL, V.travL, V.travLL, V.trav, updS, updP, and_self, true_and, and_true, false_and, and_false, Nat.reduceEqDiff, Nat.reduceSub, Nat.le_refl, Nat.zero_le, ↓reduceIte, if_true, if_false, kP, zz, zf, zy] <;> rfl) : P := h
theorem M5 {P : Prop} (h : P := by simp only [eq_self, V.updL, V.travL, V.travLL, V.trav, updS, updP, and_self, true_and, and_true, false_and, and_false, Nat.reduceEqDiff, Nat.reduceSub, Nat.le_refl, Nat.zero_le, ↓reduceIte, if_true, if_false, kP, zz, nd] <;> rfl) : P := h
theorem M6 {P : Prop} (h : P := by simp only [eq_self, V.updL, V.travL, V.travLL, V.trav, updS, updP, and_self, true_and, and_true, false_and, and_false, Nat.reduceEqDiff, Nat.reduceSub, Nat.le_refl, Nat.zero_le, ↓reduceIte, if_true, if_false, kP, zz] <;> rfl) : P := h
theorem M7 {P : Prop} (h : P := by first | (simp [V.labelsL, V.labelsLL, V.labels, zz, zf, zy]; done) | (simp [-List.map_map, -List.map_set, -List.map_drop, -List.map_take, -List.map_tail, -List.drop_one, V.labelsL, V.labelsLL, V.labels, zz, zf, zy]; done)) : P := h
theorem M8 {P : Prop} (h : P := by simp only [eq_self, V.updL, V.travL, V.travLL, V.trav, updS, updP, and_self, true_and, and_true, false_and, and_false, Nat.reduceEqDiff, Nat.reduceSub, Nat.le_refl, Nat.zero_le, ↓reduceIte, if_true, if_false, zz, zf, zy]) : P := h
theorem M9 {P : Prop} (h : P := by simp only [V.killL, V.killLL, V.travL, V.travLL, V.trav, killS, killP, Nat.reduceEqDiff, ↓reduceIte, reduceCtorEq, if_true, if_false, List.append_nil, List.nil_append, List.cons_append, zz, zf, zy, nd, kP] <;> rfl) : P := h
theorem M10 {P : Prop} (h : P := by simp only [V.killL, V.killLL, V.travL, V.travLL, V.trav, killS, killP, Nat.reduceEqDiff, ↓reduceIte, reduceCtorEq, if_true, if_false, List.append_nil, List.nil_append, List.cons_append, zz, zf, zy, kP] <;> rfl) : P := h
theorem M11 {P : Prop} (h : P := by simp only [V.killL, V.killLL, V.travL, V.travLL, V.trav, killS, killP, Nat.reduceEqDiff, ↓reduceIte, reduceCtorEq, if_true, if_false, List.append_nil, List.nil_append, List.cons_append, zz, zf, zy, nd] <;> rfl) : P := h
theorem M12 {P : Prop} (h : P := by first | (simp [V.labelsL, V.labelsLL, V.labels, zz]; done) | (simp [-List.map_map, -List.map_set, -List.map_drop, -List.map_take, -List.map_tail, -List.drop_one, V.labelsL, V.labelsLL, V.labels, zz]; done)) : P := h
theorem M13 {P : Prop} (h : P := by simp only [V.killL, V.killLL, V.travL, V.travLL, V.trav, killS, killP, Nat.reduceEqDiff, ↓reduceIte, reduceCtorEq, if_true, if_false, List.append_nil, List.nil_append, List.cons_append, zz, zf, zy] <;> rfl) : P := h
theorem M14 {P : Prop} (h : P := by simp only [V.killL, V.killLL, V.travL, V.travLL, V.trav, killS, killP, Nat.reduceEqDiff, ↓reduceIte, reduceCtorEq, if_true, if_false, List.append_nil, List.nil_append, List.cons_append, zz, kP] <;> rfl) : P := h
theorem M15 {P : Prop} (h : P := by simp only [V.killL, V.killLL, V.travL, V.travLL, V.trav, killS, killP, Nat.reduceEqDiff, ↓reduceIte, reduceCtorEq, if_true, if_false, List.append_nil, List.nil_append, List.cons_append, zz] <;> rfl) : P := h
theorem M16 {P : Prop} (h : P := by simp only [kfe, beq_self_eq_true, Bool.and_true, Bool.true_and, decide_true, Nat.zero_add, Nat.lt_add_one, Nat.reduceLT, Nat.reduceAdd, Nat.zero_lt_succ, if_true, ↓reduceIte] <;> rfl) : P := h
theorem M17 {P : Prop} (h : P := by first | (simp [V.labelsL, V.labelsLL, V.labels, zz, zf, zy]; done) | (intro h; (simp [V.labelsL, V.labels, V.labelsLL, zz, zf, zy] at h) <;> omega)) : P := h
theorem M18 {P : Prop} (h : P := by (try simp only [List.getElem_toArray, List.getElem_cons_succ, List.getElem_cons_zero]); exact (by simp only [kE, kT, kL, kC, hwb] <;> rfl)) : P := h
theorem M19 {P : Prop} (h : P := by simp only [List.length_map, List.length_cons, List.length_nil, List.length_append, List.length_take, List.length_drop] at *; omega) : P := h
theorem M20 {P : Prop} (h : P := by simp only [curBelow_b, pickS_b, pickI_b, pack0_b, linkGo_b, packD_b, linkD_b, byteD_b]; exact hb) : P := h
theorem M21 {P : Prop} (h : P := by first | omega | (simp only [List.length_append, List.length_cons, List.length_nil] at *; omega)) : P := h
theorem M22 {P : Prop} (h : P := by simp only [kby, Option.map_some, List.append_assoc, List.cons_append, List.nil_append] <;> rfl) : P := h
theorem M23 {P : Prop} (h : P := by simp only [kP, V.tag, V.tagL, V.cnt, V.cntL, zz, zf, zy, Nat.add_zero, Nat.reduceAdd] <;> rfl) : P := h
theorem M24 {P : Prop} (h : P := by simp [-List.map_drop, -List.drop_one, V.labelsL, V.labels, V.labelsLL, zz, zf, zy]; try omega) : P := h
theorem M25 {P : Prop} (h : P := by simp only [kE, kT, kL, kC, wrap_add_nat (show p + i ≤ 9223372036854775807 by omega)] <;> rfl) : P := h
theorem M26 {P : Prop} (h : P := by simp only [kP, V.tag, V.tagL, V.cnt, V.cntL, zz, Nat.add_zero, Nat.reduceAdd] <;> rfl) : P := h
theorem M27 {P : Prop} (h : P := by simp only [kE, kT, kL, kC, V.eraseL, V.erase, V.travL, V.trav, zz, zf, zy] <;> rfl) : P := h
theorem M28 {P : Prop} (h : P := by show resVs tab _ [.tmp 4, .tmp 5, .tmp 6] = _; simp only [kE, kT, kL, kC] <;> rfl) : P := h
theorem M29 {P : Prop} (h : P := by intro y hy; simp [V.labelsL, V.labels, V.labelsLL, zz, zf, zy, lz] at hy; omega) : P := h
theorem M30 {P : Prop} (h : P := by simp only [V.cnt, V.cntL, zz, zf, zy, Nat.add_zero, Nat.reduceAdd] <;> rfl) : P := h
theorem M31 {P : Prop} (h : P := by simp only [kE, kT, kL, kC, eq_self, decide_true, beq_self_eq_true] <;> rfl) : P := h
theorem M32 {P : Prop} (h : P := by simp only [kP, ksem, Nat.add_zero, Nat.zero_add, Nat.reduceAdd] <;> rfl) : P := h
theorem M33 {P : Prop} (h : P := by simp [V.labelsL, V.labels, V.labelsLL, zz, zf, zy, or_imp, forall_and]) : P := h
theorem M34 {P : Prop} (h : P := by simp only [List.length_map, List.length_cons, List.length_nil]; omega) : P := h
theorem M35 {P : Prop} (h : P := by simp only [ksem, Nat.add_zero, Nat.zero_add, Nat.reduceAdd] <;> rfl) : P := h
theorem M36 {P : Prop} (h : P := by simp [ev1, fillV, kE, kT, kL] <;> first | rfl | exact ⟨rfl, rfl⟩) : P := h
theorem M37 {P : Prop} (h : P := by simp only [kE, kT, kL, kC, List.map_cons, List.map_nil] <;> rfl) : P := h
theorem M38 {P : Prop} (h : P := by first | rfl | (simp only [Nat.add_zero, Nat.reduceAdd] <;> rfl)) : P := h
theorem M39 {P : Prop} (h : P := by simp only [kE, kT, kL, kC, Int.toNat_natCast] <;> rfl) : P := h
theorem M40 {P : Prop} (h : P := by simp [V.eraseL, V.erase, V.trav, V.travL, zz, zf, zy]) : P := h
theorem M41 {P : Prop} (h : P := by simp [V.erase, V.trav, V.travL, V.travLL, zz, zf, zy]) : P := h
theorem M42 {P : Prop} (h : P := by simp [V.labels, V.labelsL, V.labelsLL, zz, zf, zy]) : P := h
theorem M43 {P : Prop} (h : P := by simp [V.erase, V.trav, V.travL, zz, zf, zy]) : P := h
theorem M44 {P : Prop} (h : P := by simp [V.dat, V.datL, V.datLL, zz, zf, zy]) : P := h
theorem M45 {P : Prop} (h : P := by simp [V.travL, V.trav, updS, zz, zf, zy]) : P := h
theorem M46 {P : Prop} (h : P := by simp [V.labelsL, V.labels, zz, zf, zy]) : P := h
theorem M47 {P : Prop} (h : P := by simp only [kE, kT, kL, kC, hm] <;> rfl) : P := h
theorem M48 {P : Prop} (h : P := by simp only [kE, kT, kL, kC] <;> rfl) : P := h
theorem M49 {P : Prop} (h : P := by simp [V.labelsL, V.labels, zz]) : P := h
theorem M50 {P : Prop} (h : P := by simp only [kE, kT, kL, kC]) : P := h
theorem M51 {P : Prop} (h : P := by simp only [kover] <;> rfl) : P := h
theorem M52 {P : Prop} (h : P := by simp only [kP] <;> rfl) : P := h
theorem M53 {P : Prop} (h : P := by simp only [kT] <;> rfl) : P := h
theorem M54 {P : Prop} (h : P := by dsimp only; omega) : P := h
theorem M55 {P : Prop} (h : P := by simp [V.one]) : P := h
theorem M56 {P : Prop} (h : P := by kernel_rfl) : P := h
theorem M57 {P : Prop} (h : P := by decide) : P := h
theorem M58 {P : Prop} (h : P := by omega) : P := h
theorem M59 {P : Prop} (h : P := by rfl) : P := h
theorem M60 {P : Prop} (h : P := by first | (simp [V.labelsL, V.labelsLL, V.labels, zz, zf, zy]; done) | (intro h; have ud : ¬ (3 ∈ V.labelsLL d) := (fun h => (by (have := h4 _ h); omega)); (revert h; show ¬ _; simp [labelsLL_app, V.labelsLL, V.labelsL, V.labels, zz, zf, zy, ud] <;> omega))) : P := h
theorem M61 {P : Prop} (h : P := by first | (simp [V.labelsL, V.labelsLL, V.labels, zz, zf, zy]; done) | (intro h; have ud : ¬ (2 ∈ V.labelsLL d) := (fun h => (by (have := h4 _ h); omega)); (revert h; show ¬ _; simp [labelsLL_app, V.labelsLL, V.labelsL, V.labels, zz, zf, zy, ud] <;> omega))) : P := h
theorem M62 {P : Prop} (h : P := by simp only [eq_self, V.updL, V.travL, V.travLL, V.trav, updS, updP, and_self, true_and, and_true, false_and, and_false, Nat.reduceEqDiff, Nat.reduceSub, Nat.le_refl, Nat.zero_le, ↓reduceIte, if_true, if_false, kP, zz, zf, zy, nd, ne] <;> rfl) : P := h
theorem M63 {P : Prop} (h : P := by first | (simp [V.labelsL, V.labelsLL, V.labels, zz, zf, zy]; done) | (intro h; simp only [V.labelsL, V.labels, List.mem_append, List.append_nil, List.nil_append, List.not_mem_nil, or_false, false_or] at h; first | (have := r0a _ h; omega))) : P := h
theorem M64 {P : Prop} (h : P := by simp only [eq_self, V.updL, V.travL, V.travLL, V.trav, updS, updP, and_self, true_and, and_true, false_and, and_false, Nat.reduceEqDiff, Nat.reduceSub, Nat.le_refl, Nat.zero_le, ↓reduceIte, if_true, if_false, kP, zz, zf, zy, nd] <;> rfl) : P := h
theorem M65 {P : Prop} (h : P := by simp only [eq_self, V.updL, V.travL, V.travLL, V.trav, updS, updP, and_self, true_and, and_true, false_and, and_false, Nat.reduceEqDiff, Nat.reduceSub, Nat.le_refl, Nat.zero_le, ↓reduceIte, if_true, if_false, kP, zz, zf, zy] <;> rfl) : P := h
theorem M66 {P : Prop} (h : P := by simp only [eq_self, V.updL, V.travL, V.travLL, V.trav, updS, updP, and_self, true_and, and_true, false_and, and_false, Nat.reduceEqDiff, Nat.reduceSub, Nat.le_refl, Nat.zero_le, ↓reduceIte, if_true, if_false, kP, zz, nd] <;> rfl) : P := h
theorem M67 {P : Prop} (h : P := by simp only [eq_self, V.updL, V.travL, V.travLL, V.trav, updS, updP, and_self, true_and, and_true, false_and, and_false, Nat.reduceEqDiff, Nat.reduceSub, Nat.le_refl, Nat.zero_le, ↓reduceIte, if_true, if_false, kP, zz, hM] <;> rfl) : P := h
theorem M68 {P : Prop} (h : P := by simp only [eq_self, V.updL, V.travL, V.travLL, V.trav, updS, updP, and_self, true_and, and_true, false_and, and_false, Nat.reduceEqDiff, Nat.reduceSub, Nat.le_refl, Nat.zero_le, ↓reduceIte, if_true, if_false, kP, zz] <;> rfl) : P := h
theorem M69 {P : Prop} (h : P := by simp only [List.map_cons, List.map_nil, kturn, fillA_ptr, fillA_far, fillA_self, zz, zf, zy, ne_eq, Nat.reduceEqDiff, not_false_eq_true, List.length_map, id_eq, kP] <;> rfl) : P := h
theorem M70 {P : Prop} (h : P := by first | (simp [V.labelsL, V.labelsLL, V.labels, zz, zf, zy]; done) | (intro h; (simp [V.labelsL, V.labels, V.labelsLL, zz, zf, zy] at h))) : P := h
theorem M71 {P : Prop} (h : P := by (try simp only [List.getElem_toArray, List.getElem_cons_succ, List.getElem_cons_zero]); exact (by simp only [kE, kT, kL, kC] <;> rfl)) : P := h
theorem M72 {P : Prop} (h : P := by intro L hL; simp [packV, V.labels, V.labelsL, zz, zf] at hL; rcases hL with hL | hL | hL <;> first | omega | (have := h4 L hL; omega)) : P := h
theorem M73 {P : Prop} (h : P := by first | (simp [V.labelsL, V.labelsLL, V.labels, zz, zf, zy]; done) | (intro h; (simp [V.labelsL, V.labels, zz, zf, zy] at h))) : P := h
theorem M74 {P : Prop} (h : P := by intro z hz; simp only [List.mem_cons, List.not_mem_nil, or_false] at hz; rcases hz with rfl | rfl | rfl <;> exact in9 M58) : P := h
theorem M75 {P : Prop} (h : P := by first | exact hz | (simp only [V.labelsL, V.labels, List.mem_append] at hz ⊢; simp only [hz, true_or, or_true])) : P := h
theorem M76 {P : Prop} (h : P := by intro z hz; simp only [List.mem_cons, List.not_mem_nil, or_false] at hz; rcases hz with rfl <;> exact in9 M58) : P := h
theorem M77 {P : Prop} (h : P := by first | omega | (simp only [List.length_append, List.length_cons, List.length_nil, bytesD_len] at *; omega)) : P := h
theorem M78 {P : Prop} (h : P := by rw [ho]; simp only [Op.operands, Call.operands, Array.toList_append, List.mem_append]; exact .inr hx) : P := h
theorem M79 {P : Prop} (h : P := by (try simp only [List.getElem_toArray, List.getElem_cons_succ, List.getElem_cons_zero]); exact M48) : P := h
theorem M80 {P : Prop} (h : P := by simp only [kE, kT, kL, kC, wrap_add_one (show p + i + 1 ≤ 9223372036854775807 by omega)] <;> rfl) : P := h
theorem M81 {P : Prop} (h : P := by first | exact hfix | rfl | exact upd_twice (by simp [V.travL, V.trav, updS, zz, zf, zy]) _) : P := h
theorem M82 {P : Prop} (h : P := by show resVs tab _ [.cell 4 26, .tmp 5, .tmp 6] = _; simp only [kE, kT, kL, kC] <;> rfl) : P := h
theorem M83 {P : Prop} (h : P := by simp only [kE, kT, kL, kC, List.cons_append, List.nil_append, pieces_getE] <;> rfl) : P := h
theorem M84 {P : Prop} (h : P := by simp only [kE, kT, kL, kC, hm, V.eraseL, V.erase, V.travL, V.trav, zz] <;> rfl) : P := h
theorem M85 {P : Prop} (h : P := by simp only [List.length_map, List.length_cons, List.length_nil, hfl]; omega) : P := h
theorem M86 {P : Prop} (h : P := by simp only [kE, kT, kL, kC, Bool.false_eq_true, if_false, hmin, hw] <;> rfl) : P := h
theorem M87 {P : Prop} (h : P := by simp only [V.cnt, V.cntL, zz, Nat.add_zero, Nat.reduceAdd] <;> rfl) : P := h
theorem M88 {P : Prop} (h : P := by simp only [kE, kT, kL, kC, by_shr64 x, wrap_u8_nat] <;> rfl) : P := h
theorem M89 {P : Prop} (h : P := by simp only [List.set_cons_zero, List.set_cons_succ] <;> rfl) : P := h
theorem M90 {P : Prop} (h : P := by simp only [kE, kT, kL, kC, by_shr x, wrap_u8_nat] <;> rfl) : P := h
theorem M91 {P : Prop} (h : P := by simp only [kE, kT, kL, kC, wrap_pred hpos M58] <;> rfl) : P := h
theorem M92 {P : Prop} (h : P := by show nth _ 61 = _; simp only [kE, kT, kL, kC] <;> rfl) : P := h
theorem M93 {P : Prop} (h : P := by show nth _ 36 = _; simp only [kE, kT, kL, kC] <;> rfl) : P := h
theorem M94 {P : Prop} (h : P := by show nth _ 62 = _; simp only [kE, kT, kL, kC] <;> rfl) : P := h
theorem M95 {P : Prop} (h : P := by simp [V.eraseL, V.erase, V.travL, V.trav, zz, zf, zy]) : P := h
theorem M96 {P : Prop} (h : P := by show nth _ 34 = _; simp only [kE, kT, kL, kC] <;> rfl) : P := h
theorem M97 {P : Prop} (h : P := by show nth _ 37 = _; simp only [kE, kT, kL, kC] <;> rfl) : P := h
theorem M98 {P : Prop} (h : P := by show nth _ 43 = _; simp only [kE, kT, kL, kC] <;> rfl) : P := h
theorem M99 {P : Prop} (h : P := by have := (h.1.2 _ (List.getElem_mem hi)).2.1.1; omega) : P := h
theorem M100 {P : Prop} (h : P := by simp only [List.length_map]; have := h.2.1; omega) : P := h
theorem M101 {P : Prop} (h : P := by simp only [kE, kT, kL, kC, wrap_u8_nat] <;> rfl) : P := h
theorem M102 {P : Prop} (h : P := by rw [ho]; simp [Op.operands, Call.operands]) : P := h
theorem M103 {P : Prop} (h : P := by rw [tag_labels, List.mem_range'_1]; omega) : P := h
theorem M104 {P : Prop} (h : P := by rw [tag_labels]; exact List.nodup_range') : P := h
theorem M105 {P : Prop} (h : P := by simp only [kE, kT, kL, kC, hw1] <;> rfl) : P := h
theorem M106 {P : Prop} (h : P := by simp only [kT, Option.map_some] <;> rfl) : P := h
theorem M107 {P : Prop} (h : P := by simp only [List.length_map]; omega) : P := h
theorem M108 {P : Prop} (h : P := by simp [V.dat, V.datL, V.datLL, zz]) : P := h
theorem M109 {P : Prop} (h : P := by simp [V.travL, V.trav, updS, zz]) : P := h
theorem M110 {P : Prop} (h : P := by simp only [kP, kL] <;> rfl) : P := h
theorem M111 {P : Prop} (h : P := by rw [travL_len]; exact h1) : P := h
theorem M112 {P : Prop} (h : P := by simp only [kP] <;> rfl) : P := h
theorem M113 {P : Prop} (h : P := by have := h.2.1.1; omega) : P := h
theorem M114 {P : Prop} (h : P := by have := h.1.1; omega) : P := h
theorem M115 {P : Prop} (h : P := by have := h.2.2; omega) : P := h
theorem M116 {P : Prop} (h : P := by have := h.2; omega) : P := h
theorem M117 {P : Prop} (h : P := by simp [V.labels]) : P := h
theorem M118 {P : Prop} (h : P := by simp; omega) : P := h
theorem M119 {P : Prop} (h : P := by simp) : P := h
theorem M120 {P : Prop} (h : P := by simp only [packV, V.labels, V.labelsL, zz, zf, List.append_nil, List.nil_append]; rw [List.nodup_append]; exact ⟨List.nodup_cons.2 ⟨fun h => by (have := h4 4 h); omega, h3⟩, by simp, fun y hy z hz h => by (rcases List.mem_cons.1 hy with hy | hy) <;> simp at hz <;> first | omega | (have := h4 y hy; omega)⟩) : P := h
theorem M121 {P : Prop} (h : P := by first | rfl | (simp only [Nat.add_zero, Nat.reduceAdd] <;> rfl)) : P := h
theorem M122 {P : Prop} (h : P := by simp only [kE, kT, kL, kC, pieces_len] <;> rfl) : P := h
theorem M123 {P : Prop} (h : P := by rw [b1]; exact hb) : P := h
theorem M124 {P : Prop} (h : P := by simp [h]) : P := h
theorem M125 {P : Prop} (h : P := by omega) : P := h
theorem M126 {P : Prop} (h : P := by rfl) : P := h
theorem S0 {P R : Prop} (k : R) (h : R → P := by intro k; refine Ok.ret ?_; (with_reducible repeat (first | refine thenQ_ret ?_ | refine blockQ_ret ?_)); exact k) : P := h k
theorem S1 {P R : Prop} (k : R) (h : R → P := by intro k; (iterate 2 (refine EV ?_)); refine ON ?_; exact k) : P := h k
theorem S2 {P R : Prop} (k : R) (h : R → P := by intro k; refine EV ?_; refine ON ?_; exact k) : P := h k
theorem S3 {P R : Prop} (k : R) (h : R → P := by intro k; refine Ok.ret ?_; (with_reducible repeat (first | refine thenQ_ret ?_ | refine blockQ_ret ?_)); refine RT ?_; exact k) : P := h k
theorem S4 {P R : Prop} (k : R) (h : R → P := by intro k; (iterate 3 (refine EV ?_)); refine ON ?_; exact k) : P := h k
theorem S5 {P R : Prop} (k : R) (h : R → P := by intro k; refine Ok.seq ?_; refine OQ ?_; exact k) : P := h k
theorem S6 {P R : Prop} (k : R) (h : R → P := by intro k; refine OQ ?_; refine EV ?_; exact k) : P := h k
theorem S7 {P R : Prop} (k : R) (h : R → P := by intro k; refine Ok.skip ?_; refine Ok.seq ?_; exact k) : P := h k
theorem S8 {P R : Prop} (k : R) (h : R → P := by intro k; refine OQ ?_; refine EV ?_; refine ON ?_; exact k) : P := h k
theorem S9 {P R : Prop} (k : R) (h : R → P := by intro k; refine SOps.nil ?_; refine TOps.nil ?_; exact k) : P := h k
theorem S10 {P R : Prop} (k : R) (h : R → P := by intro k; refine OQ ?_; (iterate 2 (refine EV ?_)); refine ON ?_; exact k) : P := h k
theorem S11 {P R : Prop} (k : R) (h : R → P := by intro k; refine OQ ?_; (iterate 2 (refine EV ?_)); exact k) : P := h k
theorem S12 {P R : Prop} (k : R) (h : R → P := by intro k; refine Ok.region ?_; (iterate 3 (refine EV ?_)); refine ON ?_; exact k) : P := h k
theorem S13 {P R : Prop} (k : R) (h : R → P := by intro k; (iterate 2 (refine EV ?_)); (iterate 4 (refine OU ?_)); exact k) : P := h k
theorem S14 {P R : Prop} (k : R) (h : R → P := by intro k; refine Ok.skip ?_; refine Ok.seq ?_; refine Ok.block ?_; exact k) : P := h k
theorem S15 {P R : Prop} (k : R) (h : R → P := by intro k; refine Ok.region ?_; refine EV ?_; exact k) : P := h k
theorem S16 {P R : Prop} (k : R) (h : R → P := by intro k; (iterate 4 (refine EV ?_)); refine ON ?_; exact k) : P := h k
theorem S17 {P R : Prop} (k : R) (h : R → P := by intro k; refine OE ?_; refine ON ?_; exact k) : P := h k
theorem S18 {P R : Prop} (k : R) (h : R → P := by intro k; refine OX ?_; refine OO ?_; exact k) : P := h k
theorem S19 {P R : Prop} (k : R) (h : R → P := by intro k; refine OQ ?_; (iterate 3 (refine EV ?_)); exact k) : P := h k
theorem S20 {P R : Prop} (k : R) (h : R → P := by intro k; refine Ok.region ?_; (iterate 2 (refine EV ?_)); exact k) : P := h k
theorem S21 {P R : Prop} (k : R) (h : R → P := by intro k; refine EV ?_; refine ON ?_; refine Ok.block ?_; exact k) : P := h k
theorem S22 {P R : Prop} (k : R) (h : R → P := by intro k; refine EV ?_; refine ON ?_; refine Ok.ret ?_; (with_reducible repeat (first | refine thenQ_ret ?_ | refine blockQ_ret ?_)); refine RT ?_; exact k) : P := h k
theorem S23 {P R : Prop} (k : R) (h : R → P := by intro k; refine SV ?_; refine SOps.nil ?_; refine TOps.nil ?_; exact k) : P := h k
theorem S24 {P R : Prop} (k : R) (h : R → P := by intro k; (iterate 5 (refine EV ?_)); refine ON ?_; exact k) : P := h k
theorem S25 {P R : Prop} (k : R) (h : R → P := by intro k; refine OX ?_; refine OX ?_; refine OO ?_; exact k) : P := h k
theorem S26 {P R : Prop} (k : R) (h : R → P := by intro k; refine Ok.region ?_; (iterate 3 (refine EV ?_)); exact k) : P := h k
theorem S27 {P R : Prop} (k : R) (h : R → P := by intro k; refine Ok.region ?_; (iterate 2 (refine EV ?_)); refine ON ?_; exact k) : P := h k
theorem S28 {P R : Prop} (k : R) (h : R → P := by intro k; refine Ok.seq ?_; refine OQ ?_; refine EV ?_; refine ON ?_; refine Ok.block ?_; exact k) : P := h k
theorem S29 {P R : Prop} (k : R) (h : R → P := by intro k; refine ON ?_; refine Ok.seq ?_; exact k) : P := h k
theorem S30 {P R : Prop} (k : R) (h : R → P := by intro k; refine OE ?_; refine EV ?_; refine ON ?_; refine Ok.ret ?_; (with_reducible repeat (first | refine thenQ_ret ?_ | refine blockQ_ret ?_)); refine RT ?_; exact k) : P := h k
theorem S31 {P R : Prop} (k : R) (h : R → P := by intro k; refine OO ?_; (iterate 3 (refine EV ?_)); exact k) : P := h k
theorem S32 {P R : Prop} (k : R) (h : R → P := by intro k; (iterate 5 (refine SU ?_)); (iterate 2 (refine SV ?_)); exact k) : P := h k
theorem S33 {P R : Prop} (k : R) (h : R → P := by intro k; refine EV ?_; refine OE ?_; refine ON ?_; exact k) : P := h k
theorem S34 {P R : Prop} (k : R) (h : R → P := by intro k; refine OQ ?_; (iterate 3 (refine EV ?_)); refine ON ?_; exact k) : P := h k
theorem S35 {P R : Prop} (k : R) (h : R → P := by intro k; refine Ok.region ?_; (iterate 4 (refine EV ?_)); exact k) : P := h k
theorem S36 {P R : Prop} (k : R) (h : R → P := by intro k; refine ON ?_; refine Ok.ret ?_; (with_reducible repeat (first | refine thenQ_ret ?_ | refine blockQ_ret ?_)); refine RT ?_; exact k) : P := h k
theorem S37 {P R : Prop} (k : R) (h : R → P := by intro k; refine OQ ?_; refine EV ?_; refine ON ?_; refine Ok.ret ?_; (with_reducible repeat (first | refine thenQ_ret ?_ | refine blockQ_ret ?_)); refine RT ?_; exact k) : P := h k
theorem S38 {P R : Prop} (k : R) (h : R → P := by intro k; refine OQ ?_; (iterate 4 (refine EV ?_)); exact k) : P := h k
theorem S39 {P R : Prop} (k : R) (h : R → P := by intro k; refine OO ?_; (iterate 2 (refine EV ?_)); refine ON ?_; exact k) : P := h k
theorem S40 {P R : Prop} (k : R) (h : R → P := by intro k; refine EV ?_; refine ON ?_; refine OQ ?_; refine EV ?_; exact k) : P := h k
theorem S41 {P R : Prop} (k : R) (h : R → P := by intro k; (iterate 2 (refine EV ?_)); refine ON ?_; refine Ok.ret ?_; (with_reducible repeat (first | refine thenQ_ret ?_ | refine blockQ_ret ?_)); refine RT ?_; exact k) : P := h k
theorem S42 {P R : Prop} (k : R) (h : R → P := by intro k; refine Ok.skip ?_; refine Ok.region ?_; (iterate 3 (refine EV ?_)); refine ON ?_; exact k) : P := h k
theorem S43 {P R : Prop} (k : R) (h : R → P := by intro k; (iterate 4 (refine OU ?_)); (iterate 2 (refine EV ?_)); (iterate 4 (refine OU ?_)); exact k) : P := h k
theorem S44 {P R : Prop} (k : R) (h : R → P := by intro k; (iterate 4 (refine OU ?_)); refine EV ?_; refine ON ?_; exact k) : P := h k
theorem S45 {P R : Prop} (k : R) (h : R → P := by intro k; refine OQ ?_; refine EV ?_; refine ON ?_; refine Ok.seq ?_; exact k) : P := h k
theorem S46 {P R : Prop} (k : R) (h : R → P := by intro k; refine OQ ?_; (iterate 2 (refine EV ?_)); refine ON ?_; refine Ok.ret ?_; (with_reducible repeat (first | refine thenQ_ret ?_ | refine blockQ_ret ?_)); refine RT ?_; exact k) : P := h k
theorem S47 {P R : Prop} (k : R) (h : R → P := by intro k; (iterate 5 (refine SU ?_)); refine SV ?_; refine SOps.nil ?_; refine TOps.nil ?_; exact k) : P := h k
theorem S48 {P R : Prop} (k : R) (h : R → P := by intro k; refine SN ?_; (iterate 2 (refine SV ?_)); exact k) : P := h k
theorem S49 {P R : Prop} (k : R) (h : R → P := by intro k; (iterate 6 (refine SU ?_)); (iterate 2 (refine SV ?_)); exact k) : P := h k
theorem S50 {P R : Prop} (k : R) (h : R → P := by intro k; refine Ok.seq ?_; refine OQ ?_; (iterate 4 (refine EV ?_)); refine ON ?_; exact k) : P := h k
theorem S51 {P R : Prop} (k : R) (h : R → P := by intro k; refine Ok.seq ?_; refine OQ ?_; (iterate 5 (refine EV ?_)); refine ON ?_; exact k) : P := h k
theorem S52 {P R : Prop} (k : R) (h : R → P := by intro k; (iterate 2 (refine EV ?_)); (iterate 3 (refine OU ?_)); exact k) : P := h k
theorem S53 {P R : Prop} (k : R) (h : R → P := by intro k; refine OQ ?_; refine EV ?_; refine ON ?_; refine OQ ?_; refine EV ?_; exact k) : P := h k
theorem S54 {P R : Prop} (k : R) (h : R → P := by intro k; refine Ok.exit ?_; refine Ok.seq ?_; exact k) : P := h k
theorem S55 {P R : Prop} (k : R) (h : R → P := by intro k; refine EV ?_; refine ON ?_; refine Ok.seq ?_; exact k) : P := h k
theorem S56 {P R : Prop} (k : R) (h : R → P := by intro k; (iterate 14 (refine SU ?_)); (iterate 2 (refine SV ?_)); exact k) : P := h k
theorem S57 {P R : Prop} (k : R) (h : R → P := by intro k; (iterate 4 (refine OX ?_)); refine OO ?_; exact k) : P := h k
theorem S58 {P R : Prop} (k : R) (h : R → P := by intro k; (iterate 2 (refine EV ?_)); refine OE ?_; refine ON ?_; exact k) : P := h k
theorem S59 {P R : Prop} (k : R) (h : R → P := by intro k; refine Ok.seq ?_; refine OQ ?_; refine EV ?_; exact k) : P := h k
theorem S60 {P R : Prop} (k : R) (h : R → P := by intro k; refine Ok.skip ?_; refine OQ ?_; refine EV ?_; exact k) : P := h k
theorem S61 {P R : Prop} (k : R) (h : R → P := by intro k; refine OU ?_; refine OU ?_; exact k) : P := h k
theorem S62 {P R : Prop} (k : R) (h : R → P := by intro k; (iterate 4 (refine SV ?_)); refine SOps.nil ?_; exact k) : P := h k
theorem S63 {P R : Prop} (k : R) (h : R → P := by intro k; refine EV ?_; refine ON ?_; refine Ok.region ?_; (iterate 3 (refine EV ?_)); refine ON ?_; exact k) : P := h k
theorem S64 {P R : Prop} (k : R) (h : R → P := by intro k; refine OQ ?_; (iterate 4 (refine EV ?_)); refine ON ?_; exact k) : P := h k
theorem S65 {P R : Prop} (k : R) (h : R → P := by intro k; refine Ok.seq ?_; refine OQ ?_; (iterate 2 (refine EV ?_)); refine ON ?_; exact k) : P := h k
theorem S66 {P R : Prop} (k : R) (h : R → P := by intro k; refine Ok.region ?_; (iterate 5 (refine EV ?_)); exact k) : P := h k
end Go.Proofs.YtiipkeendfpddaaGreat.K
