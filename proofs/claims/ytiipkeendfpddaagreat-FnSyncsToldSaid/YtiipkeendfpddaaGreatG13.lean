/- Walks: stamps, flags, mails drawn. Printed by w2.py. -/
import Derived.Test.YtiipkeendfpddaaGreatPM
import Derived.Test.YtiipkeendfpddaaGreatG12
namespace Go.Proofs.YtiipkeendfpddaaGreat.K
open Go Go.RowKit
set_option linter.unusedVariables false
set_option linter.unusedSimpArgs false
set_option maxHeartbeats 4000000
set_option maxRecDepth 20000
theorem c_spec_l03Stamp (c : Cur) (L : Nat) (hb : c.b.length ≤ 4611686018427387904) {h : List V} {n : Nat} (hlt : Ahd n h) (hL : L + 1 < n) : OkCall Tryz.prog 94 [.ptr (L + 1) 0 0 (cCur c)] h n (fun r h1 n1 => r = .agg (cStamp (stampD c).1) ∧ h1 = V.updL (L + 1) 0 (cCur (stampD c).2) h ∧ n1 = n + 1) := by
 obtain ⟨n, rfl⟩ : ∃ k, n = k + 1 := ⟨n - 1, by omega⟩
 have nd := NDL [L + 1, 0, n + 1]
 refine OkCall.enter' tab_ok Tryz.func94 rfl (ht := ANYS 8) ?_
 refine S53 ?_
 refine OkOps.upd rfl rfl M48 M48 cl23 (fun h => c_spec_l01Below c 12 L hb M57) M3 (rfl) ?_
 obtain ⟨⟨v1, c1⟩, z1⟩ : ∃ z, curBelow c 12 = z := ⟨_, rfl⟩
 have b1 : c1.b = c.b := by have h9 := curBelow_b c 12; rw [z1] at h9; exact h9
 have l1 : v1 < 12 := by have h9 := curBelow_lt (c := c) (n := 12) M57; rw [z1] at h9; exact h9
 simp only [z1]
 refine EV ?_
 refine OkOps.upd rfl rfl M48 M48 cl23 (fun h => c_spec_l01Below c1 2 L M123 M57) M3 (upd_twice M45 h) ?_
 obtain ⟨⟨v2, c2⟩, z2⟩ : ∃ z, curBelow c1 2 = z := ⟨_, rfl⟩
 have b2 : c2.b = c.b := by have h9 := curBelow_b c1 2; rw [z2] at h9; exact h9.trans b1
 have l2 : v2 < 2 := by have h9 := curBelow_lt (c := c1) (n := 2) M57; rw [z2] at h9; exact h9
 simp only [z2]
 have hw : IntKind.i64.wrap (1 + (v2 : Int)) = 1 + (v2 : Int) := by rw [IntKind.wrap_i64]; omega
 refine OkOps.ev tab_ok rfl (by simp only [kE, kT, kL, kC, hw] <;> rfl) M52 ?_
 refine OkOps.ev tab_ok rfl M36 M112 ?_
 refine OkOps.storeE tab_ok rfl rfl M48 ⟨_, _, by simp only [kE]; rfl⟩ M7 M64 (Ahd.updL (by repeat (first | exact hlt | exact hlt.mono (by omega) | refine Ahd.upd ?_ (Ahd.cur (by omega) _)))) ?_
 refine S36 ?_
 have e : stampD c = (⟨(v1 : Int), 1 + (v2 : Int)⟩, c2) := by simp only [stampD, z1, z2]
 rw [e]
 exact ⟨by first | rfl | (simp only [packV]; done) | (simp only [packV, List.map_append, List.map_cons, List.map_nil]; done), by first | rfl | exact hh | (repeat rw [upd_twice (by simp [V.travL, V.trav, updS, zz, zf, zy])]), rfl⟩
theorem c_spec_l03Any (c : Cur) (L : Nat) (hb : c.b.length ≤ 4611686018427387904) {h : List V} {n : Nat} (hlt : Ahd n h) (hL : L + 1 < n) : OkCall Tryz.prog 68 [.ptr (L + 1) 0 0 (cCur c)] h n (fun r h1 n1 => r = .agg (cStamp (stampA c).1) ∧ h1 = V.updL (L + 1) 0 (cCur (stampA c).2) h ∧ n1 = n + 4) := by
 obtain ⟨n, rfl⟩ : ∃ k, n = k + 1 := ⟨n - 1, by omega⟩
 have nd := NDL [L + 1, 0, n + 1, n + 1 + 1, n + 1 + 1 + 1, n + 1 + 1 + 1 + 1]
 refine OkCall.enter' tab_ok Tryz.func68 rfl (ht := ANYS 20) ?_
 refine S53 ?_
 refine OkOps.updF (k := 1) rfl rfl M48 M48 cl94 M29 (by repeat (first | exact hlt | exact hlt.mono (by omega) | refine Ahd.upd ?_ (Ahd.cur (by omega) _))) (fun h hlt => c_spec_l03Stamp c L hb hlt (by omega)) (by first | rfl | (simp only [Nat.add_zero, Nat.reduceAdd] <;> rfl)) (by simp only [eq_self, V.updL, V.travL, V.travLL, V.trav, updS, updP, and_self, true_and, and_true, false_and, and_false, Nat.reduceEqDiff, Nat.reduceSub, Nat.le_refl, Nat.zero_le, ↓reduceIte, if_true, if_false, kP, zz, zf, zy, nd] <;> rfl) (rfl) ?_
 obtain ⟨⟨v1, c1⟩, z1⟩ : ∃ z, stampD c = z := ⟨_, rfl⟩
 have b1 : c1.b = c.b := by have h9 := stampD_b c; rw [z1] at h9; exact h9
 simp only [z1]
 refine EV ?_
 refine OkOps.storeE tab_ok rfl rfl M48 ⟨_, _, by simp only [kE]; rfl⟩ M7 M64 (Ahd.updL (by repeat (first | exact hlt | exact hlt.mono (by omega) | refine Ahd.upd ?_ (Ahd.cur (by omega) _)))) ?_
 refine ON ?_
 refine S59 ?_
 refine OkOps.upd rfl rfl M48 M48 cl23 (fun h => c_spec_l01Below c1 8 L M123 M57) M3 (upd_twice M45 h) ?_
 refine ON ?_
 refine Ok.block ?_
 refine Ok.seq ?_
 obtain ⟨⟨v2, c2⟩, z2⟩ : ∃ z, curBelow c1 8 = z := ⟨_, rfl⟩
 have b2 : c2.b = c.b := by have h9 := curBelow_b c1 8; rw [z2] at h9; exact h9.trans b1
 have l2 : v2 < 8 := by have h9 := curBelow_lt (c := c1) (n := 8) M57; rw [z2] at h9; exact h9
 simp only [z2]
 refine S27 ?_
 refine OC (fun hb3 => ?_) (fun hb3 => ?_)
 ·
  try simp only [bsimp] at hb3
  have q2 : v2 = 0 := by omega
  refine S15 ?_
  refine OkOps.ev tab_ok rfl (ev_bs M53 M53 M57 M57 M37 M16) M52 ?_
  refine OkOps.upd rfl rfl M48 M48 cl42 (fun h => c_spec_l01PickInt c2 [-1, 100000, 100001] L (n + 1 + 1 + 1 + 1) (by rw [b2]; exact hb) M57 M58) M3 (upd_twice M45 h) ?_
  obtain ⟨⟨v3, c3⟩, z3⟩ : ∃ z, pickI c2 [-1, 100000, 100001] = z := ⟨_, rfl⟩
  have b3 : c3.b = c.b := by have h9 := pickI_b c2 [-1, 100000, 100001]; rw [z3] at h9; exact h9.trans b2
  simp only [z3]
  refine EV ?_
  refine OkOps.storeE tab_ok rfl rfl M48 ⟨_, _, by simp only [kE]; rfl⟩ M7 M64 (Ahd.updL (by repeat (first | exact hlt | exact hlt.mono (by omega) | refine Ahd.upd ?_ (Ahd.cur (by omega) _)))) ?_
  refine S29 ?_
  refine Ok.bump (n' := n + 1 + 4) M58 ?_
  refine S15 ?_
  refine OkOps.storeE tab_ok rfl rfl M48 ⟨_, _, by simp only [kE]; rfl⟩ M7 M64 (Ahd.updL (by repeat (first | exact hlt | exact hlt.mono (by omega) | refine Ahd.upd ?_ (Ahd.cur (by omega) _)))) ?_
  refine S36 ?_
  have e : stampA c = ({ v1 with time := v3 }, c3) := by simp only [stampA, z1, z2]; rw [if_pos q2, z3]
  rw [e]
  exact ⟨by first | rfl | (simp only [packV]; done) | (simp only [packV, List.map_append, List.map_cons, List.map_nil]; done), by first | rfl | exact hh | (repeat rw [upd_twice (by simp [V.travL, V.trav, updS, zz, zf, zy])]), rfl⟩
 try simp only [bsimp] at hb3
 have q2 : ¬ v2 = 0 := by omega
 refine S10 ?_
 refine OC (fun hb5 => ?_) (fun hb5 => ?_)
 ·
  try simp only [bsimp] at hb5
  have q3 : v2 = 1 := by omega
  refine S15 ?_
  refine OkOps.ev tab_ok rfl (ev_bs M53 M53 M57 M57 M37 M16) M52 ?_
  refine OkOps.upd rfl rfl M48 M48 cl42 (fun h => c_spec_l01PickInt c2 [-1, 0, 3] L (n + 1 + 1 + 1 + 1) (by rw [b2]; exact hb) M57 M58) M3 (upd_twice M45 h) ?_
  obtain ⟨⟨v3, c3⟩, z3⟩ : ∃ z, pickI c2 [-1, 0, 3] = z := ⟨_, rfl⟩
  have b3 : c3.b = c.b := by have h9 := pickI_b c2 [-1, 0, 3]; rw [z3] at h9; exact h9.trans b2
  simp only [z3]
  refine EV ?_
  refine OkOps.storeE tab_ok rfl rfl M48 ⟨_, _, by simp only [kE]; rfl⟩ M7 M64 (Ahd.updL (by repeat (first | exact hlt | exact hlt.mono (by omega) | refine Ahd.upd ?_ (Ahd.cur (by omega) _)))) ?_
  refine S29 ?_
  refine Ok.bump (n' := n + 1 + 4) M58 ?_
  refine S15 ?_
  refine OkOps.storeE tab_ok rfl rfl M48 ⟨_, _, by simp only [kE]; rfl⟩ M7 M64 (Ahd.updL (by repeat (first | exact hlt | exact hlt.mono (by omega) | refine Ahd.upd ?_ (Ahd.cur (by omega) _)))) ?_
  refine S36 ?_
  have e : stampA c = ({ v1 with by_ := v3 }, c3) := by simp only [stampA, z1, z2]; rw [if_neg q2, if_pos q3, z3]
  rw [e]
  exact ⟨by first | rfl | (simp only [packV]; done) | (simp only [packV, List.map_append, List.map_cons, List.map_nil]; done), by first | rfl | exact hh | (repeat rw [upd_twice (by simp [V.travL, V.trav, updS, zz, zf, zy])]), rfl⟩
 try simp only [bsimp] at hb5
 have q3 : ¬ v2 = 1 := by omega
 refine S7 ?_
 refine Ok.bump (n' := n + 1 + 4) M58 ?_
 refine S15 ?_
 refine OkOps.storeE tab_ok rfl rfl M48 ⟨_, _, by simp only [kE]; rfl⟩ M7 M64 (Ahd.updL (by repeat (first | exact hlt | exact hlt.mono (by omega) | refine Ahd.upd ?_ (Ahd.cur (by omega) _)))) ?_
 refine S36 ?_
 have e : stampA c = (v1, c2) := by simp only [stampA, z1, z2]; rw [if_neg q2, if_neg q3]
 rw [e]
 exact ⟨by first | rfl | (simp only [packV]; done) | (simp only [packV, List.map_append, List.map_cons, List.map_nil]; done), by first | rfl | exact hh | (repeat rw [upd_twice (by simp [V.travL, V.trav, updS, zz, zf, zy])]), rfl⟩
theorem c_spec_l03Reg (c : Cur) (L : Nat) (hb : c.b.length ≤ 4611686018427387904) {h : List V} {n : Nat} (hlt : Ahd n h) (hL : L + 1 < n) : OkCall Tryz.prog 124 [.ptr (L + 1) 0 0 (cCur c)] h n (fun r h1 n1 => r = .agg (cReg (regD c).1) ∧ h1 = V.updL (L + 1) 0 (cCur (regD c).2) h ∧ n1 = n + 7) := by
 obtain ⟨n, rfl⟩ : ∃ k, n = k + 1 := ⟨n - 1, by omega⟩
 have nd := NDL [L + 1, 0, n + 1, n + 1 + 1, n + 1 + 1 + 1, n + 1 + 1 + 1 + 1, n + 1 + 1 + 1 + 1 + 1, n + 1 + 1 + 1 + 1 + 1 + 1, n + 1 + 1 + 1 + 1 + 1 + 1 + 1]
 refine OkCall.enter' tab_ok Tryz.func124 rfl (ht := ANYS 10) ?_
 refine S53 ?_
 refine OkOps.updF (k := 4) rfl rfl M48 M48 cl68 M29 (by repeat (first | exact hlt | exact hlt.mono (by omega) | refine Ahd.upd ?_ (Ahd.cur (by omega) _))) (fun h hlt => c_spec_l03Any c L hb hlt (by omega)) (by first | rfl | (simp only [Nat.add_zero, Nat.reduceAdd] <;> rfl)) (by simp only [eq_self, V.updL, V.travL, V.travLL, V.trav, updS, updP, and_self, true_and, and_true, false_and, and_false, Nat.reduceEqDiff, Nat.reduceSub, Nat.le_refl, Nat.zero_le, ↓reduceIte, if_true, if_false, kP, zz, zf, zy, nd] <;> rfl) (rfl) ?_
 obtain ⟨⟨v1, c1⟩, z1⟩ : ∃ z, stampA c = z := ⟨_, rfl⟩
 have b1 : c1.b = c.b := by have h9 := stampA_b c; rw [z1] at h9; exact h9
 simp only [z1]
 refine EV ?_
 refine OkOps.storeE tab_ok rfl rfl M48 ⟨_, _, by simp only [kE]; rfl⟩ M7 M64 (Ahd.updL (by repeat (first | exact hlt | exact hlt.mono (by omega) | refine Ahd.upd ?_ (Ahd.cur (by omega) _)))) ?_
 refine S29 ?_
 refine Ok.stages 11 [0, 1, 3] [(2, [3], [4]), (5, [], [])] M56 M56 rfl ?_
 simp only [ixs, List.getElem?_toArray, List.getElem?_cons_zero, List.getElem?_cons_succ]
 refine SV ?_
 refine SOps.ev tab_ok rfl (ev_bs M53 M53 M57 M57 M37 M16) M52 ?_
 refine SV ?_
 refine SOps.nil ?_
 refine Pend.updF (k := 0) (by simp only [List.getElem?_toArray, List.getElem?_cons_zero, List.getElem?_cons_succ] <;> rfl) M59 M59 M48 M48 cl42 M29 (by repeat (first | exact hlt | exact hlt.mono (by omega) | refine Ahd.upd ?_ (Ahd.cur (by omega) _))) (fun h hlt => c_spec_l01PickInt c1 [0, 1, 1, 7, -1, 1000000001] L (n + 1 + 1 + 1 + 1 + 1 + 1 + 1) (by rw [b1]; exact hb) (by decide) (by omega)) (by first | rfl | (simp only [Nat.add_zero, Nat.reduceAdd] <;> rfl)) (by simp only [eq_self, V.updL, V.travL, V.travLL, V.trav, updS, updP, and_self, true_and, and_true, false_and, and_false, Nat.reduceEqDiff, Nat.reduceSub, Nat.le_refl, Nat.zero_le, ↓reduceIte, if_true, if_false, kP, zz, zf, zy, nd] <;> rfl) (upd_twice (by simp [V.travL, V.trav, updS, zz, zf, zy]) h) ?_
 simp only [ixs, List.getElem?_toArray, List.getElem?_cons_zero, List.getElem?_cons_succ]
 refine SOps.ev tab_ok rfl M36 M112 ?_
 refine SOps.nil ⟨LateOk.A (LateOk.cons (i := 3) tab_ok M59 M59 M79 (by show nth _ 9 = _; simp only [kE, kT, kL, kC] <;> rfl) LateOk.nil) M58, ?_⟩
 refine Pend.store tab_ok (by simp only [List.getElem?_toArray, List.getElem?_cons_zero, List.getElem?_cons_succ] <;> rfl) M59 M59 M59 M48 ⟨_, _, by simp only [kE]; rfl⟩ M7 M64 (Ahd.updL (by repeat (first | exact hlt | exact hlt.mono (by omega) | refine Ahd.upd ?_ (Ahd.cur (by omega) _)))) ?_
 simp only [ixs, List.getElem?_toArray, List.getElem?_cons_zero, List.getElem?_cons_succ]
 refine SOps.nil ⟨LateOk.A LateOk.nil M58, ?_⟩
 refine Pend.nil ?_
 refine S3 ?_
 have e : regD c = (⟨(pickI c1 [0, 1, 1, 7, -1, 1000000001]).1, v1⟩, (pickI c1 [0, 1, 1, 7, -1, 1000000001]).2) := by simp only [regD, z1]
 rw [e]
 generalize pickI c1 [0, 1, 1, 7, -1, 1000000001] = z
 exact ⟨by first | rfl | (simp only [packV]; done) | (simp only [packV, List.map_append, List.map_cons, List.map_nil]; done), by first | rfl | exact hh | (repeat rw [upd_twice (by simp [V.travL, V.trav, updS, zz, zf, zy])]), rfl⟩
theorem c_spec_l04Flags (c : Cur) (L : Nat) (hb : c.b.length ≤ 4611686018427387904) {h : List V} {n : Nat} (hlt : Ahd n h) (hL : L + 1 < n) (hfix : V.updL (L + 1) 0 (cCur c) h = h) : OkCall Tryz.prog 123 [.ptr (L + 1) 0 0 (cCur c)] h n (fun r h1 n1 => r = .sl n 3 0 ((flagsD c).1.map cReg) ∧ h1 = V.updL (L + 1) 0 (cCur (flagsD c).2) h ∧ n1 = n + 13) := by
 obtain ⟨n, rfl⟩ : ∃ k, n = k + 1 := ⟨n - 1, by omega⟩
 have nd := NDL [L + 1, 0, n + 1]
 have ne := fun k : Nat => NDL [L + 1, n + 1 + k + 1, n + 1 + k + 1 + 1, n + 1 + k + 1 + 1 + 1, 0, n + 1]
 refine OkCall.enter' tab_ok Tryz.func123 rfl (ht := ANYS 20) ?_
 refine S8 ?_
 refine S10 ?_
 refine S28 ?_
 refine Ok.loopHN (τ := Nat × List Reg × Cur × Nat) (fun x => [(0, .ptr (L + 1) 0 0 (cCur x.2.2.1)), (3, .sl (n + 1) 3 0 (x.2.1.map cReg)), (4, .int .i64 (x.1 : Int))]) [5, 7, 8, 9, 10, 11, 12, 13, 14, 15, 16, 17, 18, 19] (fun x => by simp only [kover] <;> rfl) (fun x => V.updL (L + 1) 0 (cCur x.2.2.1) h) (fun x => n + 1 + x.2.2.2 + 1) (fun x => x.1 ≤ 3 ∧ x.2.1.length = x.1 ∧ x.2.2.1.b = c.b ∧ x.2.2.2 ≤ 4 * x.1 ∧ flagsGoD (3 - x.1) x.2.2.1 x.2.1 = flagsD c) (fun x => 3 - x.1) (0, [], c, 0) (by (repeat (first | exact trivial | refine leC ?_ | refine leK ?_ ?_)) <;> first | (first | exact le_rfl' _ | exact le_nil (n + 1) 3) | exact le_rfl' _) (hfix.symm) ((by dsimp only; omega)) (⟨Nat.zero_le _, rfl, rfl, Nat.le_refl _, rfl⟩) ?_
 rintro ⟨i, l, cc, k⟩ ⟨h1, hll, hcb, hk, hgo⟩
 dsimp only at h1 hll hcb hk hgo ⊢
 refine S65 ?_
 refine OC (fun hb3 => ?_) (fun hb3 => ?_)
 ·
  try simp only [bsimp] at hb3
  have hi : i < 3 := by omega
  refine S14 ?_
  refine S6 ?_
  refine OkOps.updF (k := 1) rfl rfl M48 M48 cl94 M29 (by repeat (first | exact hlt | exact hlt.mono (by omega) | refine Ahd.upd ?_ (Ahd.cur (by omega) _))) (fun h hlt => c_spec_l03Stamp cc L (by rw [hcb]; exact hb) hlt (by omega)) (by first | rfl | (simp only [Nat.add_zero, Nat.reduceAdd] <;> rfl)) (by simp only [eq_self, V.updL, V.travL, V.travLL, V.trav, updS, updP, and_self, true_and, and_true, false_and, and_false, Nat.reduceEqDiff, Nat.reduceSub, Nat.le_refl, Nat.zero_le, ↓reduceIte, if_true, if_false, kP, zz, zf, zy, nd, ne] <;> rfl) (upd_twice (by simp [V.travL, V.trav, updS, zz, zf, zy]) h) ?_
  obtain ⟨⟨v1, c1⟩, z1⟩ : ∃ z, stampD cc = z := ⟨_, rfl⟩
  have b1 : c1.b = c.b := by have h9 := stampD_b cc; rw [z1] at h9; exact h9.trans hcb
  simp only [z1]
  refine EV ?_
  refine OkOps.storeE tab_ok rfl rfl M48 ⟨_, _, by simp only [kE]; rfl⟩ M7 M62 (Ahd.updL (by repeat (first | exact hlt | exact hlt.mono (by omega) | refine Ahd.upd ?_ (Ahd.cur (by omega) _)))) ?_
  refine ON ?_
  refine Ok.stages 21 [0, 1, 3] [(2, [0, 3], [4, 5]), (6, [], []), (7, [], [])] M56 M56 rfl ?_
  simp only [ixs, List.getElem?_toArray, List.getElem?_cons_zero, List.getElem?_cons_succ]
  iterate 3 (refine SV ?_)
  refine SOps.nil ?_
  refine Pend.updF (k := 0) (by simp only [List.getElem?_toArray, List.getElem?_cons_zero, List.getElem?_cons_succ] <;> rfl) M59 M59 M48 M48 cl23 M29 (by repeat (first | exact hlt | exact hlt.mono (by omega) | refine Ahd.upd ?_ (Ahd.cur (by omega) _))) (fun h hlt => c_spec_l01Below c1 2 L (by rw [b1]; exact hb) (by decide)) (by first | rfl | (simp only [Nat.add_zero, Nat.reduceAdd] <;> rfl)) (by simp only [eq_self, V.updL, V.travL, V.travLL, V.trav, updS, updP, and_self, true_and, and_true, false_and, and_false, Nat.reduceEqDiff, Nat.reduceSub, Nat.le_refl, Nat.zero_le, ↓reduceIte, if_true, if_false, kP, zz, zf, zy, nd, ne] <;> rfl) (upd_twice (by simp [V.travL, V.trav, updS, zz, zf, zy]) h) ?_
  simp only [ixs, List.getElem?_toArray, List.getElem?_cons_zero, List.getElem?_cons_succ]
  refine SOps.ev tab_ok rfl M36 M112 ?_
  refine SOps.ev tab_ok rfl (ev_bs M53 M53 M57 M57 M37 M16) M52 ?_
  refine SOps.nil ⟨LateOk.A (LateOk.cons (i := 0) tab_ok M59 M59 M79 (by show nth _ 13 = _; simp only [kE, kT, kL, kC] <;> rfl) (LateOk.cons (i := 3) tab_ok M59 M59 M79 (by show nth _ 16 = _; simp only [kE, kT, kL, kC] <;> rfl) LateOk.nil)) M58, ?_⟩
  refine Pend.append tab_ok (by simp only [List.getElem?_toArray, List.getElem?_cons_zero, List.getElem?_cons_succ] <;> rfl) M59 M59 M53 M53 M57 rfl M48 (.inl ⟨_, _, by simp only [kE, kT, kL, kC] <;> rfl⟩) M58 M58 M118 M118 M55 (by simp only [V.killL, V.killLL, V.travL, V.travLL, V.trav, killS, killP, Nat.reduceEqDiff, ↓reduceIte, reduceCtorEq, if_true, if_false, List.append_nil, List.nil_append, List.cons_append, zz, zf, zy, nd, ne] <;> rfl) (by simp only [V.killL, V.killLL, V.travL, V.travLL, V.trav, killS, killP, Nat.reduceEqDiff, ↓reduceIte, reduceCtorEq, if_true, if_false, List.append_nil, List.nil_append, List.cons_append, zz, zf, zy, nd, ne, kP] <;> rfl) (Ahd.killL (by repeat (first | exact hlt | exact hlt.mono (by omega) | refine Ahd.upd ?_ (Ahd.cur (by omega) _)))) ?_
  simp only [ixs, List.getElem?_toArray, List.getElem?_cons_zero, List.getElem?_cons_succ]
  refine SOps.nil ⟨LateOk.A LateOk.nil M58, ?_⟩
  refine Pend.ev tab_ok (by simp only [List.getElem?_toArray, List.getElem?_cons_zero, List.getElem?_cons_succ] <;> rfl) M59 M48 M52 ?_
  simp only [ixs, List.getElem?_toArray, List.getElem?_cons_zero, List.getElem?_cons_succ]
  refine SOps.nil ⟨LateOk.A LateOk.nil M58, ?_⟩
  refine Pend.nil ?_
  refine S12 ?_
  refine ⟨(i + 1, l ++ [⟨((curBelow c1 2).1 : Int), v1⟩], (curBelow c1 2).2, k + 3), ?_, rfl, M54, ⟨by dsimp only; omega, by dsimp only; rw [List.length_append, List.length_singleton]; omega, by dsimp only; rw [curBelow_b, b1], by dsimp only; omega, by dsimp only; rw [← hgo, show 3 - i = (3 - (i + 1)) + 1 by omega, flagsGoD, z1]⟩, by dsimp only; omega⟩
  (repeat (first | exact trivial | refine leC ?_ | refine leK ?_ ?_)) <;> first | (first | exact le_rfl' _ | (rw [wrap_succ (by omega)]; exact le_rfl' _) | (simp only [List.map_append, List.map_cons, List.map_nil]; exact le_rfl' _)) | exact le_rfl' _
 try simp only [bsimp] at hb3
 obtain rfl : i = 3 := by omega
 have hf : (l, cc) = flagsD c := hgo
 rw [← hf]
 refine Ok.bump (n' := n + 1 + 13) M58 ?_
 refine Ok.exit ?_
 refine S46 ?_
 exact ⟨rfl, rfl, rfl⟩
theorem c_spec_l04Any (c : Cur) (L : Nat) (hb : c.b.length ≤ 4611686018427387904) {h : List V} {n : Nat} (hlt : Ahd n h) (hL : L + 1 < n) : OkCall Tryz.prog 99 [.ptr (L + 1) 0 0 (cCur c)] h n (fun r h1 n1 => r = .sl 0 3 0 ((flagsA c).1.map cReg) ∧ h1 = V.updL (L + 1) 0 (cCur (flagsA c).2) h ∧ n1 = n + 0) := by
 obtain ⟨n, rfl⟩ : ∃ k, n = k + 1 := ⟨n - 1, by omega⟩
 have nd := NDL [L + 1, 0, n + 1, n + 1 + 13, n + 1 + 13 + 1, n + 1 + 13 + 7]
 refine OkCall.enter' tab_ok Tryz.func99 rfl (ht := ANYS 28) ?_
 refine S53 ?_
 refine OkOps.upd rfl rfl M48 M48 cl23 (fun h => c_spec_l01Below c 10 L hb M57) M3 (rfl) ?_
 obtain ⟨⟨v1, c1⟩, z1⟩ : ∃ z, curBelow c 10 = z := ⟨_, rfl⟩
 have b1 : c1.b = c.b := by have h9 := curBelow_b c 10; rw [z1] at h9; exact h9
 have l1 : v1 < 10 := by have h9 := curBelow_lt (c := c) (n := 10) M57; rw [z1] at h9; exact h9
 simp only [z1]
 refine S40 ?_
 refine OkOps.updG (k := 13) rfl rfl M48 M48 cl123 M29 (by repeat (first | exact hlt | exact hlt.mono (by omega) | refine Ahd.upd ?_ (Ahd.cur (by omega) _))) (fun h hlt hfix => c_spec_l04Flags c1 L (by rw [b1]; exact hb) hlt (by omega) hfix) (by simp only [eq_self, V.updL, V.travL, V.travLL, V.trav, updS, updP, and_self, true_and, and_true, false_and, and_false, Nat.reduceEqDiff, Nat.reduceSub, Nat.le_refl, Nat.zero_le, ↓reduceIte, if_true, if_false, zz, zf, zy, nd]) (by first | exact hfix | rfl | exact upd_twice (by simp [V.travL, V.trav, updS, zz, zf, zy]) _) (by first | rfl | (simp only [Nat.add_zero, Nat.reduceAdd] <;> rfl)) (by simp only [eq_self, V.updL, V.travL, V.travLL, V.trav, updS, updP, and_self, true_and, and_true, false_and, and_false, Nat.reduceEqDiff, Nat.reduceSub, Nat.le_refl, Nat.zero_le, ↓reduceIte, if_true, if_false, kP, zz, zf, zy, nd] <;> rfl) (upd_twice (by simp [V.travL, V.trav, updS, zz, zf, zy]) h) ?_
 obtain ⟨⟨v2, c2⟩, z2⟩ : ∃ z, flagsD c1 = z := ⟨_, rfl⟩
 have b2 : c2.b = c.b := by have h9 := flagsD_b c1; rw [z2] at h9; exact h9.trans b1
 simp only [z2]
 have hl2 : v2.length = 3 := by have h9 := flagsD_len c1; rw [z2] at h9; exact h9
 refine S2 ?_
 refine S28 ?_
 refine S10 ?_
 refine OC (fun hb4 => ?_) (fun hb4 => ?_)
 ·
  try simp only [bsimp] at hb4
  have q2 : v1 = 0 := by omega
  refine S15 ?_
  refine OkOps.ev tab_ok rfl M36 M112 ?_
  refine OkOps.ev tab_ok rfl (ev_bs M53 M53 M57 M57 M37 M16) M52 ?_
  refine OkOps.append tab_ok rfl rfl M53 M53 M57 rfl M48 (.inl ⟨_, _, by simp only [kE, kT, kL, kC] <;> rfl⟩) M58 M58 M118 M118 M55 M11 M9 (Ahd.killL (by repeat (first | exact hlt | exact hlt.mono (by omega) | refine Ahd.upd ?_ (Ahd.cur (by omega) _)))) ?_
  refine S2 ?_
  refine OQ ?_
  refine OkOps.freeze (n + 1) M58 ?_
  have f1 : frz (n + 1) (L + 1) = L + 1 := frz_lt M58
  have f4 : frz (n + 1) 0 = 0 := frz_lt M58
  have f5 : frz (n + 1) (n + 1) = 0 := by simp [frz]
  try rw [set_map cReg]
  rw [(hlt.mono M58 : Ahd (n + 1) h).ren_upd]
  simp only [V.renL, V.renLL, V.ren, V.travL, V.travLL, V.trav, zz, zf, zy, f1, f4, f5]
  try refine OkOps.off0 4 M59 M52 ?_
  refine S41 ?_
  have e : flagsA c = (v2 ++ [⟨0, ⟨0, 0⟩⟩], c2) := by simp only [flagsA, z1, z2]; rw [if_pos q2]
  rw [e]
  exact ⟨by first | rfl | (simp only [packV]; done) | (simp only [packV, List.map_append, List.map_cons, List.map_nil]; done), by first | rfl | exact hh | (repeat rw [upd_twice (by simp [V.travL, V.trav, updS, zz, zf, zy])]), rfl⟩
 try simp only [bsimp] at hb4
 have q2 : ¬ v1 = 0 := by omega
 refine S10 ?_
 refine OC (fun hb6 => ?_) (fun hb6 => ?_)
 ·
  try simp only [bsimp] at hb6
  have q3 : v1 = 1 := by omega
  refine S15 ?_
  refine OkOps.ev tab_ok rfl (ev_partLo_map (a := 1) M48 M48 M53 M106 (by rw [hl2]; decide)) M52 ?_
  refine S2 ?_
  refine OQ ?_
  refine OkOps.freeze (n + 1) M58 ?_
  have f1 : frz (n + 1) (L + 1) = L + 1 := frz_lt M58
  have f4 : frz (n + 1) 0 = 0 := frz_lt M58
  have f5 : frz (n + 1) (n + 1) = 0 := by simp [frz]
  try rw [set_map cReg]
  rw [(hlt.mono M58 : Ahd (n + 1) h).ren_upd]
  simp only [V.renL, V.renLL, V.ren, V.travL, V.travLL, V.trav, zz, zf, zy, f1, f4, f5]
  try refine OkOps.off0 4 M59 M52 ?_
  refine S41 ?_
  have e : flagsA c = (v2.drop 1, c2) := by simp only [flagsA, z1, z2]; rw [if_neg q2, if_pos q3]
  rw [e]
  exact ⟨by first | rfl | (simp only [packV]; done) | (simp only [packV, List.map_append, List.map_cons, List.map_nil]; done), by first | rfl | exact hh | (repeat rw [upd_twice (by simp [V.travL, V.trav, updS, zz, zf, zy])]), rfl⟩
 try simp only [bsimp] at hb6
 have q3 : ¬ v1 = 1 := by omega
 refine S10 ?_
 refine OC (fun hb8 => ?_) (fun hb8 => ?_)
 ·
  try simp only [bsimp] at hb8
  have q4 : v1 = 2 := by omega
  refine S20 ?_
  refine OkOps.upd rfl rfl M48 M48 cl23 (fun h => c_spec_l01Below c2 3 L (by rw [b2]; exact hb) M57) M3 (upd_twice M45 h) ?_
  obtain ⟨⟨v3, c3⟩, z3⟩ : ∃ z, curBelow c2 3 = z := ⟨_, rfl⟩
  have b3 : c3.b = c.b := by have h9 := curBelow_b c2 3; rw [z3] at h9; exact h9.trans b2
  have l3 : v3 < 3 := by have h9 := curBelow_lt (c := c2) (n := 3) M57; rw [z3] at h9; exact h9
  simp only [z3]
  refine EV ?_
  refine OkOps.updF (k := 7) rfl rfl M48 M48 cl124 M29 (by repeat (first | exact hlt | exact hlt.mono (by omega) | refine Ahd.upd ?_ (Ahd.cur (by omega) _))) (fun h hlt => c_spec_l03Reg c3 L (by rw [b3]; exact hb) hlt (by omega)) (by first | rfl | (simp only [Nat.add_zero, Nat.reduceAdd] <;> rfl)) (by simp only [eq_self, V.updL, V.travL, V.travLL, V.trav, updS, updP, and_self, true_and, and_true, false_and, and_false, Nat.reduceEqDiff, Nat.reduceSub, Nat.le_refl, Nat.zero_le, ↓reduceIte, if_true, if_false, kP, zz, zf, zy, nd] <;> rfl) (upd_twice (by simp [V.travL, V.trav, updS, zz, zf, zy]) h) ?_
  obtain ⟨⟨v4, c4⟩, z4⟩ : ∃ z, regD c3 = z := ⟨_, rfl⟩
  have b4 : c4.b = c.b := by have h9 := regD_b c3; rw [z4] at h9; exact h9.trans b3
  simp only [z4]
  refine OkOps.ev tab_ok rfl (ev_idx M48 M48 (by rw [List.getElem?_map, List.getElem?_eq_getElem M58]; rfl) M48) M52 ?_
  refine OkOps.storeE tab_ok rfl rfl M48 ⟨_, _, by simp only [kE]; rfl⟩ M7 M64 (Ahd.updL (by repeat (first | exact hlt | exact hlt.mono (by omega) | refine Ahd.upd ?_ (Ahd.cur (by omega) _)))) ?_
  refine ON ?_
  refine OQ ?_
  refine OkOps.freeze (n + 1) M58 ?_
  have f1 : frz (n + 1) (L + 1) = L + 1 := frz_lt M58
  have f4 : frz (n + 1) 0 = 0 := frz_lt M58
  have f5 : frz (n + 1) (n + 1) = 0 := by simp [frz]
  try rw [set_map cReg]
  rw [(hlt.mono M58 : Ahd (n + 1) h).ren_upd]
  simp only [V.renL, V.renLL, V.ren, V.travL, V.travLL, V.trav, zz, zf, zy, f1, f4, f5]
  try refine OkOps.off0 4 M59 M52 ?_
  refine S41 ?_
  have e : flagsA c = (v2.set v3 v4, c4) := by simp only [flagsA, z1, z2]; rw [if_neg q2, if_neg q3, if_pos q4, z3, z4]
  rw [e]
  exact ⟨by first | rfl | (simp only [packV]; done) | (simp only [packV, List.map_append, List.map_cons, List.map_nil]; done), by first | rfl | exact hh | (repeat rw [upd_twice (by simp [V.travL, V.trav, updS, zz, zf, zy])]), rfl⟩
 try simp only [bsimp] at hb8
 have q4 : ¬ v1 = 2 := by omega
 refine Ok.skip ?_
 refine OQ ?_
 refine OkOps.freeze (n + 1) M58 ?_
 have f1 : frz (n + 1) (L + 1) = L + 1 := frz_lt M58
 have f4 : frz (n + 1) 0 = 0 := frz_lt M58
 have f5 : frz (n + 1) (n + 1) = 0 := by simp [frz]
 try rw [set_map cReg]
 rw [(hlt.mono M58 : Ahd (n + 1) h).ren_upd]
 simp only [V.renL, V.renLL, V.ren, V.travL, V.travLL, V.trav, zz, zf, zy, f1, f4, f5]
 try refine OkOps.off0 4 M59 M52 ?_
 refine S41 ?_
 have e : flagsA c = (v2, c2) := by simp only [flagsA, z1, z2]; rw [if_neg q2, if_neg q3, if_neg q4]
 rw [e]
 exact ⟨by first | rfl | (simp only [packV]; done) | (simp only [packV, List.map_append, List.map_cons, List.map_nil]; done), by first | rfl | exact hh | (repeat rw [upd_twice (by simp [V.travL, V.trav, updS, zz, zf, zy])]), rfl⟩
theorem c_spec_l05Mail (c : Cur) (L : Nat) (hb : c.b.length ≤ 4611686018427387904) {h : List V} {n : Nat} (hlt : Ahd n h) (hL : L + 1 < n) : OkCall Tryz.prog 98 [.ptr (L + 1) 0 0 (cCur c)] h n (fun r h1 n1 => r = .agg (cMail (mailD c).1) ∧ h1 = V.updL (L + 1) 0 (cCur (mailD c).2) h ∧ n1 = n + 1) := by
 obtain ⟨n, rfl⟩ : ∃ k, n = k + 1 := ⟨n - 1, by omega⟩
 have nd := NDL [L + 1, 0, n + 1, n + 1 + 1, n + 1 + 1 + 13]
 refine OkCall.enter' tab_ok Tryz.func98 rfl (ht := ANYS 19) ?_
 refine S53 ?_
 refine OkOps.upd rfl rfl M48 M48 cl23 (fun h => c_spec_l01Below c 6 L hb M57) M3 (rfl) ?_
 obtain ⟨⟨v1, c1⟩, z1⟩ : ∃ z, curBelow c 6 = z := ⟨_, rfl⟩
 have b1 : c1.b = c.b := by have h9 := curBelow_b c 6; rw [z1] at h9; exact h9
 have l1 : v1 < 6 := by have h9 := curBelow_lt (c := c) (n := 6) M57; rw [z1] at h9; exact h9
 simp only [z1]
 have hw1 : IntKind.i64.wrap (1 + (v1 : Int)) = 1 + (v1 : Int) := by rw [IntKind.wrap_i64]; omega
 refine OkOps.ev tab_ok rfl M105 M52 ?_
 refine S40 ?_
 refine OkOps.upd rfl rfl M48 M48 cl23 (fun h => c_spec_l01Below c1 6 L M123 M57) M3 (upd_twice M45 h) ?_
 obtain ⟨⟨v2, c2⟩, z2⟩ : ∃ z, curBelow c1 6 = z := ⟨_, rfl⟩
 have b2 : c2.b = c.b := by have h9 := curBelow_b c1 6; rw [z2] at h9; exact h9.trans b1
 have l2 : v2 < 6 := by have h9 := curBelow_lt (c := c1) (n := 6) M57; rw [z2] at h9; exact h9
 simp only [z2]
 have hw2 : IntKind.i64.wrap (1 + (v2 : Int)) = 1 + (v2 : Int) := by rw [IntKind.wrap_i64]; omega
 refine OkOps.ev tab_ok rfl (by simp only [kE, kT, kL, kC, hw2] <;> rfl) M52 ?_
 refine S40 ?_
 refine OkOps.updG (k := 13) rfl rfl M48 M48 cl123 M29 (by repeat (first | exact hlt | exact hlt.mono (by omega) | refine Ahd.upd ?_ (Ahd.cur (by omega) _))) (fun h hlt hfix => c_spec_l04Flags c2 L (by rw [b2]; exact hb) hlt (by omega) hfix) (by simp only [eq_self, V.updL, V.travL, V.travLL, V.trav, updS, updP, and_self, true_and, and_true, false_and, and_false, Nat.reduceEqDiff, Nat.reduceSub, Nat.le_refl, Nat.zero_le, ↓reduceIte, if_true, if_false, zz, zf, zy, nd]) (by first | exact hfix | rfl | exact upd_twice (by simp [V.travL, V.trav, updS, zz, zf, zy]) _) (by first | rfl | (simp only [Nat.add_zero, Nat.reduceAdd] <;> rfl)) (by simp only [eq_self, V.updL, V.travL, V.travLL, V.trav, updS, updP, and_self, true_and, and_true, false_and, and_false, Nat.reduceEqDiff, Nat.reduceSub, Nat.le_refl, Nat.zero_le, ↓reduceIte, if_true, if_false, kP, zz, zf, zy, nd] <;> rfl) (upd_twice (by simp [V.travL, V.trav, updS, zz, zf, zy]) h) ?_
 obtain ⟨⟨v3, c3⟩, z3⟩ : ∃ z, flagsD c2 = z := ⟨_, rfl⟩
 have b3 : c3.b = c.b := by have h9 := flagsD_b c2; rw [z3] at h9; exact h9.trans b2
 simp only [z3]
 refine S2 ?_
 refine S38 ?_
 refine OkOps.updF (k := 1) rfl rfl M48 M48 cl88 M29 (by repeat (first | exact hlt | exact hlt.mono (by omega) | refine Ahd.upd ?_ (Ahd.cur (by omega) _))) (fun h hlt => c_spec_l05Text c3 L (by rw [b3]; exact hb) hlt (by omega)) (by first | rfl | (simp only [Nat.add_zero, Nat.reduceAdd] <;> rfl)) (by simp only [eq_self, V.updL, V.travL, V.travLL, V.trav, updS, updP, and_self, true_and, and_true, false_and, and_false, Nat.reduceEqDiff, Nat.reduceSub, Nat.le_refl, Nat.zero_le, ↓reduceIte, if_true, if_false, kP, zz, zf, zy, nd] <;> rfl) (upd_twice (by simp [V.travL, V.trav, updS, zz, zf, zy]) h) ?_
 obtain ⟨⟨v4, c4⟩, z4⟩ : ∃ z, pickS c3 textsL = z := ⟨_, rfl⟩
 have b4 : c4.b = c.b := by have h9 := pickS_b c3 textsL; rw [z4] at h9; exact h9.trans b3
 simp only [z4]
 refine OkOps.ev tab_ok rfl M36 M112 ?_
 refine OkOps.freeze (n + 1 + 1) M58 ?_
 have f1 : frz (n + 1 + 1) (L + 1) = L + 1 := frz_lt M58
 have f4 : frz (n + 1 + 1) 0 = 0 := frz_lt M58
 have f5 : frz (n + 1 + 1) (n + 1 + 1) = 0 := by simp [frz]
 have f6 : frz (n + 1 + 1) (n + 1) = n + 1 := frz_lt M58
 rw [(hlt.mono M58 : Ahd (n + 1 + 1) h).ren_upd]
 simp only [V.renL, V.renLL, V.ren, V.travL, V.travLL, V.trav, zz, zf, zy, f1, f4, f5, f6]
 refine OkOps.storeE tab_ok rfl rfl M48 ⟨_, _, by simp only [kE]; rfl⟩ M7 M64 (Ahd.updL (by repeat (first | exact hlt | exact hlt.mono (by omega) | refine Ahd.upd ?_ (Ahd.cur (by omega) _)))) ?_
 refine S36 ?_
 have e : mailD c = (⟨1 + (v1 : Int), 1 + (v2 : Int), v3, v4⟩, c4) := by simp only [mailD, z1, z2, z3, z4]
 rw [e]
 exact ⟨by first | rfl | (simp only [packV]; done) | (simp only [packV, List.map_append, List.map_cons, List.map_nil]; done), by first | rfl | exact hh | (repeat rw [upd_twice (by simp [V.travL, V.trav, updS, zz, zf, zy])]), rfl⟩
theorem c_spec_l05Any (c : Cur) (L : Nat) (hb : c.b.length ≤ 4611686018427387904) {h : List V} {n : Nat} (hlt : Ahd n h) (hL : L + 1 < n) : OkCall Tryz.prog 67 [.ptr (L + 1) 0 0 (cCur c)] h n (fun r h1 n1 => r = .agg (cMail (mailA c).1) ∧ h1 = V.updL (L + 1) 0 (cCur (mailA c).2) h ∧ n1 = n + 5) := by
 obtain ⟨n, rfl⟩ : ∃ k, n = k + 1 := ⟨n - 1, by omega⟩
 have nd := NDL [L + 1, 0, n + 1, n + 1 + 1, n + 1 + 1 + 1, n + 1 + 1 + 1 + 1]
 refine OkCall.enter' tab_ok Tryz.func67 rfl (ht := ANYS 41) ?_
 refine S53 ?_
 refine OkOps.upd rfl rfl M48 M48 cl23 (fun h => c_spec_l01Below c 10 L hb M57) M3 (rfl) ?_
 obtain ⟨⟨v1, c1⟩, z1⟩ : ∃ z, curBelow c 10 = z := ⟨_, rfl⟩
 have b1 : c1.b = c.b := by have h9 := curBelow_b c 10; rw [z1] at h9; exact h9
 have l1 : v1 < 10 := by have h9 := curBelow_lt (c := c) (n := 10) M57; rw [z1] at h9; exact h9
 simp only [z1]
 refine S40 ?_
 refine OkOps.upd rfl rfl M48 M48 cl23 (fun h => c_spec_l01Below c1 60 L M123 M57) M3 (upd_twice M45 h) ?_
 obtain ⟨⟨v2, c2⟩, z2⟩ : ∃ z, curBelow c1 60 = z := ⟨_, rfl⟩
 have b2 : c2.b = c.b := by have h9 := curBelow_b c1 60; rw [z2] at h9; exact h9.trans b1
 have l2 : v2 < 60 := by have h9 := curBelow_lt (c := c1) (n := 60) M57; rw [z2] at h9; exact h9
 simp only [z2]
 refine S40 ?_
 refine OkOps.updF (k := 1) rfl rfl M48 M48 cl98 M29 (by repeat (first | exact hlt | exact hlt.mono (by omega) | refine Ahd.upd ?_ (Ahd.cur (by omega) _))) (fun h hlt => c_spec_l05Mail c2 L (by rw [b2]; exact hb) hlt (by omega)) (by first | rfl | (simp only [Nat.add_zero, Nat.reduceAdd] <;> rfl)) (by simp only [eq_self, V.updL, V.travL, V.travLL, V.trav, updS, updP, and_self, true_and, and_true, false_and, and_false, Nat.reduceEqDiff, Nat.reduceSub, Nat.le_refl, Nat.zero_le, ↓reduceIte, if_true, if_false, kP, zz, zf, zy, nd] <;> rfl) (upd_twice (by simp [V.travL, V.trav, updS, zz, zf, zy]) h) ?_
 obtain ⟨⟨v3, c3⟩, z3⟩ : ∃ z, mailD c2 = z := ⟨_, rfl⟩
 have b3 : c3.b = c.b := by have h9 := mailD_b c2; rw [z3] at h9; exact h9.trans b2
 simp only [z3]
 refine EV ?_
 refine OkOps.storeE tab_ok rfl rfl M48 ⟨_, _, by simp only [kE]; rfl⟩ M7 M64 (Ahd.updL (by repeat (first | exact hlt | exact hlt.mono (by omega) | refine Ahd.upd ?_ (Ahd.cur (by omega) _)))) ?_
 refine ON ?_
 refine S28 ?_
 refine S10 ?_
 refine OC (fun hb5 => ?_) (fun hb5 => ?_)
 ·
  try simp only [bsimp] at hb5
  have q2 : v1 = 0 := by omega
  obtain ⟨w, hw, hwl⟩ : ∃ w : Nat, v2 % 4 = w ∧ w < 4 := ⟨_, rfl, Nat.mod_lt _ M57⟩
  have hm : Int.tmod (v2 : Int) 4 = (w : Int) := by rw [Int.tmod_eq_emod_of_nonneg M58]; omega
  refine Ok.region ?_
  refine OkOps.ev tab_ok rfl (ev_bs M53 M53 M57 M57 M37 M16) M52 ?_
  refine EV ?_
  refine OkOps.ev tab_ok rfl M47 M52 ?_
  refine OkOps.ev tab_ok rfl (ev_idx M48 M48 (getZ (l := [0, 9999, 10000, -1]) hwl) M48) M52 ?_
  iterate 2 (refine EV ?_)
  refine OkOps.storeE tab_ok rfl rfl M48 ⟨_, _, by simp only [kE]; rfl⟩ M7 M64 (Ahd.updL (by repeat (first | exact hlt | exact hlt.mono (by omega) | refine Ahd.upd ?_ (Ahd.cur (by omega) _)))) ?_
  refine S29 ?_
  refine Ok.bump (n' := n + 1 + 5) M58 ?_
  refine S15 ?_
  refine OkOps.storeE tab_ok rfl rfl M48 ⟨_, _, by simp only [kE]; rfl⟩ M7 M64 (Ahd.updL (by repeat (first | exact hlt | exact hlt.mono (by omega) | refine Ahd.upd ?_ (Ahd.cur (by omega) _)))) ?_
  refine S36 ?_
  have e : mailA c = ({ v3 with gid := [0, 9999, 10000, -1].getD w 0 }, c3) := by simp only [mailA, z1, z2, z3, hw]; rw [if_pos q2]
  rw [e]
  exact ⟨by first | rfl | (simp only [packV]; done) | (simp only [packV, List.map_append, List.map_cons, List.map_nil]; done), by first | rfl | exact hh | (repeat rw [upd_twice (by simp [V.travL, V.trav, updS, zz, zf, zy])]), rfl⟩
 try simp only [bsimp] at hb5
 have q2 : ¬ v1 = 0 := by omega
 refine S10 ?_
 refine OC (fun hb7 => ?_) (fun hb7 => ?_)
 ·
  try simp only [bsimp] at hb7
  have q3 : v1 = 1 := by omega
  obtain ⟨w, hw, hwl⟩ : ∃ w : Nat, v2 % 3 = w ∧ w < 3 := ⟨_, rfl, Nat.mod_lt _ M57⟩
  have hm : Int.tmod (v2 : Int) 3 = (w : Int) := by rw [Int.tmod_eq_emod_of_nonneg M58]; omega
  refine Ok.region ?_
  refine OkOps.ev tab_ok rfl (ev_bs M53 M53 M57 M57 M37 M16) M52 ?_
  refine EV ?_
  refine OkOps.ev tab_ok rfl M47 M52 ?_
  refine OkOps.ev tab_ok rfl (ev_idx M48 M48 (getZ (l := [0, 9999, 10000]) hwl) M48) M52 ?_
  iterate 2 (refine EV ?_)
  refine OkOps.storeE tab_ok rfl rfl M48 ⟨_, _, by simp only [kE]; rfl⟩ M7 M64 (Ahd.updL (by repeat (first | exact hlt | exact hlt.mono (by omega) | refine Ahd.upd ?_ (Ahd.cur (by omega) _)))) ?_
  refine S29 ?_
  refine Ok.bump (n' := n + 1 + 5) M58 ?_
  refine S15 ?_
  refine OkOps.storeE tab_ok rfl rfl M48 ⟨_, _, by simp only [kE]; rfl⟩ M7 M64 (Ahd.updL (by repeat (first | exact hlt | exact hlt.mono (by omega) | refine Ahd.upd ?_ (Ahd.cur (by omega) _)))) ?_
  refine S36 ?_
  have e : mailA c = ({ v3 with uid := [0, 9999, 10000].getD w 0 }, c3) := by simp only [mailA, z1, z2, z3, hw]; rw [if_neg q2, if_pos q3]
  rw [e]
  exact ⟨by first | rfl | (simp only [packV]; done) | (simp only [packV, List.map_append, List.map_cons, List.map_nil]; done), by first | rfl | exact hh | (repeat rw [upd_twice (by simp [V.travL, V.trav, updS, zz, zf, zy])]), rfl⟩
 try simp only [bsimp] at hb7
 have q3 : ¬ v1 = 1 := by omega
 refine S10 ?_
 refine OC (fun hb9 => ?_) (fun hb9 => ?_)
 ·
  try simp only [bsimp] at hb9
  have q4 : v1 = 2 := by omega
  refine S15 ?_
  refine OkOps.updF (k := 0) rfl rfl M48 M48 cl99 M29 (by repeat (first | exact hlt | exact hlt.mono (by omega) | refine Ahd.upd ?_ (Ahd.cur (by omega) _))) (fun h hlt => c_spec_l04Any c3 L (by rw [b3]; exact hb) hlt (by omega)) (by first | rfl | (simp only [Nat.add_zero, Nat.reduceAdd] <;> rfl)) (by simp only [eq_self, V.updL, V.travL, V.travLL, V.trav, updS, updP, and_self, true_and, and_true, false_and, and_false, Nat.reduceEqDiff, Nat.reduceSub, Nat.le_refl, Nat.zero_le, ↓reduceIte, if_true, if_false, kP, zz, zf, zy, nd] <;> rfl) (upd_twice (by simp [V.travL, V.trav, updS, zz, zf, zy]) h) ?_
  obtain ⟨⟨v4, c4⟩, z4⟩ : ∃ z, flagsA c3 = z := ⟨_, rfl⟩
  have b4 : c4.b = c.b := by have h9 := flagsA_b c3; rw [z4] at h9; exact h9.trans b3
  simp only [z4]
  refine EV ?_
  refine OkOps.storeE tab_ok rfl rfl M48 ⟨_, _, by simp only [kE]; rfl⟩ M7 M64 (Ahd.updL (by repeat (first | exact hlt | exact hlt.mono (by omega) | refine Ahd.upd ?_ (Ahd.cur (by omega) _)))) ?_
  refine S29 ?_
  refine Ok.bump (n' := n + 1 + 5) M58 ?_
  refine S15 ?_
  refine OkOps.storeE tab_ok rfl rfl M48 ⟨_, _, by simp only [kE]; rfl⟩ M7 M64 (Ahd.updL (by repeat (first | exact hlt | exact hlt.mono (by omega) | refine Ahd.upd ?_ (Ahd.cur (by omega) _)))) ?_
  refine S36 ?_
  have e : mailA c = ({ v3 with flags := v4 }, c4) := by simp only [mailA, z1, z2, z3, z4]; rw [if_neg q2, if_neg q3, if_pos q4]
  rw [e]
  exact ⟨by first | rfl | (simp only [packV]; done) | (simp only [packV, List.map_append, List.map_cons, List.map_nil]; done), by first | rfl | exact hh | (repeat rw [upd_twice (by simp [V.travL, V.trav, updS, zz, zf, zy])]), rfl⟩
 try simp only [bsimp] at hb9
 have q4 : ¬ v1 = 2 := by omega
 refine S10 ?_
 refine OC (fun hb11 => ?_) (fun hb11 => ?_)
 ·
  try simp only [bsimp] at hb11
  have q5 : v1 = 3 := by omega
  obtain ⟨w, hw, hwl⟩ : ∃ w : Nat, v2 % 2 = w ∧ w < 2 := ⟨_, rfl, Nat.mod_lt _ M57⟩
  have hm : Int.tmod (v2 : Int) 2 = (w : Int) := by rw [Int.tmod_eq_emod_of_nonneg M58]; omega
  have hw60 : IntKind.i64.wrap (60 + (w : Int)) = ((60 + w : Nat) : Int) := by rw [IntKind.wrap_i64]; omega
  refine S15 ?_
  refine OkOps.ev tab_ok rfl M47 M52 ?_
  refine OkOps.ev tab_ok rfl (by simp only [kE, kT, kL, kC, hw60] <;> rfl) M52 ?_
  refine OW cl41 (w_spec_l01Long (60 + w) 97 M58) ?_
  refine EV ?_
  refine OkOps.storeE tab_ok rfl rfl M48 ⟨_, _, by simp only [kE]; rfl⟩ M7 M64 (Ahd.updL (by repeat (first | exact hlt | exact hlt.mono (by omega) | refine Ahd.upd ?_ (Ahd.cur (by omega) _)))) ?_
  refine S29 ?_
  refine Ok.bump (n' := n + 1 + 5) M58 ?_
  refine S15 ?_
  refine OkOps.storeE tab_ok rfl rfl M48 ⟨_, _, by simp only [kE]; rfl⟩ M7 M64 (Ahd.updL (by repeat (first | exact hlt | exact hlt.mono (by omega) | refine Ahd.upd ?_ (Ahd.cur (by omega) _)))) ?_
  refine S36 ?_
  have e : mailA c = ({ v3 with text := longT (60 + w) 97 }, c3) := by simp only [mailA, z1, z2, z3, hw]; rw [if_neg q2, if_neg q3, if_neg q4, if_pos q5]
  rw [e]
  exact ⟨by first | rfl | (simp only [packV]; done) | (simp only [packV, List.map_append, List.map_cons, List.map_nil]; done), by first | rfl | exact hh | (repeat rw [upd_twice (by simp [V.travL, V.trav, updS, zz, zf, zy])]), rfl⟩
 try simp only [bsimp] at hb11
 have q5 : ¬ v1 = 3 := by omega
 refine S7 ?_
 refine Ok.bump (n' := n + 1 + 5) M58 ?_
 refine S15 ?_
 refine OkOps.storeE tab_ok rfl rfl M48 ⟨_, _, by simp only [kE]; rfl⟩ M7 M64 (Ahd.updL (by repeat (first | exact hlt | exact hlt.mono (by omega) | refine Ahd.upd ?_ (Ahd.cur (by omega) _)))) ?_
 refine S36 ?_
 have e : mailA c = (v3, c3) := by simp only [mailA, z1, z2, z3]; rw [if_neg q2, if_neg q3, if_neg q4, if_neg q5]
 rw [e]
 exact ⟨by first | rfl | (simp only [packV]; done) | (simp only [packV, List.map_append, List.map_cons, List.map_nil]; done), by first | rfl | exact hh | (repeat rw [upd_twice (by simp [V.travL, V.trav, updS, zz, zf, zy])]), rfl⟩
end Go.Proofs.YtiipkeendfpddaaGreat.K

/- Walks: boxes and stores drawn, right or not. Printed by w2.py. -/
namespace Go.Proofs.YtiipkeendfpddaaGreat.K
open Go Go.RowKit
set_option linter.unusedVariables false
set_option linter.unusedSimpArgs false
set_option maxHeartbeats 4000000
set_option maxRecDepth 20000
theorem c_spec_l06Box (c : Cur) (L : Nat) (hb : c.b.length ≤ 4611686018427387904) {h : List V} {n : Nat} (hlt : Ahd n h) (hL : L + 1 < n) : OkCall Tryz.prog 66 [.ptr (L + 1) 0 0 (cCur c)] h n (fun r h1 n1 => r = .agg (cBox (boxD c).1) ∧ h1 = V.updL (L + 1) 0 (cCur (boxD c).2) h ∧ n1 = n + 60) := by
 obtain ⟨n, rfl⟩ : ∃ k, n = k + 1 := ⟨n - 1, by omega⟩
 have nd := NDL [L + 1, 0, n + 1, n + 1 + 1, n + 1 + 1 + 1, n + 1 + 1 + 1 + 1, n + 1 + 1 + 1 + 1 + 1]
 have ne := fun k : Nat => NDL [L + 1, n + 1 + 1 + 1 + 1 + 1 + k + 1, n + 1 + 1 + 1 + 1 + 1 + k + 1 + 1, n + 1 + 1 + 1 + 1 + 1 + k + 1 + 1 + 1, 0, n + 1, n + 1 + 1, n + 1 + 1 + 1, n + 1 + 1 + 1 + 1, n + 1 + 1 + 1 + 1 + 1]
 refine OkCall.enter' tab_ok Tryz.func66 rfl (ht := ANYS 63) ?_
 refine S53 ?_
 refine OkOps.updF (k := 1) rfl rfl M48 M48 cl94 M29 (by repeat (first | exact hlt | exact hlt.mono (by omega) | refine Ahd.upd ?_ (Ahd.cur (by omega) _))) (fun h hlt => c_spec_l03Stamp c L hb hlt (by omega)) (by first | rfl | (simp only [Nat.add_zero, Nat.reduceAdd] <;> rfl)) (by simp only [eq_self, V.updL, V.travL, V.travLL, V.trav, updS, updP, and_self, true_and, and_true, false_and, and_false, Nat.reduceEqDiff, Nat.reduceSub, Nat.le_refl, Nat.zero_le, ↓reduceIte, if_true, if_false, kP, zz, zf, zy, nd, ne] <;> rfl) (rfl) ?_
 obtain ⟨⟨v1, c1⟩, z1⟩ : ∃ z, stampD c = z := ⟨_, rfl⟩
 have b1 : c1.b = c.b := by have h9 := stampD_b c; rw [z1] at h9; exact h9
 simp only [z1]
 refine EV ?_
 refine OkOps.storeE tab_ok rfl rfl M48 ⟨_, _, by simp only [kE]; rfl⟩ M7 M62 (Ahd.updL (by repeat (first | exact hlt | exact hlt.mono (by omega) | refine Ahd.upd ?_ (Ahd.cur (by omega) _)))) ?_
 refine S29 ?_
 have hq4 := curBelow_lt (c := (pickS c1 names3).2) (n := 4) M57
 have hw4 : IntKind.i64.wrap (1 + ((curBelow (pickS c1 names3).2 4).1 : Int)) = 1 + ((curBelow (pickS c1 names3).2 4).1 : Int) := by rw [IntKind.wrap_i64]; omega
 refine Ok.stages 64 [0, 1, 3, 4, 8] [(2, [3, 4, 8], []), (5, [3, 8], [6, 7]), (9, [], [])] M56 M56 rfl ?_
 simp only [ixs, List.getElem?_toArray, List.getElem?_cons_zero, List.getElem?_cons_succ]
 refine SV ?_
 refine SOps.ev tab_ok rfl (ev_bs M53 M53 M57 M57 M37 M16) M52 ?_
 iterate 3 (refine SV ?_)
 refine SOps.nil ?_
 refine Pend.updF (k := 0) (by simp only [List.getElem?_toArray, List.getElem?_cons_zero, List.getElem?_cons_succ] <;> rfl) M59 M59 M48 M48 cl25 M29 (by repeat (first | exact hlt | exact hlt.mono (by omega) | refine Ahd.upd ?_ (Ahd.cur (by omega) _))) (fun h hlt => c_spec_l01Pick c1 names3 L (n + 1 + 1 + 1 + 1) (by rw [b1]; exact hb) (by decide) (by omega)) (by first | rfl | (simp only [Nat.add_zero, Nat.reduceAdd] <;> rfl)) (by simp only [eq_self, V.updL, V.travL, V.travLL, V.trav, updS, updP, and_self, true_and, and_true, false_and, and_false, Nat.reduceEqDiff, Nat.reduceSub, Nat.le_refl, Nat.zero_le, ↓reduceIte, if_true, if_false, kP, zz, zf, zy, nd, ne] <;> rfl) (upd_twice (by simp [V.travL, V.trav, updS, zz, zf, zy]) h) ?_
 simp only [ixs, List.getElem?_toArray, List.getElem?_cons_zero, List.getElem?_cons_succ]
 refine SOps.nil ⟨LateA.alloc (ia := 8) tab_ok M59 M59 M59 (by show nth _ 4 = _; simp only [kE, kT, kL, kC] <;> rfl) M79 M58 M58 (fun hm => absurd (((by repeat (first | exact hlt | exact hlt.mono (by omega) | refine Ahd.upd ?_ (Ahd.cur (by omega) _))) : Ahd _ _) _ hm) (Nat.lt_irrefl _)) (by intro hm; simp [V.labelsL, V.labels, V.labelsLL, zz, zf, zy, lz] at hm <;> omega) (LateOk.cons (i := 3) tab_ok (by rfl) (by rfl) (by (try simp only [List.getElem_toArray, List.getElem_cons_succ, List.getElem_cons_zero]); exact (by simp only [kE, kT, kL, kC] <;> rfl)) (by show nth _ 13 = _; simp only [kE, kT, kL, kC] <;> rfl) (LateOk.cons (i := 4) tab_ok (by rfl) (by rfl) (by (try simp only [List.getElem_toArray, List.getElem_cons_succ, List.getElem_cons_zero]); exact (by simp only [kE, kT, kL, kC] <;> rfl)) (by show nth _ 14 = _; simp only [kE, kT, kL, kC] <;> rfl) LateOk.nil)) (by decide), ?_⟩
 refine Pend.updF (k := 0) (by simp only [List.getElem?_toArray, List.getElem?_cons_zero, List.getElem?_cons_succ] <;> rfl) M59 M59 M48 M48 cl23 M29 (by repeat (first | exact hlt | exact hlt.mono (by omega) | refine Ahd.upd ?_ (Ahd.cur (by omega) _))) (fun h hlt => c_spec_l01Below (pickS c1 names3).2 4 L (by rw [pickS_b, b1]; exact hb) (by decide)) (by first | rfl | (simp only [Nat.add_zero, Nat.reduceAdd] <;> rfl)) (by simp only [eq_self, V.updL, V.travL, V.travLL, V.trav, updS, updP, and_self, true_and, and_true, false_and, and_false, Nat.reduceEqDiff, Nat.reduceSub, Nat.le_refl, Nat.zero_le, ↓reduceIte, if_true, if_false, kP, zz, zf, zy, nd, ne] <;> rfl) (upd_twice (by simp [V.travL, V.trav, updS, zz, zf, zy]) h) ?_
 simp only [ixs, List.getElem?_toArray, List.getElem?_cons_zero, List.getElem?_cons_succ]
 refine SOps.ev tab_ok rfl (by simp only [kE, kT, kL, kC, hw4] <;> rfl) M52 ?_
 refine SOps.ev tab_ok rfl M36 M112 ?_
 refine SOps.nil ⟨LateA.alloc (ia := 8) tab_ok M59 M59 M59 (by show nth _ 4 = _; simp only [kE, kT, kL, kC] <;> rfl) M79 M58 M58 (fun hm => absurd (((by repeat (first | exact hlt | exact hlt.mono (by omega) | refine Ahd.upd ?_ (Ahd.cur (by omega) _))) : Ahd _ _) _ hm) (Nat.lt_irrefl _)) (by intro hm; simp [V.labelsL, V.labels, V.labelsLL, zz, zf, zy, lz] at hm <;> omega) (LateOk.cons (i := 3) tab_ok (by rfl) (by rfl) (by (try simp only [List.getElem_toArray, List.getElem_cons_succ, List.getElem_cons_zero]); exact (by simp only [kE, kT, kL, kC] <;> rfl)) (by show nth _ 13 = _; simp only [kE, kT, kL, kC] <;> rfl) LateOk.nil) (by decide), ?_⟩
 refine Pend.store tab_ok (by simp only [List.getElem?_toArray, List.getElem?_cons_zero, List.getElem?_cons_succ] <;> rfl) M59 M59 M59 M48 ⟨_, _, by simp only [kE]; rfl⟩ M7 M62 (Ahd.updL (by repeat (first | exact hlt | exact hlt.mono (by omega) | refine Ahd.upd ?_ (Ahd.cur (by omega) _)))) ?_
 simp only [ixs, List.getElem?_toArray, List.getElem?_cons_zero, List.getElem?_cons_succ]
 refine SOps.nil ⟨LateOk.A LateOk.nil M58, ?_⟩
 refine Pend.nil ?_
 refine Ok.seq ?_
 refine Ok.seq ?_
 obtain ⟨⟨b0, c0⟩, z0⟩ : ∃ z, box0D c = z := ⟨_, rfl⟩
 have hb0 : BoxS b0 := by have h9 := box0D_s c; rw [z0] at h9; exact h9
 have hc0 : c0.b = c.b := by have h9 := box0D_b c; rw [z0] at h9; exact h9
 have e0 : box0D c = (⟨7, (pickS c1 names3).1, v1, 1 + ((curBelow (pickS c1 names3).2 4).1 : Int), [], []⟩, (curBelow (pickS c1 names3).2 4).2) := by simp only [box0D, z1]
 have hg0 : boxGoD 12 0 b0 c0 = boxD c := by rw [boxD, z0]
 rw [z0] at e0
 obtain ⟨e1, e2⟩ := Prod.mk.inj e0
 clear e0 hq4 hw4 z1
 generalize (curBelow (pickS c1 names3).2 4).2 = c7 at e2 ⊢
 generalize 1 + ((curBelow (pickS c1 names3).2 4).1 : Int) = x7 at e1 ⊢
 generalize (pickS c1 names3).1 = x8 at e1 ⊢
 subst e2 e1
 refine Ok.cell (d := 4) [.int .i64 7, .str x8, .int .i64 v1.time, .int .i64 v1.by_, .int .i64 x7, .sl 0 4 0 [], .sl 0 1 0 []] rfl ⟨.inl rfl, .inl rfl, .inl rfl, .inl rfl, .inl rfl, le_nil 0 4, le_nil 0 1, trivial⟩ M89 ?_
 refine Ok.region ?_
 refine S21 ?_
 refine Ok.loopHN (τ := Nat × Box × Cur × Nat) (fun x => [(0, .ptr (L + 1) 0 0 (cCur x.2.2.1)), (4, .ptr (n + 1 + 1 + 1 + 1 + 1) 0 0 (cBox x.2.1)), (5, .int .i64 (x.1 : Int))]) [6, 7, 8, 9, 10, 11, 12, 13, 14, 15, 16, 17, 18, 19, 20, 21, 22, 23, 24, 25, 26, 27, 28, 29, 30, 31, 32, 33, 34, 35, 36, 37, 38, 39, 40, 41, 42, 43, 44, 45, 46, 47, 48, 49, 50, 51, 52, 53, 54, 55, 56, 57, 58, 59, 60, 61, 62] (fun x => by simp only [kover] <;> rfl) (fun x => V.updL (L + 1) 0 (cCur x.2.2.1) h) (fun x => n + 1 + 1 + 1 + 1 + 1 + x.2.2.2 + 1) (fun x => x.1 ≤ 12 ∧ BoxS x.2.1 ∧ x.2.2.1.b = c.b ∧ x.2.2.2 ≤ 4 * x.1 ∧ boxGoD (12 - x.1) x.1 x.2.1 x.2.2.1 = boxD c) (fun x => 12 - x.1) (0, _, c0, 0) (by (repeat (first | exact trivial | refine leC ?_ | refine leK ?_ ?_)) <;> first | (first | exact le_rfl' _ | exact le_eqm rfl) | exact le_rfl' _) (rfl) ((by dsimp only; omega)) (⟨Nat.zero_le _, hb0, hc0, Nat.le_refl _, by dsimp only; exact hg0⟩) ?_
 rintro ⟨i, b, cc, k⟩ ⟨h1, hbs, hcb, hk, hgo⟩
 dsimp only at h1 hbs hcb hk hgo ⊢
 refine S5 ?_
 iterate 2 (refine EV ?_)
 refine OkOps.upd rfl rfl M48 M48 cl23 (fun h => c_spec_l01Below cc 12 L (by rw [hcb]; exact hb) M57) M2 (upd_twice M45 h) ?_
 obtain ⟨⟨v1, c1⟩, z1⟩ : ∃ z, curBelow cc 12 = z := ⟨_, rfl⟩
 have b1 : c1.b = c.b := by have h9 := curBelow_b cc 12; rw [z1] at h9; exact h9.trans hcb
 have l1 : v1 < 12 := by have h9 := curBelow_lt (c := cc) (n := 12) M57; rw [z1] at h9; exact h9
 simp only [z1]
 refine S2 ?_
 refine OC (fun hb4 => ?_) (fun hb4 => ?_)
 ·
  try simp only [bsimp] at hb4
  have hi : i < v1 := by omega
  refine S14 ?_
  refine S6 ?_
  refine OkOps.upd rfl rfl M48 M48 cl23 (fun h => c_spec_l01Below c1 9 L M123 M57) M2 (upd_twice M45 h) ?_
  obtain ⟨⟨v2, c2⟩, z2⟩ : ∃ z, curBelow c1 9 = z := ⟨_, rfl⟩
  have b2 : c2.b = c.b := by have h9 := curBelow_b c1 9; rw [z2] at h9; exact h9.trans b1
  have l2 : v2 < 9 := by have h9 := curBelow_lt (c := c1) (n := 9) M57; rw [z2] at h9; exact h9
  simp only [z2]
  have hw10 : IntKind.i64.wrap (10 + (v2 : Int)) = 10 + (v2 : Int) := by rw [IntKind.wrap_i64]; omega
  refine OkOps.ev tab_ok rfl (by simp only [kE, kT, kL, kC, hw10] <;> rfl) M52 ?_
  refine S40 ?_
  refine OkOps.updF (k := 1) rfl rfl M48 M48 cl94 M29 (by repeat (first | exact hlt | exact hlt.mono (by omega) | refine Ahd.upd ?_ (Ahd.cur (by omega) _))) (fun h hlt => c_spec_l03Stamp c2 L (by rw [b2]; exact hb) hlt (by omega)) (by first | rfl | (simp only [Nat.add_zero, Nat.reduceAdd] <;> rfl)) (by simp only [eq_self, V.updL, V.travL, V.travLL, V.trav, updS, updP, and_self, true_and, and_true, false_and, and_false, Nat.reduceEqDiff, Nat.reduceSub, Nat.le_refl, Nat.zero_le, ↓reduceIte, if_true, if_false, kP, zz, zf, zy, nd, ne] <;> rfl) (upd_twice (by simp [V.travL, V.trav, updS, zz, zf, zy]) h) ?_
  obtain ⟨⟨v3, c3⟩, z3⟩ : ∃ z, stampD c2 = z := ⟨_, rfl⟩
  have b3 : c3.b = c.b := by have h9 := stampD_b c2; rw [z3] at h9; exact h9.trans b2
  simp only [z3]
  refine EV ?_
  refine OkOps.storeE tab_ok rfl rfl M48 ⟨_, _, by simp only [kE]; rfl⟩ M7 M62 (Ahd.updL (by repeat (first | exact hlt | exact hlt.mono (by omega) | refine Ahd.upd ?_ (Ahd.cur (by omega) _)))) ?_
  refine ON ?_
  refine S6 ?_
  refine OkOps.upd rfl rfl M48 M48 cl23 (fun h => c_spec_l01Below c3 5 L (by rw [b3]; exact hb) M57) M2 (upd_twice M45 h) ?_
  refine ON ?_
  refine Ok.block ?_
  obtain ⟨⟨v4, c4⟩, z4⟩ : ∃ z, curBelow c3 5 = z := ⟨_, rfl⟩
  have b4 : c4.b = c.b := by have h9 := curBelow_b c3 5; rw [z4] at h9; exact h9.trans b3
  have l4 : v4 < 5 := by have h9 := curBelow_lt (c := c3) (n := 5) M57; rw [z4] at h9; exact h9
  simp only [z4]
  refine Ok.join (τ := Unit) (fun x => [(37, .bool (decide (v4 ≤ 2)))]) [38, 39, 40] (fun x => by simp only [kover] <;> rfl) (fun x => V.updL (L + 1) 0 (cCur c4) h) (fun x => n + 1 + 1 + 1 + 1 + 1 + k + 1 + 1 + 1) (fun x => True) ?_ ?_
  ·
   refine S10 ?_
   refine OC (fun hb10 => ?_) (fun hb10 => ?_)
   ·
    try simp only [bsimp] at hb10
    refine Ok.skip ?_
    refine ⟨(), ?_, rfl, (Nat.le_refl _), trivial⟩
    (repeat (first | exact trivial | refine leC ?_ | refine leK ?_ ?_)) <;> first | ((refine .inl (congrArg V.bool ?_); first | (rw [decide_eq_decide]; omega) | exact (decide_eq_true (by omega)).symm | exact (decide_eq_false (by omega)).symm | exact decide_eq_decide.2 (by omega))) | exact le_rfl' _
   try simp only [bsimp] at hb10
   refine S10 ?_
   refine OC (fun hb11 => ?_) (fun hb11 => ?_)
   ·
    try simp only [bsimp] at hb11
    refine Ok.skip ?_
    refine ⟨(), ?_, rfl, (Nat.le_refl _), trivial⟩
    (repeat (first | exact trivial | refine leC ?_ | refine leK ?_ ?_)) <;> first | ((refine .inl (congrArg V.bool ?_); first | (rw [decide_eq_decide]; omega) | exact (decide_eq_true (by omega)).symm | exact (decide_eq_false (by omega)).symm | exact decide_eq_decide.2 (by omega))) | exact le_rfl' _
   try simp only [bsimp] at hb11
   refine S27 ?_
   refine ⟨(), ?_, rfl, (Nat.le_refl _), trivial⟩
   (repeat (first | exact trivial | refine leC ?_ | refine leK ?_ ?_)) <;> first | ((refine .inl (congrArg V.bool ?_); first | (rw [decide_eq_decide]; omega) | exact (decide_eq_true (by omega)).symm | exact (decide_eq_false (by omega)).symm | exact decide_eq_decide.2 (by omega))) | exact le_rfl' _
  rintro ⟨⟩ _
  refine OC (fun hb12 => ?_) (fun hb12 => ?_)
  ·
   try simp only [bsimp] at hb12
   have q4 : v4 ≤ 2 := hb12
   refine Ok.stages 64 [0, 1, 2, 4, 6] [(3, [0, 1, 4, 6], []), (5, [0, 1, 6], [7, 8, 9, 10]), (11, [10], [])] M56 M56 rfl ?_
   simp only [ixs, List.getElem?_toArray, List.getElem?_cons_zero, List.getElem?_cons_succ]
   iterate 5 (refine SV ?_)
   refine SOps.nil ?_
   refine Pend.updF (k := 0) (by simp only [List.getElem?_toArray, List.getElem?_cons_zero, List.getElem?_cons_succ] <;> rfl) M59 M59 M48 M48 cl23 M29 (by repeat (first | exact hlt | exact hlt.mono (by omega) | refine Ahd.upd ?_ (Ahd.cur (by omega) _))) (fun h hlt => c_spec_l01Below c4 8 L (by rw [b4]; exact hb) (by decide)) (by first | rfl | (simp only [Nat.add_zero, Nat.reduceAdd] <;> rfl)) (by simp only [eq_self, V.updL, V.travL, V.travLL, V.trav, updS, updP, and_self, true_and, and_true, false_and, and_false, Nat.reduceEqDiff, Nat.reduceSub, Nat.le_refl, Nat.zero_le, ↓reduceIte, if_true, if_false, kP, zz, zf, zy, nd, ne] <;> rfl) (upd_twice (by simp [V.travL, V.trav, updS, zz, zf, zy]) h) ?_
   simp only [ixs, List.getElem?_toArray, List.getElem?_cons_zero, List.getElem?_cons_succ]
   refine SOps.nil ⟨LateOk.A (LateOk.cons (i := 0) tab_ok M59 M59 M79 (by show nth _ 42 = _; simp only [kE, kT, kL, kC] <;> rfl) (LateOk.cons (i := 1) tab_ok M59 M59 M79 M98 (LateOk.cons (i := 4) tab_ok M59 M59 M79 (by show nth _ 46 = _; simp only [kE, kT, kL, kC] <;> rfl) (LateOk.cons (i := 6) tab_ok M59 M59 M79 (by show nth _ 48 = _; simp only [kE, kT, kL, kC] <;> rfl) LateOk.nil)))) M58, ?_⟩
   refine Pend.updF (k := 1) (by simp only [List.getElem?_toArray, List.getElem?_cons_zero, List.getElem?_cons_succ] <;> rfl) M59 M59 M48 M48 cl88 M29 (by repeat (first | exact hlt | exact hlt.mono (by omega) | refine Ahd.upd ?_ (Ahd.cur (by omega) _))) (fun h hlt => c_spec_l05Text (curBelow c4 8).2 L (by rw [curBelow_b, b4]; exact hb) hlt (by omega)) (by first | rfl | (simp only [Nat.add_zero, Nat.reduceAdd] <;> rfl)) (by simp only [eq_self, V.updL, V.travL, V.travLL, V.trav, updS, updP, and_self, true_and, and_true, false_and, and_false, Nat.reduceEqDiff, Nat.reduceSub, Nat.le_refl, Nat.zero_le, ↓reduceIte, if_true, if_false, kP, zz, zf, zy, nd, ne] <;> rfl) (upd_twice (by simp [V.travL, V.trav, updS, zz, zf, zy]) h) ?_
   simp only [ixs, List.getElem?_toArray, List.getElem?_cons_zero, List.getElem?_cons_succ]
   refine SOps.S0 rfl (OpS.weakM rfl M48 M48 cl95 (w_spec_AddMail b (10 + (v2 : Int)) ((curBelow c4 8).1 : Int) (pickS (curBelow c4 8).2 textsL).1 v3 hbs.sm (Nat.le_trans (pick_len (m := 10) M57 M57) M57))) M52 ?_
   iterate 3 (refine SV ?_)
   refine SOps.nil ⟨LateOk.A (LateOk.cons (i := 0) tab_ok M59 M59 M79 (by show nth _ 42 = _; simp only [kE, kT, kL, kC] <;> rfl) (LateOk.cons (i := 1) tab_ok M59 M59 M79 M98 (LateOk.cons (i := 6) tab_ok M59 M59 M79 (by show nth _ 48 = _; simp only [kE, kT, kL, kC] <;> rfl) LateOk.nil))) M58, ?_⟩
   refine Pend.store tab_ok (by simp only [List.getElem?_toArray, List.getElem?_cons_zero, List.getElem?_cons_succ] <;> rfl) M59 M59 M59 M48 ⟨_, _, by simp only [kE]; rfl⟩ M7 M62 (Ahd.updL (by repeat (first | exact hlt | exact hlt.mono (by omega) | refine Ahd.upd ?_ (Ahd.cur (by omega) _)))) ?_
   simp only [ixs, List.getElem?_toArray, List.getElem?_cons_zero, List.getElem?_cons_succ]
   refine SOps.nil ⟨LateOk.A (LateOk.cons (i := 10) tab_ok M59 M59 M79 (by show nth _ 51 = _; simp only [kE, kT, kL, kC] <;> rfl) LateOk.nil) M58, ?_⟩
   refine Pend.nil ?_
   refine S12 ?_
   refine ⟨(i + 1, (addMail b (10 + (v2 : Int)) ((curBelow c4 8).1 : Int) (pickS (curBelow c4 8).2 textsL).1 v3).1, (pickS (curBelow c4 8).2 textsL).2, k + 4), ?_, rfl, M54, ⟨by dsimp only; omega, addMail_s _ _ _ _ hbs, by dsimp only; rw [pickS_b, curBelow_b, b4], by dsimp only; omega, by dsimp only; rw [← hgo, show 12 - i = (12 - (i + 1)) + 1 by omega, boxGoD, z1, if_pos M54, show boxStepD b c1 = _ by simp only [boxStepD, z2, z3, z4]; rw [if_pos q4]]⟩, by dsimp only; omega⟩
   (repeat (first | exact trivial | refine leC ?_ | refine leK ?_ ?_)) <;> first | (first | exact le_rfl' _ | (rw [wrap_succ (by omega)]; exact le_rfl' _)) | exact le_rfl' _
  try simp only [bsimp] at hb12
  refine Ok.seq ?_
  have q4 : ¬ v4 ≤ 2 := hb12
  refine S27 ?_
  refine OC (fun hb14 => ?_) (fun hb14 => ?_)
  ·
   try simp only [bsimp] at hb14
   have q5 : v4 = 3 := by omega
   refine Ok.stages 64 [0, 1, 2, 4] [(3, [0, 1, 4], [5, 6, 7, 8]), (9, [8], [])] M56 M56 rfl ?_
   simp only [ixs, List.getElem?_toArray, List.getElem?_cons_zero, List.getElem?_cons_succ]
   refine S62 ?_
   refine Pend.updF (k := 0) (by simp only [List.getElem?_toArray, List.getElem?_cons_zero, List.getElem?_cons_succ] <;> rfl) M59 M59 M48 M48 cl23 M29 (by repeat (first | exact hlt | exact hlt.mono (by omega) | refine Ahd.upd ?_ (Ahd.cur (by omega) _))) (fun h hlt => c_spec_l01Below c4 8 L (by rw [b4]; exact hb) (by decide)) (by first | rfl | (simp only [Nat.add_zero, Nat.reduceAdd] <;> rfl)) (by simp only [eq_self, V.updL, V.travL, V.travLL, V.trav, updS, updP, and_self, true_and, and_true, false_and, and_false, Nat.reduceEqDiff, Nat.reduceSub, Nat.le_refl, Nat.zero_le, ↓reduceIte, if_true, if_false, kP, zz, zf, zy, nd, ne] <;> rfl) (upd_twice (by simp [V.travL, V.trav, updS, zz, zf, zy]) h) ?_
   simp only [ixs, List.getElem?_toArray, List.getElem?_cons_zero, List.getElem?_cons_succ]
   refine SOps.S0 rfl (OpS.weakM rfl M48 M48 cl96 (w_spec_FlagMail b (10 + (v2 : Int)) ((curBelow c4 8).1 : Int) v3 hbs.sm)) M52 ?_
   iterate 3 (refine SV ?_)
   refine SOps.nil ⟨LateOk.A (LateOk.cons (i := 0) tab_ok M59 M59 M79 (by show nth _ 55 = _; simp only [kE, kT, kL, kC] <;> rfl) (LateOk.cons (i := 1) tab_ok M59 M59 M79 (by show nth _ 56 = _; simp only [kE, kT, kL, kC] <;> rfl) (LateOk.cons (i := 4) tab_ok M59 M59 M79 (by show nth _ 59 = _; simp only [kE, kT, kL, kC] <;> rfl) LateOk.nil))) M58, ?_⟩
   refine Pend.store tab_ok (by simp only [List.getElem?_toArray, List.getElem?_cons_zero, List.getElem?_cons_succ] <;> rfl) M59 M59 M59 M48 ⟨_, _, by simp only [kE]; rfl⟩ M7 M62 (Ahd.updL (by repeat (first | exact hlt | exact hlt.mono (by omega) | refine Ahd.upd ?_ (Ahd.cur (by omega) _)))) ?_
   simp only [ixs, List.getElem?_toArray, List.getElem?_cons_zero, List.getElem?_cons_succ]
   refine SOps.nil ⟨LateOk.A (LateOk.cons (i := 8) tab_ok M59 M59 M79 M94 LateOk.nil) M58, ?_⟩
   refine Pend.nil ?_
   refine S12 ?_
   refine ⟨(i + 1, (flagMail b (10 + (v2 : Int)) ((curBelow c4 8).1 : Int) v3).1, (curBelow c4 8).2, k + 4), ?_, rfl, M54, ⟨by dsimp only; omega, flagMail_s _ _ _ hbs, by dsimp only; rw [curBelow_b, b4], by dsimp only; omega, by dsimp only; rw [← hgo, show 12 - i = (12 - (i + 1)) + 1 by omega, boxGoD, z1, if_pos M54, show boxStepD b c1 = _ by simp only [boxStepD, z2, z3, z4]; rw [if_neg q4, if_pos q5]]⟩, by dsimp only; omega⟩
   (repeat (first | exact trivial | refine leC ?_ | refine leK ?_ ?_)) <;> first | (first | exact le_rfl' _ | (rw [wrap_succ (by omega)]; exact le_rfl' _)) | exact le_rfl' _
  try simp only [bsimp] at hb14
  have q5 : ¬ v4 = 3 := by omega
  refine S20 ?_
  refine OW cl97 (w_spec_TakeOut b (10 + (v2 : Int)) hbs.sm) ?_
  iterate 3 (refine EV ?_)
  refine OkOps.storeE tab_ok rfl rfl M48 ⟨_, _, by simp only [kE]; rfl⟩ M7 M62 (Ahd.updL (by repeat (first | exact hlt | exact hlt.mono (by omega) | refine Ahd.upd ?_ (Ahd.cur (by omega) _)))) ?_
  refine ON ?_
  refine S12 ?_
  refine ⟨(i + 1, (takeOut b (10 + (v2 : Int))).1, c4, k + 4), ?_, rfl, M54, ⟨by dsimp only; omega, takeOut_s _ hbs, by dsimp only; exact b4, by dsimp only; omega, by dsimp only; rw [← hgo, show 12 - i = (12 - (i + 1)) + 1 by omega, boxGoD, z1, if_pos M54, show boxStepD b c1 = _ by simp only [boxStepD, z2, z3, z4]; rw [if_neg q4, if_neg q5]]⟩, by dsimp only; omega⟩
  (repeat (first | exact trivial | refine leC ?_ | refine leK ?_ ?_)) <;> first | (first | exact le_rfl' _ | (rw [wrap_succ (by omega)]; exact le_rfl' _)) | exact le_rfl' _
 try simp only [bsimp] at hb4
 have hi : ¬ i < v1 := by omega
 have hf : boxD c = (b, c1) := by rw [← hgo]; cases hq : 12 - i with | zero => (rw [boxGoD, z1]) | succ f => (rw [boxGoD, z1, if_neg hi])
 refine S54 ?_
 refine Ok.bump (n' := n + 1 + 60) M58 ?_
 refine S15 ?_
 refine OkOps.storeE tab_ok rfl rfl M48 ⟨_, _, by simp only [kE]; rfl⟩ M7 M62 (Ahd.updL (by repeat (first | exact hlt | exact hlt.mono (by omega) | refine Ahd.upd ?_ (Ahd.cur (by omega) _)))) ?_
 refine S36 ?_
 rw [hf]
 exact ⟨by first | rfl | (simp only [packV]; done) | (simp only [packV, List.map_append, List.map_cons, List.map_nil]; done), by first | rfl | exact hh | (repeat rw [upd_twice (by simp [V.travL, V.trav, updS, zz, zf, zy])]), rfl⟩
end Go.Proofs.YtiipkeendfpddaaGreat.K
