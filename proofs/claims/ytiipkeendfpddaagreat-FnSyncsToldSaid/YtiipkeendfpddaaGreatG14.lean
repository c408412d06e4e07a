/- Walks: boxes and stores drawn, right or not, 2. Printed by w2.py. -/
import Derived.Test.YtiipkeendfpddaaGreatPM
import Derived.Test.YtiipkeendfpddaaGreatG13
import Derived.Test.YtiipkeendfpddaaGreatG10
import Derived.Test.YtiipkeendfpddaaGreatG9
import Derived.Test.YtiipkeendfpddaaGreatG12
namespace Go.Proofs.YtiipkeendfpddaaGreat.K
open Go Go.RowKit
set_option linter.unusedVariables false
set_option linter.unusedSimpArgs false
set_option maxHeartbeats 4000000
set_option maxRecDepth 20000
theorem c_spec_l06Any (c : Cur) (L : Nat) (hb : c.b.length ≤ 4611686018427387904) {h : List V} {n : Nat} (hlt : Ahd n h) (hL : L + 1 < n) : OkCall Tryz.prog 55 [.ptr (L + 1) 0 0 (cCur c)] h n (fun r h1 n1 => r = .agg (cBox (boxA c).1) ∧ h1 = V.updL (L + 1) 0 (cCur (boxA c).2) h ∧ n1 = n + 1) := by
 obtain ⟨n, rfl⟩ : ∃ k, n = k + 1 := ⟨n - 1, by omega⟩
 have nd := NDL [L + 1, 0, n + 1, n + 1 + 1, n + 1 + 60 + 1, n + 1 + 60 + 1 + 1, n + 1 + 60 + 1 + 1 + 1, n + 1 + 60 + 1 + 1 + 1 + 1, n + 1 + 60 + 1 + 1 + 1 + 1 + 1]
 refine OkCall.enter' tab_ok Tryz.func55 rfl (ht := ANYS 54) ?_
 refine S53 ?_
 refine OkOps.upd rfl rfl M48 M48 cl23 (fun h => c_spec_l01Below c 14 L hb M57) M3 (rfl) ?_
 obtain ⟨⟨v1, c1⟩, z1⟩ : ∃ z, curBelow c 14 = z := ⟨_, rfl⟩
 have b1 : c1.b = c.b := by have h9 := curBelow_b c 14; rw [z1] at h9; exact h9
 have l1 : v1 < 14 := by have h9 := curBelow_lt (c := c) (n := 14) M57; rw [z1] at h9; exact h9
 simp only [z1]
 refine S40 ?_
 refine OkOps.upd rfl rfl M48 M48 cl23 (fun h => c_spec_l01Below c1 60 L M123 M57) M3 (upd_twice M45 h) ?_
 obtain ⟨⟨v2, c2⟩, z2⟩ : ∃ z, curBelow c1 60 = z := ⟨_, rfl⟩
 have b2 : c2.b = c.b := by have h9 := curBelow_b c1 60; rw [z2] at h9; exact h9.trans b1
 have l2 : v2 < 60 := by have h9 := curBelow_lt (c := c1) (n := 60) M57; rw [z2] at h9; exact h9
 simp only [z2]
 refine S40 ?_
 refine OkOps.updF (k := 60) rfl rfl M48 M48 cl66 M29 (by repeat (first | exact hlt | exact hlt.mono (by omega) | refine Ahd.upd ?_ (Ahd.cur (by omega) _))) (fun h hlt => c_spec_l06Box c2 L (by rw [b2]; exact hb) hlt (by omega)) (by first | rfl | (simp only [Nat.add_zero, Nat.reduceAdd] <;> rfl)) (by simp only [eq_self, V.updL, V.travL, V.travLL, V.trav, updS, updP, and_self, true_and, and_true, false_and, and_false, Nat.reduceEqDiff, Nat.reduceSub, Nat.le_refl, Nat.zero_le, ↓reduceIte, if_true, if_false, kP, zz, zf, zy, nd] <;> rfl) (upd_twice (by simp [V.travL, V.trav, updS, zz, zf, zy]) h) ?_
 obtain ⟨⟨v3, c3⟩, z3⟩ : ∃ z, boxD c2 = z := ⟨_, rfl⟩
 have b3 : c3.b = c.b := by have h9 := boxD_b c2; rw [z3] at h9; exact h9.trans b2
 simp only [z3]
 have hbs : BoxS v3 := by have h9 := boxD_s c2; rw [z3] at h9; exact h9
 have hb9 := hbs.mails
 have hb8 := hbs.gone
 refine OkOps.freeze (n + 1 + 60 + 1) M58 ?_
 have fk0 : frz (n + 1 + 60 + 1) (L + 1) = L + 1 := frz_lt M58
 have fk1 : frz (n + 1 + 60 + 1) (0) = 0 := frz_lt M58
 have fk2 : frz (n + 1 + 60 + 1) (n + 1) = n + 1 := frz_lt M58
 rw [(hlt.mono M58 : Ahd (n + 1 + 60 + 1) h).ren_upd]
 simp only [V.renL, V.renLL, V.ren, V.travL, V.travLL, V.trav, zz, zf, zy, fk0, fk1, fk2, ren_mail fk1, ren_box fk1]
 refine OkOps.S' rfl (OpS.semi rfl M48 M27 cl65 M44 M41 (p_spec_l06Copy v3 hbs.sm)) M35 M32 ?_
 refine EV ?_
 refine OkOps.storeE tab_ok rfl rfl M48 ⟨_, _, by simp only [kE]; rfl⟩ M7 M64 (Ahd.updL (by repeat (first | exact hlt | exact hlt.mono (by omega) | refine Ahd.upd ?_ (Ahd.cur (by omega) _)))) ?_
 refine ON ?_
 refine S28 ?_
 refine S10 ?_
 refine OC (fun hb5 => ?_) (fun hb5 => ?_)
 ·
  try simp only [bsimp] at hb5
  have q2 : v1 = 0 := by omega
  obtain ⟨w, hw, hwl⟩ : ∃ w : Nat, v2 % 3 = w ∧ w < 3 := ⟨_, rfl, Nat.mod_lt _ M57⟩
  have hm : Int.tmod (v2 : Int) 3 = (w : Int) := by rw [Int.tmod_eq_emod_of_nonneg M58]; omega
  refine S15 ?_
  refine OkOps.ev tab_ok rfl M47 M52 ?_
  refine EV ?_
  refine OkOps.storeE tab_ok rfl rfl M48 ⟨_, _, by simp only [kE]; rfl⟩ M7 M64 (Ahd.updL (by repeat (first | exact hlt | exact hlt.mono (by omega) | refine Ahd.upd ?_ (Ahd.cur (by omega) _)))) ?_
  refine ON ?_
  refine OQ ?_
  try rw [show List.map cMail v3.mails ++ [cMail (mailA c3).1] = List.map cMail (v3.mails ++ [(mailA c3).1]) from by rw [List.map_append]; rfl]
  refine OkOps.freeze (n + 1 + 1) M58 ?_
  have fk0 : frz (n + 1 + 1) (L + 1) = L + 1 := frz_lt M58
  have fk1 : frz (n + 1 + 1) (0) = 0 := frz_lt M58
  have fk2 : frz (n + 1 + 1) (n + 1) = n + 1 := frz_lt M58
  have fg0 : frz (n + 1 + 1) (n + 1 + 60 + 1) = 0 := if_pos M58
  have fg1 : frz (n + 1 + 1) (n + 1 + 60 + 1 + 1) = 0 := if_pos M58
  have fg2 : frz (n + 1 + 1) (n + 1 + 60 + 1 + 1 + 1) = 0 := if_pos M58
  rw [(hlt.mono M58 : Ahd (n + 1 + 1) h).ren_upd]
  simp only [V.renL, V.renLL, V.ren, V.travL, V.travLL, V.trav, zz, zf, zy, fk0, fk1, fk2, fg0, fg1, fg2, ren_mail fk1, ren_box fk1]
  refine EV ?_
  refine OkOps.storeE tab_ok rfl rfl M48 ⟨_, _, by simp only [kE]; rfl⟩ M7 M64 (Ahd.updL (by repeat (first | exact hlt | exact hlt.mono (by omega) | refine Ahd.upd ?_ (Ahd.cur (by omega) _)))) ?_
  refine S36 ?_
  have e : boxA c = ({ v3 with gid := (w : Int) }, c3) := by simp only [boxA, z1, z2, z3, hw]; rw [if_pos q2]
  rw [e]
  exact ⟨by first | rfl | (simp only [packV]; done) | (simp only [packV, List.map_append, List.map_cons, List.map_nil]; done) | (simp only [packV, cBox, cStore, List.map_append, List.map_cons, List.map_nil]; done), by first | rfl | exact hh | (repeat rw [upd_twice (by simp [V.travL, V.trav, updS, zz, zf, zy])]), rfl⟩
 try simp only [bsimp] at hb5
 have q2 : ¬ v1 = 0 := by omega
 refine S10 ?_
 refine OC (fun hb7 => ?_) (fun hb7 => ?_)
 ·
  try simp only [bsimp] at hb7
  have q3 : v1 = 1 := by omega
  obtain ⟨w, hw, hwl⟩ : ∃ w : Nat, v2 % 3 = w ∧ w < 3 := ⟨_, rfl, Nat.mod_lt _ M57⟩
  have hm : Int.tmod (v2 : Int) 3 = (w : Int) := by rw [Int.tmod_eq_emod_of_nonneg M58]; omega
  refine Ok.region ?_
  refine OkOps.ev tab_ok rfl (ev_bs M53 M53 M57 M57 M37 M16) M52 ?_
  refine EV ?_
  refine OkOps.ev tab_ok rfl M47 M52 ?_
  refine OkOps.ev tab_ok rfl (ev_idx M48 M48 (getS (l := names4) hwl) M48) M52 ?_
  iterate 2 (refine EV ?_)
  refine OkOps.storeE tab_ok rfl rfl M48 ⟨_, _, by simp only [kE]; rfl⟩ M7 M64 (Ahd.updL (by repeat (first | exact hlt | exact hlt.mono (by omega) | refine Ahd.upd ?_ (Ahd.cur (by omega) _)))) ?_
  refine ON ?_
  refine OQ ?_
  try rw [show List.map cMail v3.mails ++ [cMail (mailA c3).1] = List.map cMail (v3.mails ++ [(mailA c3).1]) from by rw [List.map_append]; rfl]
  refine OkOps.freeze (n + 1 + 1) M58 ?_
  have fk0 : frz (n + 1 + 1) (L + 1) = L + 1 := frz_lt M58
  have fk1 : frz (n + 1 + 1) (0) = 0 := frz_lt M58
  have fk2 : frz (n + 1 + 1) (n + 1) = n + 1 := frz_lt M58
  have fg0 : frz (n + 1 + 1) (n + 1 + 60 + 1) = 0 := if_pos M58
  have fg1 : frz (n + 1 + 1) (n + 1 + 60 + 1 + 1) = 0 := if_pos M58
  have fg2 : frz (n + 1 + 1) (n + 1 + 60 + 1 + 1 + 1) = 0 := if_pos M58
  rw [(hlt.mono M58 : Ahd (n + 1 + 1) h).ren_upd]
  simp only [V.renL, V.renLL, V.ren, V.travL, V.travLL, V.trav, zz, zf, zy, fk0, fk1, fk2, fg0, fg1, fg2, ren_mail fk1, ren_box fk1]
  refine EV ?_
  refine OkOps.storeE tab_ok rfl rfl M48 ⟨_, _, by simp only [kE]; rfl⟩ M7 M64 (Ahd.updL (by repeat (first | exact hlt | exact hlt.mono (by omega) | refine Ahd.upd ?_ (Ahd.cur (by omega) _)))) ?_
  refine S36 ?_
  have e : boxA c = ({ v3 with name := names4.getD w [] }, c3) := by simp only [boxA, z1, z2, z3, hw]; rw [if_neg q2, if_pos q3]
  rw [e]
  exact ⟨by first | rfl | (simp only [packV]; done) | (simp only [packV, List.map_append, List.map_cons, List.map_nil]; done) | (simp only [packV, cBox, cStore, List.map_append, List.map_cons, List.map_nil]; done), by first | rfl | exact hh | (repeat rw [upd_twice (by simp [V.travL, V.trav, updS, zz, zf, zy])]), rfl⟩
 try simp only [bsimp] at hb7
 have q3 : ¬ v1 = 1 := by omega
 refine S10 ?_
 refine OC (fun hb9 => ?_) (fun hb9 => ?_)
 ·
  try simp only [bsimp] at hb9
  have q4 : v1 = 2 := by omega
  obtain ⟨w, hw, hwl⟩ : ∃ w : Nat, v2 % 5 = w ∧ w < 5 := ⟨_, rfl, Nat.mod_lt _ M57⟩
  have hm : Int.tmod (v2 : Int) 5 = (w : Int) := by rw [Int.tmod_eq_emod_of_nonneg M58]; omega
  refine S15 ?_
  refine OkOps.ev tab_ok rfl M47 M52 ?_
  refine EV ?_
  refine OkOps.storeE tab_ok rfl rfl M48 ⟨_, _, by simp only [kE]; rfl⟩ M7 M64 (Ahd.updL (by repeat (first | exact hlt | exact hlt.mono (by omega) | refine Ahd.upd ?_ (Ahd.cur (by omega) _)))) ?_
  refine ON ?_
  refine OQ ?_
  try rw [show List.map cMail v3.mails ++ [cMail (mailA c3).1] = List.map cMail (v3.mails ++ [(mailA c3).1]) from by rw [List.map_append]; rfl]
  refine OkOps.freeze (n + 1 + 1) M58 ?_
  have fk0 : frz (n + 1 + 1) (L + 1) = L + 1 := frz_lt M58
  have fk1 : frz (n + 1 + 1) (0) = 0 := frz_lt M58
  have fk2 : frz (n + 1 + 1) (n + 1) = n + 1 := frz_lt M58
  have fg0 : frz (n + 1 + 1) (n + 1 + 60 + 1) = 0 := if_pos M58
  have fg1 : frz (n + 1 + 1) (n + 1 + 60 + 1 + 1) = 0 := if_pos M58
  have fg2 : frz (n + 1 + 1) (n + 1 + 60 + 1 + 1 + 1) = 0 := if_pos M58
  rw [(hlt.mono M58 : Ahd (n + 1 + 1) h).ren_upd]
  simp only [V.renL, V.renLL, V.ren, V.travL, V.travLL, V.trav, zz, zf, zy, fk0, fk1, fk2, fg0, fg1, fg2, ren_mail fk1, ren_box fk1]
  refine EV ?_
  refine OkOps.storeE tab_ok rfl rfl M48 ⟨_, _, by simp only [kE]; rfl⟩ M7 M64 (Ahd.updL (by repeat (first | exact hlt | exact hlt.mono (by omega) | refine Ahd.upd ?_ (Ahd.cur (by omega) _)))) ?_
  refine S36 ?_
  have e : boxA c = ({ v3 with next := (w : Int) }, c3) := by simp only [boxA, z1, z2, z3, hw]; rw [if_neg q2, if_neg q3, if_pos q4]
  rw [e]
  exact ⟨by first | rfl | (simp only [packV]; done) | (simp only [packV, List.map_append, List.map_cons, List.map_nil]; done) | (simp only [packV, cBox, cStore, List.map_append, List.map_cons, List.map_nil]; done), by first | rfl | exact hh | (repeat rw [upd_twice (by simp [V.travL, V.trav, updS, zz, zf, zy])]), rfl⟩
 try simp only [bsimp] at hb9
 have q4 : ¬ v1 = 2 := by omega
 refine S10 ?_
 refine OC (fun hb11 => ?_) (fun hb11 => ?_)
 ·
  try simp only [bsimp] at hb11
  have q5 : v1 = 3 := by omega
  refine Ok.stages 55 [0, 1, 2] [(3, [0, 1], [4]), (5, [], [6]), (7, [], [])] M56 M56 rfl ?_
  simp only [ixs, List.getElem?_toArray, List.getElem?_cons_zero, List.getElem?_cons_succ]
  iterate 3 (refine SV ?_)
  refine SOps.nil ?_
  refine Pend.updF (k := 5) (by simp only [List.getElem?_toArray, List.getElem?_cons_zero, List.getElem?_cons_succ] <;> rfl) M59 M59 M48 M48 cl67 M29 (by repeat (first | exact hlt | exact hlt.mono (by omega) | refine Ahd.upd ?_ (Ahd.cur (by omega) _))) (fun h hlt => c_spec_l05Any c3 L (by rw [b3]; exact hb) hlt (by omega)) (by first | rfl | (simp only [Nat.add_zero, Nat.reduceAdd] <;> rfl)) (by simp only [eq_self, V.updL, V.travL, V.travLL, V.trav, updS, updP, and_self, true_and, and_true, false_and, and_false, Nat.reduceEqDiff, Nat.reduceSub, Nat.le_refl, Nat.zero_le, ↓reduceIte, if_true, if_false, kP, zz, zf, zy, nd] <;> rfl) (upd_twice (by simp [V.travL, V.trav, updS, zz, zf, zy]) h) ?_
  simp only [ixs, List.getElem?_toArray, List.getElem?_cons_zero, List.getElem?_cons_succ]
  refine SOps.ev tab_ok rfl (ev_bs M53 M53 M57 M57 M37 M16) M52 ?_
  refine SOps.nil ⟨LateOk.A (LateOk.cons (i := 0) tab_ok M59 M59 M79 M96 (LateOk.cons (i := 1) tab_ok M59 M59 M79 (by show nth _ 35 = _; simp only [kE, kT, kL, kC] <;> rfl) LateOk.nil)) M58, ?_⟩
  refine Pend.append tab_ok (by simp only [List.getElem?_toArray, List.getElem?_cons_zero, List.getElem?_cons_succ] <;> rfl) M59 M59 M53 M53 M57 rfl M48 (.inl ⟨_, _, by simp only [kE, kT, kL, kC] <;> rfl⟩) M58 M58 M34 M34 M55 M11 M9 (Ahd.killL (by repeat (first | exact hlt | exact hlt.mono (by omega) | refine Ahd.upd ?_ (Ahd.cur (by omega) _)))) ?_
  simp only [ixs, List.getElem?_toArray, List.getElem?_cons_zero, List.getElem?_cons_succ]
  refine SV ?_
  refine SOps.nil ⟨LateOk.A LateOk.nil M58, ?_⟩
  refine Pend.store tab_ok (by simp only [List.getElem?_toArray, List.getElem?_cons_zero, List.getElem?_cons_succ] <;> rfl) M59 M59 M59 M48 ⟨_, _, by simp only [kE]; rfl⟩ M7 M64 (Ahd.updL (by repeat (first | exact hlt | exact hlt.mono (by omega) | refine Ahd.upd ?_ (Ahd.cur (by omega) _)))) ?_
  simp only [ixs, List.getElem?_toArray, List.getElem?_cons_zero, List.getElem?_cons_succ]
  refine SOps.nil ⟨LateOk.A LateOk.nil M58, ?_⟩
  refine Pend.nil ?_
  refine OQ ?_
  try rw [show List.map cMail v3.mails ++ [cMail (mailA c3).1] = List.map cMail (v3.mails ++ [(mailA c3).1]) from by rw [List.map_append]; rfl]
  refine OkOps.freeze (n + 1 + 1) M58 ?_
  have fk0 : frz (n + 1 + 1) (L + 1) = L + 1 := frz_lt M58
  have fk1 : frz (n + 1 + 1) (0) = 0 := frz_lt M58
  have fk2 : frz (n + 1 + 1) (n + 1) = n + 1 := frz_lt M58
  have fg0 : frz (n + 1 + 1) (n + 1 + 60 + 1) = 0 := if_pos M58
  have fg1 : frz (n + 1 + 1) (n + 1 + 60 + 1 + 1) = 0 := if_pos M58
  have fg2 : frz (n + 1 + 1) (n + 1 + 60 + 1 + 1 + 1) = 0 := if_pos M58
  rw [(hlt.mono M58 : Ahd (n + 1 + 1) h).ren_upd]
  simp only [V.renL, V.renLL, V.ren, V.travL, V.travLL, V.trav, zz, zf, zy, fk0, fk1, fk2, fg0, fg1, fg2, ren_mail fk1, ren_box fk1]
  refine EV ?_
  refine OkOps.storeE tab_ok rfl rfl M48 ⟨_, _, by simp only [kE]; rfl⟩ M7 M64 (Ahd.updL (by repeat (first | exact hlt | exact hlt.mono (by omega) | refine Ahd.upd ?_ (Ahd.cur (by omega) _)))) ?_
  refine S36 ?_
  have e : boxA c = ({ v3 with mails := v3.mails ++ [(mailA c3).1] }, (mailA c3).2) := by simp only [boxA, z1, z2, z3]; rw [if_neg q2, if_neg q3, if_neg q4, if_pos q5]
  rw [e]
  generalize mailA c3 = z
  exact ⟨by first | rfl | (simp only [packV]; done) | (simp only [packV, List.map_append, List.map_cons, List.map_nil]; done) | (simp only [packV, cBox, cStore, List.map_append, List.map_cons, List.map_nil]; done), by first | rfl | exact hh | (repeat rw [upd_twice (by simp [V.travL, V.trav, updS, zz, zf, zy])]), rfl⟩
 try simp only [bsimp] at hb11
 have q5 : ¬ v1 = 3 := by omega
 refine S10 ?_
 refine OC (fun hb13 => ?_) (fun hb13 => ?_)
 ·
  try simp only [bsimp] at hb13
  have q6 : v1 = 4 := by omega
  refine S26 ?_
  refine OkOps.ev tab_ok rfl (ev_bs M53 M53 M57 M57 M37 M16) M52 ?_
  refine OkOps.append tab_ok rfl rfl M53 M53 M57 rfl M48 (.inl ⟨_, _, by simp only [kE, kT, kL, kC] <;> rfl⟩) M58 M58 M34 M34 M55 M11 M9 (Ahd.killL (by repeat (first | exact hlt | exact hlt.mono (by omega) | refine Ahd.upd ?_ (Ahd.cur (by omega) _)))) ?_
  refine EV ?_
  refine OkOps.storeE tab_ok rfl rfl M48 ⟨_, _, by simp only [kE]; rfl⟩ M7 M64 (Ahd.updL (by repeat (first | exact hlt | exact hlt.mono (by omega) | refine Ahd.upd ?_ (Ahd.cur (by omega) _)))) ?_
  refine ON ?_
  refine OQ ?_
  try rw [show List.map cMail v3.mails ++ [cMail (mailA c3).1] = List.map cMail (v3.mails ++ [(mailA c3).1]) from by rw [List.map_append]; rfl]
  refine OkOps.freeze (n + 1 + 1) M58 ?_
  have fk0 : frz (n + 1 + 1) (L + 1) = L + 1 := frz_lt M58
  have fk1 : frz (n + 1 + 1) (0) = 0 := frz_lt M58
  have fk2 : frz (n + 1 + 1) (n + 1) = n + 1 := frz_lt M58
  have fg0 : frz (n + 1 + 1) (n + 1 + 60 + 1) = 0 := if_pos M58
  have fg1 : frz (n + 1 + 1) (n + 1 + 60 + 1 + 1) = 0 := if_pos M58
  have fg2 : frz (n + 1 + 1) (n + 1 + 60 + 1 + 1 + 1) = 0 := if_pos M58
  rw [(hlt.mono M58 : Ahd (n + 1 + 1) h).ren_upd]
  simp only [V.renL, V.renLL, V.ren, V.travL, V.travLL, V.trav, zz, zf, zy, fk0, fk1, fk2, fg0, fg1, fg2, ren_mail fk1, ren_box fk1]
  refine EV ?_
  refine OkOps.storeE tab_ok rfl rfl M48 ⟨_, _, by simp only [kE]; rfl⟩ M7 M64 (Ahd.updL (by repeat (first | exact hlt | exact hlt.mono (by omega) | refine Ahd.upd ?_ (Ahd.cur (by omega) _)))) ?_
  refine S36 ?_
  have e : boxA c = ({ v3 with gone := v3.gone ++ [(v2 : Int)] }, c3) := by simp only [boxA, z1, z2, z3]; rw [if_neg q2, if_neg q3, if_neg q4, if_neg q5, if_pos q6]
  rw [e]
  exact ⟨by first | rfl | (simp only [packV]; done) | (simp only [packV, List.map_append, List.map_cons, List.map_nil]; done) | (simp only [packV, cBox, cStore, List.map_append, List.map_cons, List.map_nil]; done), by first | rfl | exact hh | (repeat rw [upd_twice (by simp [V.travL, V.trav, updS, zz, zf, zy])]), rfl⟩
 try simp only [bsimp] at hb13
 have q6 : ¬ v1 = 4 := by omega
 refine S10 ?_
 refine OC (fun hb15 => ?_) (fun hb15 => ?_)
 ·
  try simp only [bsimp] at hb15
  have q7 : v1 = 5 := by omega
  refine S15 ?_
  refine OkOps.updF (k := 4) rfl rfl M48 M48 cl68 M29 (by repeat (first | exact hlt | exact hlt.mono (by omega) | refine Ahd.upd ?_ (Ahd.cur (by omega) _))) (fun h hlt => c_spec_l03Any c3 L (by rw [b3]; exact hb) hlt (by omega)) (by first | rfl | (simp only [Nat.add_zero, Nat.reduceAdd] <;> rfl)) (by simp only [eq_self, V.updL, V.travL, V.travLL, V.trav, updS, updP, and_self, true_and, and_true, false_and, and_false, Nat.reduceEqDiff, Nat.reduceSub, Nat.le_refl, Nat.zero_le, ↓reduceIte, if_true, if_false, kP, zz, zf, zy, nd] <;> rfl) (upd_twice (by simp [V.travL, V.trav, updS, zz, zf, zy]) h) ?_
  obtain ⟨⟨v4, c4⟩, z4⟩ : ∃ z, stampA c3 = z := ⟨_, rfl⟩
  have b4 : c4.b = c.b := by have h9 := stampA_b c3; rw [z4] at h9; exact h9.trans b3
  simp only [z4]
  refine EV ?_
  refine OkOps.storeE tab_ok rfl rfl M48 ⟨_, _, by simp only [kE]; rfl⟩ M7 M64 (Ahd.updL (by repeat (first | exact hlt | exact hlt.mono (by omega) | refine Ahd.upd ?_ (Ahd.cur (by omega) _)))) ?_
  refine ON ?_
  refine OQ ?_
  try rw [show List.map cMail v3.mails ++ [cMail (mailA c3).1] = List.map cMail (v3.mails ++ [(mailA c3).1]) from by rw [List.map_append]; rfl]
  refine OkOps.freeze (n + 1 + 1) M58 ?_
  have fk0 : frz (n + 1 + 1) (L + 1) = L + 1 := frz_lt M58
  have fk1 : frz (n + 1 + 1) (0) = 0 := frz_lt M58
  have fk2 : frz (n + 1 + 1) (n + 1) = n + 1 := frz_lt M58
  have fg0 : frz (n + 1 + 1) (n + 1 + 60 + 1) = 0 := if_pos M58
  have fg1 : frz (n + 1 + 1) (n + 1 + 60 + 1 + 1) = 0 := if_pos M58
  have fg2 : frz (n + 1 + 1) (n + 1 + 60 + 1 + 1 + 1) = 0 := if_pos M58
  rw [(hlt.mono M58 : Ahd (n + 1 + 1) h).ren_upd]
  simp only [V.renL, V.renLL, V.ren, V.travL, V.travLL, V.trav, zz, zf, zy, fk0, fk1, fk2, fg0, fg1, fg2, ren_mail fk1, ren_box fk1]
  refine EV ?_
  refine OkOps.storeE tab_ok rfl rfl M48 ⟨_, _, by simp only [kE]; rfl⟩ M7 M64 (Ahd.updL (by repeat (first | exact hlt | exact hlt.mono (by omega) | refine Ahd.upd ?_ (Ahd.cur (by omega) _)))) ?_
  refine S36 ?_
  have e : boxA c = ({ v3 with named := v4 }, c4) := by simp only [boxA, z1, z2, z3, z4]; rw [if_neg q2, if_neg q3, if_neg q4, if_neg q5, if_neg q6, if_pos q7]
  rw [e]
  exact ⟨by first | rfl | (simp only [packV]; done) | (simp only [packV, List.map_append, List.map_cons, List.map_nil]; done) | (simp only [packV, cBox, cStore, List.map_append, List.map_cons, List.map_nil]; done), by first | rfl | exact hh | (repeat rw [upd_twice (by simp [V.travL, V.trav, updS, zz, zf, zy])]), rfl⟩
 try simp only [bsimp] at hb15
 have q7 : ¬ v1 = 5 := by omega
 refine Ok.skip ?_
 refine OQ ?_
 try rw [show List.map cMail v3.mails ++ [cMail (mailA c3).1] = List.map cMail (v3.mails ++ [(mailA c3).1]) from by rw [List.map_append]; rfl]
 refine OkOps.freeze (n + 1 + 1) M58 ?_
 have fk0 : frz (n + 1 + 1) (L + 1) = L + 1 := frz_lt M58
 have fk1 : frz (n + 1 + 1) (0) = 0 := frz_lt M58
 have fk2 : frz (n + 1 + 1) (n + 1) = n + 1 := frz_lt M58
 have fg0 : frz (n + 1 + 1) (n + 1 + 60 + 1) = 0 := if_pos M58
 have fg1 : frz (n + 1 + 1) (n + 1 + 60 + 1 + 1) = 0 := if_pos M58
 have fg2 : frz (n + 1 + 1) (n + 1 + 60 + 1 + 1 + 1) = 0 := if_pos M58
 rw [(hlt.mono M58 : Ahd (n + 1 + 1) h).ren_upd]
 simp only [V.renL, V.renLL, V.ren, V.travL, V.travLL, V.trav, zz, zf, zy, fk0, fk1, fk2, fg0, fg1, fg2, ren_mail fk1, ren_box fk1]
 refine EV ?_
 refine OkOps.storeE tab_ok rfl rfl M48 ⟨_, _, by simp only [kE]; rfl⟩ M7 M64 (Ahd.updL (by repeat (first | exact hlt | exact hlt.mono (by omega) | refine Ahd.upd ?_ (Ahd.cur (by omega) _)))) ?_
 refine S36 ?_
 have e : boxA c = (v3, c3) := by simp only [boxA, z1, z2, z3]; rw [if_neg q2, if_neg q3, if_neg q4, if_neg q5, if_neg q6, if_neg q7]
 rw [e]
 exact ⟨by first | rfl | (simp only [packV]; done) | (simp only [packV, List.map_append, List.map_cons, List.map_nil]; done) | (simp only [packV, cBox, cStore, List.map_append, List.map_cons, List.map_nil]; done), by first | rfl | exact hh | (repeat rw [upd_twice (by simp [V.travL, V.trav, updS, zz, zf, zy])]), rfl⟩
end Go.Proofs.YtiipkeendfpddaaGreat.K

/- Walks: stores drawn, right or not. Printed by w2.py. -/
namespace Go.Proofs.YtiipkeendfpddaaGreat.K
open Go Go.RowKit
set_option linter.unusedVariables false
set_option linter.unusedSimpArgs false
set_option maxHeartbeats 4000000
set_option maxRecDepth 20000
theorem c_spec_l07Any (c : Cur) (L : Nat) (hb : c.b.length ≤ 4611686018427387904) {h : List V} {n : Nat} (hlt : Ahd n h) (hL : L + 1 < n) (hfix : V.updL (L + 1) 0 (cCur c) h = h) : OkCall Tryz.prog 32 [.ptr (L + 1) 0 0 (cCur c)] h n (fun r h1 n1 => ∃ y : Store × Cur, (smStore y.1 ∧ y.2.b = c.b) ∧ r = .agg (cStore y.1) ∧ h1 = V.updL (L + 1) 0 (cCur y.2) h ∧ n1 = n + 1) := by
 obtain ⟨n, rfl⟩ : ∃ k, n = k + 1 := ⟨n - 1, by omega⟩
 have nd := NDL [L + 1, 0, n + 1, n + 1 + 1, n + 1 + 401 + 1, n + 1 + 401 + 1 + 1, n + 1 + 401 + 1 + 1 + 1, n + 1 + 401 + 1 + 1 + 1 + 1, n + 1 + 401 + 1 + 1 + 1 + 1 + 1]
 refine OkCall.enter' tab_ok Tryz.func32 rfl (ht := ANYS 61) ?_
 refine S53 ?_
 refine OkOps.upd rfl rfl M48 M48 cl23 (fun h => c_spec_l01Below c 14 L hb M57) M3 (rfl) ?_
 obtain ⟨⟨v1, c1⟩, z1⟩ : ∃ z, curBelow c 14 = z := ⟨_, rfl⟩
 have b1 : c1.b = c.b := by have h9 := curBelow_b c 14; rw [z1] at h9; exact h9
 have l1 : v1 < 14 := by have h9 := curBelow_lt (c := c) (n := 14) M57; rw [z1] at h9; exact h9
 simp only [z1]
 refine S40 ?_
 refine OkOps.upd rfl rfl M48 M48 cl23 (fun h => c_spec_l01Below c1 60 L M123 M57) M3 (upd_twice M45 h) ?_
 obtain ⟨⟨v2, c2⟩, z2⟩ : ∃ z, curBelow c1 60 = z := ⟨_, rfl⟩
 have b2 : c2.b = c.b := by have h9 := curBelow_b c1 60; rw [z2] at h9; exact h9.trans b1
 have l2 : v2 < 60 := by have h9 := curBelow_lt (c := c1) (n := 60) M57; rw [z2] at h9; exact h9
 simp only [z2]
 refine S40 ?_
 refine OkOps.updX (k := 401) rfl rfl M48 M48 cl46 M29 (by repeat (first | exact hlt | exact hlt.mono (by omega) | refine Ahd.upd ?_ (Ahd.cur (by omega) _))) (fun h hlt hfix => c_spec_l07Store c2 L (by rw [b2]; exact hb) hlt (by omega) hfix) (by simp only [eq_self, V.updL, V.travL, V.travLL, V.trav, updS, updP, and_self, true_and, and_true, false_and, and_false, Nat.reduceEqDiff, Nat.reduceSub, Nat.le_refl, Nat.zero_le, ↓reduceIte, if_true, if_false, zz, zf, zy, nd]) (by first | exact hfix | rfl | exact upd_twice (by simp [V.travL, V.trav, updS, zz, zf, zy]) _) (by first | rfl | (simp only [Nat.add_zero, Nat.reduceAdd] <;> rfl)) (fun y => by simp only [eq_self, V.updL, V.travL, V.travLL, V.trav, updS, updP, and_self, true_and, and_true, false_and, and_false, Nat.reduceEqDiff, Nat.reduceSub, Nat.le_refl, Nat.zero_le, ↓reduceIte, if_true, if_false, kP, zz, zf, zy, nd] <;> rfl) (fun y => upd_twice (by simp [V.travL, V.trav, updS, zz, zf, zy]) _) ?_
 rintro ⟨s1, c3⟩ ⟨hs1, hb3⟩
 dsimp only at hs1 hb3 ⊢
 have hsm := store_sm hs1
 have hst := store_small hs1
 have hg9 := hst.gone
 have hb9 := hst.boxes
 refine OkOps.freeze (n + 1 + 401 + 1) M58 ?_
 have fk0 : frz (n + 1 + 401 + 1) (L + 1) = L + 1 := frz_lt M58
 have fk1 : frz (n + 1 + 401 + 1) (0) = 0 := frz_lt M58
 have fk2 : frz (n + 1 + 401 + 1) (n + 1) = n + 1 := frz_lt M58
 rw [(hlt.mono M58 : Ahd (n + 1 + 401 + 1) h).ren_upd]
 simp only [V.renL, V.renLL, V.ren, V.travL, V.travLL, V.trav, zz, zf, zy, fk0, fk1, fk2, ren_mail fk1, ren_box fk1]
 refine OkOps.S' rfl (OpS.semi rfl M48 M27 cl54 M44 M41 (p_spec_l07Copy s1 hsm)) M35 M32 ?_
 refine EV ?_
 refine OkOps.storeE tab_ok rfl rfl M48 ⟨_, _, by simp only [kE]; rfl⟩ M7 M64 (Ahd.updL (by repeat (first | exact hlt | exact hlt.mono (by omega) | refine Ahd.upd ?_ (Ahd.cur (by omega) _)))) ?_
 refine ON ?_
 refine S28 ?_
 refine S10 ?_
 refine OC (fun hb5 => ?_) (fun hb5 => ?_)
 ·
  try simp only [bsimp] at hb5
  obtain ⟨w, hw, hwl⟩ : ∃ w : Nat, v2 % 4 = w ∧ w < 4 := ⟨_, rfl, Nat.mod_lt _ M57⟩
  have hm : Int.tmod (v2 : Int) 4 = (w : Int) := by rw [Int.tmod_eq_emod_of_nonneg M58]; omega
  refine S15 ?_
  refine OkOps.ev tab_ok rfl M47 M52 ?_
  refine EV ?_
  refine OkOps.storeE tab_ok rfl rfl M48 ⟨_, _, by simp only [kE]; rfl⟩ M7 M64 (Ahd.updL (by repeat (first | exact hlt | exact hlt.mono (by omega) | refine Ahd.upd ?_ (Ahd.cur (by omega) _)))) ?_
  refine ON ?_
  refine OQ ?_
  try rw [show (List.map cBox s1.boxes).set (0 - 0) (cBox (boxA c3).1) = List.map cBox (s1.boxes.set 0 (boxA c3).1) from set_map cBox s1.boxes 0 _]
  try rw [show (List.map cBox s1.boxes).set (1 - 0) (cBox { s1.boxes[1] with name := s1.boxes[0].name }) = List.map cBox (s1.boxes.set 1 { s1.boxes[1] with name := s1.boxes[0].name }) from set_map cBox s1.boxes 1 _]
  refine OkOps.freeze (n + 1 + 1) M58 ?_
  have fk0 : frz (n + 1 + 1) (L + 1) = L + 1 := frz_lt M58
  have fk1 : frz (n + 1 + 1) (0) = 0 := frz_lt M58
  have fk2 : frz (n + 1 + 1) (n + 1) = n + 1 := frz_lt M58
  have fg0 : frz (n + 1 + 1) (n + 1 + 401 + 1) = 0 := if_pos M58
  have fg1 : frz (n + 1 + 1) (n + 1 + 401 + 1 + 1) = 0 := if_pos M58
  have fg2 : frz (n + 1 + 1) (n + 1 + 401 + 1 + 1 + 1) = 0 := if_pos M58
  rw [(hlt.mono M58 : Ahd (n + 1 + 1) h).ren_upd]
  simp only [V.renL, V.renLL, V.ren, V.travL, V.travLL, V.trav, zz, zf, zy, fk0, fk1, fk2, fg0, fg1, fg2, ren_mail fk1, ren_box fk1]
  refine EV ?_
  refine OkOps.storeE tab_ok rfl rfl M48 ⟨_, _, by simp only [kE]; rfl⟩ M7 M64 (Ahd.updL (by repeat (first | exact hlt | exact hlt.mono (by omega) | refine Ahd.upd ?_ (Ahd.cur (by omega) _)))) ?_
  refine S36 ?_
  exact ⟨({ s1 with by_ := (w : Int) }, c3), ⟨hsm, hb3.trans b2⟩, by first | rfl | (simp only [packV, cBox, cStore, List.map_append, List.map_cons, List.map_nil]; done), by first | rfl | exact hh | (repeat rw [upd_twice (by simp [V.travL, V.trav, updS, zz, zf, zy])]), by first | rfl | omega⟩
 try simp only [bsimp] at hb5
 refine S10 ?_
 refine OC (fun hb7 => ?_) (fun hb7 => ?_)
 ·
  try simp only [bsimp] at hb7
  obtain ⟨w, hw, hwl⟩ : ∃ w : Nat, v2 % 4 = w ∧ w < 4 := ⟨_, rfl, Nat.mod_lt _ M57⟩
  have hm : Int.tmod (v2 : Int) 4 = (w : Int) := by rw [Int.tmod_eq_emod_of_nonneg M58]; omega
  refine Ok.region ?_
  refine OkOps.ev tab_ok rfl (ev_bs M53 M53 M57 M57 M37 M16) M52 ?_
  refine EV ?_
  refine OkOps.ev tab_ok rfl M47 M52 ?_
  refine OkOps.ev tab_ok rfl (ev_idx M48 M48 (getZ (l := [-1, 0, 100000, 100001]) hwl) M48) M52 ?_
  iterate 2 (refine EV ?_)
  refine OkOps.storeE tab_ok rfl rfl M48 ⟨_, _, by simp only [kE]; rfl⟩ M7 M64 (Ahd.updL (by repeat (first | exact hlt | exact hlt.mono (by omega) | refine Ahd.upd ?_ (Ahd.cur (by omega) _)))) ?_
  refine ON ?_
  refine OQ ?_
  try rw [show (List.map cBox s1.boxes).set (0 - 0) (cBox (boxA c3).1) = List.map cBox (s1.boxes.set 0 (boxA c3).1) from set_map cBox s1.boxes 0 _]
  try rw [show (List.map cBox s1.boxes).set (1 - 0) (cBox { s1.boxes[1] with name := s1.boxes[0].name }) = List.map cBox (s1.boxes.set 1 { s1.boxes[1] with name := s1.boxes[0].name }) from set_map cBox s1.boxes 1 _]
  refine OkOps.freeze (n + 1 + 1) M58 ?_
  have fk0 : frz (n + 1 + 1) (L + 1) = L + 1 := frz_lt M58
  have fk1 : frz (n + 1 + 1) (0) = 0 := frz_lt M58
  have fk2 : frz (n + 1 + 1) (n + 1) = n + 1 := frz_lt M58
  have fg0 : frz (n + 1 + 1) (n + 1 + 401 + 1) = 0 := if_pos M58
  have fg1 : frz (n + 1 + 1) (n + 1 + 401 + 1 + 1) = 0 := if_pos M58
  have fg2 : frz (n + 1 + 1) (n + 1 + 401 + 1 + 1 + 1) = 0 := if_pos M58
  rw [(hlt.mono M58 : Ahd (n + 1 + 1) h).ren_upd]
  simp only [V.renL, V.renLL, V.ren, V.travL, V.travLL, V.trav, zz, zf, zy, fk0, fk1, fk2, fg0, fg1, fg2, ren_mail fk1, ren_box fk1]
  refine EV ?_
  refine OkOps.storeE tab_ok rfl rfl M48 ⟨_, _, by simp only [kE]; rfl⟩ M7 M64 (Ahd.updL (by repeat (first | exact hlt | exact hlt.mono (by omega) | refine Ahd.upd ?_ (Ahd.cur (by omega) _)))) ?_
  refine S36 ?_
  exact ⟨({ s1 with time := [-1, 0, 100000, 100001].getD w 0 }, c3), ⟨hsm, hb3.trans b2⟩, by first | rfl | (simp only [packV, cBox, cStore, List.map_append, List.map_cons, List.map_nil]; done), by first | rfl | exact hh | (repeat rw [upd_twice (by simp [V.travL, V.trav, updS, zz, zf, zy])]), by first | rfl | omega⟩
 try simp only [bsimp] at hb7
 refine S10 ?_
 refine OC (fun hb9 => ?_) (fun hb9 => ?_)
 ·
  try simp only [bsimp] at hb9
  refine S64 ?_
  refine OC (fun hb10 => ?_) (fun hb10 => ?_)
  ·
   try simp only [bsimp] at hb10
   have hbl : 0 < s1.boxes.length := by omega
   refine Ok.stages 62 [0, 1, 2] [(3, [0, 1], [4]), (5, [], [])] M56 M56 rfl ?_
   simp only [ixs, List.getElem?_toArray, List.getElem?_cons_zero, List.getElem?_cons_succ]
   iterate 3 (refine SV ?_)
   refine SOps.nil ?_
   refine Pend.updF (k := 1) (by simp only [List.getElem?_toArray, List.getElem?_cons_zero, List.getElem?_cons_succ] <;> rfl) M59 M59 M48 M48 cl55 M29 (by repeat (first | exact hlt | exact hlt.mono (by omega) | refine Ahd.upd ?_ (Ahd.cur (by omega) _))) (fun h hlt => c_spec_l06Any c3 L (by rw [hb3, b2]; exact hb) hlt (by omega)) (by first | rfl | (simp only [Nat.add_zero, Nat.reduceAdd] <;> rfl)) (by simp only [eq_self, V.updL, V.travL, V.travLL, V.trav, updS, updP, and_self, true_and, and_true, false_and, and_false, Nat.reduceEqDiff, Nat.reduceSub, Nat.le_refl, Nat.zero_le, ↓reduceIte, if_true, if_false, kP, zz, zf, zy, nd] <;> rfl) (upd_twice (by simp [V.travL, V.trav, updS, zz, zf, zy]) h) ?_
   simp only [ixs, List.getElem?_toArray, List.getElem?_cons_zero, List.getElem?_cons_succ]
   refine SOps.ev tab_ok rfl (ev_idx_map (j := 0) M48 M48 M58 M48) M52 ?_
   refine SOps.nil ⟨LateOk.A (LateOk.cons (i := 0) tab_ok M59 M59 M79 (by show nth _ 33 = _; simp only [kE, kT, kL, kC] <;> rfl) (LateOk.cons (i := 1) tab_ok M59 M59 M79 M96 LateOk.nil)) M58, ?_⟩
   refine Pend.store tab_ok (by simp only [List.getElem?_toArray, List.getElem?_cons_zero, List.getElem?_cons_succ] <;> rfl) M59 M59 M59 M48 ⟨_, _, by simp only [kE]; rfl⟩ M7 M64 (Ahd.updL (by repeat (first | exact hlt | exact hlt.mono (by omega) | refine Ahd.upd ?_ (Ahd.cur (by omega) _)))) ?_
   simp only [ixs, List.getElem?_toArray, List.getElem?_cons_zero, List.getElem?_cons_succ]
   refine SOps.nil ⟨LateOk.A LateOk.nil M58, ?_⟩
   refine Pend.nil ?_
   refine OQ ?_
   try rw [show (List.map cBox s1.boxes).set (0 - 0) (cBox (boxA c3).1) = List.map cBox (s1.boxes.set 0 (boxA c3).1) from set_map cBox s1.boxes 0 _]
   try rw [show (List.map cBox s1.boxes).set (1 - 0) (cBox { s1.boxes[1] with name := s1.boxes[0].name }) = List.map cBox (s1.boxes.set 1 { s1.boxes[1] with name := s1.boxes[0].name }) from set_map cBox s1.boxes 1 _]
   refine OkOps.freeze (n + 1 + 1) M58 ?_
   have fk0 : frz (n + 1 + 1) (L + 1) = L + 1 := frz_lt M58
   have fk1 : frz (n + 1 + 1) (0) = 0 := frz_lt M58
   have fk2 : frz (n + 1 + 1) (n + 1) = n + 1 := frz_lt M58
   have fg0 : frz (n + 1 + 1) (n + 1 + 401 + 1) = 0 := if_pos M58
   have fg1 : frz (n + 1 + 1) (n + 1 + 401 + 1 + 1) = 0 := if_pos M58
   have fg2 : frz (n + 1 + 1) (n + 1 + 401 + 1 + 1 + 1) = 0 := if_pos M58
   rw [(hlt.mono M58 : Ahd (n + 1 + 1) h).ren_upd]
   simp only [V.renL, V.renLL, V.ren, V.travL, V.travLL, V.trav, zz, zf, zy, fk0, fk1, fk2, fg0, fg1, fg2, ren_mail fk1, ren_box fk1]
   refine EV ?_
   refine OkOps.storeE tab_ok rfl rfl M48 ⟨_, _, by simp only [kE]; rfl⟩ M7 M64 (Ahd.updL (by repeat (first | exact hlt | exact hlt.mono (by omega) | refine Ahd.upd ?_ (Ahd.cur (by omega) _)))) ?_
   refine S36 ?_
   exact ⟨({ s1 with boxes := s1.boxes.set 0 (boxA c3).1 }, (boxA c3).2), ⟨sm_set hsm (boxA_m c3).sm, by rw [boxA_b]; exact hb3.trans b2⟩, by first | rfl | (simp only [packV, cBox, cStore, List.map_append, List.map_cons, List.map_nil]; done), by first | rfl | exact hh | (repeat rw [upd_twice (by simp [V.travL, V.trav, updS, zz, zf, zy])]), by first | rfl | omega⟩
  try simp only [bsimp] at hb10
  refine Ok.skip ?_
  refine OQ ?_
  try rw [show (List.map cBox s1.boxes).set (0 - 0) (cBox (boxA c3).1) = List.map cBox (s1.boxes.set 0 (boxA c3).1) from set_map cBox s1.boxes 0 _]
  try rw [show (List.map cBox s1.boxes).set (1 - 0) (cBox { s1.boxes[1] with name := s1.boxes[0].name }) = List.map cBox (s1.boxes.set 1 { s1.boxes[1] with name := s1.boxes[0].name }) from set_map cBox s1.boxes 1 _]
  refine OkOps.freeze (n + 1 + 1) M58 ?_
  have fk0 : frz (n + 1 + 1) (L + 1) = L + 1 := frz_lt M58
  have fk1 : frz (n + 1 + 1) (0) = 0 := frz_lt M58
  have fk2 : frz (n + 1 + 1) (n + 1) = n + 1 := frz_lt M58
  have fg0 : frz (n + 1 + 1) (n + 1 + 401 + 1) = 0 := if_pos M58
  have fg1 : frz (n + 1 + 1) (n + 1 + 401 + 1 + 1) = 0 := if_pos M58
  have fg2 : frz (n + 1 + 1) (n + 1 + 401 + 1 + 1 + 1) = 0 := if_pos M58
  rw [(hlt.mono M58 : Ahd (n + 1 + 1) h).ren_upd]
  simp only [V.renL, V.renLL, V.ren, V.travL, V.travLL, V.trav, zz, zf, zy, fk0, fk1, fk2, fg0, fg1, fg2, ren_mail fk1, ren_box fk1]
  refine EV ?_
  refine OkOps.storeE tab_ok rfl rfl M48 ⟨_, _, by simp only [kE]; rfl⟩ M7 M64 (Ahd.updL (by repeat (first | exact hlt | exact hlt.mono (by omega) | refine Ahd.upd ?_ (Ahd.cur (by omega) _)))) ?_
  refine S36 ?_
  exact ⟨(s1, c3), ⟨hsm, hb3.trans b2⟩, by first | rfl | (simp only [packV, cBox, cStore, List.map_append, List.map_cons, List.map_nil]; done), by first | rfl | exact hh | (repeat rw [upd_twice (by simp [V.travL, V.trav, updS, zz, zf, zy])]), by first | rfl | omega⟩
 try simp only [bsimp] at hb9
 refine S10 ?_
 refine OC (fun hb12 => ?_) (fun hb12 => ?_)
 ·
  try simp only [bsimp] at hb12
  refine S26 ?_
  refine OkOps.ev tab_ok rfl (ev_bs M53 M53 M57 M57 M37 M16) M52 ?_
  refine OkOps.append tab_ok rfl rfl M53 M53 M57 rfl M48 (.inl ⟨_, _, by simp only [kE, kT, kL, kC] <;> rfl⟩) M58 M58 M34 M34 M55 M11 M9 (Ahd.killL (by repeat (first | exact hlt | exact hlt.mono (by omega) | refine Ahd.upd ?_ (Ahd.cur (by omega) _)))) ?_
  refine EV ?_
  refine OkOps.storeE tab_ok rfl rfl M48 ⟨_, _, by simp only [kE]; rfl⟩ M7 M64 (Ahd.updL (by repeat (first | exact hlt | exact hlt.mono (by omega) | refine Ahd.upd ?_ (Ahd.cur (by omega) _)))) ?_
  refine ON ?_
  refine OQ ?_
  try rw [show (List.map cBox s1.boxes).set (0 - 0) (cBox (boxA c3).1) = List.map cBox (s1.boxes.set 0 (boxA c3).1) from set_map cBox s1.boxes 0 _]
  try rw [show (List.map cBox s1.boxes).set (1 - 0) (cBox { s1.boxes[1] with name := s1.boxes[0].name }) = List.map cBox (s1.boxes.set 1 { s1.boxes[1] with name := s1.boxes[0].name }) from set_map cBox s1.boxes 1 _]
  refine OkOps.freeze (n + 1 + 1) M58 ?_
  have fk0 : frz (n + 1 + 1) (L + 1) = L + 1 := frz_lt M58
  have fk1 : frz (n + 1 + 1) (0) = 0 := frz_lt M58
  have fk2 : frz (n + 1 + 1) (n + 1) = n + 1 := frz_lt M58
  have fg0 : frz (n + 1 + 1) (n + 1 + 401 + 1) = 0 := if_pos M58
  have fg1 : frz (n + 1 + 1) (n + 1 + 401 + 1 + 1) = 0 := if_pos M58
  have fg2 : frz (n + 1 + 1) (n + 1 + 401 + 1 + 1 + 1) = 0 := if_pos M58
  rw [(hlt.mono M58 : Ahd (n + 1 + 1) h).ren_upd]
  simp only [V.renL, V.renLL, V.ren, V.travL, V.travLL, V.trav, zz, zf, zy, fk0, fk1, fk2, fg0, fg1, fg2, ren_mail fk1, ren_box fk1]
  refine EV ?_
  refine OkOps.storeE tab_ok rfl rfl M48 ⟨_, _, by simp only [kE]; rfl⟩ M7 M64 (Ahd.updL (by repeat (first | exact hlt | exact hlt.mono (by omega) | refine Ahd.upd ?_ (Ahd.cur (by omega) _)))) ?_
  refine S36 ?_
  exact ⟨({ s1 with gone := s1.gone ++ [(v2 : Int)] }, c3), ⟨sm_gone hsm hg9, hb3.trans b2⟩, by first | rfl | (simp only [packV, cBox, cStore, List.map_append, List.map_cons, List.map_nil]; done), by first | rfl | exact hh | (repeat rw [upd_twice (by simp [V.travL, V.trav, updS, zz, zf, zy])]), by first | rfl | omega⟩
 try simp only [bsimp] at hb12
 refine S10 ?_
 refine OC (fun hb14 => ?_) (fun hb14 => ?_)
 ·
  try simp only [bsimp] at hb14
  refine S64 ?_
  refine OC (fun hb15 => ?_) (fun hb15 => ?_)
  ·
   try simp only [bsimp] at hb15
   have hbl : 1 < s1.boxes.length := by omega
   have hbl0 : 0 < s1.boxes.length := by omega
   refine Ok.stages 62 [0, 1, 2, 3, 4, 5, 6, 7, 8] [(9, [], [])] M56 M56 rfl ?_
   simp only [ixs, List.getElem?_toArray, List.getElem?_cons_zero, List.getElem?_cons_succ]
   iterate 4 (refine SV ?_)
   refine SOps.ev tab_ok rfl (ev_idx_map (j := 0) M48 M48 M58 M48) M52 ?_
   iterate 2 (refine SV ?_)
   refine SOps.ev tab_ok rfl (ev_idx_map (j := 1) M48 M48 M58 M48) M52 ?_
   refine SV ?_
   refine SOps.nil ?_
   refine Pend.store tab_ok (by simp only [List.getElem?_toArray, List.getElem?_cons_zero, List.getElem?_cons_succ] <;> rfl) M59 M59 M59 M48 ⟨_, _, by simp only [kE]; rfl⟩ M7 M64 (Ahd.updL (by repeat (first | exact hlt | exact hlt.mono (by omega) | refine Ahd.upd ?_ (Ahd.cur (by omega) _)))) ?_
   simp only [ixs, List.getElem?_toArray, List.getElem?_cons_zero, List.getElem?_cons_succ]
   refine SOps.nil ⟨LateOk.A LateOk.nil M58, ?_⟩
   refine Pend.nil ?_
   refine OQ ?_
   try rw [show (List.map cBox s1.boxes).set (0 - 0) (cBox (boxA c3).1) = List.map cBox (s1.boxes.set 0 (boxA c3).1) from set_map cBox s1.boxes 0 _]
   try rw [show (List.map cBox s1.boxes).set (1 - 0) (cBox { s1.boxes[1] with name := s1.boxes[0].name }) = List.map cBox (s1.boxes.set 1 { s1.boxes[1] with name := s1.boxes[0].name }) from set_map cBox s1.boxes 1 _]
   refine OkOps.freeze (n + 1 + 1) M58 ?_
   have fk0 : frz (n + 1 + 1) (L + 1) = L + 1 := frz_lt M58
   have fk1 : frz (n + 1 + 1) (0) = 0 := frz_lt M58
   have fk2 : frz (n + 1 + 1) (n + 1) = n + 1 := frz_lt M58
   have fg0 : frz (n + 1 + 1) (n + 1 + 401 + 1) = 0 := if_pos M58
   have fg1 : frz (n + 1 + 1) (n + 1 + 401 + 1 + 1) = 0 := if_pos M58
   have fg2 : frz (n + 1 + 1) (n + 1 + 401 + 1 + 1 + 1) = 0 := if_pos M58
   rw [(hlt.mono M58 : Ahd (n + 1 + 1) h).ren_upd]
   simp only [V.renL, V.renLL, V.ren, V.travL, V.travLL, V.trav, zz, zf, zy, fk0, fk1, fk2, fg0, fg1, fg2, ren_mail fk1, ren_box fk1]
   refine EV ?_
   refine OkOps.storeE tab_ok rfl rfl M48 ⟨_, _, by simp only [kE]; rfl⟩ M7 M64 (Ahd.updL (by repeat (first | exact hlt | exact hlt.mono (by omega) | refine Ahd.upd ?_ (Ahd.cur (by omega) _)))) ?_
   refine S36 ?_
   exact ⟨({ s1 with boxes := s1.boxes.set 1 { s1.boxes[1] with name := s1.boxes[0].name } }, c3), ⟨sm_set hsm (sm_name (hsm.1.2 _ (List.getElem_mem hbl)) (hsm.1.2 _ (List.getElem_mem hbl0)).1), hb3.trans b2⟩, by first | rfl | (simp only [packV, cBox, cStore, List.map_append, List.map_cons, List.map_nil]; done), by first | rfl | exact hh | (repeat rw [upd_twice (by simp [V.travL, V.trav, updS, zz, zf, zy])]), by first | rfl | omega⟩
  try simp only [bsimp] at hb15
  refine Ok.skip ?_
  refine OQ ?_
  try rw [show (List.map cBox s1.boxes).set (0 - 0) (cBox (boxA c3).1) = List.map cBox (s1.boxes.set 0 (boxA c3).1) from set_map cBox s1.boxes 0 _]
  try rw [show (List.map cBox s1.boxes).set (1 - 0) (cBox { s1.boxes[1] with name := s1.boxes[0].name }) = List.map cBox (s1.boxes.set 1 { s1.boxes[1] with name := s1.boxes[0].name }) from set_map cBox s1.boxes 1 _]
  refine OkOps.freeze (n + 1 + 1) M58 ?_
  have fk0 : frz (n + 1 + 1) (L + 1) = L + 1 := frz_lt M58
  have fk1 : frz (n + 1 + 1) (0) = 0 := frz_lt M58
  have fk2 : frz (n + 1 + 1) (n + 1) = n + 1 := frz_lt M58
  have fg0 : frz (n + 1 + 1) (n + 1 + 401 + 1) = 0 := if_pos M58
  have fg1 : frz (n + 1 + 1) (n + 1 + 401 + 1 + 1) = 0 := if_pos M58
  have fg2 : frz (n + 1 + 1) (n + 1 + 401 + 1 + 1 + 1) = 0 := if_pos M58
  rw [(hlt.mono M58 : Ahd (n + 1 + 1) h).ren_upd]
  simp only [V.renL, V.renLL, V.ren, V.travL, V.travLL, V.trav, zz, zf, zy, fk0, fk1, fk2, fg0, fg1, fg2, ren_mail fk1, ren_box fk1]
  refine EV ?_
  refine OkOps.storeE tab_ok rfl rfl M48 ⟨_, _, by simp only [kE]; rfl⟩ M7 M64 (Ahd.updL (by repeat (first | exact hlt | exact hlt.mono (by omega) | refine Ahd.upd ?_ (Ahd.cur (by omega) _)))) ?_
  refine S36 ?_
  exact ⟨(s1, c3), ⟨hsm, hb3.trans b2⟩, by first | rfl | (simp only [packV, cBox, cStore, List.map_append, List.map_cons, List.map_nil]; done), by first | rfl | exact hh | (repeat rw [upd_twice (by simp [V.travL, V.trav, updS, zz, zf, zy])]), by first | rfl | omega⟩
 try simp only [bsimp] at hb14
 refine Ok.skip ?_
 refine OQ ?_
 try rw [show (List.map cBox s1.boxes).set (0 - 0) (cBox (boxA c3).1) = List.map cBox (s1.boxes.set 0 (boxA c3).1) from set_map cBox s1.boxes 0 _]
 try rw [show (List.map cBox s1.boxes).set (1 - 0) (cBox { s1.boxes[1] with name := s1.boxes[0].name }) = List.map cBox (s1.boxes.set 1 { s1.boxes[1] with name := s1.boxes[0].name }) from set_map cBox s1.boxes 1 _]
 refine OkOps.freeze (n + 1 + 1) M58 ?_
 have fk0 : frz (n + 1 + 1) (L + 1) = L + 1 := frz_lt M58
 have fk1 : frz (n + 1 + 1) (0) = 0 := frz_lt M58
 have fk2 : frz (n + 1 + 1) (n + 1) = n + 1 := frz_lt M58
 have fg0 : frz (n + 1 + 1) (n + 1 + 401 + 1) = 0 := if_pos M58
 have fg1 : frz (n + 1 + 1) (n + 1 + 401 + 1 + 1) = 0 := if_pos M58
 have fg2 : frz (n + 1 + 1) (n + 1 + 401 + 1 + 1 + 1) = 0 := if_pos M58
 rw [(hlt.mono M58 : Ahd (n + 1 + 1) h).ren_upd]
 simp only [V.renL, V.renLL, V.ren, V.travL, V.travLL, V.trav, zz, zf, zy, fk0, fk1, fk2, fg0, fg1, fg2, ren_mail fk1, ren_box fk1]
 refine EV ?_
 refine OkOps.storeE tab_ok rfl rfl M48 ⟨_, _, by simp only [kE]; rfl⟩ M7 M64 (Ahd.updL (by repeat (first | exact hlt | exact hlt.mono (by omega) | refine Ahd.upd ?_ (Ahd.cur (by omega) _)))) ?_
 refine S36 ?_
 exact ⟨(s1, c3), ⟨hsm, hb3.trans b2⟩, by first | rfl | (simp only [packV, cBox, cStore, List.map_append, List.map_cons, List.map_nil]; done), by first | rfl | exact hh | (repeat rw [upd_twice (by simp [V.travL, V.trav, updS, zz, zf, zy])]), by first | rfl | omega⟩
theorem x_spec_DrawSyncBegin (code : Str) (hc : code.length ≤ 4611686018427387904) : WeakX Tryz.prog 8 [.sl 0 1 0 (code.map cB)] (Store × Int) (fun y => .tup [.agg (cStore y.1), .int .i64 y.2]) (fun y => smStore y.1) := by
 refine WeakX.enter tab_ok Tryz.func8 rfl (.inr M33) (ht := ANYS 12) ?_
 refine S10 ?_
 refine S6 ?_
 refine OkOps.turn _ rfl rfl M48 M48 cl22 (fun h => c_spec_l01New code hc) M38 M69 (rfl) ?_
 refine S40 ?_
 refine OkOps.upd rfl rfl M48 M48 cl23 (fun h => c_spec_l01Below (curNew code) 4 1 hc M57) M4 (rfl) ?_
 refine S40 ?_
 refine OkOps.updX (k := 1) rfl rfl M48 M48 cl32 M29 (Ahd.nil _) (fun h hlt hfix => c_spec_l07Any (curBelow (curNew code) 4).2 1 (by rw [curBelow_b]; exact hc) hlt M58 hfix) M8 M81 M121 (fun y => by simp only [eq_self, V.updL, V.travL, V.travLL, V.trav, updS, updP, and_self, true_and, and_true, false_and, and_false, Nat.reduceEqDiff, Nat.reduceSub, Nat.le_refl, Nat.zero_le, ↓reduceIte, if_true, if_false, kP, zz, zf, zy] <;> rfl) (fun y => rfl) ?_
 rintro ⟨s1, c1⟩ ⟨hs1, hb1⟩
 dsimp only
 refine EV ?_
 refine S30 ?_
 exact ⟨(s1, ((curBelow (curNew code) 4).1 : Int)), hs1, by first | rfl | (simp [V.erase, V.trav, V.travL, V.travLL, packV, zz, zf, zy]; done)⟩
end Go.Proofs.YtiipkeendfpddaaGreat.K

/- The walk of FnSyncsTold. Printed by w2.py. -/
namespace Go.Proofs.YtiipkeendfpddaaGreat.K
open Go Go.RowKit
set_option linter.unusedVariables false
set_option linter.unusedSimpArgs false
set_option maxHeartbeats 4000000
set_option maxRecDepth 20000
theorem w_impl_SyncBegin (s : Store) (h : smStore s) (e : Int) : Weak Tryz.prog 9 [.agg (cStore s), .int .i64 e] (.tup [.agg (cSync (begY s e)), .bool (begOk s)]) :=
  (p_impl_SyncBegin s h e).weak' M44 M95 M43
theorem take_piece (t : Str) (i : Nat) : t.take (120 * i) ++ pieceT t i = t.take (120 * (i + 1)) := by
  rw [← pieces_flat, ← pieces_flat, pieces_next, List.flatten_append]; simp
theorem take_all (t : Str) : t.take (120 * pieceN t) = t := by rw [← pieces_flat, pieces_all]
theorem w_laws_FnSyncsTold (code : Str) (hc : code.length ≤ 4611686018427387904) : Weak Tryz.prog 3 [.sl 0 1 0 (code.map cB)] (.bool true) := by
 refine Weak.enter tab_ok Tryz.func3 rfl (.inr M33) (ht := ANYS 139) ?_
 refine S8 ?_
 refine S59 ?_
 refine OW cl4 (w_laws_big code) ?_
 refine ON ?_
 refine OC (fun hb1 => ?_) (fun hb1 => ?_)
 ·
  try simp only [bsimp] at hb1
  refine S37 ?_
  first | rfl | (simp; done)
 try simp only [bsimp] at hb1
 refine S60 ?_
 refine OkOps.weakX rfl rfl M48 M48 cl5 (x_spec_DrawSyncHears code hc) (fun y => by simp only [kP] <;> rfl) ?_
 rintro ⟨y1, p1⟩ ⟨hy1, hp1⟩
 dsimp only at hy1 hp1 ⊢
 obtain ⟨hsm, hsf⟩ := hy1.sm M58
 have hn1 := hy1.next1
 have hn2 := hy1.next2
 have hpt := hp1.text
 have hsame : syncHearsS y1 p1 = syncHears y1 p1 := syncHearsS_same ⟨hn1, by omega⟩ hp1.ack
 iterate 5 (refine EV ?_)
 refine OE ?_
 refine S17 ?_
 refine S11 ?_
 refine OW cl6 (w_impl_SyncHears y1 p1 hsm (Nat.le_trans hpt M57) hsf) ?_
 iterate 4 (refine EV ?_)
 refine OE ?_
 refine S2 ?_
 refine S11 ?_
 refine OW cl7 ((by have h := w_spec_SyncHears y1 p1 hsm (Nat.le_trans hpt M57) hsf; rwa [hsame] at h)) ?_
 iterate 4 (refine EV ?_)
 refine OE ?_
 refine S40 ?_
 refine OkOps.weakX rfl rfl M48 M48 cl8 (x_spec_DrawSyncBegin code hc) (fun y => by simp only [kP] <;> rfl) ?_
 rintro ⟨s1, e1⟩ hs1
 try dsimp only at hs1 ⊢
 iterate 4 (refine EV ?_)
 refine OE ?_
 refine S2 ?_
 refine S11 ?_
 refine OW cl9 (w_impl_SyncBegin s1 hs1 e1) ?_
 iterate 4 (refine EV ?_)
 refine OE ?_
 refine S2 ?_
 refine S11 ?_
 refine OW cl10 (w_spec_SyncBegin s1 hs1 e1) ?_
 iterate 4 (refine EV ?_)
 refine OE ?_
 refine S40 ?_
 refine OkOps.weakX rfl rfl M48 M48 cl11 (x_spec_DrawPiecesOf code hc) (fun y => by simp only [kP] <;> rfl) ?_
 rintro v hv
 have hv16 : v.length ≤ 16004 := Nat.le_trans hv M57
 refine S40 ?_
 refine OW cl12 (w_impl_PiecesOf v hv16) ?_
 refine S2 ?_
 refine S8 ?_
 refine S28 ?_
 refine Ok.loopW (τ := Nat) (fun x => [(17, .str (v.take (120 * x))), (18, .int .i64 (x : Int))]) [2, 62, 63, 64, 65, 66, 67, 68, 69, 70, 71, 72, 73, 74, 75, 76, 77, 78, 79, 80, 81, 82, 83, 84, 85, 86, 87] (fun x => by simp only [kover] <;> rfl) (fun x => x ≤ pieceN v) (fun x => pieceN v - x) 0 (by (repeat (first | exact trivial | refine leC ?_ | refine leK ?_ ?_)) <;> first | (first | exact le_rfl' _ | exact le_eqm rfl) | exact le_rfl' _) (Nat.zero_le _) ?_
 rintro i h1
 have hk9 : pieceN v ≤ 3 := by unfold pieceN; omega
 refine S5 ?_
 iterate 2 (refine EV ?_)
 refine OkOps.ev tab_ok rfl M122 M52 ?_
 refine S2 ?_
 refine OC (fun hb13 => ?_) (fun hb13 => ?_)
 ·
  try simp only [bsimp] at hb13
  have hi : i < pieceN v := by omega
  have hpp := piece_pos hi
  have hpl := piece_len v i
  have hz0 : (((pieceT v i).length : Int) = 0) = False := eq_false M58
  have hz1 : (((pieceT v i).length : Int) > 120) = False := eq_false M58
  have htl : (v.take (120 * i)).length ≤ 300 := by rw [List.length_take]; omega
  refine S14 ?_
  refine S5 ?_
  iterate 2 (refine EV ?_)
  refine OkOps.ev tab_ok rfl (ev_idx M48 M48 (by rw [List.getElem?_map, pieces_get hi]; rfl) M48) M52 ?_
  iterate 2 (refine EV ?_)
  refine OkOps.ev tab_ok rfl (by simp only [kE, kT, kL, kC, hz0, decide_false] <;> rfl) M52 ?_
  refine EV ?_
  refine S25 ?_
  refine OkOps.ev tab_ok rfl (ev_idx M48 M48 (by rw [List.getElem?_map, pieces_get hi]; rfl) M48) M52 ?_
  refine S25 ?_
  refine OkOps.ev tab_ok rfl (by simp only [kE, kT, kL, kC, hz1, decide_false] <;> rfl) M52 ?_
  refine S2 ?_
  refine Ok.cond_false M48 ?_
  refine Ok.skip ?_
  refine S26 ?_
  refine OkOps.ev tab_ok rfl (ev_idx M48 M48 (by rw [List.getElem?_map, pieces_get hi]; rfl) M48) M52 ?_
  refine EV ?_
  refine OkOps.ev tab_ok rfl (ev_cat M48 M48 M21) M112 ?_
  refine S63 ?_
  refine ⟨i + 1, ?_, rfl, rfl, by omega, by omega⟩
  (repeat (first | exact trivial | refine leC ?_ | refine leK ?_ ?_)) <;> first | (first | exact le_rfl' _ | (rw [wrap_succ (by omega)]; exact le_rfl' _) | exact le_eqm (by rw [take_piece])) | exact le_rfl' _
 try simp only [bsimp] at hb13
 obtain rfl : i = pieceN v := by omega
 rw [take_all]
 refine Ok.exit ?_
 refine S6 ?_
 refine OkOps.weakX rfl rfl M48 M48 cl13 (x_spec_DrawSyncEnds code hc) (fun y => by simp only [kP] <;> rfl) ?_
 rintro ⟨z1, k1⟩ hz1
 try dsimp only at hz1 ⊢
 have hzm := (hz1.sm M58).1
 iterate 4 (refine EV ?_)
 refine OE ?_
 refine S40 ?_
 refine OkOps.weakX rfl rfl M48 M48 cl14 (x_spec_DrawSyncOver code hc) (fun y => by simp only [kP] <;> rfl) ?_
 rintro o1 _
 refine S33 ?_
 refine Ok.seq ?_
 refine Ok.drawn 46 140 [] M56 M56 rfl ?_
 iterate 2 (refine SV ?_)
 refine SOps.S0 rfl (OpS.weakM rfl M48 M48 cl15 (w_laws_sameSync (syncHears y1 p1).1)) M52 ?_
 refine SV ?_
 refine SN ?_
 refine SN ?_
 refine SOps.onEv tab_ok rfl rfl M50 M31 M52 ?_
 iterate 2 (refine SV ?_)
 refine SN ?_
 refine SN ?_
 refine SOps.onEv tab_ok rfl rfl M50 M31 M52 ?_
 iterate 2 (refine SV ?_)
 refine SN ?_
 refine SN ?_
 refine SOps.onS0 rfl rfl M50 (OpS.weakM rfl M48 M48 cl15 (w_laws_sameSync (begY s1 e1))) M52 ?_
 iterate 2 (refine SV ?_)
 refine SN ?_
 refine SN ?_
 refine SOps.onEv tab_ok rfl rfl M50 M31 M52 ?_
 iterate 2 (refine SV ?_)
 refine SN ?_
 refine SN ?_
 refine SOps.onS0 rfl rfl M50 (OpS.weakM rfl M48 M48 cl17 (w_spec_PiecesOf v hv16)) M52 ?_
 refine SOps.onS0 rfl rfl M50 (OpS.weakM rfl M48 M48 cl16 ((by have h := w_laws_sameTexts (piecesT v (pieceN v)) (piecesT v (pieceN v)); rwa [decide_eq_true rfl] at h))) M52 ?_
 iterate 2 (refine SV ?_)
 refine SN ?_
 refine SN ?_
 refine SOps.onS0 rfl rfl M50 (OpS.weakM rfl M48 M48 cl18 (w_impl_SyncEnds z1 k1 hzm)) M52 ?_
 refine SN ?_
 refine SN ?_
 refine SOps.onS0 rfl rfl M50 (OpS.weakM rfl M48 M48 cl19 (w_spec_SyncEnds z1 k1 hzm)) M52 ?_
 refine SOps.onS0 rfl rfl M50 (OpS.weakM rfl M48 M48 cl15 (w_laws_sameSync (syncEnds z1 k1))) M52 ?_
 iterate 2 (refine SV ?_)
 refine SN ?_
 refine SOps.onS0 rfl rfl M50 (OpS.weakM rfl M48 M48 cl20 (w_impl_SyncOver o1)) M52 ?_
 refine SN ?_
 refine SOps.onS0 rfl rfl M50 (OpS.weakM rfl M48 M48 cl21 (w_spec_SyncOver o1)) M52 ?_
 refine SOps.onEv tab_ok rfl rfl M50 M31 M52 ?_
 iterate 2 (refine SV ?_)
 refine S9 ?_
 refine S3 ?_
 first | rfl | (simp; done)
end Go.Proofs.YtiipkeendfpddaaGreat.K
