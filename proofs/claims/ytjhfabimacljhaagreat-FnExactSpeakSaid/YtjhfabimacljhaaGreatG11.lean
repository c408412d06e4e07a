/- Walks: marks that are still held. Printed by w2.py. -/
import Derived.Test.YtjhfabimacljhaaGreatG8
import Derived.Test.YtjhfabimacljhaaGreatG4
import Derived.Test.YtjhfabimacljhaaGreatG9
import Derived.Test.YtjhfabimacljhaaGreatG10
import Derived.Test.YtjhfabimacljhaaGreatG5
import Derived.Test.YtjhfabimacljhaaGreatG7
namespace Go.Proofs.YtjhfabimacljhaaGreat.K
open Go Go.RowKit
set_option linter.unusedVariables false
set_option linter.unusedSimpArgs false
theorem mk_get {es : List (List V)} {k i : Nat} (h : i < es.length) : (V.mkLL k es)[i]? = some (V.mkL (k + V.mnLL (es.take i)) es[i]) := by
  have e : es = es.take i ++ es[i] :: es.drop (i + 1) := by rw [← List.drop_eq_getElem_cons h, List.take_append_drop]
  have e2 : V.mkLL k es = V.mkLL k (es.take i) ++ V.mkL (k + V.mnLL (es.take i)) es[i] :: V.mkLL (k + V.mnLL (es.take i) + V.mnL es[i]) (es.drop (i + 1)) := by
    conv => lhs; rw [e]
    rw [mkLL_app]; rfl
  rw [e2]
  exact get_mid (by rw [mkLL_len, List.length_take]; omega)
theorem mk_get' {α : Type} {f : α → List V} {xs : List α} {k i : Nat} (h : i < xs.length) : (V.mkLL k (xs.map f))[i]? = some (V.mkL (k + V.mnLL ((xs.take i).map f)) (f xs[i])) := by
  rw [mk_get (by rw [List.length_map]; exact h), List.map_take, List.getElem_map]
theorem mn_next {α : Type} {f : α → List V} {xs : List α} {i : Nat} (h : i < xs.length) : V.mnLL ((xs.take (i + 1)).map f) = V.mnLL ((xs.take i).map f) + V.mnL (f xs[i]) := by
  rw [List.take_succ_eq_append_getElem h, List.map_append]; exact mnLL_snoc _ _
theorem mn_split {α : Type} {f : α → List V} {xs : List α} {i : Nat} (h : i < xs.length) : V.mnLL (xs.map f) = V.mnLL ((xs.take i).map f) + (V.mnL (f xs[i]) + V.mnLL ((xs.drop (i + 1)).map f)) := by
  have e : xs = xs.take i ++ xs[i] :: xs.drop (i + 1) := by rw [← List.drop_eq_getElem_cons h, List.take_append_drop]
  conv => lhs; rw [e]
  rw [List.map_append, mnLL_app]; rfl
theorem len_mk {α : Type} {f : α → List V} (hf : ∀ x, 1 ≤ V.mnL (f x)) (xs : List α) : xs.length ≤ V.mnLL (xs.map f) := by
  have := len_mn (xs.map f) fun r hr => by obtain ⟨x, _, rfl⟩ := List.mem_map.1 hr; exact hf x
  rw [List.length_map] at this; exact this
set_option maxHeartbeats 4000000
set_option maxRecDepth 20000
theorem w_laws_heldIntS (xs : List Int) (k : Nat) (hk : k + V.mnLL (xs.map cZ) ≤ 4611686018427387904) : Weak Tryz.prog 141 [.sl 0 1 0 (V.mkLL k (xs.map cZ)), .int .i64 (k : Int)] (.int .i64 ((k + V.mnLL (xs.map cZ) : Nat) : Int)) := by
 have hz := len_mk (f := cZ) (fun x => by simp only [cZ, V.mnL, V.mn]; omega) xs
 refine Weak.enter tab_ok Tryz.func141 rfl (.inr (by simp [V.labelsL, V.labels, V.labelsLL, mkLL_labels, zz, zf, zy, or_imp, forall_and])) (t := [.sl 0 1 0 (V.mkLL k (xs.map cZ)), .int .i64 (k : Int), .any, .any, .any, .any, .any, .any, .any, .any, .any, .any, .any, .any, .any, .any, .any, .any, .any, .any, .any]) rfl ?_
 refine OQ ?_
 refine EV ?_
 refine ON ?_
 refine Ok.seq ?_
 refine OQ ?_
 refine EV ?_
 refine ON ?_
 refine Ok.block ?_
 refine Ok.loopW (τ := Nat) (fun x => [(1, .int .i64 ((k + V.mnLL ((xs.take x).map cZ) : Nat) : Int)), (5, .int .i64 (x : Int))]) [4, 6, 7, 8, 9, 10, 11, 12, 13, 14, 15, 16, 17, 18, 19] (fun x => by simp only [kover] <;> rfl) (fun x => x ≤ xs.length) (fun x => xs.length - x) 0 (by refine ⟨?_, ?_, ?_, ?_, ?_, ?_, ?_, ?_, ?_, ?_, ?_, ?_, ?_, ?_, ?_, ?_, ?_, ?_, ?_, ?_, ?_, trivial⟩ <;> first | exact le_any _ | with_reducible exact le_rfl' _ | (exact le_rfl' _) | exact le_rfl' _) (Nat.zero_le _) ?_
 rintro i h1
 refine Ok.seq ?_
 refine OQ ?_
 iterate 4 (refine EV ?_)
 refine ON ?_
 refine Ok.cond (b := _) (by simp only [kE, kT, kL, kC] <;> rfl) (fun hb2 => ?_) (fun hb2 => ?_)
 ·
  try simp only [bsimp] at hb2
  have hi : i < xs.length := by rw [mkLL_len, List.length_map] at hb2; omega
  have hsp := mn_split (f := cZ) hi
  have hkk := hk
  rw [hsp] at hkk
  simp only [cZ, V.mnL, V.mn] at hkk
  have hg : (V.mkLL k (xs.map cZ))[i]? = some [.int .i64 (((k + V.mnLL ((xs.take i).map cZ)) : Nat) : Int)] := by rw [mk_get' hi]; simp only [cZ, V.mkL, V.mk, V.mn] <;> rfl
  refine Ok.skip ?_
  refine Ok.seq ?_
  refine Ok.block ?_
  refine Ok.seq ?_
  refine OQ ?_
  iterate 2 (refine EV ?_)
  refine OkOps.ev tab_ok rfl (ev_idx (by simp only [kE, kT, kL, kC] <;> rfl) (by simp only [kE, kT, kL, kC] <;> rfl) (hg) (by simp only [kE, kT, kL, kC] <;> rfl)) (by simp only [kP] <;> rfl) ?_
  iterate 3 (refine EV ?_)
  refine ON ?_
  refine Ok.cond_false (by simp only [kE, kT, kL, kC] <;> first | rfl | (simp; done) | (simp; omega)) ?_
  refine Ok.skip ?_
  refine Ok.region ?_
  refine EV ?_
  refine OkOps.ev tab_ok rfl (by simp (disch := omega) only [kE, kT, kL, kC, wrap_add_one] <;> rfl) (by simp only [kP] <;> rfl) ?_
  refine EV ?_
  refine ON ?_
  refine Ok.region ?_
  refine EV ?_
  refine OkOps.ev tab_ok rfl (by simp (disch := omega) only [kE, kT, kL, kC, wrap_add_one] <;> rfl) (by simp only [kP] <;> rfl) ?_
  refine EV ?_
  refine ON ?_
  refine ⟨i + 1, ?_, rfl, rfl, by omega, by omega⟩
  refine ⟨?_, ?_, ?_, ?_, ?_, ?_, ?_, ?_, ?_, ?_, ?_, ?_, ?_, ?_, ?_, ?_, ?_, ?_, ?_, ?_, ?_, trivial⟩ <;> first | exact le_any _ | with_reducible exact le_rfl' _ | (first | (rw [wrap_add_one (by omega)]; exact le_rfl' _) | (refine le_eqm (congrArg (V.int .i64) (congrArg Nat.cast ?_)); rw [mn_next hi]; simp only [V.mnL, V.mn]; omega)) | exact le_rfl' _
 ·
  try simp only [bsimp] at hb2
  have hi : i = xs.length := by rw [mkLL_len, List.length_map] at hb2; omega
  subst hi
  rw [List.take_length]
  refine Ok.exit ?_
  refine OQ ?_
  iterate 2 (refine EV ?_)
  refine ON ?_
  refine Ok.ret ?_
  with_reducible repeat (first | refine thenQ_ret ?_ | refine blockQ_ret ?_)
  refine RT ?_
  rfl
theorem w_laws_heldStringS (xs : List Str) (k : Nat) (hk : k + V.mnLL (xs.map cS) ≤ 4611686018427387904) : Weak Tryz.prog 68 [.sl 0 1 0 (V.mkLL k (xs.map cS)), .int .i64 (k : Int)] (.int .i64 ((k + V.mnLL (xs.map cS) : Nat) : Int)) := by
 have hz := len_mk (f := cS) (fun x => by simp only [cS, V.mnL, V.mn]; omega) xs
 refine Weak.enter tab_ok Tryz.func68 rfl (.inr (by simp [V.labelsL, V.labels, V.labelsLL, mkLL_labels, zz, zf, zy, or_imp, forall_and])) (t := [.sl 0 1 0 (V.mkLL k (xs.map cS)), .int .i64 (k : Int), .any, .any, .any, .any, .any, .any, .any, .any, .any, .any, .any, .any, .any, .any, .any, .any, .any, .any, .any, .any]) rfl ?_
 refine OQ ?_
 refine EV ?_
 refine ON ?_
 refine Ok.seq ?_
 refine OQ ?_
 refine EV ?_
 refine ON ?_
 refine Ok.block ?_
 refine Ok.loopW (τ := Nat) (fun x => [(1, .int .i64 ((k + V.mnLL ((xs.take x).map cS) : Nat) : Int)), (5, .int .i64 (x : Int))]) [4, 6, 7, 8, 9, 10, 11, 12, 13, 14, 15, 16, 17, 18, 19, 20] (fun x => by simp only [kover] <;> rfl) (fun x => x ≤ xs.length) (fun x => xs.length - x) 0 (by refine ⟨?_, ?_, ?_, ?_, ?_, ?_, ?_, ?_, ?_, ?_, ?_, ?_, ?_, ?_, ?_, ?_, ?_, ?_, ?_, ?_, ?_, ?_, trivial⟩ <;> first | exact le_any _ | with_reducible exact le_rfl' _ | (exact le_rfl' _) | exact le_rfl' _) (Nat.zero_le _) ?_
 rintro i h1
 refine Ok.seq ?_
 refine OQ ?_
 iterate 4 (refine EV ?_)
 refine ON ?_
 refine Ok.cond (b := _) (by simp only [kE, kT, kL, kC] <;> rfl) (fun hb2 => ?_) (fun hb2 => ?_)
 ·
  try simp only [bsimp] at hb2
  have hi : i < xs.length := by rw [mkLL_len, List.length_map] at hb2; omega
  have hsp := mn_split (f := cS) hi
  have hkk := hk
  rw [hsp] at hkk
  simp only [cS, V.mnL, V.mn] at hkk
  have hg : (V.mkLL k (xs.map cS))[i]? = some [.str (markT ((k + V.mnLL ((xs.take i).map cS))))] := by rw [mk_get' hi]; simp only [cS, V.mkL, V.mk, V.mn] <;> rfl
  refine Ok.skip ?_
  refine Ok.seq ?_
  refine Ok.block ?_
  refine Ok.seq ?_
  refine Ok.seq ?_
  refine Ok.drawn 7 22 [] (by kernel_rfl) (by kernel_rfl) rfl ?_
  iterate 2 (refine SV ?_)
  refine SOps.ev tab_ok rfl (ev_idx (by simp only [kE, kT, kL, kC] <;> rfl) (by simp only [kE, kT, kL, kC] <;> rfl) (hg) (by simp only [kE, kT, kL, kC] <;> rfl)) (by simp only [kP] <;> rfl) ?_
  iterate 2 (refine SV ?_)
  refine SOps.S0 rfl (OpS.weakM rfl (by simp only [kE, kT, kL, kC] <;> rfl) (by simp only [kE, kT, kL, kC] <;> rfl) cl127 (w_laws_markText _ (by omega))) (by simp only [kP] <;> rfl) ?_
  refine SV ?_
  refine SOps.nil ?_
  refine TOps.nil ?_
  refine Ok.cond_false (by simp only [kE, kT, kL, kC] <;> first | rfl | (simp; done) | (simp; omega)) ?_
  refine Ok.skip ?_
  refine Ok.region ?_
  refine EV ?_
  refine OkOps.ev tab_ok rfl (by simp (disch := omega) only [kE, kT, kL, kC, wrap_add_one] <;> rfl) (by simp only [kP] <;> rfl) ?_
  refine EV ?_
  refine ON ?_
  refine Ok.region ?_
  refine EV ?_
  refine OkOps.ev tab_ok rfl (by simp (disch := omega) only [kE, kT, kL, kC, wrap_add_one] <;> rfl) (by simp only [kP] <;> rfl) ?_
  refine EV ?_
  refine ON ?_
  refine ⟨i + 1, ?_, rfl, rfl, by omega, by omega⟩
  refine ⟨?_, ?_, ?_, ?_, ?_, ?_, ?_, ?_, ?_, ?_, ?_, ?_, ?_, ?_, ?_, ?_, ?_, ?_, ?_, ?_, ?_, ?_, trivial⟩ <;> first | exact le_any _ | with_reducible exact le_rfl' _ | (first | (rw [wrap_add_one (by omega)]; exact le_rfl' _) | (refine le_eqm (congrArg (V.int .i64) (congrArg Nat.cast ?_)); rw [mn_next hi]; simp only [V.mnL, V.mn]; omega)) | exact le_rfl' _
 ·
  try simp only [bsimp] at hb2
  have hi : i = xs.length := by rw [mkLL_len, List.length_map] at hb2; omega
  subst hi
  rw [List.take_length]
  refine Ok.exit ?_
  refine OQ ?_
  iterate 2 (refine EV ?_)
  refine ON ?_
  refine Ok.ret ?_
  with_reducible repeat (first | refine thenQ_ret ?_ | refine blockQ_ret ?_)
  refine RT ?_
  rfl
theorem w_laws_heldRegS (xs : List Reg) (k : Nat) (hk : k + V.mnLL (xs.map cReg) ≤ 4611686018427387904) : Weak Tryz.prog 226 [.sl 0 3 0 (V.mkLL k (xs.map cReg)), .int .i64 (k : Int)] (.int .i64 ((k + V.mnLL (xs.map cReg) : Nat) : Int)) := by
 have hz := len_mk (f := cReg) (fun x => by simp only [cReg, V.mnL, V.mn]; omega) xs
 refine Weak.enter tab_ok Tryz.func226 rfl (.inr (by simp [V.labelsL, V.labels, V.labelsLL, mkLL_labels, zz, zf, zy, or_imp, forall_and])) (t := [.sl 0 3 0 (V.mkLL k (xs.map cReg)), .int .i64 (k : Int), .any, .any, .any, .any, .any, .any, .any, .any, .any, .any, .any, .any, .any, .any, .any, .any, .any, .any, .any, .any, .any, .any, .any, .any, .any, .any, .any, .any, .any, .any, .any, .any, .any, .any, .any, .any, .any, .any, .any, .any]) rfl ?_
 refine OQ ?_
 refine EV ?_
 refine ON ?_
 refine Ok.seq ?_
 refine OQ ?_
 refine EV ?_
 refine ON ?_
 refine Ok.block ?_
 refine Ok.loopW (τ := Nat) (fun x => [(1, .int .i64 ((k + V.mnLL ((xs.take x).map cReg) : Nat) : Int)), (5, .int .i64 (x : Int))]) [4, 6, 7, 8, 9, 10, 11, 12, 13, 14, 15, 16, 17, 18, 19, 20, 21, 22, 23, 24, 25, 26, 27, 28, 29, 30, 31, 32, 33, 34, 35, 36, 37, 38, 39, 40] (fun x => by simp only [kover] <;> rfl) (fun x => x ≤ xs.length) (fun x => xs.length - x) 0 (by refine ⟨?_, ?_, ?_, ?_, ?_, ?_, ?_, ?_, ?_, ?_, ?_, ?_, ?_, ?_, ?_, ?_, ?_, ?_, ?_, ?_, ?_, ?_, ?_, ?_, ?_, ?_, ?_, ?_, ?_, ?_, ?_, ?_, ?_, ?_, ?_, ?_, ?_, ?_, ?_, ?_, ?_, ?_, trivial⟩ <;> first | exact le_any _ | with_reducible exact le_rfl' _ | (exact le_rfl' _) | exact le_rfl' _) (Nat.zero_le _) ?_
 rintro i h1
 refine Ok.seq ?_
 refine OQ ?_
 iterate 4 (refine EV ?_)
 refine ON ?_
 refine Ok.cond (b := _) (by simp only [kE, kT, kL, kC] <;> rfl) (fun hb2 => ?_) (fun hb2 => ?_)
 ·
  try simp only [bsimp] at hb2
  have hi : i < xs.length := by rw [mkLL_len, List.length_map] at hb2; omega
  have hsp := mn_split (f := cReg) hi
  have hkk := hk
  rw [hsp] at hkk
  simp only [cReg, V.mnL, V.mn] at hkk
  have hg : (V.mkLL k (xs.map cReg))[i]? = some [.int .i64 (((k + V.mnLL ((xs.take i).map cReg)) : Nat) : Int), .int .i64 (((k + V.mnLL ((xs.take i).map cReg)) + 1 : Nat) : Int), .int .i64 (((k + V.mnLL ((xs.take i).map cReg)) + 1 + 1 : Nat) : Int)] := by rw [mk_get' hi]; simp only [cReg, V.mkL, V.mk, V.mn] <;> rfl
  refine Ok.skip ?_
  refine Ok.seq ?_
  refine Ok.block ?_
  refine Ok.seq ?_
  refine OQ ?_
  iterate 2 (refine EV ?_)
  refine OkOps.ev tab_ok rfl (ev_idx (by simp only [kE, kT, kL, kC] <;> rfl) (by simp only [kE, kT, kL, kC] <;> rfl) (hg) (by simp only [kE, kT, kL, kC] <;> rfl)) (by simp only [kP] <;> rfl) ?_
  iterate 4 (refine EV ?_)
  refine ON ?_
  refine Ok.cond_false (by simp only [kE, kT, kL, kC] <;> first | rfl | (simp; done) | (simp; omega)) ?_
  refine Ok.skip ?_
  refine OQ ?_
  refine EV ?_
  refine OkOps.ev tab_ok rfl (by simp (disch := omega) only [kE, kT, kL, kC, wrap_add_one] <;> rfl) (by simp only [kP] <;> rfl) ?_
  refine EV ?_
  refine ON ?_
  refine Ok.seq ?_
  refine OQ ?_
  iterate 2 (refine EV ?_)
  refine OkOps.ev tab_ok rfl (ev_idx (by simp only [kE, kT, kL, kC] <;> rfl) (by simp only [kE, kT, kL, kC] <;> rfl) (hg) (by simp only [kE, kT, kL, kC] <;> rfl)) (by simp only [kP] <;> rfl) ?_
  iterate 5 (refine EV ?_)
  refine ON ?_
  refine Ok.cond_false (by simp only [kE, kT, kL, kC] <;> first | rfl | (simp; done) | (simp; omega)) ?_
  refine Ok.skip ?_
  refine OQ ?_
  refine EV ?_
  refine OkOps.ev tab_ok rfl (by simp (disch := omega) only [kE, kT, kL, kC, wrap_add_one] <;> rfl) (by simp only [kP] <;> rfl) ?_
  refine EV ?_
  refine ON ?_
  refine Ok.seq ?_
  refine OQ ?_
  iterate 2 (refine EV ?_)
  refine OkOps.ev tab_ok rfl (ev_idx (by simp only [kE, kT, kL, kC] <;> rfl) (by simp only [kE, kT, kL, kC] <;> rfl) (hg) (by simp only [kE, kT, kL, kC] <;> rfl)) (by simp only [kP] <;> rfl) ?_
  iterate 5 (refine EV ?_)
  refine ON ?_
  refine Ok.cond_false (by simp only [kE, kT, kL, kC] <;> first | rfl | (simp; done) | (simp; omega)) ?_
  refine Ok.skip ?_
  refine Ok.region ?_
  refine EV ?_
  refine OkOps.ev tab_ok rfl (by simp (disch := omega) only [kE, kT, kL, kC, wrap_add_one] <;> rfl) (by simp only [kP] <;> rfl) ?_
  refine EV ?_
  refine ON ?_
  refine Ok.region ?_
  refine EV ?_
  refine OkOps.ev tab_ok rfl (by simp (disch := omega) only [kE, kT, kL, kC, wrap_add_one] <;> rfl) (by simp only [kP] <;> rfl) ?_
  refine EV ?_
  refine ON ?_
  refine ⟨i + 1, ?_, rfl, rfl, by omega, by omega⟩
  refine ⟨?_, ?_, ?_, ?_, ?_, ?_, ?_, ?_, ?_, ?_, ?_, ?_, ?_, ?_, ?_, ?_, ?_, ?_, ?_, ?_, ?_, ?_, ?_, ?_, ?_, ?_, ?_, ?_, ?_, ?_, ?_, ?_, ?_, ?_, ?_, ?_, ?_, ?_, ?_, ?_, ?_, ?_, trivial⟩ <;> first | exact le_any _ | with_reducible exact le_rfl' _ | (first | (rw [wrap_add_one (by omega)]; exact le_rfl' _) | (refine le_eqm (congrArg (V.int .i64) (congrArg Nat.cast ?_)); rw [mn_next hi]; simp only [V.mnL, V.mn]; omega)) | exact le_rfl' _
 ·
  try simp only [bsimp] at hb2
  have hi : i = xs.length := by rw [mkLL_len, List.length_map] at hb2; omega
  subst hi
  rw [List.take_length]
  refine Ok.exit ?_
  refine OQ ?_
  iterate 2 (refine EV ?_)
  refine ON ?_
  refine Ok.ret ?_
  with_reducible repeat (first | refine thenQ_ret ?_ | refine blockQ_ret ?_)
  refine RT ?_
  rfl
theorem w_laws_heldMailS (xs : List Mail) (k : Nat) (hk : k + V.mnLL (xs.map cMail) ≤ 4611686018427387904) : Weak Tryz.prog 192 [.sl 0 4 0 (V.mkLL k (xs.map cMail)), .int .i64 (k : Int)] (.int .i64 ((k + V.mnLL (xs.map cMail) : Nat) : Int)) := by
 have hz := len_mk (f := cMail) (fun x => by simp only [cMail, V.mnL, V.mn]; omega) xs
 refine Weak.enter tab_ok Tryz.func192 rfl (.inr (by simp [V.labelsL, V.labels, V.labelsLL, mkLL_labels, zz, zf, zy, or_imp, forall_and])) (t := [.sl 0 4 0 (V.mkLL k (xs.map cMail)), .int .i64 (k : Int), .any, .any, .any, .any, .any, .any, .any, .any, .any, .any, .any, .any, .any, .any, .any, .any, .any, .any, .any, .any, .any, .any, .any, .any, .any, .any, .any, .any, .any, .any, .any, .any, .any, .any, .any, .any, .any, .any, .any, .any, .any, .any, .any, .any, .any, .any, .any, .any]) rfl ?_
 refine OQ ?_
 refine EV ?_
 refine ON ?_
 refine Ok.seq ?_
 refine OQ ?_
 refine EV ?_
 refine ON ?_
 refine Ok.block ?_
 refine Ok.loopW (τ := Nat) (fun x => [(1, .int .i64 ((k + V.mnLL ((xs.take x).map cMail) : Nat) : Int)), (5, .int .i64 (x : Int))]) [4, 6, 7, 8, 9, 10, 11, 12, 13, 14, 15, 16, 17, 18, 19, 20, 21, 22, 23, 24, 25, 26, 27, 28, 29, 30, 31, 32, 33, 34, 35, 36, 37, 38, 39, 40, 41, 42, 43, 44, 45, 46, 47, 48] (fun x => by simp only [kover] <;> rfl) (fun x => x ≤ xs.length) (fun x => xs.length - x) 0 (by refine ⟨?_, ?_, ?_, ?_, ?_, ?_, ?_, ?_, ?_, ?_, ?_, ?_, ?_, ?_, ?_, ?_, ?_, ?_, ?_, ?_, ?_, ?_, ?_, ?_, ?_, ?_, ?_, ?_, ?_, ?_, ?_, ?_, ?_, ?_, ?_, ?_, ?_, ?_, ?_, ?_, ?_, ?_, ?_, ?_, ?_, ?_, ?_, ?_, ?_, ?_, trivial⟩ <;> first | exact le_any _ | with_reducible exact le_rfl' _ | (exact le_rfl' _) | exact le_rfl' _) (Nat.zero_le _) ?_
 rintro i h1
 refine Ok.seq ?_
 refine OQ ?_
 iterate 4 (refine EV ?_)
 refine ON ?_
 refine Ok.cond (b := _) (by simp only [kE, kT, kL, kC] <;> rfl) (fun hb2 => ?_) (fun hb2 => ?_)
 ·
  try simp only [bsimp] at hb2
  have hi : i < xs.length := by rw [mkLL_len, List.length_map] at hb2; omega
  have hsp := mn_split (f := cMail) hi
  have hkk := hk
  rw [hsp] at hkk
  simp only [cMail, V.mnL, V.mn] at hkk
  have hg : (V.mkLL k (xs.map cMail))[i]? = some [.int .i64 (((k + V.mnLL ((xs.take i).map cMail)) : Nat) : Int), .int .i64 (((k + V.mnLL ((xs.take i).map cMail)) + 1 : Nat) : Int), .sl 0 3 0 (V.mkLL ((k + V.mnLL ((xs.take i).map cMail)) + 1 + 1) (xs[i].flags.map cReg)), .str (markT ((k + V.mnLL ((xs.take i).map cMail)) + 1 + 1 + V.mnLL (xs[i].flags.map cReg)))] := by rw [mk_get' hi]; simp only [cMail, V.mkL, V.mk, V.mn] <;> rfl
  refine Ok.skip ?_
  refine Ok.seq ?_
  refine Ok.block ?_
  refine Ok.seq ?_
  refine OQ ?_
  iterate 2 (refine EV ?_)
  refine OkOps.ev tab_ok rfl (ev_idx (by simp only [kE, kT, kL, kC] <;> rfl) (by simp only [kE, kT, kL, kC] <;> rfl) (hg) (by simp only [kE, kT, kL, kC] <;> rfl)) (by simp only [kP] <;> rfl) ?_
  iterate 4 (refine EV ?_)
  refine ON ?_
  refine Ok.cond_false (by simp only [kE, kT, kL, kC] <;> first | rfl | (simp; done) | (simp; omega)) ?_
  refine Ok.skip ?_
  refine OQ ?_
  refine EV ?_
  refine OkOps.ev tab_ok rfl (by simp (disch := omega) only [kE, kT, kL, kC, wrap_add_one] <;> rfl) (by simp only [kP] <;> rfl) ?_
  refine EV ?_
  refine ON ?_
  refine Ok.seq ?_
  refine OQ ?_
  iterate 2 (refine EV ?_)
  refine OkOps.ev tab_ok rfl (ev_idx (by simp only [kE, kT, kL, kC] <;> rfl) (by simp only [kE, kT, kL, kC] <;> rfl) (hg) (by simp only [kE, kT, kL, kC] <;> rfl)) (by simp only [kP] <;> rfl) ?_
  iterate 4 (refine EV ?_)
  refine ON ?_
  refine Ok.cond_false (by simp only [kE, kT, kL, kC] <;> first | rfl | (simp; done) | (simp; omega)) ?_
  refine Ok.skip ?_
  refine OQ ?_
  refine EV ?_
  refine OkOps.ev tab_ok rfl (by simp (disch := omega) only [kE, kT, kL, kC, wrap_add_one] <;> rfl) (by simp only [kP] <;> rfl) ?_
  refine EV ?_
  refine ON ?_
  refine OQ ?_
  iterate 2 (refine EV ?_)
  refine OkOps.ev tab_ok rfl (ev_idx (by simp only [kE, kT, kL, kC] <;> rfl) (by simp only [kE, kT, kL, kC] <;> rfl) (hg) (by simp only [kE, kT, kL, kC] <;> rfl)) (by simp only [kP] <;> rfl) ?_
  iterate 3 (refine EV ?_)
  refine OkOps.S0 rfl (OpS.weak' rfl (by simp only [kE, kT, kL, kC] <;> rfl) (by simp only [kE, kT, kL, kC] <;> rfl) cl226 (w_laws_heldRegS xs[i].flags _ (by omega))) (by simp only [kP] <;> rfl) ?_
  refine EV ?_
  refine ON ?_
  refine Ok.seq ?_
  refine OQ ?_
  iterate 2 (refine EV ?_)
  refine ON ?_
  refine Ok.cond_false (by simp only [kE, kT, kL, kC] <;> first | rfl | (simp; done) | (simp; omega)) ?_
  refine Ok.skip ?_
  refine Ok.seq ?_
  refine Ok.seq ?_
  refine Ok.drawn 8 50 [] (by kernel_rfl) (by kernel_rfl) rfl ?_
  iterate 2 (refine SV ?_)
  refine SOps.ev tab_ok rfl (ev_idx (by simp only [kE, kT, kL, kC] <;> rfl) (by simp only [kE, kT, kL, kC] <;> rfl) (hg) (by simp only [kE, kT, kL, kC] <;> rfl)) (by simp only [kP] <;> rfl) ?_
  iterate 3 (refine SV ?_)
  refine SOps.S0 rfl (OpS.weakM rfl (by simp only [kE, kT, kL, kC] <;> rfl) (by simp only [kE, kT, kL, kC] <;> rfl) cl127 (w_laws_markText _ (by omega))) (by simp only [kP] <;> rfl) ?_
  refine SV ?_
  refine SOps.nil ?_
  refine TOps.nil ?_
  refine Ok.cond_false (by simp only [kE, kT, kL, kC] <;> first | rfl | (simp; done) | (simp; omega)) ?_
  refine Ok.skip ?_
  refine Ok.region ?_
  refine EV ?_
  refine OkOps.ev tab_ok rfl (by simp (disch := omega) only [kE, kT, kL, kC, wrap_add_one] <;> rfl) (by simp only [kP] <;> rfl) ?_
  refine EV ?_
  refine ON ?_
  refine Ok.region ?_
  refine EV ?_
  refine OkOps.ev tab_ok rfl (by simp (disch := omega) only [kE, kT, kL, kC, wrap_add_one] <;> rfl) (by simp only [kP] <;> rfl) ?_
  refine EV ?_
  refine ON ?_
  refine ⟨i + 1, ?_, rfl, rfl, by omega, by omega⟩
  refine ⟨?_, ?_, ?_, ?_, ?_, ?_, ?_, ?_, ?_, ?_, ?_, ?_, ?_, ?_, ?_, ?_, ?_, ?_, ?_, ?_, ?_, ?_, ?_, ?_, ?_, ?_, ?_, ?_, ?_, ?_, ?_, ?_, ?_, ?_, ?_, ?_, ?_, ?_, ?_, ?_, ?_, ?_, ?_, ?_, ?_, ?_, ?_, ?_, ?_, ?_, trivial⟩ <;> first | exact le_any _ | with_reducible exact le_rfl' _ | (first | (rw [wrap_add_one (by omega)]; exact le_rfl' _) | (refine le_eqm (congrArg (V.int .i64) (congrArg Nat.cast ?_)); rw [mn_next hi]; simp only [V.mnL, V.mn]; omega)) | exact le_rfl' _
 ·
  try simp only [bsimp] at hb2
  have hi : i = xs.length := by rw [mkLL_len, List.length_map] at hb2; omega
  subst hi
  rw [List.take_length]
  refine Ok.exit ?_
  refine OQ ?_
  iterate 2 (refine EV ?_)
  refine ON ?_
  refine Ok.ret ?_
  with_reducible repeat (first | refine thenQ_ret ?_ | refine blockQ_ret ?_)
  refine RT ?_
  rfl
theorem w_laws_heldBoxS (xs : List Box) (k : Nat) (hk : k + V.mnLL (xs.map cBox) ≤ 4611686018427387904) : Weak Tryz.prog 140 [.sl 0 7 0 (V.mkLL k (xs.map cBox)), .int .i64 (k : Int)] (.int .i64 ((k + V.mnLL (xs.map cBox) : Nat) : Int)) := by
 have hz := len_mk (f := cBox) (fun x => by simp only [cBox, V.mnL, V.mn]; omega) xs
 refine Weak.enter tab_ok Tryz.func140 rfl (.inr (by simp [V.labelsL, V.labels, V.labelsLL, mkLL_labels, zz, zf, zy, or_imp, forall_and])) (t := [.sl 0 7 0 (V.mkLL k (xs.map cBox)), .int .i64 (k : Int), .any, .any, .any, .any, .any, .any, .any, .any, .any, .any, .any, .any, .any, .any, .any, .any, .any, .any, .any, .any, .any, .any, .any, .any, .any, .any, .any, .any, .any, .any, .any, .any, .any, .any, .any, .any, .any, .any, .any, .any, .any, .any, .any, .any, .any, .any, .any, .any, .any, .any, .any, .any, .any, .any, .any, .any, .any, .any, .any, .any, .any, .any, .any, .any, .any, .any, .any, .any, .any, .any, .any, .any, .any, .any, .any, .any, .any]) rfl ?_
 refine OQ ?_
 refine EV ?_
 refine ON ?_
 refine Ok.seq ?_
 refine OQ ?_
 refine EV ?_
 refine ON ?_
 refine Ok.block ?_
 refine Ok.loopW (τ := Nat) (fun x => [(1, .int .i64 ((k + V.mnLL ((xs.take x).map cBox) : Nat) : Int)), (5, .int .i64 (x : Int))]) [4, 6, 7, 8, 9, 10, 11, 12, 13, 14, 15, 16, 17, 18, 19, 20, 21, 22, 23, 24, 25, 26, 27, 28, 29, 30, 31, 32, 33, 34, 35, 36, 37, 38, 39, 40, 41, 42, 43, 44, 45, 46, 47, 48, 49, 50, 51, 52, 53, 54, 55, 56, 57, 58, 59, 60, 61, 62, 63, 64, 65, 66, 67, 68, 69, 70, 71, 72, 73, 74, 75, 76, 77] (fun x => by simp only [kover] <;> rfl) (fun x => x ≤ xs.length) (fun x => xs.length - x) 0 (by refine ⟨?_, ?_, ?_, ?_, ?_, ?_, ?_, ?_, ?_, ?_, ?_, ?_, ?_, ?_, ?_, ?_, ?_, ?_, ?_, ?_, ?_, ?_, ?_, ?_, ?_, ?_, ?_, ?_, ?_, ?_, ?_, ?_, ?_, ?_, ?_, ?_, ?_, ?_, ?_, ?_, ?_, ?_, ?_, ?_, ?_, ?_, ?_, ?_, ?_, ?_, ?_, ?_, ?_, ?_, ?_, ?_, ?_, ?_, ?_, ?_, ?_, ?_, ?_, ?_, ?_, ?_, ?_, ?_, ?_, ?_, ?_, ?_, ?_, ?_, ?_, ?_, ?_, ?_, ?_, trivial⟩ <;> first | exact le_any _ | with_reducible exact le_rfl' _ | (exact le_rfl' _) | exact le_rfl' _) (Nat.zero_le _) ?_
 rintro i h1
 refine Ok.seq ?_
 refine OQ ?_
 iterate 4 (refine EV ?_)
 refine ON ?_
 refine Ok.cond (b := _) (by simp only [kE, kT, kL, kC] <;> rfl) (fun hb2 => ?_) (fun hb2 => ?_)
 ·
  try simp only [bsimp] at hb2
  have hi : i < xs.length := by rw [mkLL_len, List.length_map] at hb2; omega
  have hsp := mn_split (f := cBox) hi
  have hkk := hk
  rw [hsp] at hkk
  simp only [cBox, V.mnL, V.mn] at hkk
  have hg : (V.mkLL k (xs.map cBox))[i]? = some [.int .i64 (((k + V.mnLL ((xs.take i).map cBox)) : Nat) : Int), .str (markT ((k + V.mnLL ((xs.take i).map cBox)) + 1)), .int .i64 (((k + V.mnLL ((xs.take i).map cBox)) + 1 + 1 : Nat) : Int), .int .i64 (((k + V.mnLL ((xs.take i).map cBox)) + 1 + 1 + 1 : Nat) : Int), .int .i64 (((k + V.mnLL ((xs.take i).map cBox)) + 1 + 1 + 1 + 1 : Nat) : Int), .sl 0 4 0 (V.mkLL ((k + V.mnLL ((xs.take i).map cBox)) + 1 + 1 + 1 + 1 + 1) (xs[i].mails.map cMail)), .sl 0 1 0 (V.mkLL ((k + V.mnLL ((xs.take i).map cBox)) + 1 + 1 + 1 + 1 + 1 + V.mnLL (xs[i].mails.map cMail)) (xs[i].gone.map cZ))] := by rw [mk_get' hi]; simp only [cBox, V.mkL, V.mk, V.mn] <;> rfl
  refine Ok.skip ?_
  refine Ok.seq ?_
  refine Ok.block ?_
  refine Ok.seq ?_
  refine OQ ?_
  iterate 2 (refine EV ?_)
  refine OkOps.ev tab_ok rfl (ev_idx (by simp only [kE, kT, kL, kC] <;> rfl) (by simp only [kE, kT, kL, kC] <;> rfl) (hg) (by simp only [kE, kT, kL, kC] <;> rfl)) (by simp only [kP] <;> rfl) ?_
  iterate 4 (refine EV ?_)
  refine ON ?_
  refine Ok.cond_false (by simp only [kE, kT, kL, kC] <;> first | rfl | (simp; done) | (simp; omega)) ?_
  refine Ok.skip ?_
  refine OQ ?_
  refine EV ?_
  refine OkOps.ev tab_ok rfl (by simp (disch := omega) only [kE, kT, kL, kC, wrap_add_one] <;> rfl) (by simp only [kP] <;> rfl) ?_
  refine EV ?_
  refine ON ?_
  refine Ok.seq ?_
  refine Ok.seq ?_
  refine Ok.drawn 8 79 [] (by kernel_rfl) (by kernel_rfl) rfl ?_
  iterate 2 (refine SV ?_)
  refine SOps.ev tab_ok rfl (ev_idx (by simp only [kE, kT, kL, kC] <;> rfl) (by simp only [kE, kT, kL, kC] <;> rfl) (hg) (by simp only [kE, kT, kL, kC] <;> rfl)) (by simp only [kP] <;> rfl) ?_
  iterate 3 (refine SV ?_)
  refine SOps.S0 rfl (OpS.weakM rfl (by simp only [kE, kT, kL, kC] <;> rfl) (by simp only [kE, kT, kL, kC] <;> rfl) cl127 (w_laws_markText _ (by omega))) (by simp only [kP] <;> rfl) ?_
  refine SV ?_
  refine SOps.nil ?_
  refine TOps.nil ?_
  refine Ok.cond_false (by simp only [kE, kT, kL, kC] <;> first | rfl | (simp; done) | (simp; omega)) ?_
  refine Ok.skip ?_
  refine OQ ?_
  refine EV ?_
  refine OkOps.ev tab_ok rfl (by simp (disch := omega) only [kE, kT, kL, kC, wrap_add_one] <;> rfl) (by simp only [kP] <;> rfl) ?_
  refine EV ?_
  refine ON ?_
  refine Ok.seq ?_
  refine OQ ?_
  iterate 2 (refine EV ?_)
  refine OkOps.ev tab_ok rfl (ev_idx (by simp only [kE, kT, kL, kC] <;> rfl) (by simp only [kE, kT, kL, kC] <;> rfl) (hg) (by simp only [kE, kT, kL, kC] <;> rfl)) (by simp only [kP] <;> rfl) ?_
  iterate 5 (refine EV ?_)
  refine ON ?_
  refine Ok.cond_false (by simp only [kE, kT, kL, kC] <;> first | rfl | (simp; done) | (simp; omega)) ?_
  refine Ok.skip ?_
  refine OQ ?_
  refine EV ?_
  refine OkOps.ev tab_ok rfl (by simp (disch := omega) only [kE, kT, kL, kC, wrap_add_one] <;> rfl) (by simp only [kP] <;> rfl) ?_
  refine EV ?_
  refine ON ?_
  refine Ok.seq ?_
  refine OQ ?_
  iterate 2 (refine EV ?_)
  refine OkOps.ev tab_ok rfl (ev_idx (by simp only [kE, kT, kL, kC] <;> rfl) (by simp only [kE, kT, kL, kC] <;> rfl) (hg) (by simp only [kE, kT, kL, kC] <;> rfl)) (by simp only [kP] <;> rfl) ?_
  iterate 5 (refine EV ?_)
  refine ON ?_
  refine Ok.cond_false (by simp only [kE, kT, kL, kC] <;> first | rfl | (simp; done) | (simp; omega)) ?_
  refine Ok.skip ?_
  refine OQ ?_
  refine EV ?_
  refine OkOps.ev tab_ok rfl (by simp (disch := omega) only [kE, kT, kL, kC, wrap_add_one] <;> rfl) (by simp only [kP] <;> rfl) ?_
  refine EV ?_
  refine ON ?_
  refine Ok.seq ?_
  refine OQ ?_
  iterate 2 (refine EV ?_)
  refine OkOps.ev tab_ok rfl (ev_idx (by simp only [kE, kT, kL, kC] <;> rfl) (by simp only [kE, kT, kL, kC] <;> rfl) (hg) (by simp only [kE, kT, kL, kC] <;> rfl)) (by simp only [kP] <;> rfl) ?_
  iterate 4 (refine EV ?_)
  refine ON ?_
  refine Ok.cond_false (by simp only [kE, kT, kL, kC] <;> first | rfl | (simp; done) | (simp; omega)) ?_
  refine Ok.skip ?_
  refine OQ ?_
  refine EV ?_
  refine OkOps.ev tab_ok rfl (by simp (disch := omega) only [kE, kT, kL, kC, wrap_add_one] <;> rfl) (by simp only [kP] <;> rfl) ?_
  refine EV ?_
  refine ON ?_
  refine OQ ?_
  iterate 2 (refine EV ?_)
  refine OkOps.ev tab_ok rfl (ev_idx (by simp only [kE, kT, kL, kC] <;> rfl) (by simp only [kE, kT, kL, kC] <;> rfl) (hg) (by simp only [kE, kT, kL, kC] <;> rfl)) (by simp only [kP] <;> rfl) ?_
  iterate 3 (refine EV ?_)
  refine OkOps.S0 rfl (OpS.weak' rfl (by simp only [kE, kT, kL, kC] <;> rfl) (by simp only [kE, kT, kL, kC] <;> rfl) cl192 (w_laws_heldMailS xs[i].mails _ (by omega))) (by simp only [kP] <;> rfl) ?_
  refine EV ?_
  refine ON ?_
  refine Ok.seq ?_
  refine OQ ?_
  iterate 2 (refine EV ?_)
  refine ON ?_
  refine Ok.cond_false (by simp only [kE, kT, kL, kC] <;> first | rfl | (simp; done) | (simp; omega)) ?_
  refine Ok.skip ?_
  refine OQ ?_
  iterate 2 (refine EV ?_)
  refine OkOps.ev tab_ok rfl (ev_idx (by simp only [kE, kT, kL, kC] <;> rfl) (by simp only [kE, kT, kL, kC] <;> rfl) (hg) (by simp only [kE, kT, kL, kC] <;> rfl)) (by simp only [kP] <;> rfl) ?_
  iterate 3 (refine EV ?_)
  refine OkOps.S0 rfl (OpS.weak' rfl (by simp only [kE, kT, kL, kC] <;> rfl) (by simp only [kE, kT, kL, kC] <;> rfl) cl141 (w_laws_heldIntS xs[i].gone _ (by omega))) (by simp only [kP] <;> rfl) ?_
  refine EV ?_
  refine ON ?_
  refine OQ ?_
  iterate 2 (refine EV ?_)
  refine ON ?_
  refine Ok.cond_false (by simp only [kE, kT, kL, kC] <;> first | rfl | (simp; done) | (simp; omega)) ?_
  refine Ok.skip ?_
  refine Ok.region ?_
  refine EV ?_
  refine OkOps.ev tab_ok rfl (by simp (disch := omega) only [kE, kT, kL, kC, wrap_add_one] <;> rfl) (by simp only [kP] <;> rfl) ?_
  refine EV ?_
  refine ON ?_
  refine ⟨i + 1, ?_, rfl, rfl, by omega, by omega⟩
  refine ⟨?_, ?_, ?_, ?_, ?_, ?_, ?_, ?_, ?_, ?_, ?_, ?_, ?_, ?_, ?_, ?_, ?_, ?_, ?_, ?_, ?_, ?_, ?_, ?_, ?_, ?_, ?_, ?_, ?_, ?_, ?_, ?_, ?_, ?_, ?_, ?_, ?_, ?_, ?_, ?_, ?_, ?_, ?_, ?_, ?_, ?_, ?_, ?_, ?_, ?_, ?_, ?_, ?_, ?_, ?_, ?_, ?_, ?_, ?_, ?_, ?_, ?_, ?_, ?_, ?_, ?_, ?_, ?_, ?_, ?_, ?_, ?_, ?_, ?_, ?_, ?_, ?_, ?_, ?_, trivial⟩ <;> first | exact le_any _ | with_reducible exact le_rfl' _ | (first | (rw [wrap_add_one (by omega)]; exact le_rfl' _) | (refine le_eqm (congrArg (V.int .i64) (congrArg Nat.cast ?_)); rw [mn_next hi]; simp only [V.mnL, V.mn]; omega)) | exact le_rfl' _
 ·
  try simp only [bsimp] at hb2
  have hi : i = xs.length := by rw [mkLL_len, List.length_map] at hb2; omega
  subst hi
  rw [List.take_length]
  refine Ok.exit ?_
  refine OQ ?_
  iterate 2 (refine EV ?_)
  refine ON ?_
  refine Ok.ret ?_
  with_reducible repeat (first | refine thenQ_ret ?_ | refine blockQ_ret ?_)
  refine RT ?_
  rfl
theorem w_laws_heldServerS (xs : List Server) (k : Nat) (hk : k + V.mnLL (xs.map cServer) ≤ 4611686018427387904) : Weak Tryz.prog 86 [.sl 0 13 0 (V.mkLL k (xs.map cServer)), .int .i64 (k : Int)] (.int .i64 ((k + V.mnLL (xs.map cServer) : Nat) : Int)) := by
 have hz := len_mk (f := cServer) (fun x => by simp only [cServer, V.mnL, V.mn]; omega) xs
 refine Weak.enter tab_ok Tryz.func86 rfl (.inr (by simp [V.labelsL, V.labels, V.labelsLL, mkLL_labels, zz, zf, zy, or_imp, forall_and])) (t := [.sl 0 13 0 (V.mkLL k (xs.map cServer)), .int .i64 (k : Int), .any, .any, .any, .any, .any, .any, .any, .any, .any, .any, .any, .any, .any, .any, .any, .any, .any, .any, .any, .any, .any, .any, .any, .any, .any, .any, .any, .any, .any, .any, .any, .any, .any, .any, .any, .any, .any, .any, .any, .any, .any, .any, .any, .any, .any, .any, .any, .any, .any, .any, .any, .any, .any, .any, .any, .any, .any, .any, .any, .any, .any, .any, .any, .any, .any, .any, .any, .any, .any, .any, .any, .any, .any, .any, .any, .any, .any, .any, .any, .any, .any, .any, .any, .any, .any, .any, .any, .any, .any, .any, .any, .any, .any, .any, .any, .any, .any, .any, .any, .any, .any, .any, .any, .any, .any, .any, .any, .any, .any, .any, .any, .any, .any, .any, .any, .any, .any, .any, .any, .any, .any, .any, .any, .any, .any, .any, .any, .any, .any, .any, .any, .any, .any, .any, .any, .any, .any, .any, .any, .any, .any, .any, .any, .any, .any, .any, .any, .any, .any, .any, .any, .any, .any]) rfl ?_
 refine OQ ?_
 refine EV ?_
 refine ON ?_
 refine Ok.seq ?_
 refine OQ ?_
 refine EV ?_
 refine ON ?_
 refine Ok.block ?_
 refine Ok.loopW (τ := Nat) (fun x => [(1, .int .i64 ((k + V.mnLL ((xs.take x).map cServer) : Nat) : Int)), (5, .int .i64 (x : Int))]) [4, 6, 7, 8, 9, 10, 11, 12, 13, 14, 15, 16, 17, 18, 19, 20, 21, 22, 23, 24, 25, 26, 27, 28, 29, 30, 31, 32, 33, 34, 35, 36, 37, 38, 39, 40, 41, 42, 43, 44, 45, 46, 47, 48, 49, 50, 51, 52, 53, 54, 55, 56, 57, 58, 59, 60, 61, 62, 63, 64, 65, 66, 67, 68, 69, 70, 71, 72, 73, 74, 75, 76, 77, 78, 79, 80, 81, 82, 83, 84, 85, 86, 87, 88, 89, 90, 91, 92, 93, 94, 95, 96, 97, 98, 99, 100, 101, 102, 103, 104, 105, 106, 107, 108, 109, 110, 111, 112, 113, 114, 115, 116, 117, 118, 119, 120, 121, 122, 123, 124, 125, 126, 127, 128, 129, 130, 131, 132, 133, 134, 135, 136, 137, 138, 139, 140, 141, 142, 143, 144, 145, 146, 147, 148, 149, 150, 151, 152, 153] (fun x => by simp only [kover] <;> rfl) (fun x => x ≤ xs.length) (fun x => xs.length - x) 0 (by refine ⟨?_, ?_, ?_, ?_, ?_, ?_, ?_, ?_, ?_, ?_, ?_, ?_, ?_, ?_, ?_, ?_, ?_, ?_, ?_, ?_, ?_, ?_, ?_, ?_, ?_, ?_, ?_, ?_, ?_, ?_, ?_, ?_, ?_, ?_, ?_, ?_, ?_, ?_, ?_, ?_, ?_, ?_, ?_, ?_, ?_, ?_, ?_, ?_, ?_, ?_, ?_, ?_, ?_, ?_, ?_, ?_, ?_, ?_, ?_, ?_, ?_, ?_, ?_, ?_, ?_, ?_, ?_, ?_, ?_, ?_, ?_, ?_, ?_, ?_, ?_, ?_, ?_, ?_, ?_, ?_, ?_, ?_, ?_, ?_, ?_, ?_, ?_, ?_, ?_, ?_, ?_, ?_, ?_, ?_, ?_, ?_, ?_, ?_, ?_, ?_, ?_, ?_, ?_, ?_, ?_, ?_, ?_, ?_, ?_, ?_, ?_, ?_, ?_, ?_, ?_, ?_, ?_, ?_, ?_, ?_, ?_, ?_, ?_, ?_, ?_, ?_, ?_, ?_, ?_, ?_, ?_, ?_, ?_, ?_, ?_, ?_, ?_, ?_, ?_, ?_, ?_, ?_, ?_, ?_, ?_, ?_, ?_, ?_, ?_, ?_, ?_, ?_, ?_, ?_, ?_, trivial⟩ <;> first | exact le_any _ | with_reducible exact le_rfl' _ | (exact le_rfl' _) | exact le_rfl' _) (Nat.zero_le _) ?_
 rintro i h1
 refine Ok.seq ?_
 refine OQ ?_
 iterate 4 (refine EV ?_)
 refine ON ?_
 refine Ok.cond (b := _) (by simp only [kE, kT, kL, kC] <;> rfl) (fun hb2 => ?_) (fun hb2 => ?_)
 ·
  try simp only [bsimp] at hb2
  have hi : i < xs.length := by rw [mkLL_len, List.length_map] at hb2; omega
  have hsp := mn_split (f := cServer) hi
  have hkk := hk
  rw [hsp] at hkk
  simp only [cServer, V.mnL, V.mn] at hkk
  have hg : (V.mkLL k (xs.map cServer))[i]? = some [.int .i64 (((k + V.mnLL ((xs.take i).map cServer)) : Nat) : Int), .int .i64 (((k + V.mnLL ((xs.take i).map cServer)) + 1 : Nat) : Int), .sl 0 7 0 (V.mkLL ((k + V.mnLL ((xs.take i).map cServer)) + 1 + 1) (xs[i].kept.store.boxes.map cBox)), .sl 0 1 0 (V.mkLL ((k + V.mnLL ((xs.take i).map cServer)) + 1 + 1 + V.mnLL (xs[i].kept.store.boxes.map cBox)) (xs[i].kept.store.gone.map cZ)), .str (markT ((k + V.mnLL ((xs.take i).map cServer)) + 1 + 1 + V.mnLL (xs[i].kept.store.boxes.map cBox) + V.mnLL (xs[i].kept.store.gone.map cZ))), .int .i64 (((k + V.mnLL ((xs.take i).map cServer)) + 1 + 1 + V.mnLL (xs[i].kept.store.boxes.map cBox) + V.mnLL (xs[i].kept.store.gone.map cZ) + 1 : Nat) : Int), .str (markT ((k + V.mnLL ((xs.take i).map cServer)) + 1 + 1 + V.mnLL (xs[i].kept.store.boxes.map cBox) + V.mnLL (xs[i].kept.store.gone.map cZ) + 1 + 1)), .str (markT ((k + V.mnLL ((xs.take i).map cServer)) + 1 + 1 + V.mnLL (xs[i].kept.store.boxes.map cBox) + V.mnLL (xs[i].kept.store.gone.map cZ) + 1 + 1 + 1)), .bool (decide ((((k + V.mnLL ((xs.take i).map cServer)) + 1 + 1 + V.mnLL (xs[i].kept.store.boxes.map cBox) + V.mnLL (xs[i].kept.store.gone.map cZ) + 1 + 1 + 1 + 1 : Nat) : Int).tmod 3 = 0)), .bool (decide ((((k + V.mnLL ((xs.take i).map cServer)) + 1 + 1 + V.mnLL (xs[i].kept.store.boxes.map cBox) + V.mnLL (xs[i].kept.store.gone.map cZ) + 1 + 1 + 1 + 1 + 1 : Nat) : Int).tmod 3 = 0)), .int .i64 (((k + V.mnLL ((xs.take i).map cServer)) + 1 + 1 + V.mnLL (xs[i].kept.store.boxes.map cBox) + V.mnLL (xs[i].kept.store.gone.map cZ) + 1 + 1 + 1 + 1 + 1 + 1 : Nat) : Int), .sl 0 1 0 (V.mkLL ((k + V.mnLL ((xs.take i).map cServer)) + 1 + 1 + V.mnLL (xs[i].kept.store.boxes.map cBox) + V.mnLL (xs[i].kept.store.gone.map cZ) + 1 + 1 + 1 + 1 + 1 + 1 + 1) (xs[i].session.view.map cZ)), .bool (decide ((((k + V.mnLL ((xs.take i).map cServer)) + 1 + 1 + V.mnLL (xs[i].kept.store.boxes.map cBox) + V.mnLL (xs[i].kept.store.gone.map cZ) + 1 + 1 + 1 + 1 + 1 + 1 + 1 + V.mnLL (xs[i].session.view.map cZ) : Nat) : Int).tmod 3 = 0))] := by rw [mk_get' hi]; simp only [cServer, V.mkL, V.mk, V.mn] <;> rfl
  refine Ok.skip ?_
  refine Ok.seq ?_
  refine Ok.block ?_
  refine Ok.seq ?_
  refine OQ ?_
  iterate 2 (refine EV ?_)
  refine OkOps.ev tab_ok rfl (ev_idx (by simp only [kE, kT, kL, kC] <;> rfl) (by simp only [kE, kT, kL, kC] <;> rfl) (hg) (by simp only [kE, kT, kL, kC] <;> rfl)) (by simp only [kP] <;> rfl) ?_
  iterate 6 (refine EV ?_)
  refine ON ?_
  refine Ok.cond_false (by simp only [kE, kT, kL, kC] <;> first | rfl | (simp; done) | (simp; omega)) ?_
  refine Ok.skip ?_
  refine OQ ?_
  refine EV ?_
  refine OkOps.ev tab_ok rfl (by simp (disch := omega) only [kE, kT, kL, kC, wrap_add_one] <;> rfl) (by simp only [kP] <;> rfl) ?_
  refine EV ?_
  refine ON ?_
  refine Ok.seq ?_
  refine OQ ?_
  iterate 2 (refine EV ?_)
  refine OkOps.ev tab_ok rfl (ev_idx (by simp only [kE, kT, kL, kC] <;> rfl) (by simp only [kE, kT, kL, kC] <;> rfl) (hg) (by simp only [kE, kT, kL, kC] <;> rfl)) (by simp only [kP] <;> rfl) ?_
  iterate 6 (refine EV ?_)
  refine ON ?_
  refine Ok.cond_false (by simp only [kE, kT, kL, kC] <;> first | rfl | (simp; done) | (simp; omega)) ?_
  refine Ok.skip ?_
  refine OQ ?_
  refine EV ?_
  refine OkOps.ev tab_ok rfl (by simp (disch := omega) only [kE, kT, kL, kC, wrap_add_one] <;> rfl) (by simp only [kP] <;> rfl) ?_
  refine EV ?_
  refine ON ?_
  refine OQ ?_
  iterate 2 (refine EV ?_)
  refine OkOps.ev tab_ok rfl (ev_idx (by simp only [kE, kT, kL, kC] <;> rfl) (by simp only [kE, kT, kL, kC] <;> rfl) (hg) (by simp only [kE, kT, kL, kC] <;> rfl)) (by simp only [kP] <;> rfl) ?_
  iterate 5 (refine EV ?_)
  refine OkOps.S0 rfl (OpS.weak' rfl (by simp only [kE, kT, kL, kC] <;> rfl) (by simp only [kE, kT, kL, kC] <;> rfl) cl140 (w_laws_heldBoxS xs[i].kept.store.boxes _ (by omega))) (by simp only [kP] <;> rfl) ?_
  refine EV ?_
  refine ON ?_
  refine Ok.seq ?_
  refine OQ ?_
  iterate 2 (refine EV ?_)
  refine ON ?_
  refine Ok.cond_false (by simp only [kE, kT, kL, kC] <;> first | rfl | (simp; done) | (simp; omega)) ?_
  refine Ok.skip ?_
  refine OQ ?_
  iterate 2 (refine EV ?_)
  refine OkOps.ev tab_ok rfl (ev_idx (by simp only [kE, kT, kL, kC] <;> rfl) (by simp only [kE, kT, kL, kC] <;> rfl) (hg) (by simp only [kE, kT, kL, kC] <;> rfl)) (by simp only [kP] <;> rfl) ?_
  iterate 5 (refine EV ?_)
  refine OkOps.S0 rfl (OpS.weak' rfl (by simp only [kE, kT, kL, kC] <;> rfl) (by simp only [kE, kT, kL, kC] <;> rfl) cl141 (w_laws_heldIntS xs[i].kept.store.gone _ (by omega))) (by simp only [kP] <;> rfl) ?_
  refine EV ?_
  refine ON ?_
  refine Ok.seq ?_
  refine OQ ?_
  iterate 2 (refine EV ?_)
  refine ON ?_
  refine Ok.cond_false (by simp only [kE, kT, kL, kC] <;> first | rfl | (simp; done) | (simp; omega)) ?_
  refine Ok.skip ?_
  refine Ok.seq ?_
  refine Ok.seq ?_
  refine Ok.drawn 9 155 [] (by kernel_rfl) (by kernel_rfl) rfl ?_
  iterate 2 (refine SV ?_)
  refine SOps.ev tab_ok rfl (ev_idx (by simp only [kE, kT, kL, kC] <;> rfl) (by simp only [kE, kT, kL, kC] <;> rfl) (hg) (by simp only [kE, kT, kL, kC] <;> rfl)) (by simp only [kP] <;> rfl) ?_
  iterate 4 (refine SV ?_)
  refine SOps.S0 rfl (OpS.weakM rfl (by simp only [kE, kT, kL, kC] <;> rfl) (by simp only [kE, kT, kL, kC] <;> rfl) cl127 (w_laws_markText _ (by omega))) (by simp only [kP] <;> rfl) ?_
  refine SV ?_
  refine SOps.nil ?_
  refine TOps.nil ?_
  refine Ok.cond_false (by simp only [kE, kT, kL, kC] <;> first | rfl | (simp; done) | (simp; omega)) ?_
  refine Ok.skip ?_
  refine OQ ?_
  refine EV ?_
  refine OkOps.ev tab_ok rfl (by simp (disch := omega) only [kE, kT, kL, kC, wrap_add_one] <;> rfl) (by simp only [kP] <;> rfl) ?_
  refine EV ?_
  refine ON ?_
  refine Ok.seq ?_
  refine OQ ?_
  iterate 2 (refine EV ?_)
  refine OkOps.ev tab_ok rfl (ev_idx (by simp only [kE, kT, kL, kC] <;> rfl) (by simp only [kE, kT, kL, kC] <;> rfl) (hg) (by simp only [kE, kT, kL, kC] <;> rfl)) (by simp only [kP] <;> rfl) ?_
  iterate 5 (refine EV ?_)
  refine ON ?_
  refine Ok.cond_false (by simp only [kE, kT, kL, kC] <;> first | rfl | (simp; done) | (simp; omega)) ?_
  refine Ok.skip ?_
  refine OQ ?_
  refine EV ?_
  refine OkOps.ev tab_ok rfl (by simp (disch := omega) only [kE, kT, kL, kC, wrap_add_one] <;> rfl) (by simp only [kP] <;> rfl) ?_
  refine EV ?_
  refine ON ?_
  refine Ok.seq ?_
  refine Ok.seq ?_
  refine Ok.drawn 9 155 [] (by kernel_rfl) (by kernel_rfl) rfl ?_
  iterate 2 (refine SV ?_)
  refine SOps.ev tab_ok rfl (ev_idx (by simp only [kE, kT, kL, kC] <;> rfl) (by simp only [kE, kT, kL, kC] <;> rfl) (hg) (by simp only [kE, kT, kL, kC] <;> rfl)) (by simp only [kP] <;> rfl) ?_
  iterate 4 (refine SV ?_)
  refine SOps.S0 rfl (OpS.weakM rfl (by simp only [kE, kT, kL, kC] <;> rfl) (by simp only [kE, kT, kL, kC] <;> rfl) cl127 (w_laws_markText _ (by omega))) (by simp only [kP] <;> rfl) ?_
  refine SV ?_
  refine SOps.nil ?_
  refine TOps.nil ?_
  refine Ok.cond_false (by simp only [kE, kT, kL, kC] <;> first | rfl | (simp; done) | (simp; omega)) ?_
  refine Ok.skip ?_
  refine OQ ?_
  refine EV ?_
  refine OkOps.ev tab_ok rfl (by simp (disch := omega) only [kE, kT, kL, kC, wrap_add_one] <;> rfl) (by simp only [kP] <;> rfl) ?_
  refine EV ?_
  refine ON ?_
  refine Ok.seq ?_
  refine Ok.seq ?_
  refine Ok.drawn 9 155 [] (by kernel_rfl) (by kernel_rfl) rfl ?_
  iterate 2 (refine SV ?_)
  refine SOps.ev tab_ok rfl (ev_idx (by simp only [kE, kT, kL, kC] <;> rfl) (by simp only [kE, kT, kL, kC] <;> rfl) (hg) (by simp only [kE, kT, kL, kC] <;> rfl)) (by simp only [kP] <;> rfl) ?_
  iterate 4 (refine SV ?_)
  refine SOps.S0 rfl (OpS.weakM rfl (by simp only [kE, kT, kL, kC] <;> rfl) (by simp only [kE, kT, kL, kC] <;> rfl) cl127 (w_laws_markText _ (by omega))) (by simp only [kP] <;> rfl) ?_
  refine SV ?_
  refine SOps.nil ?_
  refine TOps.nil ?_
  refine Ok.cond_false (by simp only [kE, kT, kL, kC] <;> first | rfl | (simp; done) | (simp; omega)) ?_
  refine Ok.skip ?_
  refine OQ ?_
  refine EV ?_
  refine OkOps.ev tab_ok rfl (by simp (disch := omega) only [kE, kT, kL, kC, wrap_add_one] <;> rfl) (by simp only [kP] <;> rfl) ?_
  refine EV ?_
  refine ON ?_
  refine Ok.seq ?_
  refine OQ ?_
  iterate 2 (refine EV ?_)
  refine OkOps.ev tab_ok rfl (ev_idx (by simp only [kE, kT, kL, kC] <;> rfl) (by simp only [kE, kT, kL, kC] <;> rfl) (hg) (by simp only [kE, kT, kL, kC] <;> rfl)) (by simp only [kP] <;> rfl) ?_
  iterate 7 (refine EV ?_)
  refine ON ?_
  refine Ok.cond_false (by simp only [kE, kT, kL, kC] <;> first | rfl | (simp; done) | (simp; omega)) ?_
  refine Ok.skip ?_
  refine OQ ?_
  refine EV ?_
  refine OkOps.ev tab_ok rfl (by simp (disch := omega) only [kE, kT, kL, kC, wrap_add_one] <;> rfl) (by simp only [kP] <;> rfl) ?_
  refine EV ?_
  refine ON ?_
  refine Ok.seq ?_
  refine OQ ?_
  iterate 2 (refine EV ?_)
  refine OkOps.ev tab_ok rfl (ev_idx (by simp only [kE, kT, kL, kC] <;> rfl) (by simp only [kE, kT, kL, kC] <;> rfl) (hg) (by simp only [kE, kT, kL, kC] <;> rfl)) (by simp only [kP] <;> rfl) ?_
  iterate 7 (refine EV ?_)
  refine ON ?_
  refine Ok.cond_false (by simp only [kE, kT, kL, kC] <;> first | rfl | (simp; done) | (simp; omega)) ?_
  refine Ok.skip ?_
  refine OQ ?_
  refine EV ?_
  refine OkOps.ev tab_ok rfl (by simp (disch := omega) only [kE, kT, kL, kC, wrap_add_one] <;> rfl) (by simp only [kP] <;> rfl) ?_
  refine EV ?_
  refine ON ?_
  refine Ok.seq ?_
  refine OQ ?_
  iterate 2 (refine EV ?_)
  refine OkOps.ev tab_ok rfl (ev_idx (by simp only [kE, kT, kL, kC] <;> rfl) (by simp only [kE, kT, kL, kC] <;> rfl) (hg) (by simp only [kE, kT, kL, kC] <;> rfl)) (by simp only [kP] <;> rfl) ?_
  iterate 5 (refine EV ?_)
  refine ON ?_
  refine Ok.cond_false (by simp only [kE, kT, kL, kC] <;> first | rfl | (simp; done) | (simp; omega)) ?_
  refine Ok.skip ?_
  refine OQ ?_
  refine EV ?_
  refine OkOps.ev tab_ok rfl (by simp (disch := omega) only [kE, kT, kL, kC, wrap_add_one] <;> rfl) (by simp only [kP] <;> rfl) ?_
  refine EV ?_
  refine ON ?_
  refine OQ ?_
  iterate 2 (refine EV ?_)
  refine OkOps.ev tab_ok rfl (ev_idx (by simp only [kE, kT, kL, kC] <;> rfl) (by simp only [kE, kT, kL, kC] <;> rfl) (hg) (by simp only [kE, kT, kL, kC] <;> rfl)) (by simp only [kP] <;> rfl) ?_
  iterate 4 (refine EV ?_)
  refine OkOps.S0 rfl (OpS.weak' rfl (by simp only [kE, kT, kL, kC] <;> rfl) (by simp only [kE, kT, kL, kC] <;> rfl) cl141 (w_laws_heldIntS xs[i].session.view _ (by omega))) (by simp only [kP] <;> rfl) ?_
  refine EV ?_
  refine ON ?_
  refine Ok.seq ?_
  refine OQ ?_
  iterate 2 (refine EV ?_)
  refine ON ?_
  refine Ok.cond_false (by simp only [kE, kT, kL, kC] <;> first | rfl | (simp; done) | (simp; omega)) ?_
  refine Ok.skip ?_
  refine Ok.seq ?_
  refine OQ ?_
  iterate 2 (refine EV ?_)
  refine OkOps.ev tab_ok rfl (ev_idx (by simp only [kE, kT, kL, kC] <;> rfl) (by simp only [kE, kT, kL, kC] <;> rfl) (hg) (by simp only [kE, kT, kL, kC] <;> rfl)) (by simp only [kP] <;> rfl) ?_
  iterate 6 (refine EV ?_)
  refine ON ?_
  refine Ok.cond_false (by simp only [kE, kT, kL, kC] <;> first | rfl | (simp; done) | (simp; omega)) ?_
  refine Ok.skip ?_
  refine Ok.region ?_
  refine EV ?_
  refine OkOps.ev tab_ok rfl (by simp (disch := omega) only [kE, kT, kL, kC, wrap_add_one] <;> rfl) (by simp only [kP] <;> rfl) ?_
  refine EV ?_
  refine ON ?_
  refine Ok.region ?_
  refine EV ?_
  refine OkOps.ev tab_ok rfl (by simp (disch := omega) only [kE, kT, kL, kC, wrap_add_one] <;> rfl) (by simp only [kP] <;> rfl) ?_
  refine EV ?_
  refine ON ?_
  refine ⟨i + 1, ?_, rfl, rfl, by omega, by omega⟩
  refine ⟨?_, ?_, ?_, ?_, ?_, ?_, ?_, ?_, ?_, ?_, ?_, ?_, ?_, ?_, ?_, ?_, ?_, ?_, ?_, ?_, ?_, ?_, ?_, ?_, ?_, ?_, ?_, ?_, ?_, ?_, ?_, ?_, ?_, ?_, ?_, ?_, ?_, ?_, ?_, ?_, ?_, ?_, ?_, ?_, ?_, ?_, ?_, ?_, ?_, ?_, ?_, ?_, ?_, ?_, ?_, ?_, ?_, ?_, ?_, ?_, ?_, ?_, ?_, ?_, ?_, ?_, ?_, ?_, ?_, ?_, ?_, ?_, ?_, ?_, ?_, ?_, ?_, ?_, ?_, ?_, ?_, ?_, ?_, ?_, ?_, ?_, ?_, ?_, ?_, ?_, ?_, ?_, ?_, ?_, ?_, ?_, ?_, ?_, ?_, ?_, ?_, ?_, ?_, ?_, ?_, ?_, ?_, ?_, ?_, ?_, ?_, ?_, ?_, ?_, ?_, ?_, ?_, ?_, ?_, ?_, ?_, ?_, ?_, ?_, ?_, ?_, ?_, ?_, ?_, ?_, ?_, ?_, ?_, ?_, ?_, ?_, ?_, ?_, ?_, ?_, ?_, ?_, ?_, ?_, ?_, ?_, ?_, ?_, ?_, ?_, ?_, ?_, ?_, ?_, ?_, trivial⟩ <;> first | exact le_any _ | with_reducible exact le_rfl' _ | (first | (rw [wrap_add_one (by omega)]; exact le_rfl' _) | (refine le_eqm (congrArg (V.int .i64) (congrArg Nat.cast ?_)); rw [mn_next hi]; simp only [V.mnL, V.mn]; omega)) | exact le_rfl' _
 ·
  try simp only [bsimp] at hb2
  have hi : i = xs.length := by rw [mkLL_len, List.length_map] at hb2; omega
  subst hi
  rw [List.take_length]
  refine Ok.exit ?_
  refine OQ ?_
  iterate 2 (refine EV ?_)
  refine ON ?_
  refine Ok.ret ?_
  with_reducible repeat (first | refine thenQ_ret ?_ | refine blockQ_ret ?_)
  refine RT ?_
  rfl
theorem w_laws_heldSyncS (xs : List Sync) (k : Nat) (hk : k + V.mnLL (xs.map cSync) ≤ 4611686018427387904) : Weak Tryz.prog 87 [.sl 0 9 0 (V.mkLL k (xs.map cSync)), .int .i64 (k : Int)] (.int .i64 ((k + V.mnLL (xs.map cSync) : Nat) : Int)) := by
 have hz := len_mk (f := cSync) (fun x => by simp only [cSync, V.mnL, V.mn]; omega) xs
 refine Weak.enter tab_ok Tryz.func87 rfl (.inr (by simp [V.labelsL, V.labels, V.labelsLL, mkLL_labels, zz, zf, zy, or_imp, forall_and])) (t := [.sl 0 9 0 (V.mkLL k (xs.map cSync)), .int .i64 (k : Int), .any, .any, .any, .any, .any, .any, .any, .any, .any, .any, .any, .any, .any, .any, .any, .any, .any, .any, .any, .any, .any, .any, .any, .any, .any, .any, .any, .any, .any, .any, .any, .any, .any, .any, .any, .any, .any, .any, .any, .any, .any, .any, .any, .any, .any, .any, .any, .any, .any, .any, .any, .any, .any, .any, .any, .any, .any, .any, .any, .any, .any, .any, .any, .any, .any, .any, .any, .any, .any, .any, .any, .any, .any, .any, .any, .any, .any, .any, .any, .any, .any, .any, .any, .any, .any, .any, .any, .any, .any, .any, .any, .any, .any, .any, .any, .any, .any, .any, .any, .any]) rfl ?_
 refine OQ ?_
 refine EV ?_
 refine ON ?_
 refine Ok.seq ?_
 refine OQ ?_
 refine EV ?_
 refine ON ?_
 refine Ok.block ?_
 refine Ok.loopW (τ := Nat) (fun x => [(1, .int .i64 ((k + V.mnLL ((xs.take x).map cSync) : Nat) : Int)), (5, .int .i64 (x : Int))]) [4, 6, 7, 8, 9, 10, 11, 12, 13, 14, 15, 16, 17, 18, 19, 20, 21, 22, 23, 24, 25, 26, 27, 28, 29, 30, 31, 32, 33, 34, 35, 36, 37, 38, 39, 40, 41, 42, 43, 44, 45, 46, 47, 48, 49, 50, 51, 52, 53, 54, 55, 56, 57, 58, 59, 60, 61, 62, 63, 64, 65, 66, 67, 68, 69, 70, 71, 72, 73, 74, 75, 76, 77, 78, 79, 80, 81, 82, 83, 84, 85, 86, 87, 88, 89, 90, 91, 92, 93, 94, 95, 96, 97, 98, 99, 100] (fun x => by simp only [kover] <;> rfl) (fun x => x ≤ xs.length) (fun x => xs.length - x) 0 (by refine ⟨?_, ?_, ?_, ?_, ?_, ?_, ?_, ?_, ?_, ?_, ?_, ?_, ?_, ?_, ?_, ?_, ?_, ?_, ?_, ?_, ?_, ?_, ?_, ?_, ?_, ?_, ?_, ?_, ?_, ?_, ?_, ?_, ?_, ?_, ?_, ?_, ?_, ?_, ?_, ?_, ?_, ?_, ?_, ?_, ?_, ?_, ?_, ?_, ?_, ?_, ?_, ?_, ?_, ?_, ?_, ?_, ?_, ?_, ?_, ?_, ?_, ?_, ?_, ?_, ?_, ?_, ?_, ?_, ?_, ?_, ?_, ?_, ?_, ?_, ?_, ?_, ?_, ?_, ?_, ?_, ?_, ?_, ?_, ?_, ?_, ?_, ?_, ?_, ?_, ?_, ?_, ?_, ?_, ?_, ?_, ?_, ?_, ?_, ?_, ?_, ?_, ?_, trivial⟩ <;> first | exact le_any _ | with_reducible exact le_rfl' _ | (exact le_rfl' _) | exact le_rfl' _) (Nat.zero_le _) ?_
 rintro i h1
 refine Ok.seq ?_
 refine OQ ?_
 iterate 4 (refine EV ?_)
 refine ON ?_
 refine Ok.cond (b := _) (by simp only [kE, kT, kL, kC] <;> rfl) (fun hb2 => ?_) (fun hb2 => ?_)
 ·
  try simp only [bsimp] at hb2
  have hi : i < xs.length := by rw [mkLL_len, List.length_map] at hb2; omega
  have hsp := mn_split (f := cSync) hi
  have hkk := hk
  rw [hsp] at hkk
  simp only [cSync, V.mnL, V.mn] at hkk
  have hg : (V.mkLL k (xs.map cSync))[i]? = some [.int .i64 (((k + V.mnLL ((xs.take i).map cSync)) : Nat) : Int), .int .i64 (((k + V.mnLL ((xs.take i).map cSync)) + 1 : Nat) : Int), .sl 0 1 0 (V.mkLL ((k + V.mnLL ((xs.take i).map cSync)) + 1 + 1) (xs[i].link.way.map cS)), .int .i64 (((k + V.mnLL ((xs.take i).map cSync)) + 1 + 1 + V.mnLL (xs[i].link.way.map cS) : Nat) : Int), .int .i64 (((k + V.mnLL ((xs.take i).map cSync)) + 1 + 1 + V.mnLL (xs[i].link.way.map cS) + 1 : Nat) : Int), .int .i64 (((k + V.mnLL ((xs.take i).map cSync)) + 1 + 1 + V.mnLL (xs[i].link.way.map cS) + 1 + 1 : Nat) : Int), .sl 0 1 0 (V.mkLL ((k + V.mnLL ((xs.take i).map cSync)) + 1 + 1 + V.mnLL (xs[i].link.way.map cS) + 1 + 1 + 1) (xs[i].pieces.map cS)), .bool (decide ((((k + V.mnLL ((xs.take i).map cSync)) + 1 + 1 + V.mnLL (xs[i].link.way.map cS) + 1 + 1 + 1 + V.mnLL (xs[i].pieces.map cS) : Nat) : Int).tmod 3 = 0)), .bool (decide ((((k + V.mnLL ((xs.take i).map cSync)) + 1 + 1 + V.mnLL (xs[i].link.way.map cS) + 1 + 1 + 1 + V.mnLL (xs[i].pieces.map cS) + 1 : Nat) : Int).tmod 3 = 0))] := by rw [mk_get' hi]; simp only [cSync, V.mkL, V.mk, V.mn] <;> rfl
  refine Ok.skip ?_
  refine Ok.seq ?_
  refine Ok.block ?_
  refine Ok.seq ?_
  refine OQ ?_
  iterate 2 (refine EV ?_)
  refine OkOps.ev tab_ok rfl (ev_idx (by simp only [kE, kT, kL, kC] <;> rfl) (by simp only [kE, kT, kL, kC] <;> rfl) (hg) (by simp only [kE, kT, kL, kC] <;> rfl)) (by simp only [kP] <;> rfl) ?_
  iterate 4 (refine EV ?_)
  refine ON ?_
  refine Ok.cond_false (by simp only [kE, kT, kL, kC] <;> first | rfl | (simp; done) | (simp; omega)) ?_
  refine Ok.skip ?_
  refine OQ ?_
  refine EV ?_
  refine OkOps.ev tab_ok rfl (by simp (disch := omega) only [kE, kT, kL, kC, wrap_add_one] <;> rfl) (by simp only [kP] <;> rfl) ?_
  refine EV ?_
  refine ON ?_
  refine Ok.seq ?_
  refine OQ ?_
  iterate 2 (refine EV ?_)
  refine OkOps.ev tab_ok rfl (ev_idx (by simp only [kE, kT, kL, kC] <;> rfl) (by simp only [kE, kT, kL, kC] <;> rfl) (hg) (by simp only [kE, kT, kL, kC] <;> rfl)) (by simp only [kP] <;> rfl) ?_
  iterate 5 (refine EV ?_)
  refine ON ?_
  refine Ok.cond_false (by simp only [kE, kT, kL, kC] <;> first | rfl | (simp; done) | (simp; omega)) ?_
  refine Ok.skip ?_
  refine OQ ?_
  refine EV ?_
  refine OkOps.ev tab_ok rfl (by simp (disch := omega) only [kE, kT, kL, kC, wrap_add_one] <;> rfl) (by simp only [kP] <;> rfl) ?_
  refine EV ?_
  refine ON ?_
  refine OQ ?_
  iterate 2 (refine EV ?_)
  refine OkOps.ev tab_ok rfl (ev_idx (by simp only [kE, kT, kL, kC] <;> rfl) (by simp only [kE, kT, kL, kC] <;> rfl) (hg) (by simp only [kE, kT, kL, kC] <;> rfl)) (by simp only [kP] <;> rfl) ?_
  iterate 4 (refine EV ?_)
  refine OkOps.S0 rfl (OpS.weak' rfl (by simp only [kE, kT, kL, kC] <;> rfl) (by simp only [kE, kT, kL, kC] <;> rfl) cl68 (w_laws_heldStringS xs[i].link.way _ (by omega))) (by simp only [kP] <;> rfl) ?_
  refine EV ?_
  refine ON ?_
  refine Ok.seq ?_
  refine OQ ?_
  iterate 2 (refine EV ?_)
  refine ON ?_
  refine Ok.cond_false (by simp only [kE, kT, kL, kC] <;> first | rfl | (simp; done) | (simp; omega)) ?_
  refine Ok.skip ?_
  refine Ok.seq ?_
  refine OQ ?_
  iterate 2 (refine EV ?_)
  refine OkOps.ev tab_ok rfl (ev_idx (by simp only [kE, kT, kL, kC] <;> rfl) (by simp only [kE, kT, kL, kC] <;> rfl) (hg) (by simp only [kE, kT, kL, kC] <;> rfl)) (by simp only [kP] <;> rfl) ?_
  iterate 5 (refine EV ?_)
  refine ON ?_
  refine Ok.cond_false (by simp only [kE, kT, kL, kC] <;> first | rfl | (simp; done) | (simp; omega)) ?_
  refine Ok.skip ?_
  refine OQ ?_
  refine EV ?_
  refine OkOps.ev tab_ok rfl (by simp (disch := omega) only [kE, kT, kL, kC, wrap_add_one] <;> rfl) (by simp only [kP] <;> rfl) ?_
  refine EV ?_
  refine ON ?_
  refine Ok.seq ?_
  refine OQ ?_
  iterate 2 (refine EV ?_)
  refine OkOps.ev tab_ok rfl (ev_idx (by simp only [kE, kT, kL, kC] <;> rfl) (by simp only [kE, kT, kL, kC] <;> rfl) (hg) (by simp only [kE, kT, kL, kC] <;> rfl)) (by simp only [kP] <;> rfl) ?_
  iterate 5 (refine EV ?_)
  refine ON ?_
  refine Ok.cond_false (by simp only [kE, kT, kL, kC] <;> first | rfl | (simp; done) | (simp; omega)) ?_
  refine Ok.skip ?_
  refine OQ ?_
  refine EV ?_
  refine OkOps.ev tab_ok rfl (by simp (disch := omega) only [kE, kT, kL, kC, wrap_add_one] <;> rfl) (by simp only [kP] <;> rfl) ?_
  refine EV ?_
  refine ON ?_
  refine Ok.seq ?_
  refine OQ ?_
  iterate 2 (refine EV ?_)
  refine OkOps.ev tab_ok rfl (ev_idx (by simp only [kE, kT, kL, kC] <;> rfl) (by simp only [kE, kT, kL, kC] <;> rfl) (hg) (by simp only [kE, kT, kL, kC] <;> rfl)) (by simp only [kP] <;> rfl) ?_
  iterate 4 (refine EV ?_)
  refine ON ?_
  refine Ok.cond_false (by simp only [kE, kT, kL, kC] <;> first | rfl | (simp; done) | (simp; omega)) ?_
  refine Ok.skip ?_
  refine OQ ?_
  refine EV ?_
  refine OkOps.ev tab_ok rfl (by simp (disch := omega) only [kE, kT, kL, kC, wrap_add_one] <;> rfl) (by simp only [kP] <;> rfl) ?_
  refine EV ?_
  refine ON ?_
  refine OQ ?_
  iterate 2 (refine EV ?_)
  refine OkOps.ev tab_ok rfl (ev_idx (by simp only [kE, kT, kL, kC] <;> rfl) (by simp only [kE, kT, kL, kC] <;> rfl) (hg) (by simp only [kE, kT, kL, kC] <;> rfl)) (by simp only [kP] <;> rfl) ?_
  iterate 3 (refine EV ?_)
  refine OkOps.S0 rfl (OpS.weak' rfl (by simp only [kE, kT, kL, kC] <;> rfl) (by simp only [kE, kT, kL, kC] <;> rfl) cl68 (w_laws_heldStringS xs[i].pieces _ (by omega))) (by simp only [kP] <;> rfl) ?_
  refine EV ?_
  refine ON ?_
  refine Ok.seq ?_
  refine OQ ?_
  iterate 2 (refine EV ?_)
  refine ON ?_
  refine Ok.cond_false (by simp only [kE, kT, kL, kC] <;> first | rfl | (simp; done) | (simp; omega)) ?_
  refine Ok.skip ?_
  refine Ok.seq ?_
  refine OQ ?_
  iterate 2 (refine EV ?_)
  refine OkOps.ev tab_ok rfl (ev_idx (by simp only [kE, kT, kL, kC] <;> rfl) (by simp only [kE, kT, kL, kC] <;> rfl) (hg) (by simp only [kE, kT, kL, kC] <;> rfl)) (by simp only [kP] <;> rfl) ?_
  iterate 6 (refine EV ?_)
  refine ON ?_
  refine Ok.cond_false (by simp only [kE, kT, kL, kC] <;> first | rfl | (simp; done) | (simp; omega)) ?_
  refine Ok.skip ?_
  refine OQ ?_
  refine EV ?_
  refine OkOps.ev tab_ok rfl (by simp (disch := omega) only [kE, kT, kL, kC, wrap_add_one] <;> rfl) (by simp only [kP] <;> rfl) ?_
  refine EV ?_
  refine ON ?_
  refine Ok.seq ?_
  refine OQ ?_
  iterate 2 (refine EV ?_)
  refine OkOps.ev tab_ok rfl (ev_idx (by simp only [kE, kT, kL, kC] <;> rfl) (by simp only [kE, kT, kL, kC] <;> rfl) (hg) (by simp only [kE, kT, kL, kC] <;> rfl)) (by simp only [kP] <;> rfl) ?_
  iterate 6 (refine EV ?_)
  refine ON ?_
  refine Ok.cond_false (by simp only [kE, kT, kL, kC] <;> first | rfl | (simp; done) | (simp; omega)) ?_
  refine Ok.skip ?_
  refine Ok.region ?_
  refine EV ?_
  refine OkOps.ev tab_ok rfl (by simp (disch := omega) only [kE, kT, kL, kC, wrap_add_one] <;> rfl) (by simp only [kP] <;> rfl) ?_
  refine EV ?_
  refine ON ?_
  refine Ok.region ?_
  refine EV ?_
  refine OkOps.ev tab_ok rfl (by simp (disch := omega) only [kE, kT, kL, kC, wrap_add_one] <;> rfl) (by simp only [kP] <;> rfl) ?_
  refine EV ?_
  refine ON ?_
  refine ⟨i + 1, ?_, rfl, rfl, by omega, by omega⟩
  refine ⟨?_, ?_, ?_, ?_, ?_, ?_, ?_, ?_, ?_, ?_, ?_, ?_, ?_, ?_, ?_, ?_, ?_, ?_, ?_, ?_, ?_, ?_, ?_, ?_, ?_, ?_, ?_, ?_, ?_, ?_, ?_, ?_, ?_, ?_, ?_, ?_, ?_, ?_, ?_, ?_, ?_, ?_, ?_, ?_, ?_, ?_, ?_, ?_, ?_, ?_, ?_, ?_, ?_, ?_, ?_, ?_, ?_, ?_, ?_, ?_, ?_, ?_, ?_, ?_, ?_, ?_, ?_, ?_, ?_, ?_, ?_, ?_, ?_, ?_, ?_, ?_, ?_, ?_, ?_, ?_, ?_, ?_, ?_, ?_, ?_, ?_, ?_, ?_, ?_, ?_, ?_, ?_, ?_, ?_, ?_, ?_, ?_, ?_, ?_, ?_, ?_, ?_, trivial⟩ <;> first | exact le_any _ | with_reducible exact le_rfl' _ | (first | (rw [wrap_add_one (by omega)]; exact le_rfl' _) | (refine le_eqm (congrArg (V.int .i64) (congrArg Nat.cast ?_)); rw [mn_next hi]; simp only [V.mnL, V.mn]; omega)) | exact le_rfl' _
 ·
  try simp only [bsimp] at hb2
  have hi : i = xs.length := by rw [mkLL_len, List.length_map] at hb2; omega
  subst hi
  rw [List.take_length]
  refine Ok.exit ?_
  refine OQ ?_
  iterate 2 (refine EV ?_)
  refine ON ?_
  refine Ok.ret ?_
  with_reducible repeat (first | refine thenQ_ret ?_ | refine blockQ_ret ?_)
  refine RT ?_
  rfl
theorem w_laws_heldLetterS (xs : List Letter) (k : Nat) (hk : k + V.mnLL (xs.map cLetter) ≤ 4611686018427387904) : Weak Tryz.prog 88 [.sl 0 2 0 (V.mkLL k (xs.map cLetter)), .int .i64 (k : Int)] (.int .i64 ((k + V.mnLL (xs.map cLetter) : Nat) : Int)) := by
 have hz := len_mk (f := cLetter) (fun x => by simp only [cLetter, V.mnL, V.mn]; omega) xs
 refine Weak.enter tab_ok Tryz.func88 rfl (.inr (by simp [V.labelsL, V.labels, V.labelsLL, mkLL_labels, zz, zf, zy, or_imp, forall_and])) (t := [.sl 0 2 0 (V.mkLL k (xs.map cLetter)), .int .i64 (k : Int), .any, .any, .any, .any, .any, .any, .any, .any, .any, .any, .any, .any, .any, .any, .any, .any, .any, .any, .any, .any, .any, .any, .any, .any, .any, .any, .any, .any, .any, .any]) rfl ?_
 refine OQ ?_
 refine EV ?_
 refine ON ?_
 refine Ok.seq ?_
 refine OQ ?_
 refine EV ?_
 refine ON ?_
 refine Ok.block ?_
 refine Ok.loopW (τ := Nat) (fun x => [(1, .int .i64 ((k + V.mnLL ((xs.take x).map cLetter) : Nat) : Int)), (5, .int .i64 (x : Int))]) [4, 6, 7, 8, 9, 10, 11, 12, 13, 14, 15, 16, 17, 18, 19, 20, 21, 22, 23, 24, 25, 26, 27, 28, 29, 30] (fun x => by simp only [kover] <;> rfl) (fun x => x ≤ xs.length) (fun x => xs.length - x) 0 (by refine ⟨?_, ?_, ?_, ?_, ?_, ?_, ?_, ?_, ?_, ?_, ?_, ?_, ?_, ?_, ?_, ?_, ?_, ?_, ?_, ?_, ?_, ?_, ?_, ?_, ?_, ?_, ?_, ?_, ?_, ?_, ?_, ?_, trivial⟩ <;> first | exact le_any _ | with_reducible exact le_rfl' _ | (exact le_rfl' _) | exact le_rfl' _) (Nat.zero_le _) ?_
 rintro i h1
 refine Ok.seq ?_
 refine OQ ?_
 iterate 4 (refine EV ?_)
 refine ON ?_
 refine Ok.cond (b := _) (by simp only [kE, kT, kL, kC] <;> rfl) (fun hb2 => ?_) (fun hb2 => ?_)
 ·
  try simp only [bsimp] at hb2
  have hi : i < xs.length := by rw [mkLL_len, List.length_map] at hb2; omega
  have hsp := mn_split (f := cLetter) hi
  have hkk := hk
  rw [hsp] at hkk
  simp only [cLetter, V.mnL, V.mn] at hkk
  have hg : (V.mkLL k (xs.map cLetter))[i]? = some [.int .i64 (((k + V.mnLL ((xs.take i).map cLetter)) : Nat) : Int), .str (markT ((k + V.mnLL ((xs.take i).map cLetter)) + 1))] := by rw [mk_get' hi]; simp only [cLetter, V.mkL, V.mk, V.mn] <;> rfl
  refine Ok.skip ?_
  refine Ok.seq ?_
  refine Ok.block ?_
  refine Ok.seq ?_
  refine OQ ?_
  iterate 2 (refine EV ?_)
  refine OkOps.ev tab_ok rfl (ev_idx (by simp only [kE, kT, kL, kC] <;> rfl) (by simp only [kE, kT, kL, kC] <;> rfl) (hg) (by simp only [kE, kT, kL, kC] <;> rfl)) (by simp only [kP] <;> rfl) ?_
  iterate 4 (refine EV ?_)
  refine ON ?_
  refine Ok.cond_false (by simp only [kE, kT, kL, kC] <;> first | rfl | (simp; done) | (simp; omega)) ?_
  refine Ok.skip ?_
  refine OQ ?_
  refine EV ?_
  refine OkOps.ev tab_ok rfl (by simp (disch := omega) only [kE, kT, kL, kC, wrap_add_one] <;> rfl) (by simp only [kP] <;> rfl) ?_
  refine EV ?_
  refine ON ?_
  refine Ok.seq ?_
  refine Ok.seq ?_
  refine Ok.drawn 8 32 [] (by kernel_rfl) (by kernel_rfl) rfl ?_
  iterate 2 (refine SV ?_)
  refine SOps.ev tab_ok rfl (ev_idx (by simp only [kE, kT, kL, kC] <;> rfl) (by simp only [kE, kT, kL, kC] <;> rfl) (hg) (by simp only [kE, kT, kL, kC] <;> rfl)) (by simp only [kP] <;> rfl) ?_
  iterate 3 (refine SV ?_)
  refine SOps.S0 rfl (OpS.weakM rfl (by simp only [kE, kT, kL, kC] <;> rfl) (by simp only [kE, kT, kL, kC] <;> rfl) cl127 (w_laws_markText _ (by omega))) (by simp only [kP] <;> rfl) ?_
  refine SV ?_
  refine SOps.nil ?_
  refine TOps.nil ?_
  refine Ok.cond_false (by simp only [kE, kT, kL, kC] <;> first | rfl | (simp; done) | (simp; omega)) ?_
  refine Ok.skip ?_
  refine Ok.region ?_
  refine EV ?_
  refine OkOps.ev tab_ok rfl (by simp (disch := omega) only [kE, kT, kL, kC, wrap_add_one] <;> rfl) (by simp only [kP] <;> rfl) ?_
  refine EV ?_
  refine ON ?_
  refine Ok.region ?_
  refine EV ?_
  refine OkOps.ev tab_ok rfl (by simp (disch := omega) only [kE, kT, kL, kC, wrap_add_one] <;> rfl) (by simp only [kP] <;> rfl) ?_
  refine EV ?_
  refine ON ?_
  refine ⟨i + 1, ?_, rfl, rfl, by omega, by omega⟩
  refine ⟨?_, ?_, ?_, ?_, ?_, ?_, ?_, ?_, ?_, ?_, ?_, ?_, ?_, ?_, ?_, ?_, ?_, ?_, ?_, ?_, ?_, ?_, ?_, ?_, ?_, ?_, ?_, ?_, ?_, ?_, ?_, ?_, trivial⟩ <;> first | exact le_any _ | with_reducible exact le_rfl' _ | (first | (rw [wrap_add_one (by omega)]; exact le_rfl' _) | (refine le_eqm (congrArg (V.int .i64) (congrArg Nat.cast ?_)); rw [mn_next hi]; simp only [V.mnL, V.mn]; omega)) | exact le_rfl' _
 ·
  try simp only [bsimp] at hb2
  have hi : i = xs.length := by rw [mkLL_len, List.length_map] at hb2; omega
  subst hi
  rw [List.take_length]
  refine Ok.exit ?_
  refine OQ ?_
  iterate 2 (refine EV ?_)
  refine ON ?_
  refine Ok.ret ?_
  with_reducible repeat (first | refine thenQ_ret ?_ | refine blockQ_ret ?_)
  refine RT ?_
  rfl
end Go.Proofs.YtjhfabimacljhaaGreat.K

/- Walks: marks that records still hold. Printed by w2.py. -/
namespace Go.Proofs.YtjhfabimacljhaaGreat.K
open Go Go.RowKit
set_option linter.unusedVariables false
set_option linter.unusedSimpArgs false
set_option maxHeartbeats 4000000
set_option maxRecDepth 20000
theorem w_laws_heldPair (x : Pair) (k : Nat) (hk : k + V.mnLL (x.servers.map cServer) + V.mnLL (x.syncs.map cSync) + V.mnLL (x.net.map cLetter) ≤ 4611686018427387904) : Weak Tryz.prog 23 [.agg [.sl 0 13 0 (V.mkLL (k) (x.servers.map cServer)), .sl 0 9 0 (V.mkLL (k + V.mnLL (x.servers.map cServer)) (x.syncs.map cSync)), .sl 0 2 0 (V.mkLL (k + V.mnLL (x.servers.map cServer) + V.mnLL (x.syncs.map cSync)) (x.net.map cLetter)), .int .i64 x.epoch], .int .i64 (k : Int)] (.int .i64 ((k + V.mnLL (x.servers.map cServer) + V.mnLL (x.syncs.map cSync) + V.mnLL (x.net.map cLetter) : Nat) : Int)) := by
 refine Weak.enter tab_ok Tryz.func23 rfl (.inr (by simp [V.labelsL, V.labels, V.labelsLL, mkLL_labels, zz, zf, zy, or_imp, forall_and])) (t := [.agg [.sl 0 13 0 (V.mkLL (k) (x.servers.map cServer)), .sl 0 9 0 (V.mkLL (k + V.mnLL (x.servers.map cServer)) (x.syncs.map cSync)), .sl 0 2 0 (V.mkLL (k + V.mnLL (x.servers.map cServer) + V.mnLL (x.syncs.map cSync)) (x.net.map cLetter)), .int .i64 x.epoch], .int .i64 (k : Int), .any, .any, .any, .any, .any, .any, .any, .any, .any, .any, .any, .any, .any, .any, .any, .any, .any, .any, .any, .any, .any, .any]) rfl ?_
 refine OQ ?_
 iterate 2 (refine EV ?_)
 refine ON ?_
 refine OQ ?_
 iterate 3 (refine EV ?_)
 refine OkOps.S0 rfl (OpS.weak' rfl (by simp only [kE, kT, kL, kC] <;> rfl) (by simp only [kE, kT, kL, kC] <;> rfl) cl86 (w_laws_heldServerS x.servers _ (by omega))) (by simp only [kP] <;> rfl) ?_
 refine EV ?_
 refine ON ?_
 refine Ok.seq ?_
 refine OQ ?_
 iterate 2 (refine EV ?_)
 refine ON ?_
 refine Ok.cond_false (by simp only [kE, kT, kL, kC] <;> first | rfl | (simp; done) | (simp; omega)) ?_
 refine Ok.skip ?_
 refine OQ ?_
 iterate 3 (refine EV ?_)
 refine OkOps.S0 rfl (OpS.weak' rfl (by simp only [kE, kT, kL, kC] <;> rfl) (by simp only [kE, kT, kL, kC] <;> rfl) cl87 (w_laws_heldSyncS x.syncs _ (by omega))) (by simp only [kP] <;> rfl) ?_
 refine EV ?_
 refine ON ?_
 refine Ok.seq ?_
 refine OQ ?_
 iterate 2 (refine EV ?_)
 refine ON ?_
 refine Ok.cond_false (by simp only [kE, kT, kL, kC] <;> first | rfl | (simp; done) | (simp; omega)) ?_
 refine Ok.skip ?_
 refine OQ ?_
 iterate 3 (refine EV ?_)
 refine OkOps.S0 rfl (OpS.weak' rfl (by simp only [kE, kT, kL, kC] <;> rfl) (by simp only [kE, kT, kL, kC] <;> rfl) cl88 (w_laws_heldLetterS x.net _ (by omega))) (by simp only [kP] <;> rfl) ?_
 refine EV ?_
 refine ON ?_
 refine Ok.seq ?_
 refine OQ ?_
 iterate 2 (refine EV ?_)
 refine ON ?_
 refine Ok.cond_false (by simp only [kE, kT, kL, kC] <;> first | rfl | (simp; done) | (simp; omega)) ?_
 refine Ok.skip ?_
 refine OQ ?_
 iterate 2 (refine EV ?_)
 refine ON ?_
 refine Ok.ret ?_
 with_reducible repeat (first | refine thenQ_ret ?_ | refine blockQ_ret ?_)
 refine RT ?_
 rfl
end Go.Proofs.YtjhfabimacljhaaGreat.K

/- Walks: sizes, copies, comparisons of all data. Printed by w2.py. -/
namespace Go.Proofs.YtjhfabimacljhaaGreat.K
open Go Go.RowKit
set_option linter.unusedVariables false
set_option linter.unusedSimpArgs false
set_option maxHeartbeats 4000000
set_option maxRecDepth 20000
theorem w_laws_szRegS (a : List Reg) (left : Int) : Weak Tryz.prog 240 [.sl 0 3 0 (a.map cReg), .int .i64 left] (.int .i64 (szLen a.length left)) := by
 refine Weak.enter tab_ok Tryz.func240 rfl (.inr (by simp [V.labelsL, V.labels, V.labelsLL, zz, zf, zy, or_imp, forall_and])) (t := [.sl 0 3 0 (a.map cReg), .int .i64 left, .any, .any, .any, .any, .any, .any, .any, .any, .any, .any]) rfl ?_
 refine OQ ?_
 refine EV ?_
 refine ON ?_
 refine OQ ?_
 iterate 5 (refine EV ?_)
 refine ON ?_
 refine Ok.seq ?_
 refine OQ ?_
 iterate 2 (refine EV ?_)
 refine ON ?_
 refine Ok.cond (b := _) (by simp only [kE, kT, kL, kC] <;> rfl) (fun hb2 => ?_) (fun hb2 => ?_)
 ·
  try simp only [bsimp] at hb2
  refine OQ ?_
  refine EV ?_
  refine ON ?_
  refine Ok.ret ?_
  with_reducible repeat (first | refine thenQ_ret ?_ | refine blockQ_ret ?_)
  refine RT ?_
  first | (simp only [szLen, if_pos hb2]; rfl) | (simp only [szLen, if_neg hb2]; rfl)
 ·
  try simp only [bsimp] at hb2
  refine Ok.skip ?_
  refine OQ ?_
  iterate 2 (refine EV ?_)
  refine ON ?_
  refine Ok.ret ?_
  with_reducible repeat (first | refine thenQ_ret ?_ | refine blockQ_ret ?_)
  refine RT ?_
  first | (simp only [szLen, if_pos hb2]; rfl) | (simp only [szLen, if_neg hb2]; rfl)
theorem w_laws_szIntS (a : List Int) (left : Int) : Weak Tryz.prog 49 [.sl 0 1 0 (a.map cZ), .int .i64 left] (.int .i64 (szLen a.length left)) := by
 refine Weak.enter tab_ok Tryz.func49 rfl (.inr (by simp [V.labelsL, V.labels, V.labelsLL, zz, zf, zy, or_imp, forall_and])) (t := [.sl 0 1 0 (a.map cZ), .int .i64 left, .any, .any, .any, .any, .any, .any, .any, .any, .any, .any]) rfl ?_
 refine OQ ?_
 refine EV ?_
 refine ON ?_
 refine OQ ?_
 iterate 5 (refine EV ?_)
 refine ON ?_
 refine Ok.seq ?_
 refine OQ ?_
 iterate 2 (refine EV ?_)
 refine ON ?_
 refine Ok.cond (b := _) (by simp only [kE, kT, kL, kC] <;> rfl) (fun hb2 => ?_) (fun hb2 => ?_)
 ·
  try simp only [bsimp] at hb2
  refine OQ ?_
  refine EV ?_
  refine ON ?_
  refine Ok.ret ?_
  with_reducible repeat (first | refine thenQ_ret ?_ | refine blockQ_ret ?_)
  refine RT ?_
  first | (simp only [szLen, if_pos hb2]; rfl) | (simp only [szLen, if_neg hb2]; rfl)
 ·
  try simp only [bsimp] at hb2
  refine Ok.skip ?_
  refine OQ ?_
  iterate 2 (refine EV ?_)
  refine ON ?_
  refine Ok.ret ?_
  with_reducible repeat (first | refine thenQ_ret ?_ | refine blockQ_ret ?_)
  refine RT ?_
  first | (simp only [szLen, if_pos hb2]; rfl) | (simp only [szLen, if_neg hb2]; rfl)
theorem w_laws_szStringS (a : List Str) (left : Int) : Weak Tryz.prog 181 [.sl 0 1 0 (a.map cS), .int .i64 left] (.int .i64 (szStrs a left)) := by
 refine Weak.len 0 rfl fun ha => ?_
 refine Weak.enter tab_ok Tryz.func181 rfl (.inr (by simp [V.labelsL, V.labels, V.labelsLL, zz, zf, zy, or_imp, forall_and])) (t := [.sl 0 1 0 (a.map cS), .int .i64 left, .any, .any, .any, .any, .any, .any, .any, .any, .any, .any, .any, .any, .any, .any, .any, .any, .any, .any, .any, .any, .any, .any, .any, .any, .any, .any]) rfl ?_
 refine OQ ?_
 refine EV ?_
 refine ON ?_
 refine OQ ?_
 iterate 5 (refine EV ?_)
 refine ON ?_
 refine Ok.seq ?_
 refine OQ ?_
 iterate 2 (refine EV ?_)
 refine ON ?_
 refine Ok.cond (b := _) (by simp only [kE, kT, kL, kC] <;> rfl) (fun hb2 => ?_) (fun hb2 => ?_)
 ·
  try simp only [bsimp] at hb2
  refine OQ ?_
  refine EV ?_
  refine ON ?_
  refine Ok.ret ?_
  with_reducible repeat (first | refine thenQ_ret ?_ | refine blockQ_ret ?_)
  refine RT ?_
  simp only [szStrs, if_pos hb2]; rfl
 ·
  try simp only [bsimp] at hb2
  refine Ok.skip ?_
  refine Ok.seq ?_
  refine OQ ?_
  refine EV ?_
  refine ON ?_
  refine Ok.block ?_
  refine Ok.loopW (τ := Nat × Int) (fun x => [(1, .int .i64 x.2), (5, .int .i64 (x.1 : Int))]) [4, 12, 13, 14, 15, 16, 17, 18, 19, 20, 21, 22, 23, 24, 25, 26] (fun x => by simp only [kover] <;> rfl) (fun x => x.1 ≤ a.length ∧ szLoop (a.drop x.1) x.2 = szLoop a (IntKind.i64.wrap (left - a.length))) (fun x => a.length - x.1) (0, IntKind.i64.wrap (left - a.length)) (by refine ⟨?_, ?_, ?_, ?_, ?_, ?_, ?_, ?_, ?_, ?_, ?_, ?_, ?_, ?_, ?_, ?_, ?_, ?_, ?_, ?_, ?_, ?_, ?_, ?_, ?_, ?_, ?_, ?_, trivial⟩ <;> first | exact le_any _ | with_reducible exact le_rfl' _ | (exact le_rfl' _) | exact le_rfl' _) (⟨Nat.zero_le _, rfl⟩) ?_
  rintro ⟨i, l⟩ ⟨h1, h4⟩
  have h1 : i ≤ a.length := h1
  have h4 : szLoop (a.drop i) l = szLoop a (IntKind.i64.wrap (left - a.length)) := h4
  refine Ok.seq ?_
  refine OQ ?_
  iterate 4 (refine EV ?_)
  refine ON ?_
  refine Ok.cond (b := _) (by simp only [kE, kT, kL, kC] <;> rfl) (fun hb5 => ?_) (fun hb5 => ?_)
  ·
   try simp only [bsimp] at hb5
   have hi : i < a.length := by omega
   have h3 : a.drop i = a[i] :: a.drop (i + 1) := List.drop_eq_getElem_cons hi
   refine Ok.skip ?_
   refine Ok.seq ?_
   refine Ok.block ?_
   refine OQ ?_
   iterate 3 (refine EV ?_)
   refine OkOps.ev tab_ok rfl (ev_idx_map (by simp only [kE, kT, kL, kC] <;> rfl) (by simp only [kE, kT, kL, kC] <;> rfl) (by omega) (by simp only [kE, kT, kL, kC] <;> rfl)) (by simp only [kP] <;> rfl) ?_
   iterate 4 (refine EV ?_)
   refine ON ?_
   refine OQ ?_
   iterate 2 (refine EV ?_)
   refine ON ?_
   refine Ok.cond (b := _) (by simp only [kE, kT, kL, kC] <;> rfl) (fun hb8 => ?_) (fun hb8 => ?_)
   ·
    try simp only [bsimp] at hb8
    refine OQ ?_
    refine EV ?_
    refine ON ?_
    refine Ok.ret ?_
    with_reducible repeat (first | refine thenQ_ret ?_ | refine blockQ_ret ?_)
    refine RT ?_
    simp only [szStrs, if_neg hb2, ← h4]; rw [h3, szLoop, if_pos hb8]; rfl
   ·
    try simp only [bsimp] at hb8
    refine Ok.skip ?_
    refine Ok.region ?_
    iterate 3 (refine EV ?_)
    refine ON ?_
    refine ⟨(i + 1, _), ?_, rfl, rfl, ⟨by omega, by rw [← h4, h3, szLoop, if_neg hb8]⟩, by show a.length - (i + 1) < a.length - i; omega⟩
    refine ⟨?_, ?_, ?_, ?_, ?_, ?_, ?_, ?_, ?_, ?_, ?_, ?_, ?_, ?_, ?_, ?_, ?_, ?_, ?_, ?_, ?_, ?_, ?_, ?_, ?_, ?_, ?_, ?_, trivial⟩ <;> first | exact le_any _ | with_reducible exact le_rfl' _ | ((rw [wrap_succ (by simp only [List.length_map] at ha; unfold maxLen at ha; omega)]; exact le_rfl' _)) | exact le_rfl' _
  ·
   try simp only [bsimp] at hb5
   refine Ok.exit ?_
   refine OQ ?_
   iterate 2 (refine EV ?_)
   refine ON ?_
   refine Ok.ret ?_
   with_reducible repeat (first | refine thenQ_ret ?_ | refine blockQ_ret ?_)
   refine RT ?_
   simp only [szStrs, if_neg hb2, ← h4]; rw [List.drop_eq_nil_of_le (by omega)]; rfl
theorem w_laws_szMail (x : Mail) (left : Int) : Weak Tryz.prog 212 [.agg (cMail x), .int .i64 left] (.int .i64 (szMail x left)) := by
 refine Weak.enter tab_ok Tryz.func212 rfl (.inr (by simp [V.labelsL, V.labels, V.labelsLL, zz, zf, zy, or_imp, forall_and])) (t := [.agg (cMail x), .int .i64 left, .any, .any, .any, .any, .any, .any, .any, .any, .any, .any, .any, .any, .any, .any, .any, .any, .any]) rfl ?_
 refine OQ ?_
 iterate 2 (refine EV ?_)
 refine ON ?_
 refine OQ ?_
 iterate 3 (refine EV ?_)
 refine OkOps.S0 rfl (OpS.weak' rfl (by simp only [kE, kT, kL, kC] <;> rfl) (by simp only [kE, kT, kL, kC] <;> rfl) cl240 (w_laws_szRegS x.flags _)) (by simp only [kP] <;> rfl) ?_
 refine EV ?_
 refine ON ?_
 refine Ok.seq ?_
 refine OQ ?_
 iterate 2 (refine EV ?_)
 refine ON ?_
 refine Ok.cond (b := _) (by simp only [kE, kT, kL, kC] <;> rfl) (fun hb2 => ?_) (fun hb2 => ?_)
 ·
  try simp only [bsimp] at hb2
  refine OQ ?_
  refine EV ?_
  refine ON ?_
  refine Ok.ret ?_
  with_reducible repeat (first | refine thenQ_ret ?_ | refine blockQ_ret ?_)
  refine RT ?_
  first | (simp [szMail, szSeq, szCut, *, V.erase, V.trav, packV]; done) | (simp_all [szMail, szSeq, szCut, V.erase, V.trav, packV]; done)
 ·
  try simp only [bsimp] at hb2
  refine Ok.skip ?_
  refine OQ ?_
  iterate 6 (refine EV ?_)
  refine ON ?_
  refine Ok.seq ?_
  refine OQ ?_
  iterate 2 (refine EV ?_)
  refine ON ?_
  refine Ok.cond (b := _) (by simp only [kE, kT, kL, kC] <;> rfl) (fun hb5 => ?_) (fun hb5 => ?_)
  ·
   try simp only [bsimp] at hb5
   refine OQ ?_
   refine EV ?_
   refine ON ?_
   refine Ok.ret ?_
   with_reducible repeat (first | refine thenQ_ret ?_ | refine blockQ_ret ?_)
   refine RT ?_
   first | (simp [szMail, szSeq, szCut, *, V.erase, V.trav, packV]; done) | (simp_all [szMail, szSeq, szCut, V.erase, V.trav, packV]; done)
  ·
   try simp only [bsimp] at hb5
   refine Ok.skip ?_
   refine OQ ?_
   iterate 2 (refine EV ?_)
   refine ON ?_
   refine Ok.ret ?_
   with_reducible repeat (first | refine thenQ_ret ?_ | refine blockQ_ret ?_)
   refine RT ?_
   first | (simp [szMail, szSeq, szCut, *, V.erase, V.trav, packV]; done) | (simp_all [szMail, szSeq, szCut, V.erase, V.trav, packV]; done)
theorem w_laws_szMailS (a : List Mail) (left : Int) : Weak Tryz.prog 164 [.sl 0 4 0 (a.map cMail), .int .i64 left] (.int .i64 (szAll szMail a left)) := by
 refine Weak.len 0 rfl fun ha => ?_
 refine Weak.enter tab_ok Tryz.func164 rfl (.inr (by simp [V.labelsL, V.labels, V.labelsLL, zz, zf, zy, or_imp, forall_and])) (t := [.sl 0 4 0 (a.map cMail), .int .i64 left, .any, .any, .any, .any, .any, .any, .any, .any, .any, .any, .any, .any, .any, .any, .any, .any, .any, .any, .any, .any, .any, .any, .any, .any, .any]) rfl ?_
 refine OQ ?_
 refine EV ?_
 refine ON ?_
 refine OQ ?_
 iterate 5 (refine EV ?_)
 refine ON ?_
 refine Ok.seq ?_
 refine OQ ?_
 iterate 2 (refine EV ?_)
 refine ON ?_
 refine Ok.cond (b := _) (by simp only [kE, kT, kL, kC] <;> rfl) (fun hb2 => ?_) (fun hb2 => ?_)
 ·
  try simp only [bsimp] at hb2
  refine OQ ?_
  refine EV ?_
  refine ON ?_
  refine Ok.ret ?_
  with_reducible repeat (first | refine thenQ_ret ?_ | refine blockQ_ret ?_)
  refine RT ?_
  simp only [szAll, if_pos hb2]; rfl
 ·
  try simp only [bsimp] at hb2
  refine Ok.skip ?_
  refine Ok.seq ?_
  refine OQ ?_
  refine EV ?_
  refine ON ?_
  refine Ok.block ?_
  refine Ok.loopW (τ := Nat × Int) (fun x => [(1, .int .i64 x.2), (5, .int .i64 (x.1 : Int))]) [4, 12, 13, 14, 15, 16, 17, 18, 19, 20, 21, 22, 23, 24, 25] (fun x => by simp only [kover] <;> rfl) (fun x => x.1 ≤ a.length ∧ szFold szMail (a.drop x.1) x.2 = szFold szMail a (IntKind.i64.wrap (left - a.length))) (fun x => a.length - x.1) (0, IntKind.i64.wrap (left - a.length)) (by refine ⟨?_, ?_, ?_, ?_, ?_, ?_, ?_, ?_, ?_, ?_, ?_, ?_, ?_, ?_, ?_, ?_, ?_, ?_, ?_, ?_, ?_, ?_, ?_, ?_, ?_, ?_, ?_, trivial⟩ <;> first | exact le_any _ | with_reducible exact le_rfl' _ | (exact le_rfl' _) | exact le_rfl' _) (⟨Nat.zero_le _, rfl⟩) ?_
  rintro ⟨i, l⟩ ⟨h1, h4⟩
  have h1 : i ≤ a.length := h1
  have h4 : szFold szMail (a.drop i) l = szFold szMail a (IntKind.i64.wrap (left - a.length)) := h4
  refine Ok.seq ?_
  refine OQ ?_
  iterate 4 (refine EV ?_)
  refine ON ?_
  refine Ok.cond (b := _) (by simp only [kE, kT, kL, kC] <;> rfl) (fun hb5 => ?_) (fun hb5 => ?_)
  ·
   try simp only [bsimp] at hb5
   have hi : i < a.length := by omega
   have h3 : a.drop i = a[i] :: a.drop (i + 1) := List.drop_eq_getElem_cons hi
   refine Ok.skip ?_
   refine Ok.seq ?_
   refine Ok.block ?_
   refine OQ ?_
   iterate 2 (refine EV ?_)
   refine OkOps.ev tab_ok rfl (ev_idx_map (by simp only [kE, kT, kL, kC] <;> rfl) (by simp only [kE, kT, kL, kC] <;> rfl) (by omega) (by simp only [kE, kT, kL, kC] <;> rfl)) (by simp only [kP] <;> rfl) ?_
   iterate 2 (refine EV ?_)
   refine OkOps.S0 rfl (OpS.weak' rfl (by simp only [kE, kT, kL, kC] <;> rfl) (by simp only [kE, kT, kL, kC] <;> rfl) cl212 (w_laws_szMail a[i] _)) (by simp only [kP] <;> rfl) ?_
   refine EV ?_
   refine ON ?_
   refine OQ ?_
   iterate 2 (refine EV ?_)
   refine ON ?_
   refine Ok.cond (b := _) (by simp only [kE, kT, kL, kC] <;> rfl) (fun hb8 => ?_) (fun hb8 => ?_)
   ·
    try simp only [bsimp] at hb8
    refine OQ ?_
    refine EV ?_
    refine ON ?_
    refine Ok.ret ?_
    with_reducible repeat (first | refine thenQ_ret ?_ | refine blockQ_ret ?_)
    refine RT ?_
    simp only [szAll, if_neg hb2, ← h4]; rw [h3, szFold, if_pos hb8]; rfl
   ·
    try simp only [bsimp] at hb8
    refine Ok.skip ?_
    refine Ok.region ?_
    iterate 3 (refine EV ?_)
    refine ON ?_
    refine ⟨(i + 1, _), ?_, rfl, rfl, ⟨by omega, by rw [← h4, h3, szFold, if_neg hb8]⟩, by show a.length - (i + 1) < a.length - i; omega⟩
    refine ⟨?_, ?_, ?_, ?_, ?_, ?_, ?_, ?_, ?_, ?_, ?_, ?_, ?_, ?_, ?_, ?_, ?_, ?_, ?_, ?_, ?_, ?_, ?_, ?_, ?_, ?_, ?_, trivial⟩ <;> first | exact le_any _ | with_reducible exact le_rfl' _ | ((rw [wrap_succ (by simp only [List.length_map] at ha; unfold maxLen at ha; omega)]; exact le_rfl' _)) | exact le_rfl' _
  ·
   try simp only [bsimp] at hb5
   refine Ok.exit ?_
   refine OQ ?_
   iterate 2 (refine EV ?_)
   refine ON ?_
   refine Ok.ret ?_
   with_reducible repeat (first | refine thenQ_ret ?_ | refine blockQ_ret ?_)
   refine RT ?_
   simp only [szAll, if_neg hb2, ← h4]; rw [List.drop_eq_nil_of_le (by omega)]; rfl
theorem w_laws_szBox (x : Box) (left : Int) : Weak Tryz.prog 116 [.agg (cBox x), .int .i64 left] (.int .i64 (szBox x left)) := by
 refine Weak.enter tab_ok Tryz.func116 rfl (.inr (by simp [V.labelsL, V.labels, V.labelsLL, zz, zf, zy, or_imp, forall_and])) (t := [.agg (cBox x), .int .i64 left, .any, .any, .any, .any, .any, .any, .any, .any, .any, .any, .any, .any, .any, .any, .any, .any, .any, .any, .any, .any, .any, .any, .any]) rfl ?_
 refine OQ ?_
 iterate 2 (refine EV ?_)
 refine ON ?_
 refine OQ ?_
 iterate 6 (refine EV ?_)
 refine ON ?_
 refine Ok.seq ?_
 refine OQ ?_
 iterate 2 (refine EV ?_)
 refine ON ?_
 refine Ok.cond (b := _) (by simp only [kE, kT, kL, kC] <;> rfl) (fun hb2 => ?_) (fun hb2 => ?_)
 ·
  try simp only [bsimp] at hb2
  refine OQ ?_
  refine EV ?_
  refine ON ?_
  refine Ok.ret ?_
  with_reducible repeat (first | refine thenQ_ret ?_ | refine blockQ_ret ?_)
  refine RT ?_
  first | (simp [szBox, szSeq, szCut, *, V.erase, V.trav, packV]; done) | (simp_all [szBox, szSeq, szCut, V.erase, V.trav, packV]; done)
 ·
  try simp only [bsimp] at hb2
  refine Ok.skip ?_
  refine OQ ?_
  iterate 3 (refine EV ?_)
  refine OkOps.S0 rfl (OpS.weak' rfl (by simp only [kE, kT, kL, kC] <;> rfl) (by simp only [kE, kT, kL, kC] <;> rfl) cl164 (w_laws_szMailS x.mails _)) (by simp only [kP] <;> rfl) ?_
  refine EV ?_
  refine ON ?_
  refine Ok.seq ?_
  refine OQ ?_
  iterate 2 (refine EV ?_)
  refine ON ?_
  refine Ok.cond (b := _) (by simp only [kE, kT, kL, kC] <;> rfl) (fun hb5 => ?_) (fun hb5 => ?_)
  ·
   try simp only [bsimp] at hb5
   refine OQ ?_
   refine EV ?_
   refine ON ?_
   refine Ok.ret ?_
   with_reducible repeat (first | refine thenQ_ret ?_ | refine blockQ_ret ?_)
   refine RT ?_
   first | (simp [szBox, szSeq, szCut, *, V.erase, V.trav, packV]; done) | (simp_all [szBox, szSeq, szCut, V.erase, V.trav, packV]; done)
  ·
   try simp only [bsimp] at hb5
   refine Ok.skip ?_
   refine OQ ?_
   iterate 3 (refine EV ?_)
   refine OkOps.S0 rfl (OpS.weak' rfl (by simp only [kE, kT, kL, kC] <;> rfl) (by simp only [kE, kT, kL, kC] <;> rfl) cl49 (w_laws_szIntS x.gone _)) (by simp only [kP] <;> rfl) ?_
   refine EV ?_
   refine ON ?_
   refine Ok.seq ?_
   refine OQ ?_
   iterate 2 (refine EV ?_)
   refine ON ?_
   refine Ok.cond (b := _) (by simp only [kE, kT, kL, kC] <;> rfl) (fun hb8 => ?_) (fun hb8 => ?_)
   ·
    try simp only [bsimp] at hb8
    refine OQ ?_
    refine EV ?_
    refine ON ?_
    refine Ok.ret ?_
    with_reducible repeat (first | refine thenQ_ret ?_ | refine blockQ_ret ?_)
    refine RT ?_
    first | (simp [szBox, szSeq, szCut, *, V.erase, V.trav, packV]; done) | (simp_all [szBox, szSeq, szCut, V.erase, V.trav, packV]; done)
   ·
    try simp only [bsimp] at hb8
    refine Ok.skip ?_
    refine OQ ?_
    iterate 2 (refine EV ?_)
    refine ON ?_
    refine Ok.ret ?_
    with_reducible repeat (first | refine thenQ_ret ?_ | refine blockQ_ret ?_)
    refine RT ?_
    first | (simp [szBox, szSeq, szCut, *, V.erase, V.trav, packV]; done) | (simp_all [szBox, szSeq, szCut, V.erase, V.trav, packV]; done)
theorem w_laws_szBoxS (a : List Box) (left : Int) : Weak Tryz.prog 48 [.sl 0 7 0 (a.map cBox), .int .i64 left] (.int .i64 (szAll szBox a left)) := by
 refine Weak.len 0 rfl fun ha => ?_
 refine Weak.enter tab_ok Tryz.func48 rfl (.inr (by simp [V.labelsL, V.labels, V.labelsLL, zz, zf, zy, or_imp, forall_and])) (t := [.sl 0 7 0 (a.map cBox), .int .i64 left, .any, .any, .any, .any, .any, .any, .any, .any, .any, .any, .any, .any, .any, .any, .any, .any, .any, .any, .any, .any, .any, .any, .any, .any, .any]) rfl ?_
 refine OQ ?_
 refine EV ?_
 refine ON ?_
 refine OQ ?_
 iterate 5 (refine EV ?_)
 refine ON ?_
 refine Ok.seq ?_
 refine OQ ?_
 iterate 2 (refine EV ?_)
 refine ON ?_
 refine Ok.cond (b := _) (by simp only [kE, kT, kL, kC] <;> rfl) (fun hb2 => ?_) (fun hb2 => ?_)
 ·
  try simp only [bsimp] at hb2
  refine OQ ?_
  refine EV ?_
  refine ON ?_
  refine Ok.ret ?_
  with_reducible repeat (first | refine thenQ_ret ?_ | refine blockQ_ret ?_)
  refine RT ?_
  simp only [szAll, if_pos hb2]; rfl
 ·
  try simp only [bsimp] at hb2
  refine Ok.skip ?_
  refine Ok.seq ?_
  refine OQ ?_
  refine EV ?_
  refine ON ?_
  refine Ok.block ?_
  refine Ok.loopW (τ := Nat × Int) (fun x => [(1, .int .i64 x.2), (5, .int .i64 (x.1 : Int))]) [4, 12, 13, 14, 15, 16, 17, 18, 19, 20, 21, 22, 23, 24, 25] (fun x => by simp only [kover] <;> rfl) (fun x => x.1 ≤ a.length ∧ szFold szBox (a.drop x.1) x.2 = szFold szBox a (IntKind.i64.wrap (left - a.length))) (fun x => a.length - x.1) (0, IntKind.i64.wrap (left - a.length)) (by refine ⟨?_, ?_, ?_, ?_, ?_, ?_, ?_, ?_, ?_, ?_, ?_, ?_, ?_, ?_, ?_, ?_, ?_, ?_, ?_, ?_, ?_, ?_, ?_, ?_, ?_, ?_, ?_, trivial⟩ <;> first | exact le_any _ | with_reducible exact le_rfl' _ | (exact le_rfl' _) | exact le_rfl' _) (⟨Nat.zero_le _, rfl⟩) ?_
  rintro ⟨i, l⟩ ⟨h1, h4⟩
  have h1 : i ≤ a.length := h1
  have h4 : szFold szBox (a.drop i) l = szFold szBox a (IntKind.i64.wrap (left - a.length)) := h4
  refine Ok.seq ?_
  refine OQ ?_
  iterate 4 (refine EV ?_)
  refine ON ?_
  refine Ok.cond (b := _) (by simp only [kE, kT, kL, kC] <;> rfl) (fun hb5 => ?_) (fun hb5 => ?_)
  ·
   try simp only [bsimp] at hb5
   have hi : i < a.length := by omega
   have h3 : a.drop i = a[i] :: a.drop (i + 1) := List.drop_eq_getElem_cons hi
   refine Ok.skip ?_
   refine Ok.seq ?_
   refine Ok.block ?_
   refine OQ ?_
   iterate 2 (refine EV ?_)
   refine OkOps.ev tab_ok rfl (ev_idx_map (by simp only [kE, kT, kL, kC] <;> rfl) (by simp only [kE, kT, kL, kC] <;> rfl) (by omega) (by simp only [kE, kT, kL, kC] <;> rfl)) (by simp only [kP] <;> rfl) ?_
   iterate 2 (refine EV ?_)
   refine OkOps.S0 rfl (OpS.weak' rfl (by simp only [kE, kT, kL, kC] <;> rfl) (by simp only [kE, kT, kL, kC] <;> rfl) cl116 (w_laws_szBox a[i] _)) (by simp only [kP] <;> rfl) ?_
   refine EV ?_
   refine ON ?_
   refine OQ ?_
   iterate 2 (refine EV ?_)
   refine ON ?_
   refine Ok.cond (b := _) (by simp only [kE, kT, kL, kC] <;> rfl) (fun hb8 => ?_) (fun hb8 => ?_)
   ·
    try simp only [bsimp] at hb8
    refine OQ ?_
    refine EV ?_
    refine ON ?_
    refine Ok.ret ?_
    with_reducible repeat (first | refine thenQ_ret ?_ | refine blockQ_ret ?_)
    refine RT ?_
    simp only [szAll, if_neg hb2, ← h4]; rw [h3, szFold, if_pos hb8]; rfl
   ·
    try simp only [bsimp] at hb8
    refine Ok.skip ?_
    refine Ok.region ?_
    iterate 3 (refine EV ?_)
    refine ON ?_
    refine ⟨(i + 1, _), ?_, rfl, rfl, ⟨by omega, by rw [← h4, h3, szFold, if_neg hb8]⟩, by show a.length - (i + 1) < a.length - i; omega⟩
    refine ⟨?_, ?_, ?_, ?_, ?_, ?_, ?_, ?_, ?_, ?_, ?_, ?_, ?_, ?_, ?_, ?_, ?_, ?_, ?_, ?_, ?_, ?_, ?_, ?_, ?_, ?_, ?_, trivial⟩ <;> first | exact le_any _ | with_reducible exact le_rfl' _ | ((rw [wrap_succ (by simp only [List.length_map] at ha; unfold maxLen at ha; omega)]; exact le_rfl' _)) | exact le_rfl' _
  ·
   try simp only [bsimp] at hb5
   refine Ok.exit ?_
   refine OQ ?_
   iterate 2 (refine EV ?_)
   refine ON ?_
   refine Ok.ret ?_
   with_reducible repeat (first | refine thenQ_ret ?_ | refine blockQ_ret ?_)
   refine RT ?_
   simp only [szAll, if_neg hb2, ← h4]; rw [List.drop_eq_nil_of_le (by omega)]; rfl
theorem w_laws_szStore (x : Store) (left : Int) : Weak Tryz.prog 8 [.agg (cStore x), .int .i64 left] (.int .i64 (szStore x left)) := by
 refine Weak.enter tab_ok Tryz.func8 rfl (.inr (by simp [V.labelsL, V.labels, V.labelsLL, zz, zf, zy, or_imp, forall_and])) (t := [.agg (cStore x), .int .i64 left, .any, .any, .any, .any, .any, .any, .any, .any, .any, .any, .any, .any, .any, .any, .any, .any]) rfl ?_
 refine OQ ?_
 iterate 2 (refine EV ?_)
 refine ON ?_
 refine OQ ?_
 iterate 3 (refine EV ?_)
 refine OkOps.S0 rfl (OpS.weak' rfl (by simp only [kE, kT, kL, kC] <;> rfl) (by simp only [kE, kT, kL, kC] <;> rfl) cl48 (w_laws_szBoxS x.boxes _)) (by simp only [kP] <;> rfl) ?_
 refine EV ?_
 refine ON ?_
 refine Ok.seq ?_
 refine OQ ?_
 iterate 2 (refine EV ?_)
 refine ON ?_
 refine Ok.cond (b := _) (by simp only [kE, kT, kL, kC] <;> rfl) (fun hb2 => ?_) (fun hb2 => ?_)
 ·
  try simp only [bsimp] at hb2
  refine OQ ?_
  refine EV ?_
  refine ON ?_
  refine Ok.ret ?_
  with_reducible repeat (first | refine thenQ_ret ?_ | refine blockQ_ret ?_)
  refine RT ?_
  first | (simp [szStore, szSeq, szCut, *, V.erase, V.trav, packV]; done) | (simp_all [szStore, szSeq, szCut, V.erase, V.trav, packV]; done)
 ·
  try simp only [bsimp] at hb2
  refine Ok.skip ?_
  refine OQ ?_
  iterate 3 (refine EV ?_)
  refine OkOps.S0 rfl (OpS.weak' rfl (by simp only [kE, kT, kL, kC] <;> rfl) (by simp only [kE, kT, kL, kC] <;> rfl) cl49 (w_laws_szIntS x.gone _)) (by simp only [kP] <;> rfl) ?_
  refine EV ?_
  refine ON ?_
  refine Ok.seq ?_
  refine OQ ?_
  iterate 2 (refine EV ?_)
  refine ON ?_
  refine Ok.cond (b := _) (by simp only [kE, kT, kL, kC] <;> rfl) (fun hb5 => ?_) (fun hb5 => ?_)
  ·
   try simp only [bsimp] at hb5
   refine OQ ?_
   refine EV ?_
   refine ON ?_
   refine Ok.ret ?_
   with_reducible repeat (first | refine thenQ_ret ?_ | refine blockQ_ret ?_)
   refine RT ?_
   first | (simp [szStore, szSeq, szCut, *, V.erase, V.trav, packV]; done) | (simp_all [szStore, szSeq, szCut, V.erase, V.trav, packV]; done)
  ·
   try simp only [bsimp] at hb5
   refine Ok.skip ?_
   refine OQ ?_
   iterate 2 (refine EV ?_)
   refine ON ?_
   refine Ok.ret ?_
   with_reducible repeat (first | refine thenQ_ret ?_ | refine blockQ_ret ?_)
   refine RT ?_
   first | (simp [szStore, szSeq, szCut, *, V.erase, V.trav, packV]; done) | (simp_all [szStore, szSeq, szCut, V.erase, V.trav, packV]; done)
theorem w_laws_szKept (x : Kept) (left : Int) : Weak Tryz.prog 178 [.agg (cKept x), .int .i64 left] (.int .i64 (szKept x left)) := by
 refine Weak.enter tab_ok Tryz.func178 rfl (.inr (by simp [V.labelsL, V.labels, V.labelsLL, zz, zf, zy, or_imp, forall_and])) (t := [.agg (cKept x), .int .i64 left, .any, .any, .any, .any, .any, .any, .any, .any, .any, .any, .any, .any, .any, .any, .any, .any, .any]) rfl ?_
 refine OQ ?_
 iterate 2 (refine EV ?_)
 refine ON ?_
 refine OQ ?_
 iterate 3 (refine EV ?_)
 refine OkOps.S0 rfl (OpS.weak' rfl (by simp only [kE, kT, kL, kC] <;> rfl) (by simp only [kE, kT, kL, kC] <;> rfl) cl8 (w_laws_szStore x.store _)) (by simp only [kP] <;> rfl) ?_
 refine EV ?_
 refine ON ?_
 refine Ok.seq ?_
 refine OQ ?_
 iterate 2 (refine EV ?_)
 refine ON ?_
 refine Ok.cond (b := _) (by simp only [kE, kT, kL, kC] <;> rfl) (fun hb2 => ?_) (fun hb2 => ?_)
 ·
  try simp only [bsimp] at hb2
  refine OQ ?_
  refine EV ?_
  refine ON ?_
  refine Ok.ret ?_
  with_reducible repeat (first | refine thenQ_ret ?_ | refine blockQ_ret ?_)
  refine RT ?_
  first | (simp [szKept, szSeq, szCut, *, V.erase, V.trav, packV]; done) | (simp_all [szKept, szSeq, szCut, V.erase, V.trav, packV]; done)
 ·
  try simp only [bsimp] at hb2
  refine Ok.skip ?_
  refine OQ ?_
  iterate 6 (refine EV ?_)
  refine ON ?_
  refine Ok.seq ?_
  refine OQ ?_
  iterate 2 (refine EV ?_)
  refine ON ?_
  refine Ok.cond (b := _) (by simp only [kE, kT, kL, kC] <;> rfl) (fun hb5 => ?_) (fun hb5 => ?_)
  ·
   try simp only [bsimp] at hb5
   refine OQ ?_
   refine EV ?_
   refine ON ?_
   refine Ok.ret ?_
   with_reducible repeat (first | refine thenQ_ret ?_ | refine blockQ_ret ?_)
   refine RT ?_
   first | (simp [szKept, szSeq, szCut, *, V.erase, V.trav, packV]; done) | (simp_all [szKept, szSeq, szCut, V.erase, V.trav, packV]; done)
  ·
   try simp only [bsimp] at hb5
   refine Ok.skip ?_
   refine OQ ?_
   iterate 2 (refine EV ?_)
   refine ON ?_
   refine Ok.ret ?_
   with_reducible repeat (first | refine thenQ_ret ?_ | refine blockQ_ret ?_)
   refine RT ?_
   first | (simp [szKept, szSeq, szCut, *, V.erase, V.trav, packV]; done) | (simp_all [szKept, szSeq, szCut, V.erase, V.trav, packV]; done)
theorem w_laws_szSession (x : Session) (left : Int) : Weak Tryz.prog 179 [.agg (cSession x), .int .i64 left] (.int .i64 (szSession x left)) := by
 refine Weak.enter tab_ok Tryz.func179 rfl (.inr (by simp [V.labelsL, V.labels, V.labelsLL, zz, zf, zy, or_imp, forall_and])) (t := [.agg (cSession x), .int .i64 left, .any, .any, .any, .any, .any, .any, .any, .any, .any, .any, .any, .any, .any, .any, .any, .any, .any, .any, .any, .any, .any, .any, .any, .any]) rfl ?_
 refine OQ ?_
 iterate 2 (refine EV ?_)
 refine ON ?_
 refine OQ ?_
 iterate 6 (refine EV ?_)
 refine ON ?_
 refine Ok.seq ?_
 refine OQ ?_
 iterate 2 (refine EV ?_)
 refine ON ?_
 refine Ok.cond (b := _) (by simp only [kE, kT, kL, kC] <;> rfl) (fun hb2 => ?_) (fun hb2 => ?_)
 ·
  try simp only [bsimp] at hb2
  refine OQ ?_
  refine EV ?_
  refine ON ?_
  refine Ok.ret ?_
  with_reducible repeat (first | refine thenQ_ret ?_ | refine blockQ_ret ?_)
  refine RT ?_
  first | (simp [szSession, szSeq, szCut, *, V.erase, V.trav, packV]; done) | (simp_all [szSession, szSeq, szCut, V.erase, V.trav, packV]; done)
 ·
  try simp only [bsimp] at hb2
  refine Ok.skip ?_
  refine OQ ?_
  iterate 6 (refine EV ?_)
  refine ON ?_
  refine Ok.seq ?_
  refine OQ ?_
  iterate 2 (refine EV ?_)
  refine ON ?_
  refine Ok.cond (b := _) (by simp only [kE, kT, kL, kC] <;> rfl) (fun hb5 => ?_) (fun hb5 => ?_)
  ·
   try simp only [bsimp] at hb5
   refine OQ ?_
   refine EV ?_
   refine ON ?_
   refine Ok.ret ?_
   with_reducible repeat (first | refine thenQ_ret ?_ | refine blockQ_ret ?_)
   refine RT ?_
   first | (simp [szSession, szSeq, szCut, *, V.erase, V.trav, packV]; done) | (simp_all [szSession, szSeq, szCut, V.erase, V.trav, packV]; done)
  ·
   try simp only [bsimp] at hb5
   refine Ok.skip ?_
   refine OQ ?_
   iterate 3 (refine EV ?_)
   refine OkOps.S0 rfl (OpS.weak' rfl (by simp only [kE, kT, kL, kC] <;> rfl) (by simp only [kE, kT, kL, kC] <;> rfl) cl49 (w_laws_szIntS x.view _)) (by simp only [kP] <;> rfl) ?_
   refine EV ?_
   refine ON ?_
   refine Ok.seq ?_
   refine OQ ?_
   iterate 2 (refine EV ?_)
   refine ON ?_
   refine Ok.cond (b := _) (by simp only [kE, kT, kL, kC] <;> rfl) (fun hb8 => ?_) (fun hb8 => ?_)
   ·
    try simp only [bsimp] at hb8
    refine OQ ?_
    refine EV ?_
    refine ON ?_
    refine Ok.ret ?_
    with_reducible repeat (first | refine thenQ_ret ?_ | refine blockQ_ret ?_)
    refine RT ?_
    first | (simp [szSession, szSeq, szCut, *, V.erase, V.trav, packV]; done) | (simp_all [szSession, szSeq, szCut, V.erase, V.trav, packV]; done)
   ·
    try simp only [bsimp] at hb8
    refine Ok.skip ?_
    refine OQ ?_
    iterate 2 (refine EV ?_)
    refine ON ?_
    refine Ok.ret ?_
    with_reducible repeat (first | refine thenQ_ret ?_ | refine blockQ_ret ?_)
    refine RT ?_
    first | (simp [szSession, szSeq, szCut, *, V.erase, V.trav, packV]; done) | (simp_all [szSession, szSeq, szCut, V.erase, V.trav, packV]; done)
theorem w_laws_szServer (x : Server) (left : Int) : Weak Tryz.prog 129 [.agg (cServer x), .int .i64 left] (.int .i64 (szServer x left)) := by
 refine Weak.enter tab_ok Tryz.func129 rfl (.inr (by simp [V.labelsL, V.labels, V.labelsLL, zz, zf, zy, or_imp, forall_and])) (t := [.agg (cServer x), .int .i64 left, .any, .any, .any, .any, .any, .any, .any, .any, .any, .any, .any, .any, .any, .any, .any, .any]) rfl ?_
 refine OQ ?_
 iterate 2 (refine EV ?_)
 refine ON ?_
 refine OQ ?_
 iterate 3 (refine EV ?_)
 refine OkOps.S0 rfl (OpS.weak' rfl (by simp only [kE, kT, kL, kC] <;> rfl) (by simp only [kE, kT, kL, kC] <;> rfl) cl178 (w_laws_szKept x.kept _)) (by simp only [kP] <;> rfl) ?_
 refine EV ?_
 refine ON ?_
 refine Ok.seq ?_
 refine OQ ?_
 iterate 2 (refine EV ?_)
 refine ON ?_
 refine Ok.cond (b := _) (by simp only [kE, kT, kL, kC] <;> rfl) (fun hb2 => ?_) (fun hb2 => ?_)
 ·
  try simp only [bsimp] at hb2
  refine OQ ?_
  refine EV ?_
  refine ON ?_
  refine Ok.ret ?_
  with_reducible repeat (first | refine thenQ_ret ?_ | refine blockQ_ret ?_)
  refine RT ?_
  first | (simp [szServer, szSeq, szCut, *, V.erase, V.trav, packV]; done) | (simp_all [szServer, szSeq, szCut, V.erase, V.trav, packV]; done)
 ·
  try simp only [bsimp] at hb2
  refine Ok.skip ?_
  refine OQ ?_
  iterate 3 (refine EV ?_)
  refine OkOps.S0 rfl (OpS.weak' rfl (by simp only [kE, kT, kL, kC] <;> rfl) (by simp only [kE, kT, kL, kC] <;> rfl) cl179 (w_laws_szSession x.session _)) (by simp only [kP] <;> rfl) ?_
  refine EV ?_
  refine ON ?_
  refine Ok.seq ?_
  refine OQ ?_
  iterate 2 (refine EV ?_)
  refine ON ?_
  refine Ok.cond (b := _) (by simp only [kE, kT, kL, kC] <;> rfl) (fun hb5 => ?_) (fun hb5 => ?_)
  ·
   try simp only [bsimp] at hb5
   refine OQ ?_
   refine EV ?_
   refine ON ?_
   refine Ok.ret ?_
   with_reducible repeat (first | refine thenQ_ret ?_ | refine blockQ_ret ?_)
   refine RT ?_
   first | (simp [szServer, szSeq, szCut, *, V.erase, V.trav, packV]; done) | (simp_all [szServer, szSeq, szCut, V.erase, V.trav, packV]; done)
  ·
   try simp only [bsimp] at hb5
   refine Ok.skip ?_
   refine OQ ?_
   iterate 2 (refine EV ?_)
   refine ON ?_
   refine Ok.ret ?_
   with_reducible repeat (first | refine thenQ_ret ?_ | refine blockQ_ret ?_)
   refine RT ?_
   first | (simp [szServer, szSeq, szCut, *, V.erase, V.trav, packV]; done) | (simp_all [szServer, szSeq, szCut, V.erase, V.trav, packV]; done)
theorem w_laws_szLink (x : Link) (left : Int) : Weak Tryz.prog 180 [.agg (cLink x), .int .i64 left] (.int .i64 (szLink x left)) := by
 refine Weak.enter tab_ok Tryz.func180 rfl (.inr (by simp [V.labelsL, V.labels, V.labelsLL, zz, zf, zy, or_imp, forall_and])) (t := [.agg (cLink x), .int .i64 left, .any, .any, .any, .any, .any, .any, .any, .any, .any, .any]) rfl ?_
 refine OQ ?_
 iterate 2 (refine EV ?_)
 refine ON ?_
 refine OQ ?_
 iterate 3 (refine EV ?_)
 refine OkOps.S0 rfl (OpS.weak' rfl (by simp only [kE, kT, kL, kC] <;> rfl) (by simp only [kE, kT, kL, kC] <;> rfl) cl181 (w_laws_szStringS x.way _)) (by simp only [kP] <;> rfl) ?_
 refine EV ?_
 refine ON ?_
 refine Ok.seq ?_
 refine OQ ?_
 iterate 2 (refine EV ?_)
 refine ON ?_
 refine Ok.cond (b := _) (by simp only [kE, kT, kL, kC] <;> rfl) (fun hb2 => ?_) (fun hb2 => ?_)
 ·
  try simp only [bsimp] at hb2
  refine OQ ?_
  refine EV ?_
  refine ON ?_
  refine Ok.ret ?_
  with_reducible repeat (first | refine thenQ_ret ?_ | refine blockQ_ret ?_)
  refine RT ?_
  first | (simp [szLink, szSeq, szCut, *, V.erase, V.trav, packV]; done) | (simp_all [szLink, szSeq, szCut, V.erase, V.trav, packV]; done)
 ·
  try simp only [bsimp] at hb2
  refine Ok.skip ?_
  refine OQ ?_
  iterate 2 (refine EV ?_)
  refine ON ?_
  refine Ok.ret ?_
  with_reducible repeat (first | refine thenQ_ret ?_ | refine blockQ_ret ?_)
  refine RT ?_
  first | (simp [szLink, szSeq, szCut, *, V.erase, V.trav, packV]; done) | (simp_all [szLink, szSeq, szCut, V.erase, V.trav, packV]; done)
theorem w_laws_szSync (x : Sync) (left : Int) : Weak Tryz.prog 130 [.agg (cSync x), .int .i64 left] (.int .i64 (szSync x left)) := by
 refine Weak.enter tab_ok Tryz.func130 rfl (.inr (by simp [V.labelsL, V.labels, V.labelsLL, zz, zf, zy, or_imp, forall_and])) (t := [.agg (cSync x), .int .i64 left, .any, .any, .any, .any, .any, .any, .any, .any, .any, .any, .any, .any, .any, .any, .any, .any]) rfl ?_
 refine OQ ?_
 iterate 2 (refine EV ?_)
 refine ON ?_
 refine OQ ?_
 iterate 3 (refine EV ?_)
 refine OkOps.S0 rfl (OpS.weak' rfl (by simp only [kE, kT, kL, kC] <;> rfl) (by simp only [kE, kT, kL, kC] <;> rfl) cl180 (w_laws_szLink x.link _)) (by simp only [kP] <;> rfl) ?_
 refine EV ?_
 refine ON ?_
 refine Ok.seq ?_
 refine OQ ?_
 iterate 2 (refine EV ?_)
 refine ON ?_
 refine Ok.cond (b := _) (by simp only [kE, kT, kL, kC] <;> rfl) (fun hb2 => ?_) (fun hb2 => ?_)
 ·
  try simp only [bsimp] at hb2
  refine OQ ?_
  refine EV ?_
  refine ON ?_
  refine Ok.ret ?_
  with_reducible repeat (first | refine thenQ_ret ?_ | refine blockQ_ret ?_)
  refine RT ?_
  first | (simp [szSync, szSeq, szCut, *, V.erase, V.trav, packV]; done) | (simp_all [szSync, szSeq, szCut, V.erase, V.trav, packV]; done)
 ·
  try simp only [bsimp] at hb2
  refine Ok.skip ?_
  refine OQ ?_
  iterate 3 (refine EV ?_)
  refine OkOps.S0 rfl (OpS.weak' rfl (by simp only [kE, kT, kL, kC] <;> rfl) (by simp only [kE, kT, kL, kC] <;> rfl) cl181 (w_laws_szStringS x.pieces _)) (by simp only [kP] <;> rfl) ?_
  refine EV ?_
  refine ON ?_
  refine Ok.seq ?_
  refine OQ ?_
  iterate 2 (refine EV ?_)
  refine ON ?_
  refine Ok.cond (b := _) (by simp only [kE, kT, kL, kC] <;> rfl) (fun hb5 => ?_) (fun hb5 => ?_)
  ·
   try simp only [bsimp] at hb5
   refine OQ ?_
   refine EV ?_
   refine ON ?_
   refine Ok.ret ?_
   with_reducible repeat (first | refine thenQ_ret ?_ | refine blockQ_ret ?_)
   refine RT ?_
   first | (simp [szSync, szSeq, szCut, *, V.erase, V.trav, packV]; done) | (simp_all [szSync, szSeq, szCut, V.erase, V.trav, packV]; done)
  ·
   try simp only [bsimp] at hb5
   refine Ok.skip ?_
   refine OQ ?_
   iterate 2 (refine EV ?_)
   refine ON ?_
   refine Ok.ret ?_
   with_reducible repeat (first | refine thenQ_ret ?_ | refine blockQ_ret ?_)
   refine RT ?_
   first | (simp [szSync, szSeq, szCut, *, V.erase, V.trav, packV]; done) | (simp_all [szSync, szSeq, szCut, V.erase, V.trav, packV]; done)
theorem w_laws_szLetter (x : Letter) (left : Int) : Weak Tryz.prog 131 [.agg (cLetter x), .int .i64 left] (.int .i64 (szLetter x left)) := by
 refine Weak.enter tab_ok Tryz.func131 rfl (.inr (by simp [V.labelsL, V.labels, V.labelsLL, zz, zf, zy, or_imp, forall_and])) (t := [.agg (cLetter x), .int .i64 left, .any, .any, .any, .any, .any, .any, .any, .any, .any, .any, .any]) rfl ?_
 refine OQ ?_
 iterate 2 (refine EV ?_)
 refine ON ?_
 refine OQ ?_
 iterate 6 (refine EV ?_)
 refine ON ?_
 refine Ok.seq ?_
 refine OQ ?_
 iterate 2 (refine EV ?_)
 refine ON ?_
 refine Ok.cond (b := _) (by simp only [kE, kT, kL, kC] <;> rfl) (fun hb2 => ?_) (fun hb2 => ?_)
 ·
  try simp only [bsimp] at hb2
  refine OQ ?_
  refine EV ?_
  refine ON ?_
  refine Ok.ret ?_
  with_reducible repeat (first | refine thenQ_ret ?_ | refine blockQ_ret ?_)
  refine RT ?_
  first | (simp [szLetter, szSeq, szCut, *, V.erase, V.trav, packV]; done) | (simp_all [szLetter, szSeq, szCut, V.erase, V.trav, packV]; done)
 ·
  try simp only [bsimp] at hb2
  refine Ok.skip ?_
  refine OQ ?_
  iterate 2 (refine EV ?_)
  refine ON ?_
  refine Ok.ret ?_
  with_reducible repeat (first | refine thenQ_ret ?_ | refine blockQ_ret ?_)
  refine RT ?_
  first | (simp [szLetter, szSeq, szCut, *, V.erase, V.trav, packV]; done) | (simp_all [szLetter, szSeq, szCut, V.erase, V.trav, packV]; done)
theorem w_laws_szServerS (a : List Server) (left : Int) : Weak Tryz.prog 69 [.sl 0 13 0 (a.map cServer), .int .i64 left] (.int .i64 (szAll szServer a left)) := by
 refine Weak.len 0 rfl fun ha => ?_
 refine Weak.enter tab_ok Tryz.func69 rfl (.inr (by simp [V.labelsL, V.labels, V.labelsLL, zz, zf, zy, or_imp, forall_and])) (t := [.sl 0 13 0 (a.map cServer), .int .i64 left, .any, .any, .any, .any, .any, .any, .any, .any, .any, .any, .any, .any, .any, .any, .any, .any, .any, .any, .any, .any, .any, .any, .any, .any, .any]) rfl ?_
 refine OQ ?_
 refine EV ?_
 refine ON ?_
 refine OQ ?_
 iterate 5 (refine EV ?_)
 refine ON ?_
 refine Ok.seq ?_
 refine OQ ?_
 iterate 2 (refine EV ?_)
 refine ON ?_
 refine Ok.cond (b := _) (by simp only [kE, kT, kL, kC] <;> rfl) (fun hb2 => ?_) (fun hb2 => ?_)
 ·
  try simp only [bsimp] at hb2
  refine OQ ?_
  refine EV ?_
  refine ON ?_
  refine Ok.ret ?_
  with_reducible repeat (first | refine thenQ_ret ?_ | refine blockQ_ret ?_)
  refine RT ?_
  simp only [szAll, if_pos hb2]; rfl
 ·
  try simp only [bsimp] at hb2
  refine Ok.skip ?_
  refine Ok.seq ?_
  refine OQ ?_
  refine EV ?_
  refine ON ?_
  refine Ok.block ?_
  refine Ok.loopW (τ := Nat × Int) (fun x => [(1, .int .i64 x.2), (5, .int .i64 (x.1 : Int))]) [4, 12, 13, 14, 15, 16, 17, 18, 19, 20, 21, 22, 23, 24, 25] (fun x => by simp only [kover] <;> rfl) (fun x => x.1 ≤ a.length ∧ szFold szServer (a.drop x.1) x.2 = szFold szServer a (IntKind.i64.wrap (left - a.length))) (fun x => a.length - x.1) (0, IntKind.i64.wrap (left - a.length)) (by refine ⟨?_, ?_, ?_, ?_, ?_, ?_, ?_, ?_, ?_, ?_, ?_, ?_, ?_, ?_, ?_, ?_, ?_, ?_, ?_, ?_, ?_, ?_, ?_, ?_, ?_, ?_, ?_, trivial⟩ <;> first | exact le_any _ | with_reducible exact le_rfl' _ | (exact le_rfl' _) | exact le_rfl' _) (⟨Nat.zero_le _, rfl⟩) ?_
  rintro ⟨i, l⟩ ⟨h1, h4⟩
  have h1 : i ≤ a.length := h1
  have h4 : szFold szServer (a.drop i) l = szFold szServer a (IntKind.i64.wrap (left - a.length)) := h4
  refine Ok.seq ?_
  refine OQ ?_
  iterate 4 (refine EV ?_)
  refine ON ?_
  refine Ok.cond (b := _) (by simp only [kE, kT, kL, kC] <;> rfl) (fun hb5 => ?_) (fun hb5 => ?_)
  ·
   try simp only [bsimp] at hb5
   have hi : i < a.length := by omega
   have h3 : a.drop i = a[i] :: a.drop (i + 1) := List.drop_eq_getElem_cons hi
   refine Ok.skip ?_
   refine Ok.seq ?_
   refine Ok.block ?_
   refine OQ ?_
   iterate 2 (refine EV ?_)
   refine OkOps.ev tab_ok rfl (ev_idx_map (by simp only [kE, kT, kL, kC] <;> rfl) (by simp only [kE, kT, kL, kC] <;> rfl) (by omega) (by simp only [kE, kT, kL, kC] <;> rfl)) (by simp only [kP] <;> rfl) ?_
   iterate 2 (refine EV ?_)
   refine OkOps.S0 rfl (OpS.weak' rfl (by simp only [kE, kT, kL, kC] <;> rfl) (by simp only [kE, kT, kL, kC] <;> rfl) cl129 (w_laws_szServer a[i] _)) (by simp only [kP] <;> rfl) ?_
   refine EV ?_
   refine ON ?_
   refine OQ ?_
   iterate 2 (refine EV ?_)
   refine ON ?_
   refine Ok.cond (b := _) (by simp only [kE, kT, kL, kC] <;> rfl) (fun hb8 => ?_) (fun hb8 => ?_)
   ·
    try simp only [bsimp] at hb8
    refine OQ ?_
    refine EV ?_
    refine ON ?_
    refine Ok.ret ?_
    with_reducible repeat (first | refine thenQ_ret ?_ | refine blockQ_ret ?_)
    refine RT ?_
    simp only [szAll, if_neg hb2, ← h4]; rw [h3, szFold, if_pos hb8]; rfl
   ·
    try simp only [bsimp] at hb8
    refine Ok.skip ?_
    refine Ok.region ?_
    iterate 3 (refine EV ?_)
    refine ON ?_
    refine ⟨(i + 1, _), ?_, rfl, rfl, ⟨by omega, by rw [← h4, h3, szFold, if_neg hb8]⟩, by show a.length - (i + 1) < a.length - i; omega⟩
    refine ⟨?_, ?_, ?_, ?_, ?_, ?_, ?_, ?_, ?_, ?_, ?_, ?_, ?_, ?_, ?_, ?_, ?_, ?_, ?_, ?_, ?_, ?_, ?_, ?_, ?_, ?_, ?_, trivial⟩ <;> first | exact le_any _ | with_reducible exact le_rfl' _ | ((rw [wrap_succ (by simp only [List.length_map] at ha; unfold maxLen at ha; omega)]; exact le_rfl' _)) | exact le_rfl' _
  ·
   try simp only [bsimp] at hb5
   refine Ok.exit ?_
   refine OQ ?_
   iterate 2 (refine EV ?_)
   refine ON ?_
   refine Ok.ret ?_
   with_reducible repeat (first | refine thenQ_ret ?_ | refine blockQ_ret ?_)
   refine RT ?_
   simp only [szAll, if_neg hb2, ← h4]; rw [List.drop_eq_nil_of_le (by omega)]; rfl
theorem w_laws_szSyncS (a : List Sync) (left : Int) : Weak Tryz.prog 70 [.sl 0 9 0 (a.map cSync), .int .i64 left] (.int .i64 (szAll szSync a left)) := by
 refine Weak.len 0 rfl fun ha => ?_
 refine Weak.enter tab_ok Tryz.func70 rfl (.inr (by simp [V.labelsL, V.labels, V.labelsLL, zz, zf, zy, or_imp, forall_and])) (t := [.sl 0 9 0 (a.map cSync), .int .i64 left, .any, .any, .any, .any, .any, .any, .any, .any, .any, .any, .any, .any, .any, .any, .any, .any, .any, .any, .any, .any, .any, .any, .any, .any, .any]) rfl ?_
 refine OQ ?_
 refine EV ?_
 refine ON ?_
 refine OQ ?_
 iterate 5 (refine EV ?_)
 refine ON ?_
 refine Ok.seq ?_
 refine OQ ?_
 iterate 2 (refine EV ?_)
 refine ON ?_
 refine Ok.cond (b := _) (by simp only [kE, kT, kL, kC] <;> rfl) (fun hb2 => ?_) (fun hb2 => ?_)
 ·
  try simp only [bsimp] at hb2
  refine OQ ?_
  refine EV ?_
  refine ON ?_
  refine Ok.ret ?_
  with_reducible repeat (first | refine thenQ_ret ?_ | refine blockQ_ret ?_)
  refine RT ?_
  simp only [szAll, if_pos hb2]; rfl
 ·
  try simp only [bsimp] at hb2
  refine Ok.skip ?_
  refine Ok.seq ?_
  refine OQ ?_
  refine EV ?_
  refine ON ?_
  refine Ok.block ?_
  refine Ok.loopW (τ := Nat × Int) (fun x => [(1, .int .i64 x.2), (5, .int .i64 (x.1 : Int))]) [4, 12, 13, 14, 15, 16, 17, 18, 19, 20, 21, 22, 23, 24, 25] (fun x => by simp only [kover] <;> rfl) (fun x => x.1 ≤ a.length ∧ szFold szSync (a.drop x.1) x.2 = szFold szSync a (IntKind.i64.wrap (left - a.length))) (fun x => a.length - x.1) (0, IntKind.i64.wrap (left - a.length)) (by refine ⟨?_, ?_, ?_, ?_, ?_, ?_, ?_, ?_, ?_, ?_, ?_, ?_, ?_, ?_, ?_, ?_, ?_, ?_, ?_, ?_, ?_, ?_, ?_, ?_, ?_, ?_, ?_, trivial⟩ <;> first | exact le_any _ | with_reducible exact le_rfl' _ | (exact le_rfl' _) | exact le_rfl' _) (⟨Nat.zero_le _, rfl⟩) ?_
  rintro ⟨i, l⟩ ⟨h1, h4⟩
  have h1 : i ≤ a.length := h1
  have h4 : szFold szSync (a.drop i) l = szFold szSync a (IntKind.i64.wrap (left - a.length)) := h4
  refine Ok.seq ?_
  refine OQ ?_
  iterate 4 (refine EV ?_)
  refine ON ?_
  refine Ok.cond (b := _) (by simp only [kE, kT, kL, kC] <;> rfl) (fun hb5 => ?_) (fun hb5 => ?_)
  ·
   try simp only [bsimp] at hb5
   have hi : i < a.length := by omega
   have h3 : a.drop i = a[i] :: a.drop (i + 1) := List.drop_eq_getElem_cons hi
   refine Ok.skip ?_
   refine Ok.seq ?_
   refine Ok.block ?_
   refine OQ ?_
   iterate 2 (refine EV ?_)
   refine OkOps.ev tab_ok rfl (ev_idx_map (by simp only [kE, kT, kL, kC] <;> rfl) (by simp only [kE, kT, kL, kC] <;> rfl) (by omega) (by simp only [kE, kT, kL, kC] <;> rfl)) (by simp only [kP] <;> rfl) ?_
   iterate 2 (refine EV ?_)
   refine OkOps.S0 rfl (OpS.weak' rfl (by simp only [kE, kT, kL, kC] <;> rfl) (by simp only [kE, kT, kL, kC] <;> rfl) cl130 (w_laws_szSync a[i] _)) (by simp only [kP] <;> rfl) ?_
   refine EV ?_
   refine ON ?_
   refine OQ ?_
   iterate 2 (refine EV ?_)
   refine ON ?_
   refine Ok.cond (b := _) (by simp only [kE, kT, kL, kC] <;> rfl) (fun hb8 => ?_) (fun hb8 => ?_)
   ·
    try simp only [bsimp] at hb8
    refine OQ ?_
    refine EV ?_
    refine ON ?_
    refine Ok.ret ?_
    with_reducible repeat (first | refine thenQ_ret ?_ | refine blockQ_ret ?_)
    refine RT ?_
    simp only [szAll, if_neg hb2, ← h4]; rw [h3, szFold, if_pos hb8]; rfl
   ·
    try simp only [bsimp] at hb8
    refine Ok.skip ?_
    refine Ok.region ?_
    iterate 3 (refine EV ?_)
    refine ON ?_
    refine ⟨(i + 1, _), ?_, rfl, rfl, ⟨by omega, by rw [← h4, h3, szFold, if_neg hb8]⟩, by show a.length - (i + 1) < a.length - i; omega⟩
    refine ⟨?_, ?_, ?_, ?_, ?_, ?_, ?_, ?_, ?_, ?_, ?_, ?_, ?_, ?_, ?_, ?_, ?_, ?_, ?_, ?_, ?_, ?_, ?_, ?_, ?_, ?_, ?_, trivial⟩ <;> first | exact le_any _ | with_reducible exact le_rfl' _ | ((rw [wrap_succ (by simp only [List.length_map] at ha; unfold maxLen at ha; omega)]; exact le_rfl' _)) | exact le_rfl' _
  ·
   try simp only [bsimp] at hb5
   refine Ok.exit ?_
   refine OQ ?_
   iterate 2 (refine EV ?_)
   refine ON ?_
   refine Ok.ret ?_
   with_reducible repeat (first | refine thenQ_ret ?_ | refine blockQ_ret ?_)
   refine RT ?_
   simp only [szAll, if_neg hb2, ← h4]; rw [List.drop_eq_nil_of_le (by omega)]; rfl
theorem w_laws_szLetterS (a : List Letter) (left : Int) : Weak Tryz.prog 71 [.sl 0 2 0 (a.map cLetter), .int .i64 left] (.int .i64 (szAll szLetter a left)) := by
 refine Weak.len 0 rfl fun ha => ?_
 refine Weak.enter tab_ok Tryz.func71 rfl (.inr (by simp [V.labelsL, V.labels, V.labelsLL, zz, zf, zy, or_imp, forall_and])) (t := [.sl 0 2 0 (a.map cLetter), .int .i64 left, .any, .any, .any, .any, .any, .any, .any, .any, .any, .any, .any, .any, .any, .any, .any, .any, .any, .any, .any, .any, .any, .any, .any, .any, .any]) rfl ?_
 refine OQ ?_
 refine EV ?_
 refine ON ?_
 refine OQ ?_
 iterate 5 (refine EV ?_)
 refine ON ?_
 refine Ok.seq ?_
 refine OQ ?_
 iterate 2 (refine EV ?_)
 refine ON ?_
 refine Ok.cond (b := _) (by simp only [kE, kT, kL, kC] <;> rfl) (fun hb2 => ?_) (fun hb2 => ?_)
 ·
  try simp only [bsimp] at hb2
  refine OQ ?_
  refine EV ?_
  refine ON ?_
  refine Ok.ret ?_
  with_reducible repeat (first | refine thenQ_ret ?_ | refine blockQ_ret ?_)
  refine RT ?_
  simp only [szAll, if_pos hb2]; rfl
 ·
  try simp only [bsimp] at hb2
  refine Ok.skip ?_
  refine Ok.seq ?_
  refine OQ ?_
  refine EV ?_
  refine ON ?_
  refine Ok.block ?_
  refine Ok.loopW (τ := Nat × Int) (fun x => [(1, .int .i64 x.2), (5, .int .i64 (x.1 : Int))]) [4, 12, 13, 14, 15, 16, 17, 18, 19, 20, 21, 22, 23, 24, 25] (fun x => by simp only [kover] <;> rfl) (fun x => x.1 ≤ a.length ∧ szFold szLetter (a.drop x.1) x.2 = szFold szLetter a (IntKind.i64.wrap (left - a.length))) (fun x => a.length - x.1) (0, IntKind.i64.wrap (left - a.length)) (by refine ⟨?_, ?_, ?_, ?_, ?_, ?_, ?_, ?_, ?_, ?_, ?_, ?_, ?_, ?_, ?_, ?_, ?_, ?_, ?_, ?_, ?_, ?_, ?_, ?_, ?_, ?_, ?_, trivial⟩ <;> first | exact le_any _ | with_reducible exact le_rfl' _ | (exact le_rfl' _) | exact le_rfl' _) (⟨Nat.zero_le _, rfl⟩) ?_
  rintro ⟨i, l⟩ ⟨h1, h4⟩
  have h1 : i ≤ a.length := h1
  have h4 : szFold szLetter (a.drop i) l = szFold szLetter a (IntKind.i64.wrap (left - a.length)) := h4
  refine Ok.seq ?_
  refine OQ ?_
  iterate 4 (refine EV ?_)
  refine ON ?_
  refine Ok.cond (b := _) (by simp only [kE, kT, kL, kC] <;> rfl) (fun hb5 => ?_) (fun hb5 => ?_)
  ·
   try simp only [bsimp] at hb5
   have hi : i < a.length := by omega
   have h3 : a.drop i = a[i] :: a.drop (i + 1) := List.drop_eq_getElem_cons hi
   refine Ok.skip ?_
   refine Ok.seq ?_
   refine Ok.block ?_
   refine OQ ?_
   iterate 2 (refine EV ?_)
   refine OkOps.ev tab_ok rfl (ev_idx_map (by simp only [kE, kT, kL, kC] <;> rfl) (by simp only [kE, kT, kL, kC] <;> rfl) (by omega) (by simp only [kE, kT, kL, kC] <;> rfl)) (by simp only [kP] <;> rfl) ?_
   iterate 2 (refine EV ?_)
   refine OkOps.S0 rfl (OpS.weak' rfl (by simp only [kE, kT, kL, kC] <;> rfl) (by simp only [kE, kT, kL, kC] <;> rfl) cl131 (w_laws_szLetter a[i] _)) (by simp only [kP] <;> rfl) ?_
   refine EV ?_
   refine ON ?_
   refine OQ ?_
   iterate 2 (refine EV ?_)
   refine ON ?_
   refine Ok.cond (b := _) (by simp only [kE, kT, kL, kC] <;> rfl) (fun hb8 => ?_) (fun hb8 => ?_)
   ·
    try simp only [bsimp] at hb8
    refine OQ ?_
    refine EV ?_
    refine ON ?_
    refine Ok.ret ?_
    with_reducible repeat (first | refine thenQ_ret ?_ | refine blockQ_ret ?_)
    refine RT ?_
    simp only [szAll, if_neg hb2, ← h4]; rw [h3, szFold, if_pos hb8]; rfl
   ·
    try simp only [bsimp] at hb8
    refine Ok.skip ?_
    refine Ok.region ?_
    iterate 3 (refine EV ?_)
    refine ON ?_
    refine ⟨(i + 1, _), ?_, rfl, rfl, ⟨by omega, by rw [← h4, h3, szFold, if_neg hb8]⟩, by show a.length - (i + 1) < a.length - i; omega⟩
    refine ⟨?_, ?_, ?_, ?_, ?_, ?_, ?_, ?_, ?_, ?_, ?_, ?_, ?_, ?_, ?_, ?_, ?_, ?_, ?_, ?_, ?_, ?_, ?_, ?_, ?_, ?_, ?_, trivial⟩ <;> first | exact le_any _ | with_reducible exact le_rfl' _ | ((rw [wrap_succ (by simp only [List.length_map] at ha; unfold maxLen at ha; omega)]; exact le_rfl' _)) | exact le_rfl' _
  ·
   try simp only [bsimp] at hb5
   refine Ok.exit ?_
   refine OQ ?_
   iterate 2 (refine EV ?_)
   refine ON ?_
   refine Ok.ret ?_
   with_reducible repeat (first | refine thenQ_ret ?_ | refine blockQ_ret ?_)
   refine RT ?_
   simp only [szAll, if_neg hb2, ← h4]; rw [List.drop_eq_nil_of_le (by omega)]; rfl
theorem w_laws_szPair (x : Pair) (left : Int) : Weak Tryz.prog 17 [.agg (cPair x), .int .i64 left] (.int .i64 (szPair x left)) := by
 refine Weak.enter tab_ok Tryz.func17 rfl (.inr (by simp [V.labelsL, V.labels, V.labelsLL, zz, zf, zy, or_imp, forall_and])) (t := [.agg (cPair x), .int .i64 left, .any, .any, .any, .any, .any, .any, .any, .any, .any, .any, .any, .any, .any, .any, .any, .any, .any, .any, .any, .any, .any, .any]) rfl ?_
 refine OQ ?_
 iterate 2 (refine EV ?_)
 refine ON ?_
 refine OQ ?_
 iterate 3 (refine EV ?_)
 refine OkOps.S0 rfl (OpS.weak' rfl (by simp only [kE, kT, kL, kC] <;> rfl) (by simp only [kE, kT, kL, kC] <;> rfl) cl69 (w_laws_szServerS x.servers _)) (by simp only [kP] <;> rfl) ?_
 refine EV ?_
 refine ON ?_
 refine Ok.seq ?_
 refine OQ ?_
 iterate 2 (refine EV ?_)
 refine ON ?_
 refine Ok.cond (b := _) (by simp only [kE, kT, kL, kC] <;> rfl) (fun hb2 => ?_) (fun hb2 => ?_)
 ·
  try simp only [bsimp] at hb2
  refine OQ ?_
  refine EV ?_
  refine ON ?_
  refine Ok.ret ?_
  with_reducible repeat (first | refine thenQ_ret ?_ | refine blockQ_ret ?_)
  refine RT ?_
  first | (simp [szPair, szSeq, szCut, *, V.erase, V.trav, packV]; done) | (simp_all [szPair, szSeq, szCut, V.erase, V.trav, packV]; done)
 ·
  try simp only [bsimp] at hb2
  refine Ok.skip ?_
  refine OQ ?_
  iterate 3 (refine EV ?_)
  refine OkOps.S0 rfl (OpS.weak' rfl (by simp only [kE, kT, kL, kC] <;> rfl) (by simp only [kE, kT, kL, kC] <;> rfl) cl70 (w_laws_szSyncS x.syncs _)) (by simp only [kP] <;> rfl) ?_
  refine EV ?_
  refine ON ?_
  refine Ok.seq ?_
  refine OQ ?_
  iterate 2 (refine EV ?_)
  refine ON ?_
  refine Ok.cond (b := _) (by simp only [kE, kT, kL, kC] <;> rfl) (fun hb5 => ?_) (fun hb5 => ?_)
  ·
   try simp only [bsimp] at hb5
   refine OQ ?_
   refine EV ?_
   refine ON ?_
   refine Ok.ret ?_
   with_reducible repeat (first | refine thenQ_ret ?_ | refine blockQ_ret ?_)
   refine RT ?_
   first | (simp [szPair, szSeq, szCut, *, V.erase, V.trav, packV]; done) | (simp_all [szPair, szSeq, szCut, V.erase, V.trav, packV]; done)
  ·
   try simp only [bsimp] at hb5
   refine Ok.skip ?_
   refine OQ ?_
   iterate 3 (refine EV ?_)
   refine OkOps.S0 rfl (OpS.weak' rfl (by simp only [kE, kT, kL, kC] <;> rfl) (by simp only [kE, kT, kL, kC] <;> rfl) cl71 (w_laws_szLetterS x.net _)) (by simp only [kP] <;> rfl) ?_
   refine EV ?_
   refine ON ?_
   refine Ok.seq ?_
   refine OQ ?_
   iterate 2 (refine EV ?_)
   refine ON ?_
   refine Ok.cond (b := _) (by simp only [kE, kT, kL, kC] <;> rfl) (fun hb8 => ?_) (fun hb8 => ?_)
   ·
    try simp only [bsimp] at hb8
    refine OQ ?_
    refine EV ?_
    refine ON ?_
    refine Ok.ret ?_
    with_reducible repeat (first | refine thenQ_ret ?_ | refine blockQ_ret ?_)
    refine RT ?_
    first | (simp [szPair, szSeq, szCut, *, V.erase, V.trav, packV]; done) | (simp_all [szPair, szSeq, szCut, V.erase, V.trav, packV]; done)
   ·
    try simp only [bsimp] at hb8
    refine Ok.skip ?_
    refine OQ ?_
    iterate 2 (refine EV ?_)
    refine ON ?_
    refine Ok.ret ?_
    with_reducible repeat (first | refine thenQ_ret ?_ | refine blockQ_ret ?_)
    refine RT ?_
    first | (simp [szPair, szSeq, szCut, *, V.erase, V.trav, packV]; done) | (simp_all [szPair, szSeq, szCut, V.erase, V.trav, packV]; done)
end Go.Proofs.YtjhfabimacljhaaGreat.K

/- The walk of FnExactSpeak. Printed by w2.py. -/
namespace Go.Proofs.YtjhfabimacljhaaGreat.K
open Go Go.RowKit
set_option linter.unusedVariables false
set_option linter.unusedSimpArgs false
set_option maxHeartbeats 4000000
set_option maxRecDepth 20000
theorem w_laws_FnExactSpeak (p : Pair) (i : Int) (hb : okPair p) : Weak Tryz.prog 5 [.agg (cPair p), .int .i64 i] (.bool true) := by
 refine Weak.enter tab_ok Tryz.func5 rfl (.inr (by simp [V.labelsL, V.labels, V.labelsLL, zz, zf, zy, or_imp, forall_and])) (t := [.agg (cPair p), .int .i64 i, .any, .any, .any, .any, .any, .any, .any, .any, .any, .any, .any, .any, .any, .any, .any, .any, .any, .any, .any, .any, .any, .any, .any, .any, .any, .any, .any, .any, .any, .any, .any, .any, .any, .any, .any, .any, .any, .any, .any, .any, .any, .any, .any, .any, .any, .any, .any, .any, .any, .any, .any, .any, .any, .any, .any, .any, .any, .any, .any, .any, .any, .any, .any, .any, .any, .any, .any, .any, .any, .any, .any, .any, .any, .any, .any, .any, .any, .any, .any, .any, .any, .any, .any, .any, .any, .any, .any, .any, .any, .any, .any, .any, .any, .any, .any, .any, .any, .any, .any]) rfl ?_
 refine OQ ?_
 iterate 2 (refine EV ?_)
 refine ON ?_
 refine OQ ?_
 refine EV ?_
 refine ON ?_
 refine OQ ?_
 iterate 2 (refine EV ?_)
 refine OkOps.S0 rfl (OpS.weakE rfl (by simp only [kE, kT, kL, kC] <;> rfl) (by simp only [kE, kT, kL, kC, V.eraseL, V.erase, V.travL, V.trav, zz, zf, zy] <;> rfl) cl17 (by simp [V.labels, V.labelsL, V.labelsLL, zz, zf, zy]) (w_laws_szPair p _)) (by simp only [kP] <;> rfl) ?_
 refine EV ?_
 refine ON ?_
 refine Ok.seq ?_
 refine Ok.seq ?_
 refine Ok.drop [16, 17, 18] (by simp only [kover] <;> rfl) ?_
 refine Ok.region ?_
 iterate 2 (refine EV ?_)
 refine ON ?_
 refine Ok.cond (b := _) (by simp only [kE, kT, kL, kC] <;> rfl) (fun hb3 => ?_) (fun hb3 => ?_)
 ·
  try simp only [bsimp] at hb3
  refine Ok.seq ?_
  refine Ok.drop [19, 20] (by simp only [kover] <;> rfl) ?_
  refine Ok.region ?_
  refine EV ?_
  refine ON ?_
  refine Ok.ret ?_
  with_reducible repeat (first | refine thenQ_ret ?_ | refine blockQ_ret ?_)
  refine RT ?_
  rfl
 ·
  try simp only [bsimp] at hb3
  have hs := (szPair_cnt hb 1048576 (by omega) (by omega) hb3).2
  have hk := pair_few hb hb3
  refine Ok.skip ?_
  refine Ok.seq ?_
  refine Ok.drop [19, 20] (by simp only [kover] <;> rfl) ?_
  refine Ok.region ?_
  refine EV ?_
  refine OkOps.S0 rfl (OpS.weak' rfl (by simp only [kE, kT, kL, kC] <;> rfl) (by simp only [kE, kT, kL, kC] <;> rfl) cl19 (wp_laws_toPair p hs)) (by simp only [kP] <;> rfl) ?_
  refine EV ?_
  refine OkOps.S0 rfl (OpS.weak' rfl (by simp only [kE, kT, kL, kC] <;> rfl) (by simp only [kE, kT, kL, kC] <;> rfl) cl24 (w_spec_Speak p i hs)) (by simp only [kP] <;> rfl) ?_
  iterate 4 (refine EV ?_)
  refine OkOps.drop [25, 21] (by simp only [kover] <;> rfl) ?_
  refine OkOps.storeN tab_ok rfl rfl (by simp only [kE, kT, kL, kC] <;> rfl) ⟨_, _, by simp only [kE]; rfl⟩ (by first | (simp [V.labelsL, V.labelsLL, V.labels, zz, zf, zy]; done) | (intro h; simp [V.labelsL, V.labels, V.labelsLL, zz, zf, zy] at h)) (fun W hW hF => by have f0 := far0 hW (fun h => by omega); have p0 := fun i o e => hW.ptr (1) i o e (by omega); simp only [List.map_cons, List.map_nil, hW.int, hW.str, hW.bool, hW.any, hW.tup0, hW.agg, hW.nilV, hF.ptr, f0, p0, kP] <;> rfl) ?_
  refine EV ?_
  refine ON ?_
  refine Ok.seq ?_
  refine Ok.drop [21, 22, 23, 24, 25, 26, 27] (by simp only [kover] <;> rfl) ?_
  obtain ⟨m0, hm0⟩ : ∃ m : Nat, m = 2 := ⟨_, rfl⟩
  refine Ok.bump (n' := m0 + 1) (by omega) ?_
  refine Ok.region ?_
  refine EV ?_
  obtain ⟨L0c, e0c, L1c, e1c, L2c, e2c, hXc, q0c, E0c, M0c, N0c, q1c, E1c, M1c, N1c, q2c, E2c, M2c, N2c, ndc, rgc⟩ := ownPair (m0) (p)
  obtain ⟨mc, hmc⟩ : ∃ m, m0 + 1 + V.cnt (.agg (cPair (p))) = m + 1 := ⟨m0 + V.cnt (.agg (cPair (p))), by omega⟩
  have r0c : ∀ z ∈ V.labels (.sl (L0c + 1) 13 0 e0c), m0 + 1 ≤ z ∧ z < mc + 1 := fun z hz => by have := rgc z (by first | exact hz | (simp only [V.labelsL, V.labels, List.mem_append] at hz ⊢; simp only [hz, true_or, or_true])); omega
  have r1c : ∀ z ∈ V.labels (.sl (L1c + 1) 9 0 e1c), m0 + 1 ≤ z ∧ z < mc + 1 := fun z hz => by have := rgc z (by first | exact hz | (simp only [V.labelsL, V.labels, List.mem_append] at hz ⊢; simp only [hz, true_or, or_true])); omega
  have r2c : ∀ z ∈ V.labels (.sl (L2c + 1) 2 0 e2c), m0 + 1 ≤ z ∧ z < mc + 1 := fun z hz => by have := rgc z (by first | exact hz | (simp only [V.labelsL, V.labels, List.mem_append] at hz ⊢; simp only [hz, true_or, or_true])); omega
  refine OkOps.S' rfl (OpS.pure' rfl (by simp only [kE, kT, kL, kC] <;> rfl) (by simp only [kE, kT, kL, kC, V.eraseL, V.erase, V.travL, V.trav, zz, zf, zy] <;> rfl) cl19 (by simp [V.dat, V.datL, V.datLL, zz, zf, zy]) (p_laws_toPair p hs)) hmc (by simp only [kP, hXc] <;> rfl) ?_
  refine EV ?_
  refine OkOps.storeN tab_ok rfl rfl (by simp only [kE, kT, kL, kC] <;> rfl) ⟨_, _, by simp only [kE]; rfl⟩ (by first | (simp [V.labelsL, V.labelsLL, V.labels, zz, zf, zy]; done) | (intro h; have := rgc _ h; omega)) (fun W hW hF => by obtain ⟨z0c, zz0c⟩ := farA hW r0c (fun y h1 h2 h => by omega); obtain ⟨z1c, zz1c⟩ := farA hW r1c (fun y h1 h2 h => by omega); obtain ⟨z2c, zz2c⟩ := farA hW r2c (fun y h1 h2 h => by omega); have f0 := far0 hW (fun h => by omega); have p0 := fun i o e => hW.ptr (1) i o e (by omega);  have p1 := fun i o e => hW.ptr (2) i o e (by omega); simp only [List.map_cons, List.map_nil, hW.int, hW.str, hW.bool, hW.any, hW.tup0, hW.agg, hW.nilV, hF.ptr, z0c, zz0c, z1c, zz1c, z2c, zz2c, f0, p0, p1, kP] <;> rfl) ?_
  refine ON ?_
  refine Ok.seq ?_
  refine Ok.drop [28, 29] (by simp only [kover] <;> rfl) ?_
  refine Ok.region ?_
  iterate 2 (refine EV ?_)
  obtain ⟨L0d, e0d, L1d, e1d, L2d, e2d, hXd, q0d, E0d, M0d, N0d, q1d, E1d, M1d, N1d, q2d, E2d, M2d, N2d, ndd, rgd⟩ := ownTPair (mc + 1) (speakP p i) (speakB p i)
  obtain ⟨md, hmd⟩ : ∃ m, mc + 1 + 1 + V.cnt (.tup [.agg (cPair (speakP p i)), .bool (speakB p i)]) = m + 1 := ⟨mc + 1 + V.cnt (.tup [.agg (cPair (speakP p i)), .bool (speakB p i)]), by omega⟩
  have r0d : ∀ z ∈ V.labels (.sl (L0d + 1) 13 0 e0d), mc + 1 + 1 ≤ z ∧ z < md + 1 := fun z hz => by have := rgd z (by first | exact hz | (simp only [V.labelsL, V.labels, List.mem_append] at hz ⊢; simp only [hz, true_or, or_true])); omega
  have r1d : ∀ z ∈ V.labels (.sl (L1d + 1) 9 0 e1d), mc + 1 + 1 ≤ z ∧ z < md + 1 := fun z hz => by have := rgd z (by first | exact hz | (simp only [V.labelsL, V.labels, List.mem_append] at hz ⊢; simp only [hz, true_or, or_true])); omega
  have r2d : ∀ z ∈ V.labels (.sl (L2d + 1) 2 0 e2d), mc + 1 + 1 ≤ z ∧ z < md + 1 := fun z hz => by have := rgd z (by first | exact hz | (simp only [V.labelsL, V.labels, List.mem_append] at hz ⊢; simp only [hz, true_or, or_true])); omega
  refine OkOps.S' rfl (OpS.pure' rfl (by simp only [kE, kT, kL, kC] <;> rfl) (by simp only [kE, kT, kL, kC, E0c, M0c, N0c, E1c, M1c, N1c, E2c, M2c, N2c, V.eraseL, V.erase, V.travL, V.trav, zz, zf, zy] <;> rfl) cl25 (by simp [V.dat, V.datL, V.datLL, zz, zf, zy]) (p_impl_Speak p i hs)) hmd (by simp only [kP, hXd] <;> rfl) ?_
  iterate 4 (refine EV ?_)
  refine OkOps.drop [33, 30] (by simp only [kover] <;> rfl) ?_
  refine OkOps.storeN tab_ok rfl rfl (by simp only [kE, kT, kL, kC] <;> rfl) ⟨_, _, by simp only [kE]; rfl⟩ (by first | (simp [V.labelsL, V.labelsLL, V.labels, zz, zf, zy]; done) | (intro h; have := rgd _ h; omega)) (fun W hW hF => by obtain ⟨z0c, zz0c⟩ := farA hW r0c (fun y h1 h2 h => by omega); obtain ⟨z1c, zz1c⟩ := farA hW r1c (fun y h1 h2 h => by omega); obtain ⟨z2c, zz2c⟩ := farA hW r2c (fun y h1 h2 h => by omega); obtain ⟨z0d, zz0d⟩ := farA hW r0d (fun y h1 h2 h => by omega); obtain ⟨z1d, zz1d⟩ := farA hW r1d (fun y h1 h2 h => by omega); obtain ⟨z2d, zz2d⟩ := farA hW r2d (fun y h1 h2 h => by omega); have f0 := far0 hW (fun h => by omega); have p0 := fun i o e => hW.ptr (1) i o e (by omega);  have p1 := fun i o e => hW.ptr (2) i o e (by omega);  have p2 := fun i o e => hW.ptr (mc + 1) i o e (by omega); simp only [List.map_cons, List.map_nil, hW.int, hW.str, hW.bool, hW.any, hW.tup0, hW.agg, hW.nilV, hF.ptr, z0c, zz0c, z1c, zz1c, z2c, zz2c, z0d, zz0d, z1d, zz1d, z2d, zz2d, f0, p0, p1, p2, kP] <;> rfl) ?_
  refine EV ?_
  refine ON ?_
  refine Ok.seq ?_
  refine Ok.seq ?_
  refine Ok.drop [30, 31, 32, 33, 34, 35] (by simp only [kover] <;> rfl) ?_
  refine Ok.region ?_
  iterate 2 (refine EV ?_)
  refine OkOps.S0 rfl (OpS.weakE rfl (by simp only [kE, kT, kL, kC] <;> rfl) (by simp only [kE, kT, kL, kC, E0c, M0c, N0c, E1c, M1c, N1c, E2c, M2c, N2c, E0d, M0d, N0d, E1d, M1d, N1d, E2d, M2d, N2d, V.eraseL, V.erase, V.travL, V.trav, zz, zf, zy] <;> rfl) cl21 (by simp [V.labels, V.labelsL, V.labelsLL, zz, zf, zy]) (w_laws_eqPair (speakP p i) (speakP p i))) (by simp only [kP] <;> rfl) ?_
  iterate 2 (refine EV ?_)
  refine OkOps.split (d := 40) (by simp only [kE, kT, kL, kC] <;> rfl) (by simp only [kP] <;> rfl) (by simp only [kP] <;> rfl) (fun hg8_4 => ?_) (fun hg8_4 => ?_)
  ·
   try simp only [bsimp] at hg8_4
   simp at hg8_4
  ·
   try simp only [bsimp] at hg8_4
   refine OO ?_
   refine EV ?_
   refine OO ?_
   refine EV ?_
   refine OO ?_
   iterate 2 (refine EV ?_)
   refine ON ?_
   refine Ok.cond_false (by simp only [kE, kT, kL, kC] <;> first | rfl | (simp; done) | (simp; omega) | (simp [N0d, N1d, N2d]; done)) ?_
   refine Ok.skip ?_
   refine Ok.seq ?_
   refine Ok.seq ?_
   refine Ok.drop [36, 37, 38, 39, 40, 41, 42, 43, 44] (by simp only [kover] <;> rfl) ?_
   refine Ok.drawn 5 101 [] (by kernel_rfl) (by kernel_rfl) rfl ?_
   iterate 2 (refine SV ?_)
   refine SOps.S0 rfl (OpS.weakM rfl (by simp only [kE, kT, kL, kC] <;> rfl) (by simp only [kE, kT, kL, kC] <;> rfl) cl19 (wp_laws_toPair p hs)) (by simp only [kP] <;> rfl) ?_
   refine SOps.S0 rfl (OpS.weakEM rfl (by simp only [kE, kT, kL, kC] <;> rfl) (by simp only [kE, kT, kL, kC, E0c, M0c, N0c, E1c, M1c, N1c, E2c, M2c, N2c, E0d, M0d, N0d, E1d, M1d, N1d, E2d, M2d, N2d, V.eraseL, V.erase, V.travL, V.trav, zz, zf, zy] <;> rfl) cl21 (by simp [V.labels, V.labelsL, V.labelsLL, zz, zf, zy]) (w_laws_eqPair p p)) (by simp only [kP] <;> rfl) ?_
   refine SV ?_
   refine SOps.nil ?_
   refine TOps.nil ?_
   refine Ok.cond_false (by simp only [kE, kT, kL, kC] <;> first | rfl | (simp; done) | (simp; omega) | (simp [N0d, N1d, N2d]; done)) ?_
   refine Ok.skip ?_
   refine Ok.seq ?_
   refine Ok.drop [45, 46, 47, 48, 49] (by simp only [kover] <;> rfl) ?_
   refine Ok.region ?_
   refine EV ?_
   refine ON ?_
   refine OQ ?_
   iterate 2 (refine EV ?_)
   refine OkOps.turnN 1 rfl rfl (by simp only [kE, kT, kL, kC] <;> rfl) (by simp only [kE, kT, kL, kC] <;> rfl) cl22 (fun h => c_laws_markPair L0c e0c L1c e1c L2c e2c _ _ q0c q1c q2c ndc (by have q := mnq_pair p; have q2 := mnq_pair (speakP p i); have q3 := kSpeak p i; dsimp only at *; simp only [N0c, N1c, N2c, N0d, N1d, N2d]; omega) (fun y hy => by have := rgc y hy; omega)) (by first | rfl | (simp only [Nat.add_zero, Nat.reduceAdd] <;> rfl)) (fun W hW ha => by obtain ⟨z0d, zz0d⟩ := farA hW r0d (fun y h1 h2 h => by have := rgc y h; omega); obtain ⟨z1d, zz1d⟩ := farA hW r1d (fun y h1 h2 h => by have := rgc y h; omega); obtain ⟨z2d, zz2d⟩ := farA hW r2d (fun y h1 h2 h => by have := rgc y h; omega); have f0 := far0 hW (fun h => by have := rgc _ h; omega); have p0 := fun i o e => hW.ptr (1) i o e (fun h => by have := rgc _ h; omega);  have p1 := fun i o e => hW.ptr (2) i o e (fun h => by have := rgc _ h; omega);  have p2 := fun i o e => hW.ptr (mc + 1) i o e (fun h => by have := rgc _ h; omega);  have p3 := fun i o e => hW.ptr (md + 1) i o e (fun h => by have := rgc _ h; omega); have ha2 := ha; simp only [hW.agg, List.map_cons, List.map_nil, hW.int, hW.str, hW.bool, V.agg.injEq, List.cons.injEq, and_true, true_and] at ha2; simp only [List.map_cons, List.map_nil, hW.int, hW.str, hW.bool, hW.any, hW.tup0, hW.agg, ha2, kP, z0d, zz0d, z1d, zz1d, z2d, zz2d, f0, p0, p1, p2, p3] <;> rfl) ?_
   refine EV ?_
   refine ON ?_
   refine Ok.seq ?_
   refine Ok.seq ?_
   refine Ok.drop [50, 51, 52] (by simp only [kover] <;> rfl) ?_
   refine Ok.region ?_
   iterate 3 (refine EV ?_)
   refine OkOps.split (d := 55) (by simp only [kE, kT, kL, kC] <;> rfl) (by simp only [kP] <;> rfl) (by simp only [kP] <;> rfl) (fun hg14_2 => ?_) (fun hg14_2 => ?_)
   ·
    try simp only [bsimp] at hg14_2
    exfalso; omega
   ·
    try simp only [bsimp] at hg14_2
    refine OO ?_
    refine EV ?_
    refine OO ?_
    refine EV ?_
    refine OO ?_
    refine OkOps.S0 rfl (OpS.weakE rfl (by simp only [kE, kT, kL, kC] <;> rfl) (by simp only [kE, kT, kL, kC, E0c, M0c, N0c, E1c, M1c, N1c, E2c, M2c, N2c, E0d, M0d, N0d, E1d, M1d, N1d, E2d, M2d, N2d, V.eraseL, V.erase, V.travL, V.trav, zz, zf, zy] <;> rfl) cl21 (by simp [V.labels, V.labelsL, V.labelsLL, zz, zf, zy]) (w_laws_eqPair (speakP p i) (speakP p i))) (by simp only [kP] <;> rfl) ?_
    refine OO ?_
    iterate 3 (refine EV ?_)
    refine OkOps.split (d := 61) (by simp only [kE, kT, kL, kC] <;> rfl) (by simp only [kP] <;> rfl) (by simp only [kP] <;> rfl) (fun hg14_8 => ?_) (fun hg14_8 => ?_)
    ·
     try simp only [bsimp] at hg14_8
     simp at hg14_8
    ·
     try simp only [bsimp] at hg14_8
     refine OO ?_
     refine EV ?_
     refine OO ?_
     refine EV ?_
     refine OO ?_
     iterate 2 (refine EV ?_)
     refine ON ?_
     refine Ok.cond_false (by simp only [kE, kT, kL, kC] <;> first | rfl | (simp; done) | (simp; omega) | (simp [N0d, N1d, N2d]; done)) ?_
     refine Ok.skip ?_
     refine Ok.seq ?_
     refine Ok.drop [53, 54, 55, 56, 57, 58, 59, 60, 61, 62, 63, 64, 65] (by simp only [kover] <;> rfl) ?_
     refine Ok.region ?_
     refine EV ?_
     refine ON ?_
     refine OQ ?_
     iterate 2 (refine EV ?_)
     refine OkOps.turnN 1 rfl rfl (by simp only [kE, kT, kL, kC] <;> rfl) (by simp only [kE, kT, kL, kC] <;> rfl) cl22 (fun h => c_laws_markPair L0d e0d L1d e1d L2d e2d _ _ q0d q1d q2d ndd (by have q := mnq_pair p; have q2 := mnq_pair (speakP p i); have q3 := kSpeak p i; dsimp only at *; simp only [N0c, N1c, N2c, N0d, N1d, N2d]; omega) (fun y hy => by have := rgd y hy; omega)) (by first | rfl | (simp only [Nat.add_zero, Nat.reduceAdd] <;> rfl)) (fun W hW ha => by obtain ⟨z0c, zz0c⟩ := farA hW r0c (fun y h1 h2 h => by have := rgd y h; omega); obtain ⟨z1c, zz1c⟩ := farA hW r1c (fun y h1 h2 h => by have := rgd y h; omega); obtain ⟨z2c, zz2c⟩ := farA hW r2c (fun y h1 h2 h => by have := rgd y h; omega); have f0 := far0 hW (fun h => by have := rgd _ h; omega); have p0 := fun i o e => hW.ptr (1) i o e (fun h => by have := rgd _ h; omega);  have p1 := fun i o e => hW.ptr (2) i o e (fun h => by have := rgd _ h; omega);  have p2 := fun i o e => hW.ptr (mc + 1) i o e (fun h => by have := rgd _ h; omega);  have p3 := fun i o e => hW.ptr (md + 1) i o e (fun h => by have := rgd _ h; omega); have ha2 := ha; simp only [hW.agg, List.map_cons, List.map_nil, hW.int, hW.str, hW.bool, V.agg.injEq, List.cons.injEq, and_true, true_and] at ha2; simp only [List.map_cons, List.map_nil, hW.int, hW.str, hW.bool, hW.any, hW.tup0, hW.agg, ha2, kP, z0c, zz0c, z1c, zz1c, z2c, zz2c, f0, p0, p1, p2, p3] <;> rfl) ?_
     refine EV ?_
     refine ON ?_
     refine Ok.seq ?_
     refine Ok.drop [66, 67, 68] (by simp only [kover] <;> rfl) ?_
     refine Ok.region ?_
     refine EV ?_
     refine ON ?_
     refine OQ ?_
     iterate 2 (refine EV ?_)
     refine OkOps.S0 rfl (OpS.weakE rfl (by simp only [kE, kT, kL, kC] <;> rfl) (by simp only [kE, kT, kL, kC, E0c, M0c, N0c, E1c, M1c, N1c, E2c, M2c, N2c, E0d, M0d, N0d, E1d, M1d, N1d, E2d, M2d, N2d, V.eraseL, V.erase, V.travL, V.trav, zz, zf, zy] <;> rfl) cl23 (by simp [V.labels, V.labelsL, V.labelsLL, zz, zf, zy]) (w_laws_heldPair (speakP p i) 1 (by have q := mnq_pair p; have q2 := mnq_pair (speakP p i); have q3 := kSpeak p i; (try dsimp only); omega))) (by simp only [kP] <;> rfl) ?_
     refine EV ?_
     refine ON ?_
     refine Ok.seq ?_
     refine Ok.seq ?_
     refine Ok.drop [69, 70, 71] (by simp only [kover] <;> rfl) ?_
     refine Ok.region ?_
     iterate 2 (refine EV ?_)
     refine ON ?_
     refine Ok.cond_false (by simp only [kE, kT, kL, kC] <;> first | rfl | (simp; done) | (simp; omega) | (simp [N0d, N1d, N2d]; done)) ?_
     refine Ok.skip ?_
     refine Ok.seq ?_
     refine Ok.seq ?_
     refine Ok.drop [72, 73] (by simp only [kover] <;> rfl) ?_
     refine Ok.region ?_
     iterate 3 (refine EV ?_)
     refine ON ?_
     refine Ok.cond_false (by simp only [kE, kT, kL, kC] <;> first | rfl | (simp; done) | (simp; omega) | (simp [N0d, N1d, N2d]; done)) ?_
     refine Ok.skip ?_
     refine Ok.seq ?_
     refine Ok.drop [74, 75, 76] (by simp only [kover] <;> rfl) ?_
     refine Ok.bump (n' := md + 20 + 1) (by omega) ?_
     refine Ok.region ?_
     refine EV ?_
     refine OkOps.S0 rfl (OpS.weak' rfl (by simp only [kE, kT, kL, kC] <;> rfl) (by simp only [kE, kT, kL, kC] <;> rfl) cl19 (wp_laws_toPair p hs)) (by simp only [kP] <;> rfl) ?_
     refine EV ?_
     obtain ⟨L0g, e0g, L1g, e1g, L2g, e2g, hXg, q0g, E0g, M0g, N0g, q1g, E1g, M1g, N1g, q2g, E2g, M2g, N2g, ndg, rgg⟩ := ownTPair (md + 20) (speakP p i) (speakB p i)
     obtain ⟨mg, hmg⟩ : ∃ m, md + 20 + 1 + V.cnt (.tup [.agg (cPair (speakP p i)), .bool (speakB p i)]) = m + 1 := ⟨md + 20 + V.cnt (.tup [.agg (cPair (speakP p i)), .bool (speakB p i)]), by omega⟩
     have r0g : ∀ z ∈ V.labels (.sl (L0g + 1) 13 0 e0g), md + 20 + 1 ≤ z ∧ z < mg + 1 := fun z hz => by have := rgg z (by first | exact hz | (simp only [V.labelsL, V.labels, List.mem_append] at hz ⊢; simp only [hz, true_or, or_true])); omega
     have r1g : ∀ z ∈ V.labels (.sl (L1g + 1) 9 0 e1g), md + 20 + 1 ≤ z ∧ z < mg + 1 := fun z hz => by have := rgg z (by first | exact hz | (simp only [V.labelsL, V.labels, List.mem_append] at hz ⊢; simp only [hz, true_or, or_true])); omega
     have r2g : ∀ z ∈ V.labels (.sl (L2g + 1) 2 0 e2g), md + 20 + 1 ≤ z ∧ z < mg + 1 := fun z hz => by have := rgg z (by first | exact hz | (simp only [V.labelsL, V.labels, List.mem_append] at hz ⊢; simp only [hz, true_or, or_true])); omega
     refine OkOps.S' rfl (OpS.pure' rfl (by simp only [kE, kT, kL, kC] <;> rfl) (by simp only [kE, kT, kL, kC, E0c, M0c, N0c, E1c, M1c, N1c, E2c, M2c, N2c, E0d, M0d, N0d, E1d, M1d, N1d, E2d, M2d, N2d, V.eraseL, V.erase, V.travL, V.trav, zz, zf, zy] <;> rfl) cl25 (by simp [V.dat, V.datL, V.datLL, zz, zf, zy]) (p_impl_Speak p i hs)) hmg (by simp only [kP, hXg] <;> rfl) ?_
     iterate 4 (refine EV ?_)
     refine OkOps.drop [81, 77] (by simp only [kover] <;> rfl) ?_
     refine OkOps.storeN tab_ok rfl rfl (by simp only [kE, kT, kL, kC] <;> rfl) ⟨_, _, by simp only [kE]; rfl⟩ (by first | (simp [V.labelsL, V.labelsLL, V.labels, zz, zf, zy]; done) | (intro h; have := rgg _ h; omega)) (fun W hW hF => by obtain ⟨z0c, zz0c⟩ := farA hW r0c (fun y h1 h2 h => by omega); obtain ⟨z1c, zz1c⟩ := farA hW r1c (fun y h1 h2 h => by omega); obtain ⟨z2c, zz2c⟩ := farA hW r2c (fun y h1 h2 h => by omega); obtain ⟨z0d, zz0d⟩ := farA hW r0d (fun y h1 h2 h => by omega); obtain ⟨z1d, zz1d⟩ := farA hW r1d (fun y h1 h2 h => by omega); obtain ⟨z2d, zz2d⟩ := farA hW r2d (fun y h1 h2 h => by omega); obtain ⟨z0g, zz0g⟩ := farA hW r0g (fun y h1 h2 h => by omega); obtain ⟨z1g, zz1g⟩ := farA hW r1g (fun y h1 h2 h => by omega); obtain ⟨z2g, zz2g⟩ := farA hW r2g (fun y h1 h2 h => by omega); have f0 := far0 hW (fun h => by omega); have p0 := fun i o e => hW.ptr (1) i o e (by omega);  have p1 := fun i o e => hW.ptr (2) i o e (by omega);  have p2 := fun i o e => hW.ptr (mc + 1) i o e (by omega);  have p3 := fun i o e => hW.ptr (md + 1) i o e (by omega); simp only [List.map_cons, List.map_nil, hW.int, hW.str, hW.bool, hW.any, hW.tup0, hW.agg, hW.nilV, hF.ptr, z0c, zz0c, z1c, zz1c, z2c, zz2c, z0d, zz0d, z1d, zz1d, z2d, zz2d, z0g, zz0g, z1g, zz1g, z2g, zz2g, f0, p0, p1, p2, p3, kP] <;> rfl) ?_
     refine EV ?_
     refine ON ?_
     refine Ok.seq ?_
     refine Ok.seq ?_
     refine Ok.drop [77, 78, 79, 80, 81, 82, 83] (by simp only [kover] <;> rfl) ?_
     refine Ok.region ?_
     iterate 2 (refine EV ?_)
     refine OkOps.S0 rfl (OpS.weakE rfl (by simp only [kE, kT, kL, kC] <;> rfl) (by simp only [kE, kT, kL, kC, E0c, M0c, N0c, E1c, M1c, N1c, E2c, M2c, N2c, E0d, M0d, N0d, E1d, M1d, N1d, E2d, M2d, N2d, E0g, M0g, N0g, E1g, M1g, N1g, E2g, M2g, N2g, V.eraseL, V.erase, V.travL, V.trav, zz, zf, zy] <;> rfl) cl21 (by simp [V.labels, V.labelsL, V.labelsLL, zz, zf, zy]) (w_laws_eqPair (speakP p i) (speakP p i))) (by simp only [kP] <;> rfl) ?_
     iterate 2 (refine EV ?_)
     refine OkOps.split (d := 88) (by simp only [kE, kT, kL, kC] <;> rfl) (by simp only [kP] <;> rfl) (by simp only [kP] <;> rfl) (fun hg25_4 => ?_) (fun hg25_4 => ?_)
     ·
      try simp only [bsimp] at hg25_4
      simp at hg25_4
     ·
      try simp only [bsimp] at hg25_4
      refine OO ?_
      refine EV ?_
      refine OO ?_
      refine EV ?_
      refine OO ?_
      iterate 2 (refine EV ?_)
      refine ON ?_
      refine Ok.cond_false (by simp only [kE, kT, kL, kC] <;> first | rfl | (simp; done) | (simp; omega) | (simp [N0d, N1d, N2d]; done)) ?_
      refine Ok.skip ?_
      refine Ok.seq ?_
      refine Ok.drop [84, 85, 86, 87, 88, 89, 90, 91, 92] (by simp only [kover] <;> rfl) ?_
      refine Ok.region ?_
      refine EV ?_
      refine ON ?_
      refine OQ ?_
      iterate 2 (refine EV ?_)
      refine OkOps.S0 rfl (OpS.weakE rfl (by simp only [kE, kT, kL, kC] <;> rfl) (by simp only [kE, kT, kL, kC, E0c, M0c, N0c, E1c, M1c, N1c, E2c, M2c, N2c, E0d, M0d, N0d, E1d, M1d, N1d, E2d, M2d, N2d, E0g, M0g, N0g, E1g, M1g, N1g, E2g, M2g, N2g, V.eraseL, V.erase, V.travL, V.trav, zz, zf, zy] <;> rfl) cl23 (by simp [V.labels, V.labelsL, V.labelsLL, zz, zf, zy]) (w_laws_heldPair (speakP p i) 1 (by have q := mnq_pair p; have q2 := mnq_pair (speakP p i); have q3 := kSpeak p i; (try dsimp only); omega))) (by simp only [kP] <;> rfl) ?_
      refine EV ?_
      refine ON ?_
      refine Ok.seq ?_
      refine Ok.seq ?_
      refine Ok.drop [93, 94, 95] (by simp only [kover] <;> rfl) ?_
      refine Ok.region ?_
      iterate 2 (refine EV ?_)
      refine ON ?_
      refine Ok.cond_false (by simp only [kE, kT, kL, kC] <;> first | rfl | (simp; done) | (simp; omega) | (simp [N0d, N1d, N2d]; done)) ?_
      refine Ok.skip ?_
      refine Ok.seq ?_
      refine Ok.seq ?_
      refine Ok.drop [96, 97] (by simp only [kover] <;> rfl) ?_
      refine Ok.region ?_
      iterate 3 (refine EV ?_)
      refine ON ?_
      refine Ok.cond_false (by simp only [kE, kT, kL, kC] <;> first | rfl | (simp; done) | (simp; omega) | (simp [N0d, N1d, N2d]; done)) ?_
      refine Ok.skip ?_
      refine Ok.seq ?_
      refine Ok.drop [98, 99, 100] (by simp only [kover] <;> rfl) ?_
      refine Ok.region ?_
      refine EV ?_
      refine ON ?_
      refine Ok.ret ?_
      with_reducible repeat (first | refine thenQ_ret ?_ | refine blockQ_ret ?_)
      refine RT ?_
      rfl
end Go.Proofs.YtjhfabimacljhaaGreat.K
