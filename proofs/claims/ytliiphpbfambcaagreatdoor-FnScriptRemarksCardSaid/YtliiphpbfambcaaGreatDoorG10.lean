/- Walks: the law of remarks. Printed by w2.py. -/
import Derived.Test.YtliiphpbfambcaaGreatDoorG7
import Derived.Test.YtliiphpbfambcaaGreatDoorG8
import Derived.Test.YtliiphpbfambcaaGreatDoorG9
namespace Go.Proofs.YtliiphpbfambcaaGreatDoor.K
open Go Go.RowKit
set_option linter.unusedVariables false
set_option linter.unusedSimpArgs false
theorem readGo_len : ∀ (r : List Str) (i : Nat) (out : List Event) (calm : Bool), (readGo r i out calm).1.length ≤ out.length + r.length
  | [], i, out, calm => by rw [readGo]; exact Nat.le_refl _
  | l :: r, i, out, calm => by
    have h1 := readGo_len r (i + 1) out
    rw [readGo, List.length_cons]
    split
    · exact Nat.le_trans (h1 _) (by omega)
    · split
      · exact Nat.zero_le _
      · split
        · exact Nat.le_trans (h1 _) (by omega)
        · split
          · exact Nat.zero_le _
          · split
            · exact Nat.zero_le _
            · refine Nat.le_trans (readGo_len r _ _ _) ?_
              rw [List.length_append, List.length_singleton]; omega
theorem script_len (s : Str) : (readScript s).1.length ≤ s.length + 1 := by
  unfold readScript
  split
  · exact Nat.zero_le _
  · have h1 := readGo_len (linesOf s) 0 [] false
    have h2 := lines_many s
    rw [List.length_nil] at h1
    omega
set_option maxHeartbeats 4000000
set_option maxRecDepth 20000
theorem eqV_Event (a b : Event) : eqV tab 4 29 (.agg (cEvent a)) (.agg (cEvent b)) = some (decide (a = b)) := by
  have h : eqV tab 4 29 (.agg (cEvent a)) (.agg (cEvent b)) = some (decide (a.kind = b.kind) && (decide (a.place = b.place) && (decide (a.num = b.num) && (decide (a.text = b.text) && true)))) := rfl
  rw [h]
  obtain ⟨a1, a2, a3, a4⟩ := a; obtain ⟨b1, b2, b3, b4⟩ := b
  simp [Bool.eq_iff_iff]
theorem w_laws_FnScriptRemarks (code : Str) (hc : code.length ≤ 4611686018427387904) : Weak Tryz.prog 3 [.sl 0 1 0 (code.map cB)] (.bool true) := by
 refine Weak.enter tab_ok Tryz.func3 rfl (.inr (by simp [V.labelsL, V.labels, zz, zf, zy, zev])) (t := [.sl 0 1 0 (code.map cB), .any, .any, .any, .any, .any, .any, .any, .any, .any, .any, .any, .any, .any, .any, .any, .any, .any, .any, .any, .any, .any, .any, .any, .any, .any, .any, .any, .any, .any, .any, .any, .any, .any, .any, .any, .any, .any, .any, .any, .any, .any, .any, .any, .any, .any, .any, .any, .any, .any, .any, .any, .any, .any, .any, .any, .any, .any, .any, .any, .any, .any, .any, .any, .any, .any, .any, .any, .any, .any, .any, .any, .any, .any, .any, .any, .any, .any, .any, .any, .any, .any, .any, .any, .any, .any, .any, .any, .any, .any, .any, .any, .any, .any]) rfl ?_
 refine OQ ?_
 refine EV ?_
 refine ON ?_
 refine Ok.seq ?_
 refine OQ ?_
 refine EV ?_
 refine OW cl4 (w_laws_big _) ?_
 refine ON ?_
 refine OC (fun hb1 => ?_) (fun hb1 => ?_)
 ·
  try simp only [bsimp] at hb1
  refine OQ ?_
  refine EV ?_
  refine ON ?_
  refine Ok.ret ?_
  with_reducible repeat (first | refine thenQ_ret ?_ | refine blockQ_ret ?_)
  refine RT ?_
  first | rfl | (simp; done)
 try simp only [bsimp] at hb1
 refine Ok.skip ?_
 refine OQ ?_
 refine EV ?_
 refine OkOps.weakX rfl rfl (by simp only [kE, kT, kL, kC] <;> rfl) (by simp only [kE, kT, kL, kC] <;> rfl) cl5 (x_spec_DrawReadScript code hc) (fun y => by simp only [kP] <;> rfl) ?_
 rintro s hs
 try dsimp only
 refine EV ?_
 refine ON ?_
 refine OQ ?_
 refine EV ?_
 refine OW cl6 (w_impl_ReadScript s (by omega)) ?_
 iterate 7 (refine EV ?_)
 refine ON ?_
 refine OQ ?_
 refine EV ?_
 refine OW cl7 (w_spec_ReadScript s (by omega)) ?_
 iterate 7 (refine EV ?_)
 refine ON ?_
 refine OQ ?_
 refine EV ?_
 iterate 2 (refine OkOps.ev tab_ok rfl (ev_cat (by simp only [kE, kT, kL, kC] <;> rfl) (by simp only [kE, kT, kL, kC] <;> rfl) (by first | omega | (simp only [List.length_append, List.length_cons, List.length_nil] at *; omega))) (by simp only [kP] <;> rfl) ?_)
 refine OW cl6 (w_impl_ReadScript (sAhead ++ s ++ sBehind) (by simp only [List.length_append, List.length_cons, List.length_nil]; omega)) ?_
 iterate 7 (refine EV ?_)
 refine ON ?_
 refine Ok.seq ?_
 refine OQ ?_
 iterate 4 (refine EV ?_)
 refine OP (d := 41) (fun hg7_3 => ?_) (fun hg7_3 => ?_)
 ·
  try simp only [bsimp] at hg7_3
  first | exact absurd rfl hg7_3 | (simp at hg7_3; done) | (exfalso; simp_all; done)
 try simp only [bsimp] at hg7_3
 refine OX ?_
 refine OX ?_
 refine OO ?_
 iterate 3 (refine EV ?_)
 refine OP (d := 46) (fun hg7_8 => ?_) (fun hg7_8 => ?_)
 ·
  try simp only [bsimp] at hg7_8
  first | exact absurd rfl hg7_8 | (simp at hg7_8; done) | (exfalso; simp_all; done)
 try simp only [bsimp] at hg7_8
 iterate 4 (refine OX ?_)
 refine OO ?_
 iterate 2 (refine EV ?_)
 refine ON ?_
 refine OC (fun hb7 => ?_) (fun hb7 => ?_)
 ·
  try simp only [bsimp] at hb7
  first | exact absurd rfl hb7 | (simp at hb7; done) | (exfalso; simp_all; done)
 try simp only [bsimp] at hb7
 refine Ok.skip ?_
 refine Ok.seq ?_
 refine OQ ?_
 refine EV ?_
 refine ON ?_
 refine Ok.block ?_
 refine Ok.bump (n' := 2) (by omega) ?_
 refine Ok.loopWZ (τ := Nat) (fun x => [(13, .int .i64 (x : Int))]) [2, 53, 54, 55, 56, 57, 58, 59, 60, 61, 62, 63, 64, 65, 66, 67] (fun x => by simp only [kover] <;> rfl) (fun x => x ≤ (readScript s).1.length) (fun x => (readScript s).1.length - x) 0 (by omega) (by (repeat (first | exact trivial | refine leC ?_ | refine leK ?_ ?_)) <;> first | (first | exact le_rfl' _) | exact le_rfl' _) (Nat.zero_le _) ?_
 rintro i h1
 have hsl := script_len s
 refine Ok.seq ?_
 refine OQ ?_
 iterate 4 (refine EV ?_)
 refine ON ?_
 refine OC (fun hb10 => ?_) (fun hb10 => ?_)
 ·
  try simp only [bsimp] at hb10
  have hi : i < (readScript s).1.length := by omega
  refine Ok.skip ?_
  refine Ok.seq ?_
  refine Ok.block ?_
  refine Ok.seq ?_
  refine Ok.drawn 9 94 [] (by kernel_rfl) (by kernel_rfl) rfl ?_
  iterate 2 (refine SV ?_)
  refine SOps.ev tab_ok rfl (ev_idx_map (by simp only [kE, kT, kL, kC] <;> rfl) (by simp only [kE, kT, kL, kC] <;> rfl) (hi) (by simp only [kE, kT, kL, kC] <;> rfl)) (by simp only [kP] <;> rfl) ?_
  iterate 3 (refine SV ?_)
  refine SOps.ev tab_ok rfl (ev_idx_map (by simp only [kE, kT, kL, kC] <;> rfl) (by simp only [kE, kT, kL, kC] <;> rfl) (hi) (by simp only [kE, kT, kL, kC] <;> rfl)) (by simp only [kP] <;> rfl) ?_
  refine SV ?_
  refine SOps.S0 rfl (OpS.eqSM 4 tab_ok rfl (by simp only [kE, kT, kL, kC] <;> rfl) (by simp only [kE, kT, kL, kC] <;> rfl) ((eqV_Event (readScript s).1[i] (readScript s).1[i]).trans (congrArg some (decide_eq_true rfl))) (.inr ⟨rfl, rfl⟩) (by kernel_rfl) (by decide) (by kernel_rfl)) (by simp only [kP] <;> rfl) ?_
  refine SOps.nil ?_
  refine TOps.nil ?_
  refine OC (fun hb12 => ?_) (fun hb12 => ?_)
  ·
   try simp only [bsimp] at hb12
   first | exact absurd rfl hb12 | (simp at hb12; done) | (exfalso; simp_all; done)
  try simp only [bsimp] at hb12
  refine Ok.skip ?_
  refine Ok.region ?_
  iterate 3 (refine EV ?_)
  refine ON ?_
  refine ⟨i + 1, ?_, rfl, by omega, by omega⟩
  simp only [V.renL, V.travL, V.travLL, V.trav, frz, zz, zf, zy, zev, Nat.reduceLeDiff, ↓reduceIte]
  (repeat (first | exact trivial | refine leC ?_ | refine leK ?_ ?_)) <;> first | (first | exact le_rfl' _ | (rw [wrap_succ (by omega)]; exact le_rfl' _)) | exact le_rfl' _
 try simp only [bsimp] at hb10
 refine Ok.exit ?_
 refine Ok.seq ?_
 have hm : (readScript s).2.2 = 0 → (readScript (sAhead ++ s ++ sBehind)).2.2 = -1 ∨ readScript (sAhead ++ s ++ sBehind) = (readScript s) := fun h => by by_cases h2 : (sAhead ++ s ++ sBehind).length ≤ 3000; exact .inr (script_remarks h h2); exact .inl (by rw [readScript, if_pos (by omega)])
 refine Ok.region ?_
 iterate 3 (refine EV ?_)
 refine OP (d := 70) (fun hg14_2 => ?_) (fun hg14_2 => ?_)
 ·
  try simp only [bsimp] at hg14_2
  refine OU ?_
  refine OU ?_
  iterate 2 (refine EV ?_)
  iterate 14 (refine OU ?_)
  iterate 2 (refine EV ?_)
  refine OO ?_
  refine OW cl8 (w_impl_Console  ) ?_
  refine OO ?_
  iterate 3 (refine EV ?_)
  refine ON ?_
  refine Ok.ret ?_
  with_reducible repeat (first | refine thenQ_ret ?_ | refine blockQ_ret ?_)
  refine RT ?_
  first | rfl | (simp; done)
 try simp only [bsimp] at hg14_2
 have hf0 : (readScript s).2.2 = 0 := by first | omega | simpa using hg14_2
 have hor := hm hf0
 refine OX ?_
 refine OO ?_
 iterate 3 (refine EV ?_)
 refine OP (d := 74) (fun hg14_6 => ?_) (fun hg14_6 => ?_)
 ·
  try simp only [bsimp] at hg14_6
  iterate 14 (refine OU ?_)
  iterate 2 (refine EV ?_)
  refine OO ?_
  refine OW cl8 (w_impl_Console  ) ?_
  refine OO ?_
  iterate 3 (refine EV ?_)
  refine ON ?_
  refine Ok.ret ?_
  with_reducible repeat (first | refine thenQ_ret ?_ | refine blockQ_ret ?_)
  refine RT ?_
  first | rfl | (simp; done)
 try simp only [bsimp] at hg14_6
 have he : readScript (sAhead ++ s ++ sBehind) = (readScript s) := hor.resolve_left (by first | exact hg14_6 | (simp_all; done))
 rw [he]
 iterate 3 (refine OX ?_)
 refine OP (d := 77) (fun hg14_9 => ?_) (fun hg14_9 => ?_)
 ·
  try simp only [bsimp] at hg14_9
  iterate 7 (refine OX ?_)
  refine OP (d := 84) (fun hg14_16 => ?_) (fun hg14_16 => ?_)
  ·
   try simp only [bsimp] at hg14_16
   iterate 3 (refine OX ?_)
   refine OO ?_
   iterate 3 (refine EV ?_)
   refine OP (d := 90) (fun hg14_22 => ?_) (fun hg14_22 => ?_)
   ·
    try simp only [bsimp] at hg14_22
    refine OO ?_
    refine OW cl8 (w_impl_Console  ) ?_
    refine OO ?_
    iterate 3 (refine EV ?_)
    refine ON ?_
    refine Ok.ret ?_
    with_reducible repeat (first | refine thenQ_ret ?_ | refine blockQ_ret ?_)
    refine RT ?_
    first | rfl | (simp; done)
   try simp only [bsimp] at hg14_22
   first | exact absurd rfl hg14_22 | (simp at hg14_22; done) | (exfalso; simp_all; done)
  try simp only [bsimp] at hg14_16
  first | exact absurd rfl hg14_16 | (simp at hg14_16; done) | (exfalso; simp_all; done)
 try simp only [bsimp] at hg14_9
 first | exact absurd rfl hg14_9 | (simp at hg14_9; done) | (exfalso; simp_all; done)
end Go.Proofs.YtliiphpbfambcaaGreatDoor.K
