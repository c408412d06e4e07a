/- Walks: what is done in stores, as the reference has it. Printed by w2.py. -/
import Derived.Test.YtjhfabimacljhaaGreatG7
import Derived.Test.YtjhfabimacljhaaGreatG6
import Derived.Test.YtjhfabimacljhaaGreatG4
import Derived.Test.YtjhfabimacljhaaGreatG1
namespace Go.Proofs.YtjhfabimacljhaaGreat.K
open Go Go.RowKit
set_option linter.unusedVariables false
set_option linter.unusedSimpArgs false
theorem boxAt_lt {s : Store} {g : Int} {j : Nat} (h : idxI (boxAt s g) = (j : Int)) : j < s.boxes.length := by
  cases e : boxAt s g with
  | some i => rw [e] at h; have : i < s.boxes.length := idx_get e; have h2 : ((i : Nat) : Int) = j := h; omega
  | none => rw [e] at h; have h2 : (-1 : Int) = j := h; omega
theorem OkOps.fresh {P : Program} {ops : Array Oper} {l : List Oper} {t t' h : List V} {n : Nat} {Q : Exit → List V → List V → Nat → Prop} (d q : Nat) (hd : t[d]? = some (.nil q)) (ht : t.set d (.sl n q 0 []) = t') (hk : OkOps P ops l t' h (n + 1) Q) : OkOps P ops l t h n Q := by
  subst ht
  intro base w0 hv σ a w g
  refine hk base w0 hv σ a w ⟨⟨by rw [List.length_set]; exact g.ts.1, fun i y u hy hu => ?_⟩, g.hs, g.dfr, g.bel, ⟨g.inv.bs, by omega, g.inv.zero, fun L hL => g.inv.fresh L (by omega), g.inv.own, g.inv.inj⟩⟩
  by_cases hi : d = i
  · subst hi
    have hm := g.ts.2 d _ u hd hu
    have hlt : d < t.length := (List.getElem?_eq_some_iff.1 hd).1
    rw [List.getElem?_set_self hlt] at hy
    obtain rfl := Option.some.inj hy
    cases hm with
    | nil _ A => exact .sl n q 0 [] A 0 (fun _ _ => undef) (Nat.le_refl _) (Nat.zero_le _) (by simp) (.inr (.inl rfl)) (by simp) (by simp)
  · rw [List.getElem?_set_ne hi] at hy
    exact g.ts.2 i y u hy hu
theorem OkOps.nilAgg {P : Program} {ops : Array Oper} {l : List Oper} {t t' h : List V} {n : Nat} {Q : Exit → List V → List V → Nat → Prop} {cs cs' : List V} (d : Nat) (hd : t[d]? = some (.agg cs)) (hle : leL cs cs') (ht : t.set d (.agg cs') = t') (hk : OkOps P ops l t' h n Q) : OkOps P ops l t h n Q := by
  subst ht
  intro base w0 hv σ a w g
  refine hk base w0 hv σ a w ⟨⟨by rw [List.length_set]; exact g.ts.1, fun i y u hy hu => ?_⟩, g.hs, g.dfr, g.bel, g.inv⟩
  by_cases hi : d = i
  · subst hi
    have hm := g.ts.2 d _ u hd hu
    have hlt : d < t.length := (List.getElem?_eq_some_iff.1 hd).1
    rw [List.getElem?_set_self hlt] at hy
    obtain rfl := Option.some.inj hy
    obtain ⟨h1, h2⟩ := leL_spec hle
    cases hm with
    | agg _ vs e1 e6 =>
      refine .agg cs' vs (h1 ▸ e1) fun c x v hx hv2 => ?_
      have hc : c < cs.length := by have := (List.getElem?_eq_some_iff.1 hx).1; omega
      have hx0 : cs[c]? = some cs[c] := List.getElem?_eq_getElem hc
      have hm1 := e6 c _ v hx0 hv2
      rcases h2 c _ x hx0 hx with e | e | ⟨L, sz, ea, eb⟩
      · rw [← e]; exact hm1
      · rw [e]; exact .any _
      · rw [ea] at hm1; rw [eb]
        cases hm1 with
        | nil _ A => exact .sl L sz 0 [] A 0 (fun _ _ => undef) (Nat.le_refl _) (Nat.zero_le _) (by simp) (.inr (.inl rfl)) (by simp) (by simp)
  · rw [List.getElem?_set_ne hi] at hy
    exact g.ts.2 i y u hy hu
theorem store_time {s : Store} (h : storeOk s = true) : IntKind.i64.wrap (s.time + 1) = s.time + 1 := by
  have := (store_small h).t0; have := (store_small h).t1
  exact wrap_add_1 (by omega) (by omega)
theorem addMail_sm {b : Box} {g flags : Int} {t : Str} {s : Stamp} (h : smBox b) (ht : t.length ≤ 1048576) : smBox (addMail b g flags t s).1 := by
  unfold addMail
  split
  · exact h
  · split
    · rename_i h2; exact (box_small h2).sm
    · exact h
theorem setFlags_len (l : List Reg) (n : Int) (s : Stamp) : (setFlags l n s).length = l.length := by
  unfold setFlags
  split
  · rfl
  · exact setGo_len _ _ _ _
theorem flagMail_sm {b : Box} {g n : Int} {s : Stamp} (h : smBox b) : smBox (flagMail b g n s).1 := by
  unfold flagMail
  split
  · exact h
  · show smBox (flagOut b _ n s)
    unfold flagOut
    split
    · rename_i m hm
      refine ⟨h.1, ⟨by show (b.mails.set _ _).length ≤ _; rw [List.length_set]; exact h.2.1.1, fun z hz => ?_⟩, h.2.2⟩
      rcases List.mem_or_eq_of_mem_set hz with h1 | rfl
      · exact h.2.1.2 z h1
      · have := h.2.1.2 m (List.mem_of_getElem? hm)
        exact ⟨by show (setFlags _ _ _).length ≤ _; rw [setFlags_len]; exact this.1, this.2⟩
    · exact h
theorem newBox_sm {s : Store} {g : Int} {n : Str} (hn : n.length ≤ 1048576) : smBox (newBox s g n) := ⟨hn, ⟨by show (0 : Nat) ≤ _; omega, fun z hz => by cases hz⟩, by show (0 : Nat) ≤ _; omega⟩
theorem makeOut_sm {s : Store} {g : Int} {n : Str} (h : StoreS s) (hn : n.length ≤ 1048576) : smStore (makeOut s g n) := by
  have h1 := h.boxes; have h2 := h.gone; have hs := h.sm
  refine ⟨⟨?_, fun z hz => ?_⟩, by show s.gone.length ≤ _; omega⟩
  · show (s.boxes.filter (ltB g) ++ [newBox s g n] ++ s.boxes.filter (gtB g)).length ≤ _
    have := List.length_filter_le (ltB g) s.boxes; have := List.length_filter_le (gtB g) s.boxes
    simp only [List.length_append, List.length_singleton]; omega
  · have hz' : z ∈ s.boxes.filter (ltB g) ++ [newBox s g n] ++ s.boxes.filter (gtB g) := hz
    rcases List.mem_append.1 hz' with hz | hz
    · rcases List.mem_append.1 hz with hz | hz
      · exact hs.1.2 z (List.mem_filter.1 hz).1
      · obtain rfl := List.mem_singleton.1 hz; exact newBox_sm hn
    · exact hs.1.2 z (List.mem_filter.1 hz).1
theorem set_sm {s : Store} {i : Nat} {b : Box} {t : Int} (h : smStore s) (hb : smBox b) : smStore { s with time := t, boxes := s.boxes.set i b } := by
  refine ⟨⟨by show (s.boxes.set i b).length ≤ _; rw [List.length_set]; exact h.1.1, fun z hz => ?_⟩, h.2⟩
  rcases List.mem_or_eq_of_mem_set hz with h1 | rfl
  · exact h.1.2 z h1
  · exact hb
set_option maxHeartbeats 4000000
set_option maxRecDepth 20000
theorem w_spec_l07Stamped (s : Store) (i : Nat) (b : Box) (h : smStore s) (hi : i < s.boxes.length) (hb : smBox b) : Weak Tryz.prog 231 [.agg (cStore s), .int .i64 (i : Int), .agg (cBox b)] (vSB (stamped s i b)) := by
 refine Weak.enter tab_ok Tryz.func231 rfl (.inr (by simp [V.labelsL, V.labels, V.labelsLL, zz, zf, zy, or_imp, forall_and])) (t := [.agg (cStore s), .int .i64 (i : Int), .agg (cBox b), .any, .any, .any, .any, .any, .any, .any, .any, .any, .any, .any, .any, .any, .any, .any, .any, .any, .any, .any, .any, .any, .any, .any]) rfl ?_
 refine OQ ?_
 iterate 4 (refine EV ?_)
 refine ON ?_
 refine OQ ?_
 refine EV ?_
 refine OkOps.S' rfl (OpS.semi rfl (by simp only [kE, kT, kL, kC] <;> rfl) (by simp only [kE, kT, kL, kC, V.eraseL, V.erase, V.travL, V.trav, zz, zf, zy] <;> rfl) cl162 (by simp [V.dat, V.datL, V.datLL, zz, zf, zy]) (by simp [V.erase, V.trav, V.travL, V.travLL, zz, zf, zy]) (p_spec_l07Copy s h)) (by simp only [ksem, Nat.add_zero, Nat.zero_add, Nat.reduceAdd] <;> rfl) (by simp only [kP, ksem, Nat.add_zero, Nat.zero_add, Nat.reduceAdd] <;> rfl) ?_
 refine EV ?_
 refine OE ?_
 refine ON ?_
 refine OQ ?_
 iterate 4 (refine EV ?_)
 refine OkOps.ev tab_ok rfl (ev_idx (by simp only [kE, kT, kL, kC] <;> rfl) (by simp only [kE, kT, kL, kC] <;> rfl) (by rw [List.getElem?_map, List.getElem?_eq_getElem hi]; rfl) (by simp only [kE, kT, kL, kC] <;> rfl)) (by simp only [kP] <;> rfl) ?_
 refine OE ?_
 refine ON ?_
 refine Ok.seq ?_
 rw [show (List.map cBox s.boxes).set (i - 0) [V.int .i64 b.gid, .str b.name, .int .i64 b.named.time, .int .i64 b.named.by_, .int .i64 b.next, .sl 0 4 0 (b.mails.map cMail), .sl 0 1 0 (b.gone.map cZ)] = (s.boxes.set i b).map cBox from set_map cBox s.boxes i b]
 refine Ok.region ?_
 iterate 4 (refine EV ?_)
 refine OE ?_
 refine ON ?_
 refine Ok.seq ?_
 refine OQ ?_
 refine EV ?_
 refine OkOps.S0 rfl (OpS.weakE rfl (by simp only [kE, kT, kL, kC, stampOut, cStore] <;> rfl) (by simp only [kE, kT, kL, kC, stampOut, cStore, V.eraseL, V.erase, V.travL, V.trav, zz, zf, zy] <;> rfl) cl97 (by simp [V.labels, V.labelsL, V.labelsLL, zz, zf, zy]) (w_spec_StoreOk (stampOut s i b) (set_sm h hb))) (by simp only [kP] <;> rfl) ?_
 refine EV ?_
 refine ON ?_
 refine OC (fun hb4 => ?_) (fun hb4 => ?_)
 ·
  try simp only [bsimp] at hb4
  rw [show stamped s i b = (s, false) from if_neg (by simpa using hb4)]
  refine OQ ?_
  refine EV ?_
  refine OW cl162 ((Pure.weak' (p_spec_l07Copy s h) (by simp [V.dat, V.datL, V.datLL, zz, zf, zy]) (by simp [V.eraseL, V.erase, V.trav, V.travL, zz, zf, zy]) (by simp [V.erase, V.trav, V.travL, zz, zf, zy]))) ?_
  refine OE ?_
  refine EV ?_
  refine ON ?_
  refine Ok.ret ?_
  with_reducible repeat (first | refine thenQ_ret ?_ | refine blockQ_ret ?_)
  refine RT ?_
  first | rfl | (simp [-List.map_set, -List.map_take, -List.map_drop, V.erase, V.trav, V.travL, V.travLL, packV, zz, zf, zy, stampOut]; done)
 try simp only [bsimp] at hb4
 rw [show stamped s i b = (stampOut s i b, true) from if_pos (by simpa using hb4)]
 refine Ok.skip ?_
 refine OQ ?_
 refine EV ?_
 refine OE ?_
 refine EV ?_
 refine ON ?_
 refine Ok.ret ?_
 with_reducible repeat (first | refine thenQ_ret ?_ | refine blockQ_ret ?_)
 refine RT ?_
 first | rfl | (simp [-List.map_set, -List.map_take, -List.map_drop, V.erase, V.trav, V.travL, V.travLL, packV, zz, zf, zy, stampOut]; done)
theorem w_spec_PutMail (s : Store) (box g flags : Int) (t : Str) (h : smStore s) (ht : t.length ≤ 1048576) : Weak Tryz.prog 195 [.agg (cStore s), .int .i64 box, .int .i64 g, .int .i64 flags, .str t] (vSB (putMail s box g flags t)) := by
 refine Weak.enter tab_ok Tryz.func195 rfl (.inr (by simp [V.labelsL, V.labels, V.labelsLL, zz, zf, zy, or_imp, forall_and])) (t := [.agg (cStore s), .int .i64 box, .int .i64 g, .int .i64 flags, .str t, .any, .any, .any, .any, .any, .any, .any, .any, .any, .any, .any, .any, .any, .any, .any, .any, .any, .any, .any, .any, .any, .any, .any, .any, .any, .any, .any, .any, .any, .any, .any, .any, .any, .any, .any, .any, .any, .any, .any, .any, .any, .any, .any, .any, .any, .any, .any, .any, .any, .any, .any]) rfl ?_
 refine OQ ?_
 iterate 3 (refine EV ?_)
 refine ON ?_
 refine OQ ?_
 iterate 2 (refine EV ?_)
 refine OW cl229 (w_spec_BoxAt s box (by have := h.1.1; omega)) ?_
 refine EV ?_
 refine ON ?_
 refine Ok.seq ?_
 refine Ok.seqC [(29, .bool (putCond s box g))] [18, 19, 20, 21, 22, 23, 24, 25, 26, 27, 28] (by simp only [kover] <;> rfl) ?_ ?_
 ·
  refine Ok.region ?_
  refine EV ?_
  refine OW cl97 (w_spec_StoreOk s h) ?_
  iterate 2 (refine EV ?_)
  refine OP (d := 21) (fun hg2_3 => ?_) (fun hg2_3 => ?_)
  ·
   try simp only [bsimp] at hg2_3
   iterate 3 (refine OU ?_)
   iterate 2 (refine EV ?_)
   refine OU ?_
   refine OU ?_
   refine EV ?_
   refine ON ?_
   refine ⟨rfl, ?_, rfl, rfl⟩
   (repeat (first | exact trivial | refine leC ?_ | refine leK ?_ ?_)) <;> first | (refine .inl (congrArg V.bool ?_); (first | (simp [putCond, *]; done) | (simp [putCond, *] <;> omega) | (rw [Bool.eq_iff_iff]; simp [putCond, *] <;> omega) | (simp_all [putCond]; done) | (simp_all [putCond]; omega))) | exact le_rfl' _
  try simp only [bsimp] at hg2_3
  refine OX ?_
  refine OX ?_
  refine OO ?_
  refine OW cl227 (w_spec_Knows s g h) ?_
  iterate 2 (refine EV ?_)
  refine OP (d := 26) (fun hg2_8 => ?_) (fun hg2_8 => ?_)
  ·
   try simp only [bsimp] at hg2_8
   refine OU ?_
   refine OU ?_
   refine EV ?_
   refine ON ?_
   refine ⟨rfl, ?_, rfl, rfl⟩
   (repeat (first | exact trivial | refine leC ?_ | refine leK ?_ ?_)) <;> first | (refine .inl (congrArg V.bool ?_); (first | (simp [putCond, *]; done) | (simp [putCond, *] <;> omega) | (rw [Bool.eq_iff_iff]; simp [putCond, *] <;> omega) | (simp_all [putCond]; done) | (simp_all [putCond]; omega))) | exact le_rfl' _
  try simp only [bsimp] at hg2_8
  refine OX ?_
  refine OO ?_
  iterate 2 (refine EV ?_)
  refine ON ?_
  refine ⟨rfl, ?_, rfl, rfl⟩
  (repeat (first | exact trivial | refine leC ?_ | refine leK ?_ ?_)) <;> first | (refine .inl (congrArg V.bool ?_); (first | (simp [putCond, *]; done) | (simp [putCond, *] <;> omega) | (rw [Bool.eq_iff_iff]; simp [putCond, *] <;> omega) | (simp_all [putCond]; done) | (simp_all [putCond]; omega))) | exact le_rfl' _
 refine OC (fun hb2 => ?_) (fun hb2 => ?_)
 ·
  try simp only [bsimp] at hb2
  rw [show putMail s box g flags t = (s, false) from if_pos hb2]
  refine OQ ?_
  refine EV ?_
  refine OW cl162 ((Pure.weak' (p_spec_l07Copy s h) (by simp [V.dat, V.datL, V.datLL, zz, zf, zy]) (by simp [V.eraseL, V.erase, V.trav, V.travL, zz, zf, zy]) (by simp [V.erase, V.trav, V.travL, zz, zf, zy]))) ?_
  refine OE ?_
  refine EV ?_
  refine ON ?_
  refine Ok.ret ?_
  with_reducible repeat (first | refine thenQ_ret ?_ | refine blockQ_ret ?_)
  refine RT ?_
  first | rfl | (simp [-List.map_set, -List.map_take, -List.map_drop, V.erase, V.trav, V.travL, V.travLL, packV, zz, zf, zy]; done)
 try simp only [bsimp] at hb2
 have hc : storeOk s = true ∧ ¬ idxI (boxAt s box) < 0 := by have h9 := hb2; simp only [putCond, Bool.or_eq_false_iff, Bool.not_eq_false', decide_eq_false_iff_not] at h9; exact ⟨h9.1.1, h9.2⟩
 obtain ⟨j, hj⟩ : ∃ j : Nat, idxI (boxAt s box) = (j : Int) := ⟨(idxI (boxAt s box)).toNat, by omega⟩
 have hjl := boxAt_lt hj
 have hbi : boxIn s box = s.boxes[j] := by unfold boxIn; rw [hj, Int.toNat_natCast, List.getElem?_eq_getElem hjl]; rfl
 rw [show putMail s box g flags t = if (addMail (boxIn s box) g flags t (nextStamp s)).2 = true then stamped s (idxI (boxAt s box)).toNat (addMail (boxIn s box) g flags t (nextStamp s)).1 else (s, false) from if_neg (by simp [hb2])]
 rw [hbi, hj, Int.toNat_natCast]
 have hba := addMail_sm (g := g) (flags := flags) (s := nextStamp s) (h.1.2 _ (List.getElem_mem hjl)) ht
 refine Ok.skip ?_
 refine Ok.seq ?_
 refine Ok.drawn 15 56 [13] (by kernel_rfl) (by kernel_rfl) rfl ?_
 iterate 3 (refine SV ?_)
 refine SOps.ev tab_ok rfl (ev_idx (by simp only [kE, kT, kL, kC] <;> rfl) (by simp only [kE, kT, kL, kC] <;> rfl) (by rw [List.getElem?_map, List.getElem?_eq_getElem hjl]; rfl) (by simp only [kE, kT, kL, kC] <;> rfl)) (by simp only [kP] <;> rfl) ?_
 iterate 5 (refine SV ?_)
 refine SOps.S0 rfl (OpS.weakM rfl (by simp only [kE, kT, kL, kC] <;> rfl) (by simp only [kE, kT, kL, kC] <;> rfl) cl228 (w_spec_NextStamp s)) (by simp only [kP] <;> rfl) ?_
 refine SOps.S0 rfl (OpS.weakM rfl (by simp only [kE, kT, kL, kC] <;> rfl) (by simp only [kE, kT, kL, kC] <;> rfl) cl230 (w_spec_AddMail s.boxes[j] g flags t (nextStamp s) (h.1.2 _ (List.getElem_mem hjl)) ht)) (by simp only [kP] <;> rfl) ?_
 iterate 4 (refine SV ?_)
 refine SOps.nil ?_
 refine TOps.storeL tab_ok rfl rfl rfl (by simp only [kE, kT, kL, kC] <;> rfl) ⟨_, _, by simp only [kE]; rfl⟩ (by first | (simp [V.labelsL, V.labelsLL, V.labels, zz, zf, zy]; done) | (simp [-List.map_map, -List.map_set, -List.map_drop, -List.map_take, -List.map_tail, -List.drop_one, V.labelsL, V.labelsLL, V.labels, zz, zf, zy]; done)) (by simp only [eq_self, V.updL, V.travL, V.travLL, V.trav, updS, updP, and_self, true_and, and_true, false_and, and_false, Nat.reduceEqDiff, Nat.reduceSub, Nat.le_refl, Nat.zero_le, ↓reduceIte, if_true, if_false, kP, zz, zf, zy] <;> rfl) (rfl) (LateOk.cons (i := 13) tab_ok (by rfl) (by rfl) (by (try simp only [List.getElem_toArray, List.getElem_cons_succ, List.getElem_cons_zero]); exact (by simp only [kE, kT, kL, kC] <;> rfl)) (by show nth _ 45 = _; simp only [kE, kT, kL, kC] <;> rfl) LateOk.nil) ?_
 refine TOps.evL tab_ok rfl (by simp only [kE, kT, kL, kC] <;> rfl) (by simp only [kP] <;> rfl) (LateOk.cons (i := 13) tab_ok (by rfl) (by rfl) (by (try simp only [List.getElem_toArray, List.getElem_cons_succ, List.getElem_cons_zero]); exact (by simp only [kE, kT, kL, kC] <;> rfl)) (by show nth _ 45 = _; simp only [kE, kT, kL, kC] <;> rfl) LateOk.nil) ?_
 refine TOps.nil ?_
 refine Ok.seq ?_
 refine OQ ?_
 iterate 2 (refine EV ?_)
 refine ON ?_
 refine OC (fun hb5 => ?_) (fun hb5 => ?_)
 ·
  try simp only [bsimp] at hb5
  rw [if_neg (by simpa using hb5)]
  refine OQ ?_
  refine EV ?_
  refine OW cl162 ((Pure.weak' (p_spec_l07Copy s h) (by simp [V.dat, V.datL, V.datLL, zz, zf, zy]) (by simp [V.eraseL, V.erase, V.trav, V.travL, zz, zf, zy]) (by simp [V.erase, V.trav, V.travL, zz, zf, zy]))) ?_
  refine OE ?_
  refine EV ?_
  refine ON ?_
  refine Ok.ret ?_
  with_reducible repeat (first | refine thenQ_ret ?_ | refine blockQ_ret ?_)
  refine RT ?_
  first | rfl | (simp [-List.map_set, -List.map_take, -List.map_drop, V.erase, V.trav, V.travL, V.travLL, packV, zz, zf, zy]; done)
 try simp only [bsimp] at hb5
 rw [if_pos (by simpa using hb5)]
 refine Ok.skip ?_
 refine OQ ?_
 iterate 3 (refine EV ?_)
 refine OW cl231 (w_spec_l07Stamped s j (addMail s.boxes[j] g flags t (nextStamp s)).1 h hjl hba) ?_
 iterate 2 (refine EV ?_)
 refine OE ?_
 refine EV ?_
 refine ON ?_
 refine Ok.ret ?_
 with_reducible repeat (first | refine thenQ_ret ?_ | refine blockQ_ret ?_)
 refine RT ?_
 first | rfl | (simp [-List.map_set, -List.map_take, -List.map_drop, V.erase, V.trav, V.travL, V.travLL, packV, zz, zf, zy]; done)
theorem w_spec_MarkMail (s : Store) (box g flags : Int) (h : smStore s) : Weak Tryz.prog 197 [.agg (cStore s), .int .i64 box, .int .i64 g, .int .i64 flags] (vSB (markMail s box g flags)) := by
 refine Weak.enter tab_ok Tryz.func197 rfl (.inr (by simp [V.labelsL, V.labels, V.labelsLL, zz, zf, zy, or_imp, forall_and])) (t := [.agg (cStore s), .int .i64 box, .int .i64 g, .int .i64 flags, .any, .any, .any, .any, .any, .any, .any, .any, .any, .any, .any, .any, .any, .any, .any, .any, .any, .any, .any, .any, .any, .any, .any, .any, .any, .any, .any, .any, .any, .any, .any, .any, .any, .any, .any, .any, .any, .any, .any, .any, .any, .any, .any, .any]) rfl ?_
 refine OQ ?_
 iterate 3 (refine EV ?_)
 refine ON ?_
 refine OQ ?_
 iterate 2 (refine EV ?_)
 refine OW cl229 (w_spec_BoxAt s box (by have := h.1.1; omega)) ?_
 refine EV ?_
 refine ON ?_
 refine Ok.seq ?_
 refine Ok.seqC [(22, .bool (markCond s box))] [16, 17, 18, 19, 20, 21] (by simp only [kover] <;> rfl) ?_ ?_
 ·
  refine Ok.region ?_
  refine EV ?_
  refine OW cl97 (w_spec_StoreOk s h) ?_
  iterate 2 (refine EV ?_)
  refine OP (d := 19) (fun hg2_3 => ?_) (fun hg2_3 => ?_)
  ·
   try simp only [bsimp] at hg2_3
   refine OU ?_
   refine OU ?_
   refine EV ?_
   refine ON ?_
   refine ⟨rfl, ?_, rfl, rfl⟩
   (repeat (first | exact trivial | refine leC ?_ | refine leK ?_ ?_)) <;> first | (refine .inl (congrArg V.bool ?_); (first | (simp [markCond, *]; done) | (simp [markCond, *] <;> omega) | (rw [Bool.eq_iff_iff]; simp [markCond, *] <;> omega) | (simp_all [markCond]; done) | (simp_all [markCond]; omega))) | exact le_rfl' _
  try simp only [bsimp] at hg2_3
  refine OX ?_
  refine OO ?_
  iterate 2 (refine EV ?_)
  refine ON ?_
  refine ⟨rfl, ?_, rfl, rfl⟩
  (repeat (first | exact trivial | refine leC ?_ | refine leK ?_ ?_)) <;> first | (refine .inl (congrArg V.bool ?_); (first | (simp [markCond, *]; done) | (simp [markCond, *] <;> omega) | (rw [Bool.eq_iff_iff]; simp [markCond, *] <;> omega) | (simp_all [markCond]; done) | (simp_all [markCond]; omega))) | exact le_rfl' _
 refine OC (fun hb2 => ?_) (fun hb2 => ?_)
 ·
  try simp only [bsimp] at hb2
  rw [show markMail s box g flags = (s, false) from if_pos hb2]
  refine OQ ?_
  refine EV ?_
  refine OW cl162 ((Pure.weak' (p_spec_l07Copy s h) (by simp [V.dat, V.datL, V.datLL, zz, zf, zy]) (by simp [V.eraseL, V.erase, V.trav, V.travL, zz, zf, zy]) (by simp [V.erase, V.trav, V.travL, zz, zf, zy]))) ?_
  refine OE ?_
  refine EV ?_
  refine ON ?_
  refine Ok.ret ?_
  with_reducible repeat (first | refine thenQ_ret ?_ | refine blockQ_ret ?_)
  refine RT ?_
  first | rfl | (simp [-List.map_set, -List.map_take, -List.map_drop, V.erase, V.trav, V.travL, V.travLL, packV, zz, zf, zy]; done)
 try simp only [bsimp] at hb2
 have hc : storeOk s = true ∧ ¬ idxI (boxAt s box) < 0 := by have h9 := hb2; simp only [markCond, Bool.or_eq_false_iff, Bool.not_eq_false', decide_eq_false_iff_not] at h9; exact ⟨h9.1, h9.2⟩
 obtain ⟨j, hj⟩ : ∃ j : Nat, idxI (boxAt s box) = (j : Int) := ⟨(idxI (boxAt s box)).toNat, by omega⟩
 have hjl := boxAt_lt hj
 have hbi : boxIn s box = s.boxes[j] := by unfold boxIn; rw [hj, Int.toNat_natCast, List.getElem?_eq_getElem hjl]; rfl
 rw [show markMail s box g flags = if (flagMail (boxIn s box) g flags (nextStamp s)).2 = true then stamped s (idxI (boxAt s box)).toNat (flagMail (boxIn s box) g flags (nextStamp s)).1 else (s, false) from if_neg (by simp [hb2])]
 rw [hbi, hj, Int.toNat_natCast]
 have hba := flagMail_sm (g := g) (n := flags) (s := nextStamp s) (h.1.2 _ (List.getElem_mem hjl))
 refine Ok.skip ?_
 refine Ok.seq ?_
 refine Ok.drawn 14 48 [12] (by kernel_rfl) (by kernel_rfl) rfl ?_
 iterate 3 (refine SV ?_)
 refine SOps.ev tab_ok rfl (ev_idx (by simp only [kE, kT, kL, kC] <;> rfl) (by simp only [kE, kT, kL, kC] <;> rfl) (by rw [List.getElem?_map, List.getElem?_eq_getElem hjl]; rfl) (by simp only [kE, kT, kL, kC] <;> rfl)) (by simp only [kP] <;> rfl) ?_
 iterate 4 (refine SV ?_)
 refine SOps.S0 rfl (OpS.weakM rfl (by simp only [kE, kT, kL, kC] <;> rfl) (by simp only [kE, kT, kL, kC] <;> rfl) cl228 (w_spec_NextStamp s)) (by simp only [kP] <;> rfl) ?_
 refine SOps.S0 rfl (OpS.weakM rfl (by simp only [kE, kT, kL, kC] <;> rfl) (by simp only [kE, kT, kL, kC] <;> rfl) cl232 (w_spec_FlagMail s.boxes[j] g flags (nextStamp s) (h.1.2 _ (List.getElem_mem hjl)))) (by simp only [kP] <;> rfl) ?_
 iterate 4 (refine SV ?_)
 refine SOps.nil ?_
 refine TOps.storeL tab_ok rfl rfl rfl (by simp only [kE, kT, kL, kC] <;> rfl) ⟨_, _, by simp only [kE]; rfl⟩ (by first | (simp [V.labelsL, V.labelsLL, V.labels, zz, zf, zy]; done) | (simp [-List.map_map, -List.map_set, -List.map_drop, -List.map_take, -List.map_tail, -List.drop_one, V.labelsL, V.labelsLL, V.labels, zz, zf, zy]; done)) (by simp only [eq_self, V.updL, V.travL, V.travLL, V.trav, updS, updP, and_self, true_and, and_true, false_and, and_false, Nat.reduceEqDiff, Nat.reduceSub, Nat.le_refl, Nat.zero_le, ↓reduceIte, if_true, if_false, kP, zz, zf, zy] <;> rfl) (rfl) (LateOk.cons (i := 12) tab_ok (by rfl) (by rfl) (by (try simp only [List.getElem_toArray, List.getElem_cons_succ, List.getElem_cons_zero]); exact (by simp only [kE, kT, kL, kC] <;> rfl)) (by show nth _ 37 = _; simp only [kE, kT, kL, kC] <;> rfl) LateOk.nil) ?_
 refine TOps.evL tab_ok rfl (by simp only [kE, kT, kL, kC] <;> rfl) (by simp only [kP] <;> rfl) (LateOk.cons (i := 12) tab_ok (by rfl) (by rfl) (by (try simp only [List.getElem_toArray, List.getElem_cons_succ, List.getElem_cons_zero]); exact (by simp only [kE, kT, kL, kC] <;> rfl)) (by show nth _ 37 = _; simp only [kE, kT, kL, kC] <;> rfl) LateOk.nil) ?_
 refine TOps.nil ?_
 refine Ok.seq ?_
 refine OQ ?_
 iterate 2 (refine EV ?_)
 refine ON ?_
 refine OC (fun hb5 => ?_) (fun hb5 => ?_)
 ·
  try simp only [bsimp] at hb5
  rw [if_neg (by simpa using hb5)]
  refine OQ ?_
  refine EV ?_
  refine OW cl162 ((Pure.weak' (p_spec_l07Copy s h) (by simp [V.dat, V.datL, V.datLL, zz, zf, zy]) (by simp [V.eraseL, V.erase, V.trav, V.travL, zz, zf, zy]) (by simp [V.erase, V.trav, V.travL, zz, zf, zy]))) ?_
  refine OE ?_
  refine EV ?_
  refine ON ?_
  refine Ok.ret ?_
  with_reducible repeat (first | refine thenQ_ret ?_ | refine blockQ_ret ?_)
  refine RT ?_
  first | rfl | (simp [-List.map_set, -List.map_take, -List.map_drop, V.erase, V.trav, V.travL, V.travLL, packV, zz, zf, zy]; done)
 try simp only [bsimp] at hb5
 rw [if_pos (by simpa using hb5)]
 refine Ok.skip ?_
 refine OQ ?_
 iterate 3 (refine EV ?_)
 refine OW cl231 (w_spec_l07Stamped s j (flagMail s.boxes[j] g flags (nextStamp s)).1 h hjl hba) ?_
 iterate 2 (refine EV ?_)
 refine OE ?_
 refine EV ?_
 refine ON ?_
 refine Ok.ret ?_
 with_reducible repeat (first | refine thenQ_ret ?_ | refine blockQ_ret ?_)
 refine RT ?_
 first | rfl | (simp [-List.map_set, -List.map_take, -List.map_drop, V.erase, V.trav, V.travL, V.travLL, packV, zz, zf, zy]; done)
theorem w_spec_DropMail (s : Store) (box g : Int) (h : smStore s) : Weak Tryz.prog 198 [.agg (cStore s), .int .i64 box, .int .i64 g] (vSB (dropMail s box g)) := by
 refine Weak.enter tab_ok Tryz.func198 rfl (.inr (by simp [V.labelsL, V.labels, V.labelsLL, zz, zf, zy, or_imp, forall_and])) (t := [.agg (cStore s), .int .i64 box, .int .i64 g, .any, .any, .any, .any, .any, .any, .any, .any, .any, .any, .any, .any, .any, .any, .any, .any, .any, .any, .any, .any, .any, .any, .any, .any, .any, .any, .any, .any, .any, .any, .any, .any, .any, .any, .any, .any, .any, .any, .any, .any, .any]) rfl ?_
 refine OQ ?_
 iterate 3 (refine EV ?_)
 refine ON ?_
 refine OQ ?_
 refine EV ?_
 refine OkOps.S' rfl (OpS.semi rfl (by simp only [kE, kT, kL, kC] <;> rfl) (by simp only [kE, kT, kL, kC, V.eraseL, V.erase, V.travL, V.trav, zz, zf, zy] <;> rfl) cl162 (by simp [V.dat, V.datL, V.datLL, zz, zf, zy]) (by simp [V.erase, V.trav, V.travL, V.travLL, zz, zf, zy]) (p_spec_l07Copy s h)) (by simp only [ksem, Nat.add_zero, Nat.zero_add, Nat.reduceAdd] <;> rfl) (by simp only [kP, ksem, Nat.add_zero, Nat.zero_add, Nat.reduceAdd] <;> rfl) ?_
 refine EV ?_
 refine OE ?_
 refine ON ?_
 refine OQ ?_
 iterate 2 (refine EV ?_)
 refine OW cl229 (w_spec_BoxAt s box (by have := h.1.1; omega)) ?_
 refine EV ?_
 refine ON ?_
 refine Ok.seq ?_
 refine Ok.seqC [(23, .bool (markCond s box))] [17, 18, 19, 20, 21, 22] (by simp only [kover] <;> rfl) ?_ ?_
 ·
  refine Ok.region ?_
  refine EV ?_
  refine OW cl97 (w_spec_StoreOk s h) ?_
  iterate 2 (refine EV ?_)
  refine OP (d := 20) (fun hg3_3 => ?_) (fun hg3_3 => ?_)
  ·
   try simp only [bsimp] at hg3_3
   refine OU ?_
   refine OU ?_
   refine EV ?_
   refine ON ?_
   refine ⟨rfl, ?_, rfl, rfl⟩
   (repeat (first | exact trivial | refine leC ?_ | refine leK ?_ ?_)) <;> first | (refine .inl (congrArg V.bool ?_); (first | (simp [markCond, *]; done) | (simp [markCond, *] <;> omega) | (rw [Bool.eq_iff_iff]; simp [markCond, *] <;> omega) | (simp_all [markCond]; done) | (simp_all [markCond]; omega))) | exact le_rfl' _
  try simp only [bsimp] at hg3_3
  refine OX ?_
  refine OO ?_
  iterate 2 (refine EV ?_)
  refine ON ?_
  refine ⟨rfl, ?_, rfl, rfl⟩
  (repeat (first | exact trivial | refine leC ?_ | refine leK ?_ ?_)) <;> first | (refine .inl (congrArg V.bool ?_); (first | (simp [markCond, *]; done) | (simp [markCond, *] <;> omega) | (rw [Bool.eq_iff_iff]; simp [markCond, *] <;> omega) | (simp_all [markCond]; done) | (simp_all [markCond]; omega))) | exact le_rfl' _
 refine OC (fun hb3 => ?_) (fun hb3 => ?_)
 ·
  try simp only [bsimp] at hb3
  rw [show dropMail s box g = (s, false) from if_pos hb3]
  refine OQ ?_
  refine EV ?_
  refine OE ?_
  refine EV ?_
  refine ON ?_
  refine Ok.ret ?_
  with_reducible repeat (first | refine thenQ_ret ?_ | refine blockQ_ret ?_)
  refine RT ?_
  first | rfl | (simp [-List.map_set, -List.map_take, -List.map_drop, V.erase, V.trav, V.travL, V.travLL, packV, zz, zf, zy]; done)
 try simp only [bsimp] at hb3
 have hc : storeOk s = true ∧ ¬ idxI (boxAt s box) < 0 := by have h9 := hb3; simp only [markCond, Bool.or_eq_false_iff, Bool.not_eq_false', decide_eq_false_iff_not] at h9; exact ⟨h9.1, h9.2⟩
 obtain ⟨j, hj⟩ : ∃ j : Nat, idxI (boxAt s box) = (j : Int) := ⟨(idxI (boxAt s box)).toNat, by omega⟩
 have hjl := boxAt_lt hj
 have hbi : boxIn s box = s.boxes[j] := by unfold boxIn; rw [hj, Int.toNat_natCast, List.getElem?_eq_getElem hjl]; rfl
 rw [show dropMail s box g = if (takeOut (boxIn s box) g).2 = true then ({ s with boxes := s.boxes.set (idxI (boxAt s box)).toNat (takeOut (boxIn s box) g).1 }, true) else (s, false) from if_neg (by simp [hb3])]
 rw [hbi, hj, Int.toNat_natCast]
 refine Ok.skip ?_
 refine OQ ?_
 iterate 3 (refine EV ?_)
 refine OkOps.ev tab_ok rfl (ev_idx (by simp only [kE, kT, kL, kC] <;> rfl) (by simp only [kE, kT, kL, kC] <;> rfl) (by rw [List.getElem?_map, List.getElem?_eq_getElem hjl]; rfl) (by simp only [kE, kT, kL, kC] <;> rfl)) (by simp only [kP] <;> rfl) ?_
 iterate 2 (refine EV ?_)
 refine OW cl233 (w_spec_TakeOut s.boxes[j] g (h.1.2 _ (List.getElem_mem hjl))) ?_
 iterate 4 (refine EV ?_)
 refine OE ?_
 refine EV ?_
 refine ON ?_
 refine Ok.seq ?_
 refine OQ ?_
 iterate 2 (refine EV ?_)
 refine ON ?_
 refine OC (fun hb6 => ?_) (fun hb6 => ?_)
 ·
  try simp only [bsimp] at hb6
  rw [if_neg (by simpa using hb6)]
  refine OQ ?_
  refine EV ?_
  refine OE ?_
  refine EV ?_
  refine ON ?_
  refine Ok.ret ?_
  with_reducible repeat (first | refine thenQ_ret ?_ | refine blockQ_ret ?_)
  refine RT ?_
  first | rfl | (simp [-List.map_set, -List.map_take, -List.map_drop, V.erase, V.trav, V.travL, V.travLL, packV, zz, zf, zy]; done)
 try simp only [bsimp] at hb6
 rw [if_pos (by simpa using hb6)]
 refine Ok.skip ?_
 refine OQ ?_
 iterate 4 (refine EV ?_)
 refine OkOps.ev tab_ok rfl (ev_idx (by simp only [kE, kT, kL, kC] <;> rfl) (by simp only [kE, kT, kL, kC] <;> rfl) (by rw [List.getElem?_map, List.getElem?_eq_getElem hjl]; rfl) (by simp only [kE, kT, kL, kC] <;> rfl)) (by simp only [kP] <;> rfl) ?_
 refine OE ?_
 refine ON ?_
 refine Ok.seq ?_
 rw [show (List.map cBox s.boxes).set (j - 0) [V.int .i64 (takeOut s.boxes[j] g).1.gid, .str (takeOut s.boxes[j] g).1.name, .int .i64 (takeOut s.boxes[j] g).1.named.time, .int .i64 (takeOut s.boxes[j] g).1.named.by_, .int .i64 (takeOut s.boxes[j] g).1.next, .sl 0 4 0 ((takeOut s.boxes[j] g).1.mails.map cMail), .sl 0 1 0 ((takeOut s.boxes[j] g).1.gone.map cZ)] = (s.boxes.set j (takeOut s.boxes[j] g).1).map cBox from set_map cBox s.boxes j (takeOut s.boxes[j] g).1]
 refine Ok.region ?_
 refine EV ?_
 refine OE ?_
 refine EV ?_
 refine ON ?_
 refine Ok.ret ?_
 with_reducible repeat (first | refine thenQ_ret ?_ | refine blockQ_ret ?_)
 refine RT ?_
 first | rfl | (simp [-List.map_set, -List.map_take, -List.map_drop, V.erase, V.trav, V.travL, V.travLL, packV, zz, zf, zy]; done)
theorem w_spec_DropBox (s : Store) (box : Int) (h : smStore s) : Weak Tryz.prog 200 [.agg (cStore s), .int .i64 box] (vSB (dropBox s box)) := by
 refine Weak.enter tab_ok Tryz.func200 rfl (.inr (by simp [V.labelsL, V.labels, V.labelsLL, zz, zf, zy, or_imp, forall_and])) (t := [.agg (cStore s), .int .i64 box, .any, .any, .any, .any, .any, .any, .any, .any, .any, .any, .any, .any, .any, .any, .any, .any, .any, .any, .any, .any, .any, .any, .any, .any, .any, .any, .any, .any, .any, .any, .any, .any, .any, .any, .any, .any, .any, .any, .any, .any, .any, .any, .any, .any]) rfl ?_
 refine OQ ?_
 iterate 3 (refine EV ?_)
 refine ON ?_
 refine OQ ?_
 refine EV ?_
 refine OkOps.S' rfl (OpS.semi rfl (by simp only [kE, kT, kL, kC] <;> rfl) (by simp only [kE, kT, kL, kC, V.eraseL, V.erase, V.travL, V.trav, zz, zf, zy] <;> rfl) cl162 (by simp [V.dat, V.datL, V.datLL, zz, zf, zy]) (by simp [V.erase, V.trav, V.travL, V.travLL, zz, zf, zy]) (p_spec_l07Copy s h)) (by simp only [ksem, Nat.add_zero, Nat.zero_add, Nat.reduceAdd] <;> rfl) (by simp only [kP, ksem, Nat.add_zero, Nat.zero_add, Nat.reduceAdd] <;> rfl) ?_
 refine EV ?_
 refine OE ?_
 refine ON ?_
 refine OQ ?_
 iterate 2 (refine EV ?_)
 refine OW cl229 (w_spec_BoxAt s box (by have := h.1.1; omega)) ?_
 refine EV ?_
 refine ON ?_
 refine Ok.seq ?_
 refine Ok.seqC [(25, .bool (dropCond s box))] [13, 14, 15, 16, 17, 18, 19, 20, 21, 22, 23, 24] (by simp only [kover] <;> rfl) ?_ ?_
 ·
  refine Ok.region ?_
  refine EV ?_
  refine OW cl97 (w_spec_StoreOk s h) ?_
  iterate 2 (refine EV ?_)
  refine OP (d := 16) (fun hg3_3 => ?_) (fun hg3_3 => ?_)
  ·
   try simp only [bsimp] at hg3_3
   refine OU ?_
   refine OU ?_
   iterate 2 (refine EV ?_)
   iterate 4 (refine OU ?_)
   refine EV ?_
   refine ON ?_
   refine ⟨rfl, ?_, rfl, rfl⟩
   (repeat (first | exact trivial | refine leC ?_ | refine leK ?_ ?_)) <;> first | (refine .inl (congrArg V.bool ?_); (first | (simp [dropCond, *]; done) | (simp [dropCond, *] <;> omega) | (rw [Bool.eq_iff_iff]; simp [dropCond, *] <;> omega) | (simp_all [dropCond]; done) | (simp_all [dropCond]; omega))) | exact le_rfl' _
  try simp only [bsimp] at hg3_3
  refine OX ?_
  refine OO ?_
  iterate 3 (refine EV ?_)
  refine OP (d := 20) (fun hg3_7 => ?_) (fun hg3_7 => ?_)
  ·
   try simp only [bsimp] at hg3_7
   iterate 4 (refine OU ?_)
   refine EV ?_
   refine ON ?_
   refine ⟨rfl, ?_, rfl, rfl⟩
   (repeat (first | exact trivial | refine leC ?_ | refine leK ?_ ?_)) <;> first | (refine .inl (congrArg V.bool ?_); (first | (simp [dropCond, *]; done) | (simp [dropCond, *] <;> omega) | (rw [Bool.eq_iff_iff]; simp [dropCond, *] <;> omega) | (simp_all [dropCond]; done) | (simp_all [dropCond]; omega))) | exact le_rfl' _
  try simp only [bsimp] at hg3_7
  iterate 3 (refine OX ?_)
  refine OO ?_
  iterate 2 (refine EV ?_)
  refine ON ?_
  refine ⟨rfl, ?_, rfl, rfl⟩
  (repeat (first | exact trivial | refine leC ?_ | refine leK ?_ ?_)) <;> first | (refine .inl (congrArg V.bool ?_); (first | (simp [dropCond, *]; done) | (simp [dropCond, *] <;> omega) | (rw [Bool.eq_iff_iff]; simp [dropCond, *] <;> omega) | (simp_all [dropCond]; done) | (simp_all [dropCond]; omega))) | exact le_rfl' _
 refine OC (fun hb3 => ?_) (fun hb3 => ?_)
 ·
  try simp only [bsimp] at hb3
  rw [show dropBox s box = (s, false) from if_pos hb3]
  refine OQ ?_
  refine EV ?_
  refine OE ?_
  refine EV ?_
  refine ON ?_
  refine Ok.ret ?_
  with_reducible repeat (first | refine thenQ_ret ?_ | refine blockQ_ret ?_)
  refine RT ?_
  first | rfl | (simp [-List.map_set, -List.map_take, -List.map_drop, V.erase, V.trav, V.travL, V.travLL, packV, zz, zf, zy, dropRest]; done)
 try simp only [bsimp] at hb3
 have hc : storeOk s = true ∧ ¬ idxI (boxAt s box) < 0 := by have h9 := hb3; simp only [dropCond, Bool.or_eq_false_iff, Bool.not_eq_false', decide_eq_false_iff_not] at h9; exact ⟨h9.1.1, h9.1.2⟩
 have hss := store_small hc.1
 have hb5 := hss.boxes
 have hg20 := hss.gone
 obtain ⟨j, hj⟩ : ∃ j : Nat, idxI (boxAt s box) = (j : Int) := ⟨(idxI (boxAt s box)).toNat, by omega⟩
 have hjl := boxAt_lt hj
 rw [show dropBox s box = ({ s with boxes := dropRest s (idxI (boxAt s box)).toNat, gone := insG s.gone box }, true) from if_neg (by simp [hb3])]
 rw [hj, Int.toNat_natCast]
 have hw1 : IntKind.i64.wrap ((j : Int) + 1) = ((j + 1 : Nat) : Int) := wrap_add_one (by omega)
 refine Ok.skip ?_
 refine Ok.seq ?_
 refine Ok.drawn 11 46 [] (by kernel_rfl) (by kernel_rfl) rfl ?_
 iterate 4 (refine SV ?_)
 refine SOps.ev tab_ok rfl (ev_partHi_map (by simp only [kE, kT, kL, kC] <;> rfl) (by simp only [kE, kT, kL, kC] <;> rfl) (by simp only [kT] <;> rfl) (by simp only [kT, Option.map_some] <;> rfl) (by omega)) (by simp only [kP] <;> rfl) ?_
 refine SOps.S rfl (ok_append_nil tab_ok (by simp only [kT] <;> rfl) (by simp only [kT] <;> rfl) (by decide) rfl rfl (by simp only [kE, kT, kL, kC] <;> rfl) (.inl ⟨_, _, by simp only [kE, kT, kL, kC] <;> rfl⟩) (by simp only [List.length_map, List.length_cons, List.length_nil, List.length_append, List.length_take, List.length_drop] at *; omega) (by simp only [List.length_map, List.length_cons, List.length_nil, List.length_append, List.length_take, List.length_drop] at *; omega)) (by simp only [kP, kL] <;> rfl) ?_
 iterate 3 (refine SV ?_)
 refine SOps.ev tab_ok rfl (by simp only [kE, kT, kL, kC, hw1] <;> rfl) (by simp only [kP] <;> rfl) ?_
 refine SOps.ev tab_ok rfl (ev_partLo_map (by simp only [kE, kT, kL, kC] <;> rfl) (by simp only [kE, kT, kL, kC] <;> rfl) (by simp only [kT] <;> rfl) (by simp only [kT, Option.map_some] <;> rfl) (by omega)) (by simp only [kP] <;> rfl) ?_
 refine SOps.nil ?_
 refine TOps.append tab_ok rfl rfl (by simp only [kT] <;> rfl) (by simp only [kT] <;> rfl) (by decide) rfl (by simp only [kE, kT, kL, kC] <;> rfl) (.inl ⟨_, _, by simp only [kE, kT, kL, kC] <;> rfl⟩) (by omega) (by omega) (by simp only [List.length_map, List.length_cons, List.length_nil, List.length_append, List.length_take, List.length_drop] at *; omega) (by simp only [List.length_map, List.length_cons, List.length_nil, List.length_append, List.length_take, List.length_drop] at *; omega) (one_boxes) (by simp only [V.killL, V.killLL, V.travL, V.travLL, V.trav, killS, killP, Nat.reduceEqDiff, ↓reduceIte, reduceCtorEq, if_true, if_false, List.append_nil, List.nil_append, List.cons_append, zz, zf, zy] <;> rfl) (by simp only [V.killL, V.killLL, V.travL, V.travLL, V.trav, killS, killP, Nat.reduceEqDiff, ↓reduceIte, reduceCtorEq, if_true, if_false, List.append_nil, List.nil_append, List.cons_append, zz, zf, zy, kP] <;> rfl) (rfl) ?_
 refine TV ?_
 refine TOps.storeE tab_ok rfl rfl (by simp only [kE, kT, kL, kC] <;> rfl) ⟨_, _, by simp only [kE]; rfl⟩ (by first | (simp [V.labelsL, V.labelsLL, V.labels, zz, zf, zy]; done) | (simp [-List.map_map, -List.map_set, -List.map_drop, -List.map_take, -List.map_tail, -List.drop_one, V.labelsL, V.labelsLL, V.labels, zz, zf, zy]; done)) (by simp only [eq_self, V.updL, V.travL, V.travLL, V.trav, updS, updP, and_self, true_and, and_true, false_and, and_false, Nat.reduceEqDiff, Nat.reduceSub, Nat.le_refl, Nat.zero_le, ↓reduceIte, if_true, if_false, kP, zz, zf, zy] <;> rfl) (rfl) ?_
 refine TOps.nil ?_
 refine OQ ?_
 iterate 3 (refine EV ?_)
 refine OW cl234 (w_spec_l06Put s.gone box (by omega)) ?_
 refine EV ?_
 refine OE ?_
 refine ON ?_
 refine OQ ?_
 refine EV ?_
 refine OE ?_
 refine EV ?_
 refine ON ?_
 refine Ok.ret ?_
 with_reducible repeat (first | refine thenQ_ret ?_ | refine blockQ_ret ?_)
 refine RT ?_
 first | rfl | (simp [-List.map_set, -List.map_take, -List.map_drop, V.erase, V.trav, V.travL, V.travLL, packV, zz, zf, zy, dropRest]; done)
theorem w_spec_RenameBox (s : Store) (box : Int) (n : Str) (h : smStore s) (hn : n.length ≤ 1048576) : Weak Tryz.prog 199 [.agg (cStore s), .int .i64 box, .str n] (vSB (renameBox s box n)) := by
 refine Weak.enter tab_ok Tryz.func199 rfl (.inr (by simp [V.labelsL, V.labels, V.labelsLL, zz, zf, zy, or_imp, forall_and])) (t := [.agg (cStore s), .int .i64 box, .str n, .any, .any, .any, .any, .any, .any, .any, .any, .any, .any, .any, .any, .any, .any, .any, .any, .any, .any, .any, .any, .any, .any, .any, .any, .any, .any, .any, .any, .any, .any, .any, .any, .any, .any, .any, .any, .any, .any, .any, .any, .any, .any, .any, .any, .any, .any, .any, .any, .any]) rfl ?_
 refine OQ ?_
 iterate 3 (refine EV ?_)
 refine ON ?_
 refine OQ ?_
 refine EV ?_
 refine OkOps.S' rfl (OpS.semi rfl (by simp only [kE, kT, kL, kC] <;> rfl) (by simp only [kE, kT, kL, kC, V.eraseL, V.erase, V.travL, V.trav, zz, zf, zy] <;> rfl) cl162 (by simp [V.dat, V.datL, V.datLL, zz, zf, zy]) (by simp [V.erase, V.trav, V.travL, V.travLL, zz, zf, zy]) (p_spec_l07Copy s h)) (by simp only [ksem, Nat.add_zero, Nat.zero_add, Nat.reduceAdd] <;> rfl) (by simp only [kP, ksem, Nat.add_zero, Nat.zero_add, Nat.reduceAdd] <;> rfl) ?_
 refine EV ?_
 refine OE ?_
 refine ON ?_
 refine OQ ?_
 iterate 2 (refine EV ?_)
 refine OW cl229 (w_spec_BoxAt s box (by have := h.1.1; omega)) ?_
 refine EV ?_
 refine ON ?_
 refine Ok.seq ?_
 refine Ok.seqC [(27, .bool (nameCond s box n))] [15, 16, 17, 18, 19, 20, 21, 22, 23, 24, 25, 26] (by simp only [kover] <;> rfl) ?_ ?_
 ·
  refine Ok.region ?_
  refine EV ?_
  refine OW cl97 (w_spec_StoreOk s h) ?_
  iterate 2 (refine EV ?_)
  refine OP (d := 18) (fun hg3_3 => ?_) (fun hg3_3 => ?_)
  ·
   try simp only [bsimp] at hg3_3
   refine OU ?_
   refine OU ?_
   iterate 2 (refine EV ?_)
   iterate 4 (refine OU ?_)
   refine EV ?_
   refine ON ?_
   refine ⟨rfl, ?_, rfl, rfl⟩
   (repeat (first | exact trivial | refine leC ?_ | refine leK ?_ ?_)) <;> first | (refine .inl (congrArg V.bool ?_); (first | (simp [nameCond, *]; done) | (simp [nameCond, *] <;> omega) | (rw [Bool.eq_iff_iff]; simp [nameCond, *] <;> omega) | (simp_all [nameCond]; done) | (simp_all [nameCond]; omega))) | exact le_rfl' _
  try simp only [bsimp] at hg3_3
  refine OX ?_
  refine OO ?_
  iterate 3 (refine EV ?_)
  refine OP (d := 22) (fun hg3_7 => ?_) (fun hg3_7 => ?_)
  ·
   try simp only [bsimp] at hg3_7
   iterate 4 (refine OU ?_)
   refine EV ?_
   refine ON ?_
   refine ⟨rfl, ?_, rfl, rfl⟩
   (repeat (first | exact trivial | refine leC ?_ | refine leK ?_ ?_)) <;> first | (refine .inl (congrArg V.bool ?_); (first | (simp [nameCond, *]; done) | (simp [nameCond, *] <;> omega) | (rw [Bool.eq_iff_iff]; simp [nameCond, *] <;> omega) | (simp_all [nameCond]; done) | (simp_all [nameCond]; omega))) | exact le_rfl' _
  try simp only [bsimp] at hg3_7
  refine OX ?_
  refine OX ?_
  refine OO ?_
  refine OW cl149 (w_spec_BoxNamed s n (by have := h.1.1; omega)) ?_
  refine OO ?_
  iterate 2 (refine EV ?_)
  refine ON ?_
  refine ⟨rfl, ?_, rfl, rfl⟩
  (repeat (first | exact trivial | refine leC ?_ | refine leK ?_ ?_)) <;> first | (refine .inl (congrArg V.bool ?_); (first | (simp [nameCond, *]; done) | (simp [nameCond, *] <;> omega) | (rw [Bool.eq_iff_iff]; simp [nameCond, *] <;> omega) | (simp_all [nameCond]; done) | (simp_all [nameCond]; omega))) | exact le_rfl' _
 refine OC (fun hb3 => ?_) (fun hb3 => ?_)
 ·
  try simp only [bsimp] at hb3
  rw [show renameBox s box n = (s, false) from if_pos hb3]
  refine OQ ?_
  refine EV ?_
  refine OE ?_
  refine EV ?_
  refine ON ?_
  refine Ok.ret ?_
  with_reducible repeat (first | refine thenQ_ret ?_ | refine blockQ_ret ?_)
  refine RT ?_
  first | rfl | (simp [-List.map_set, -List.map_take, -List.map_drop, V.erase, V.trav, V.travL, V.travLL, packV, zz, zf, zy]; done)
 try simp only [bsimp] at hb3
 have hc : storeOk s = true ∧ ¬ idxI (boxAt s box) < 0 := by have h9 := hb3; simp only [nameCond, Bool.or_eq_false_iff, Bool.not_eq_false', decide_eq_false_iff_not] at h9; exact ⟨h9.1.1, h9.1.2⟩
 obtain ⟨j, hj⟩ : ∃ j : Nat, idxI (boxAt s box) = (j : Int) := ⟨(idxI (boxAt s box)).toNat, by omega⟩
 have hjl := boxAt_lt hj
 have hw1 := store_time hc.1
 rw [show renameBox s box n = if storeOk (nameOut s (idxI (boxAt s box)).toNat n) = true then (nameOut s (idxI (boxAt s box)).toNat n, true) else (s, false) from if_neg (by simp [hb3])]
 rw [hj, Int.toNat_natCast]
 have hno : nameOut s j n = { s with time := s.time + 1, boxes := s.boxes.set j { s.boxes[j] with name := n, named := nextStamp s } } := by unfold nameOut; rw [List.getElem?_eq_getElem hjl]
 have hbj := h.1.2 _ (List.getElem_mem hjl)
 have hso : smStore (nameOut s j n) := by rw [hno]; exact set_sm h ⟨hn, hbj.2.1, hbj.2.2⟩
 refine Ok.skip ?_
 refine OQ ?_
 iterate 4 (refine EV ?_)
 refine OkOps.ev tab_ok rfl (ev_idx (by simp only [kE, kT, kL, kC] <;> rfl) (by simp only [kE, kT, kL, kC] <;> rfl) (by rw [List.getElem?_map, List.getElem?_eq_getElem hjl]; rfl) (by simp only [kE, kT, kL, kC] <;> rfl)) (by simp only [kP] <;> rfl) ?_
 refine EV ?_
 refine OE ?_
 refine ON ?_
 refine Ok.seq ?_
 rw [show (List.map cBox s.boxes).set (j - 0) [V.int .i64 s.boxes[j].gid, .str n, .int .i64 s.boxes[j].named.time, .int .i64 s.boxes[j].named.by_, .int .i64 s.boxes[j].next, .sl 0 4 0 (s.boxes[j].mails.map cMail), .sl 0 1 0 (s.boxes[j].gone.map cZ)] = (s.boxes.set j { s.boxes[j] with name := n }).map cBox from set_map cBox s.boxes j { s.boxes[j] with name := n }]
 refine Ok.drawn 7 52 [] (by kernel_rfl) (by kernel_rfl) rfl ?_
 iterate 4 (refine SV ?_)
 refine SOps.S0 rfl (OpS.weakM rfl (by simp only [kE, kT, kL, kC] <;> rfl) (by simp only [kE, kT, kL, kC] <;> rfl) cl228 (w_spec_NextStamp s)) (by simp only [kP] <;> rfl) ?_
 refine SOps.ev tab_ok rfl (ev_idx (by simp only [kE, kT, kL, kC] <;> rfl) (by simp only [kE, kT, kL, kC] <;> rfl) (by rw [List.getElem?_map, List.getElem?_set_self hjl]; rfl) (by simp only [kE, kT, kL, kC] <;> rfl)) (by simp only [kP] <;> rfl) ?_
 refine SV ?_
 refine SOps.nil ?_
 refine TOps.storeE tab_ok rfl rfl (by simp only [kE, kT, kL, kC] <;> rfl) ⟨_, _, by simp only [kE]; rfl⟩ (by first | (simp [V.labelsL, V.labelsLL, V.labels, zz, zf, zy]; done) | (simp [-List.map_map, -List.map_set, -List.map_drop, -List.map_take, -List.map_tail, -List.drop_one, V.labelsL, V.labelsLL, V.labels, zz, zf, zy]; done)) (by simp only [eq_self, V.updL, V.travL, V.travLL, V.trav, updS, updP, and_self, true_and, and_true, false_and, and_false, Nat.reduceEqDiff, Nat.reduceSub, Nat.le_refl, Nat.zero_le, ↓reduceIte, if_true, if_false, kP, zz, zf, zy] <;> rfl) (rfl) ?_
 refine TOps.nil ?_
 refine Ok.seq ?_
 rw [show ((s.boxes.set j { s.boxes[j] with name := n }).map cBox).set (j - 0) [V.int .i64 s.boxes[j].gid, .str n, .int .i64 (nextStamp s).time, .int .i64 (nextStamp s).by_, .int .i64 s.boxes[j].next, .sl 0 4 0 (s.boxes[j].mails.map cMail), .sl 0 1 0 (s.boxes[j].gone.map cZ)] = (s.boxes.set j { s.boxes[j] with name := n, named := nextStamp s }).map cBox from (set_map cBox (s.boxes.set j { s.boxes[j] with name := n }) j { s.boxes[j] with name := n, named := nextStamp s }).trans (by rw [List.set_set])]
 refine Ok.region ?_
 iterate 2 (refine EV ?_)
 refine OkOps.ev tab_ok rfl (by simp only [kE, kT, kL, kC, hw1] <;> rfl) (by simp only [kP] <;> rfl) ?_
 refine EV ?_
 refine OE ?_
 refine ON ?_
 refine Ok.seq ?_
 refine OQ ?_
 refine EV ?_
 refine OkOps.S0 rfl (OpS.weakE rfl (by simp only [kE, kT, kL, kC, hno, cStore] <;> rfl) (by simp only [kE, kT, kL, kC, hno, cStore, V.eraseL, V.erase, V.travL, V.trav, zz, zf, zy] <;> rfl) cl97 (by simp [V.labels, V.labelsL, V.labelsLL, zz, zf, zy]) (w_spec_StoreOk (nameOut s j n) hso)) (by simp only [kP] <;> rfl) ?_
 refine EV ?_
 refine ON ?_
 refine OC (fun hb8 => ?_) (fun hb8 => ?_)
 ·
  try simp only [bsimp] at hb8
  rw [show (if storeOk (nameOut s j n) = true then (nameOut s j n, true) else (s, false)) = (s, false) from if_neg (by simp [hb8])]
  refine OQ ?_
  refine EV ?_
  refine OW cl162 ((Pure.weak' (p_spec_l07Copy s h) (by simp [V.dat, V.datL, V.datLL, zz, zf, zy]) (by simp [V.eraseL, V.erase, V.trav, V.travL, zz, zf, zy]) (by simp [V.erase, V.trav, V.travL, zz, zf, zy]))) ?_
  refine OE ?_
  refine EV ?_
  refine ON ?_
  refine Ok.ret ?_
  with_reducible repeat (first | refine thenQ_ret ?_ | refine blockQ_ret ?_)
  refine RT ?_
  first | rfl | (simp [-List.map_set, -List.map_take, -List.map_drop, V.erase, V.trav, V.travL, V.travLL, packV, zz, zf, zy]; done)
 try simp only [bsimp] at hb8
 rw [show (if storeOk (nameOut s j n) = true then (nameOut s j n, true) else (s, false)) = (nameOut s j n, true) from if_pos hb8]
 rw [hno]
 refine Ok.skip ?_
 refine OQ ?_
 refine EV ?_
 refine OE ?_
 refine EV ?_
 refine ON ?_
 refine Ok.ret ?_
 with_reducible repeat (first | refine thenQ_ret ?_ | refine blockQ_ret ?_)
 refine RT ?_
 first | rfl | (simp [-List.map_set, -List.map_take, -List.map_drop, V.erase, V.trav, V.travL, V.travLL, packV, zz, zf, zy]; done)
theorem w_spec_MakeBox (s : Store) (g : Int) (n : Str) (h : smStore s) (hn : n.length ≤ 1048576) : Weak Tryz.prog 194 [.agg (cStore s), .int .i64 g, .str n] (vSB (makeBox s g n)) := by
 refine Weak.enter tab_ok Tryz.func194 rfl (.inr (by simp [V.labelsL, V.labels, V.labelsLL, zz, zf, zy, or_imp, forall_and])) (t := [.agg (cStore s), .int .i64 g, .str n, .any, .any, .any, .any, .any, .any, .any, .any, .any, .any, .any, .any, .any, .any, .any, .any, .any, .any, .any, .any, .any, .any, .any, .any, .any, .any, .any, .any, .any, .any, .any, .any, .any, .any, .any, .any, .any, .any, .any, .any, .any, .any, .any, .any, .any, .any, .any, .any, .any, .any, .any, .any, .any, .any, .any, .any, .any, .any, .any, .any, .any, .any, .any, .any, .any, .any, .any, .any, .any, .any, .any, .any, .any, .any, .any, .any, .any, .any, .any, .any, .any, .any, .any, .any, .any, .any, .any, .any, .any, .any, .any, .any, .any, .any, .any, .any, .any, .any, .any, .any, .any, .any]) rfl ?_
 refine OQ ?_
 iterate 3 (refine EV ?_)
 refine ON ?_
 refine Ok.seq ?_
 refine Ok.seqC [(25, .bool (makeCond s g n))] [12, 13, 14, 15, 16, 17, 18, 19, 20, 21, 22, 23, 24] (by simp only [kover] <;> rfl) ?_ ?_
 ·
  refine Ok.region ?_
  refine EV ?_
  refine OW cl97 (w_spec_StoreOk s h) ?_
  iterate 2 (refine EV ?_)
  refine OP (d := 15) (fun hg1_3 => ?_) (fun hg1_3 => ?_)
  ·
   try simp only [bsimp] at hg1_3
   iterate 3 (refine OU ?_)
   iterate 2 (refine EV ?_)
   iterate 4 (refine OU ?_)
   refine EV ?_
   refine ON ?_
   refine ⟨rfl, ?_, rfl, rfl⟩
   (repeat (first | exact trivial | refine leC ?_ | refine leK ?_ ?_)) <;> first | (refine .inl (congrArg V.bool ?_); (first | (simp [makeCond, *]; done) | (simp [makeCond, *] <;> omega) | (rw [Bool.eq_iff_iff]; simp [makeCond, *] <;> omega) | (simp_all [makeCond]; done) | (simp_all [makeCond]; omega))) | exact le_rfl' _
  try simp only [bsimp] at hg1_3
  refine OX ?_
  refine OX ?_
  refine OO ?_
  refine OW cl227 (w_spec_Knows s g h) ?_
  iterate 2 (refine EV ?_)
  refine OP (d := 20) (fun hg1_8 => ?_) (fun hg1_8 => ?_)
  ·
   try simp only [bsimp] at hg1_8
   iterate 4 (refine OU ?_)
   refine EV ?_
   refine ON ?_
   refine ⟨rfl, ?_, rfl, rfl⟩
   (repeat (first | exact trivial | refine leC ?_ | refine leK ?_ ?_)) <;> first | (refine .inl (congrArg V.bool ?_); (first | (simp [makeCond, *]; done) | (simp [makeCond, *] <;> omega) | (rw [Bool.eq_iff_iff]; simp [makeCond, *] <;> omega) | (simp_all [makeCond]; done) | (simp_all [makeCond]; omega))) | exact le_rfl' _
  try simp only [bsimp] at hg1_8
  refine OX ?_
  refine OX ?_
  refine OO ?_
  refine OW cl149 (w_spec_BoxNamed s n (by have := h.1.1; omega)) ?_
  refine OO ?_
  iterate 2 (refine EV ?_)
  refine ON ?_
  refine ⟨rfl, ?_, rfl, rfl⟩
  (repeat (first | exact trivial | refine leC ?_ | refine leK ?_ ?_)) <;> first | (refine .inl (congrArg V.bool ?_); (first | (simp [makeCond, *]; done) | (simp [makeCond, *] <;> omega) | (rw [Bool.eq_iff_iff]; simp [makeCond, *] <;> omega) | (simp_all [makeCond]; done) | (simp_all [makeCond]; omega))) | exact le_rfl' _
 refine OC (fun hb1 => ?_) (fun hb1 => ?_)
 ·
  try simp only [bsimp] at hb1
  rw [show makeBox s g n = (s, false) from if_pos hb1]
  refine OQ ?_
  refine EV ?_
  refine OW cl162 ((Pure.weak' (p_spec_l07Copy s h) (by simp [V.dat, V.datL, V.datLL, zz, zf, zy]) (by simp [V.eraseL, V.erase, V.trav, V.travL, zz, zf, zy]) (by simp [V.erase, V.trav, V.travL, zz, zf, zy]))) ?_
  refine OE ?_
  refine EV ?_
  refine ON ?_
  refine Ok.ret ?_
  with_reducible repeat (first | refine thenQ_ret ?_ | refine blockQ_ret ?_)
  refine RT ?_
  first | rfl | (simp [-List.map_set, -List.map_take, -List.map_drop, V.erase, V.trav, V.travL, V.travLL, packV, zz, zf, zy, makeOut]; done)
 try simp only [bsimp] at hb1
 have hc : storeOk s = true := by have h9 := hb1; simp only [makeCond, Bool.or_eq_false_iff, Bool.not_eq_false'] at h9; exact h9.1.1
 have hss := store_small hc
 have hb5 := hss.boxes
 have hw1 := store_time hc
 have hso : smStore (makeOut s g n) := makeOut_sm hss hn
 rw [show makeBox s g n = if storeOk (makeOut s g n) = true then (makeOut s g n, true) else (s, false) from if_neg (by simp [hb1])]
 refine Ok.skip ?_
 refine OQ ?_
 refine EV ?_
 refine OkOps.S' rfl (OpS.semi rfl (by simp only [kE, kT, kL, kC] <;> rfl) (by simp only [kE, kT, kL, kC, V.eraseL, V.erase, V.travL, V.trav, zz, zf, zy] <;> rfl) cl162 (by simp [V.dat, V.datL, V.datLL, zz, zf, zy]) (by simp [V.erase, V.trav, V.travL, V.travLL, zz, zf, zy]) (p_spec_l07Copy s h)) (by simp only [ksem, Nat.add_zero, Nat.zero_add, Nat.reduceAdd] <;> rfl) (by simp only [kP, ksem, Nat.add_zero, Nat.zero_add, Nat.reduceAdd] <;> rfl) ?_
 refine EV ?_
 refine OE ?_
 refine ON ?_
 refine OQ ?_
 refine EV ?_
 refine OkOps.fresh 30 7 (by rfl) (by simp only [List.set_cons_succ, List.set_cons_zero] <;> rfl) ?_
 refine EV ?_
 refine OE ?_
 refine ON ?_
 refine OQ ?_
 iterate 3 (refine EV ?_)
 refine OW cl228 (w_spec_NextStamp s) ?_
 refine OkOps.ev tab_ok rfl (by simp [ev1, fillV, kE, kT, kL] <;> first | rfl | exact ⟨rfl, rfl⟩) (by simp only [kP] <;> rfl) ?_
 refine OkOps.nilAgg 36 (cs' := cBox (newBox s g n)) (by rfl) (by exact ⟨.inl rfl, .inl rfl, .inl rfl, .inl rfl, .inl rfl, le_nil 0 4, le_nil 0 1, trivial⟩) (by simp only [List.set_cons_succ, List.set_cons_zero] <;> rfl) ?_
 refine EV ?_
 refine OE ?_
 refine ON ?_
 refine Ok.seq ?_
 refine OQ ?_
 refine EV ?_
 refine ON ?_
 refine Ok.block ?_
 refine Ok.bump (n' := 20) (by omega) ?_
 refine Ok.loopWZ (τ := Nat) (fun x => [(8, .ptr 5 0 0 [.int .i64 s.by_, .int .i64 s.time, .sl 6 7 0 (((s.boxes.take x).filter (ltB g)).map cBox), .sl 4 1 0 (s.gone.map cZ)]), (10, .int .i64 (x : Int))]) [28, 29, 30, 31, 37, 38, 39, 40, 41, 42, 43, 44, 45, 46, 47, 48, 49, 50, 51, 52, 53, 54, 55, 56, 57, 58, 59, 60, 61, 62] (fun x => by simp only [kover] <;> rfl) (fun x => x ≤ s.boxes.length) (fun x => s.boxes.length - x) 0 (by omega) (by (repeat (first | exact trivial | refine leC ?_ | refine leK ?_ ?_)) <;> first | (first | exact le_rfl' _ | exact le_eqm rfl) | exact le_rfl' _) (Nat.zero_le _) ?_
 rintro i h1
 refine Ok.seq ?_
 refine OQ ?_
 iterate 5 (refine EV ?_)
 refine ON ?_
 refine OC (fun hb7 => ?_) (fun hb7 => ?_)
 ·
  try simp only [bsimp] at hb7
  have hi : i < s.boxes.length := by omega
  have hlf := flt_len s.boxes (ltB g) i
  refine Ok.skip ?_
  refine Ok.seq ?_
  refine Ok.block ?_
  refine OQ ?_
  iterate 3 (refine EV ?_)
  refine OkOps.ev tab_ok rfl (ev_idx_map (by simp only [kE, kT, kL, kC] <;> rfl) (by simp only [kE, kT, kL, kC] <;> rfl) (by omega) (by simp only [kE, kT, kL, kC] <;> rfl)) (by simp only [kP] <;> rfl) ?_
  iterate 4 (refine EV ?_)
  refine ON ?_
  refine OC (fun hb9 => ?_) (fun hb9 => ?_)
  ·
   try simp only [bsimp] at hb9
   have hq := flt_t (p := ltB g) hi (by simpa [ltB] using hb9)
   refine Ok.drawn 9 105 [] (by kernel_rfl) (by kernel_rfl) rfl ?_
   iterate 5 (refine SV ?_)
   refine SOps.ev tab_ok rfl (ev_idx_map (by simp only [kE, kT, kL, kC] <;> rfl) (by simp only [kE, kT, kL, kC] <;> rfl) (by omega) (by simp only [kE, kT, kL, kC] <;> rfl)) (by simp only [kP] <;> rfl) ?_
   refine SV ?_
   refine SOps.S0 rfl (OpS.weakM rfl (by simp only [kE, kT, kL, kC] <;> rfl) (by simp only [kE, kT, kL, kC] <;> rfl) cl208 ((Pure.weak' (p_spec_l06Copy (s.boxes[i]) (h.1.2 _ (List.getElem_mem hi))) (by simp [V.dat, V.datL, V.datLL, zz, zf, zy]) (by simp [V.eraseL, V.erase, V.trav, V.travL, zz, zf, zy]) (by simp [V.erase, V.trav, V.travL, zz, zf, zy])))) (by simp only [kP] <;> rfl) ?_
   refine SOps.ev tab_ok rfl (ev_bs (by simp only [kT] <;> rfl) (by simp only [kT] <;> rfl) (by decide) (by decide) (by simp only [kE, kT, kL, kC, List.map_cons, List.map_nil] <;> rfl) (by simp only [kfe, beq_self_eq_true, Bool.and_true, Bool.true_and, decide_true, Nat.zero_add, Nat.lt_add_one, Nat.reduceLT, Nat.reduceAdd, Nat.zero_lt_succ, if_true, ↓reduceIte] <;> rfl)) (by simp only [kP] <;> rfl) ?_
   refine SOps.nil ?_
   refine TOps.append tab_ok rfl rfl (by simp only [kT] <;> rfl) (by simp only [kT] <;> rfl) (by decide) rfl (by simp only [kE, kT, kL, kC] <;> rfl) (.inl ⟨_, _, by simp only [kE, kT, kL, kC] <;> rfl⟩) (by omega) (by omega) (by simp only [List.length_map, List.length_cons, List.length_nil, List.length_append, List.length_take, List.length_drop] at *; omega) (by simp only [List.length_map, List.length_cons, List.length_nil, List.length_append, List.length_take, List.length_drop] at *; omega) (by simp [V.one]) (by simp only [V.killL, V.killLL, V.travL, V.travLL, V.trav, killS, killP, Nat.reduceEqDiff, ↓reduceIte, reduceCtorEq, if_true, if_false, List.append_nil, List.nil_append, List.cons_append, zz, zf, zy] <;> rfl) (by simp only [V.killL, V.killLL, V.travL, V.travLL, V.trav, killS, killP, Nat.reduceEqDiff, ↓reduceIte, reduceCtorEq, if_true, if_false, List.append_nil, List.nil_append, List.cons_append, zz, zf, zy, kP] <;> rfl) (rfl) ?_
   refine TV ?_
   refine TOps.storeE tab_ok rfl rfl (by simp only [kE, kT, kL, kC] <;> rfl) ⟨_, _, by simp only [kE]; rfl⟩ (by first | (simp [V.labelsL, V.labelsLL, V.labels, zz, zf, zy]; done) | (simp [-List.map_map, -List.map_set, -List.map_drop, -List.map_take, -List.map_tail, -List.drop_one, V.labelsL, V.labelsLL, V.labels, zz, zf, zy]; done)) (by simp only [eq_self, V.updL, V.travL, V.travLL, V.trav, updS, updP, and_self, true_and, and_true, false_and, and_false, Nat.reduceEqDiff, Nat.reduceSub, Nat.le_refl, Nat.zero_le, ↓reduceIte, if_true, if_false, kP, zz, zf, zy] <;> rfl) (rfl) ?_
   refine TOps.nil ?_
   refine Ok.region ?_
   iterate 3 (refine EV ?_)
   refine ON ?_
   refine ⟨i + 1, ?_, rfl, by omega, by omega⟩
   simp only [V.renL, V.travL, V.travLL, V.trav, frz, zz, zf, zy, Nat.reduceLeDiff, ↓reduceIte]
   (repeat (first | exact trivial | refine leC ?_ | refine leK ?_ ?_)) <;> first | (first | exact le_rfl' _ | (rw [wrap_add_one (by omega)]; exact le_rfl' _) | (rw [hq]; exact le_rfl' _) | (rw [hq, List.map_append]; exact le_rfl' _)) | exact le_rfl' _
  try simp only [bsimp] at hb9
  have hq := flt_f (p := ltB g) hi (by simpa [ltB] using hb9)
  refine Ok.skip ?_
  refine Ok.region ?_
  iterate 3 (refine EV ?_)
  refine ON ?_
  refine ⟨i + 1, ?_, rfl, by omega, by omega⟩
  simp only [V.renL, V.travL, V.travLL, V.trav, frz, zz, zf, zy, Nat.reduceLeDiff, ↓reduceIte]
  (repeat (first | exact trivial | refine leC ?_ | refine leK ?_ ?_)) <;> first | (first | exact le_rfl' _ | (rw [wrap_add_one (by omega)]; exact le_rfl' _) | (rw [hq]; exact le_rfl' _) | (rw [hq, List.map_append]; exact le_rfl' _)) | exact le_rfl' _
 try simp only [bsimp] at hb7
 obtain rfl : i = s.boxes.length := by omega
 rw [List.take_length]
 have hlf := List.length_filter_le (ltB g) s.boxes
 refine Ok.exit ?_
 refine OQ ?_
 iterate 3 (refine EV ?_)
 refine OkOps.ev tab_ok rfl (ev_bs (by simp only [kT] <;> rfl) (by simp only [kT] <;> rfl) (by decide) (by decide) (by simp only [kE, kT, kL, kC, List.map_cons, List.map_nil] <;> rfl) (by simp only [kfe, beq_self_eq_true, Bool.and_true, Bool.true_and, decide_true, Nat.zero_add, Nat.lt_add_one, Nat.reduceLT, Nat.reduceAdd, Nat.zero_lt_succ, if_true, ↓reduceIte] <;> rfl)) (by simp only [kP] <;> rfl) ?_
 refine OkOps.append tab_ok rfl rfl (by simp only [kT] <;> rfl) (by simp only [kT] <;> rfl) (by decide) rfl (by simp only [kE, kT, kL, kC] <;> rfl) (.inl ⟨_, _, by simp only [kE, kT, kL, kC] <;> rfl⟩) (by omega) (by omega) (by simp only [List.length_map, List.length_cons, List.length_nil, List.length_append, List.length_take, List.length_drop] at *; omega) (by simp only [List.length_map, List.length_cons, List.length_nil, List.length_append, List.length_take, List.length_drop] at *; omega) (by simp [V.one]) (by simp only [V.killL, V.killLL, V.travL, V.travLL, V.trav, killS, killP, Nat.reduceEqDiff, ↓reduceIte, reduceCtorEq, if_true, if_false, List.append_nil, List.nil_append, List.cons_append, zz, zf, zy] <;> rfl) (by simp only [V.killL, V.killLL, V.travL, V.travLL, V.trav, killS, killP, Nat.reduceEqDiff, ↓reduceIte, reduceCtorEq, if_true, if_false, List.append_nil, List.nil_append, List.cons_append, zz, zf, zy, kP] <;> rfl) (rfl) ?_
 refine EV ?_
 refine OE ?_
 refine ON ?_
 refine Ok.seq ?_
 refine OQ ?_
 refine EV ?_
 refine ON ?_
 refine Ok.block ?_
 refine Ok.bump (n' := 30) (by omega) ?_
 refine Ok.loopWZ (τ := Nat) (fun x => [(8, .ptr 5 0 0 [.int .i64 s.by_, .int .i64 s.time, .sl 6 7 0 ((s.boxes.filter (ltB g) ++ [newBox s g n] ++ (s.boxes.take x).filter (gtB g)).map cBox), .sl 4 1 0 (s.gone.map cZ)]), (11, .int .i64 (x : Int))]) [63, 64, 65, 66, 67, 68, 69, 70, 71, 72, 73, 74, 75, 76, 77, 78, 79, 80, 81, 82, 83, 84, 85, 86, 87, 88, 89, 90, 91, 92, 93, 94] (fun x => by simp only [kover] <;> rfl) (fun x => x ≤ s.boxes.length) (fun x => s.boxes.length - x) 0 (by omega) (by (repeat (first | exact trivial | refine leC ?_ | refine leK ?_ ?_)) <;> first | (first | exact le_rfl' _ | exact le_eqm rfl | (refine le_eqm ?_; simp [newBox]; done)) | exact le_rfl' _) (Nat.zero_le _) ?_
 rintro i h1
 refine Ok.seq ?_
 refine OQ ?_
 iterate 5 (refine EV ?_)
 refine ON ?_
 refine OC (fun hb13 => ?_) (fun hb13 => ?_)
 ·
  try simp only [bsimp] at hb13
  have hi : i < s.boxes.length := by omega
  have hlg := flt_len s.boxes (gtB g) i
  have hlf := List.length_filter_le (ltB g) s.boxes
  refine Ok.skip ?_
  refine Ok.seq ?_
  refine Ok.block ?_
  refine OQ ?_
  iterate 3 (refine EV ?_)
  refine OkOps.ev tab_ok rfl (ev_idx_map (by simp only [kE, kT, kL, kC] <;> rfl) (by simp only [kE, kT, kL, kC] <;> rfl) (by omega) (by simp only [kE, kT, kL, kC] <;> rfl)) (by simp only [kP] <;> rfl) ?_
  iterate 4 (refine EV ?_)
  refine ON ?_
  refine OC (fun hb15 => ?_) (fun hb15 => ?_)
  ·
   try simp only [bsimp] at hb15
   have hq := flt_t (p := gtB g) hi (by simpa [gtB] using hb15)
   refine Ok.drawn 9 105 [] (by kernel_rfl) (by kernel_rfl) rfl ?_
   iterate 5 (refine SV ?_)
   refine SOps.ev tab_ok rfl (ev_idx_map (by simp only [kE, kT, kL, kC] <;> rfl) (by simp only [kE, kT, kL, kC] <;> rfl) (by omega) (by simp only [kE, kT, kL, kC] <;> rfl)) (by simp only [kP] <;> rfl) ?_
   refine SV ?_
   refine SOps.S0 rfl (OpS.weakM rfl (by simp only [kE, kT, kL, kC] <;> rfl) (by simp only [kE, kT, kL, kC] <;> rfl) cl208 ((Pure.weak' (p_spec_l06Copy (s.boxes[i]) (h.1.2 _ (List.getElem_mem hi))) (by simp [V.dat, V.datL, V.datLL, zz, zf, zy]) (by simp [V.eraseL, V.erase, V.trav, V.travL, zz, zf, zy]) (by simp [V.erase, V.trav, V.travL, zz, zf, zy])))) (by simp only [kP] <;> rfl) ?_
   refine SOps.ev tab_ok rfl (ev_bs (by simp only [kT] <;> rfl) (by simp only [kT] <;> rfl) (by decide) (by decide) (by simp only [kE, kT, kL, kC, List.map_cons, List.map_nil] <;> rfl) (by simp only [kfe, beq_self_eq_true, Bool.and_true, Bool.true_and, decide_true, Nat.zero_add, Nat.lt_add_one, Nat.reduceLT, Nat.reduceAdd, Nat.zero_lt_succ, if_true, ↓reduceIte] <;> rfl)) (by simp only [kP] <;> rfl) ?_
   refine SOps.nil ?_
   refine TOps.append tab_ok rfl rfl (by simp only [kT] <;> rfl) (by simp only [kT] <;> rfl) (by decide) rfl (by simp only [kE, kT, kL, kC] <;> rfl) (.inl ⟨_, _, by simp only [kE, kT, kL, kC] <;> rfl⟩) (by omega) (by omega) (by simp only [List.length_map, List.length_cons, List.length_nil, List.length_append, List.length_take, List.length_drop] at *; omega) (by simp only [List.length_map, List.length_cons, List.length_nil, List.length_append, List.length_take, List.length_drop] at *; omega) (by simp [V.one]) (by simp only [V.killL, V.killLL, V.travL, V.travLL, V.trav, killS, killP, Nat.reduceEqDiff, ↓reduceIte, reduceCtorEq, if_true, if_false, List.append_nil, List.nil_append, List.cons_append, zz, zf, zy] <;> rfl) (by simp only [V.killL, V.killLL, V.travL, V.travLL, V.trav, killS, killP, Nat.reduceEqDiff, ↓reduceIte, reduceCtorEq, if_true, if_false, List.append_nil, List.nil_append, List.cons_append, zz, zf, zy, kP] <;> rfl) (rfl) ?_
   refine TV ?_
   refine TOps.storeE tab_ok rfl rfl (by simp only [kE, kT, kL, kC] <;> rfl) ⟨_, _, by simp only [kE]; rfl⟩ (by first | (simp [V.labelsL, V.labelsLL, V.labels, zz, zf, zy]; done) | (simp [-List.map_map, -List.map_set, -List.map_drop, -List.map_take, -List.map_tail, -List.drop_one, V.labelsL, V.labelsLL, V.labels, zz, zf, zy]; done)) (by simp only [eq_self, V.updL, V.travL, V.travLL, V.trav, updS, updP, and_self, true_and, and_true, false_and, and_false, Nat.reduceEqDiff, Nat.reduceSub, Nat.le_refl, Nat.zero_le, ↓reduceIte, if_true, if_false, kP, zz, zf, zy] <;> rfl) (rfl) ?_
   refine TOps.nil ?_
   refine Ok.region ?_
   iterate 3 (refine EV ?_)
   refine ON ?_
   refine ⟨i + 1, ?_, rfl, by omega, by omega⟩
   simp only [V.renL, V.travL, V.travLL, V.trav, frz, zz, zf, zy, Nat.reduceLeDiff, ↓reduceIte]
   (repeat (first | exact trivial | refine leC ?_ | refine leK ?_ ?_)) <;> first | (first | exact le_rfl' _ | (rw [wrap_add_one (by omega)]; exact le_rfl' _) | (rw [hq]; exact le_rfl' _) | (rw [hq, ← List.append_assoc, List.map_append (l₁ := _ ++ _)]; exact le_rfl' _) | (refine le_eqm ?_; rw [hq, ← List.append_assoc, List.map_append (l₁ := s.boxes.filter (ltB g) ++ [newBox s g n] ++ _)]; rfl)) | exact le_rfl' _
  try simp only [bsimp] at hb15
  have hq := flt_f (p := gtB g) hi (by simpa [gtB] using hb15)
  refine Ok.skip ?_
  refine Ok.region ?_
  iterate 3 (refine EV ?_)
  refine ON ?_
  refine ⟨i + 1, ?_, rfl, by omega, by omega⟩
  simp only [V.renL, V.travL, V.travLL, V.trav, frz, zz, zf, zy, Nat.reduceLeDiff, ↓reduceIte]
  (repeat (first | exact trivial | refine leC ?_ | refine leK ?_ ?_)) <;> first | (first | exact le_rfl' _ | (rw [wrap_add_one (by omega)]; exact le_rfl' _) | (rw [hq]; exact le_rfl' _) | (rw [hq, ← List.append_assoc, List.map_append (l₁ := _ ++ _)]; exact le_rfl' _) | (refine le_eqm ?_; rw [hq, ← List.append_assoc, List.map_append (l₁ := s.boxes.filter (ltB g) ++ [newBox s g n] ++ _)]; rfl)) | exact le_rfl' _
 try simp only [bsimp] at hb13
 obtain rfl : i = s.boxes.length := by omega
 rw [List.take_length]
 refine Ok.exit ?_
 refine OQ ?_
 iterate 2 (refine EV ?_)
 refine OkOps.ev tab_ok rfl (by simp only [kE, kT, kL, kC, hw1] <;> rfl) (by simp only [kP] <;> rfl) ?_
 refine EV ?_
 refine OE ?_
 refine ON ?_
 refine Ok.seq ?_
 refine OQ ?_
 refine EV ?_
 refine OkOps.S0 rfl (OpS.weakE rfl (by simp only [kE, kT, kL, kC, makeOut, cStore] <;> rfl) (by simp only [kE, kT, kL, kC, makeOut, cStore, V.eraseL, V.erase, V.travL, V.trav, zz, zf, zy] <;> rfl) cl97 (by simp [V.labels, V.labelsL, V.labelsLL, zz, zf, zy]) (w_spec_StoreOk (makeOut s g n) hso)) (by simp only [kP] <;> rfl) ?_
 refine EV ?_
 refine ON ?_
 refine OC (fun hb18 => ?_) (fun hb18 => ?_)
 ·
  try simp only [bsimp] at hb18
  rw [show (if storeOk (makeOut s g n) = true then (makeOut s g n, true) else (s, false)) = (s, false) from if_neg (by simp [hb18])]
  refine OQ ?_
  refine EV ?_
  refine OW cl162 ((Pure.weak' (p_spec_l07Copy s h) (by simp [V.dat, V.datL, V.datLL, zz, zf, zy]) (by simp [V.eraseL, V.erase, V.trav, V.travL, zz, zf, zy]) (by simp [V.erase, V.trav, V.travL, zz, zf, zy]))) ?_
  refine OE ?_
  refine EV ?_
  refine ON ?_
  refine Ok.ret ?_
  with_reducible repeat (first | refine thenQ_ret ?_ | refine blockQ_ret ?_)
  refine RT ?_
  first | rfl | (simp [-List.map_set, -List.map_take, -List.map_drop, V.erase, V.trav, V.travL, V.travLL, packV, zz, zf, zy, makeOut]; done)
 try simp only [bsimp] at hb18
 rw [show (if storeOk (makeOut s g n) = true then (makeOut s g n, true) else (s, false)) = (makeOut s g n, true) from if_pos hb18]
 refine Ok.skip ?_
 refine OQ ?_
 refine EV ?_
 refine OE ?_
 refine EV ?_
 refine ON ?_
 refine Ok.ret ?_
 with_reducible repeat (first | refine thenQ_ret ?_ | refine blockQ_ret ?_)
 refine RT ?_
 first | rfl | (simp [-List.map_set, -List.map_take, -List.map_drop, V.erase, V.trav, V.travL, V.travLL, packV, zz, zf, zy, makeOut]; done)
end Go.Proofs.YtjhfabimacljhaaGreat.K

/- Plain laws: texts cut into pieces, syncs begun. -/
namespace Go.Proofs.YtjhfabimacljhaaGreat.K
open Go Go.RowKit
def pieceT (t : Str) (k : Nat) : Str := (t.drop (120 * k)).take 120
def pieceN (t : Str) : Nat := (t.length + 119) / 120
def piecesT (t : Str) (i : Nat) : List Str := (List.range i).map (pieceT t)
theorem pieces_next (t : Str) (i : Nat) : piecesT t (i + 1) = piecesT t i ++ [pieceT t i] := by
  unfold piecesT; rw [List.range_succ, List.map_append]; rfl
theorem pieces_len (t : Str) (i : Nat) : (piecesT t i).length = i := by simp [piecesT]
theorem pieces_get {t : Str} {i n : Nat} (h : i < n) : (piecesT t n)[i]? = some (pieceT t i) := by
  simp [piecesT, h]
theorem pieces_getE {t : Str} {i n : Nat} {h : i < (piecesT t n).length} : (piecesT t n)[i] = pieceT t i := by simp [piecesT]
theorem piece_len (t : Str) (k : Nat) : (pieceT t k).length ≤ 120 := by unfold pieceT; rw [List.length_take]; omega
theorem piece_min (t : Str) (i : Nat) : (if (t.length : Int) < ((120 * i + 120 : Nat) : Int) then (t.length : Int) else ((120 * i + 120 : Nat) : Int)) = ((min (120 * i + 120) t.length : Nat) : Int) := by split <;> omega
theorem piece_cut {t : Str} {i b : Nat} (h : min b t.length = min (120 * i + 120) t.length) : (t.take b).drop (120 * i) = pieceT t i := by
  unfold pieceT
  rw [List.drop_take, List.take_eq_take_iff, List.length_drop]; omega
theorem pieceN_lt {t : Str} {k : Nat} (h : 120 * k < t.length) : k < pieceN t := by unfold pieceN; omega
theorem pieceN_ge {t : Str} {k : Nat} (h : ¬ 120 * k < t.length) (h2 : k ≤ pieceN t) : k = pieceN t := by unfold pieceN at *; omega
def begH (t : Str) : Str := 84 :: varT (pieceN t)
def begT (t : Str) (i : Nat) : List Str := begH t :: (piecesT t i).map (fun p => 80 :: p)
theorem begT_len (t : Str) (i : Nat) : (begT t i).length = i + 1 := by simp [begT, pieces_len]
theorem begT_next (t : Str) (i : Nat) : begT t (i + 1) = begT t i ++ [80 :: pieceT t i] := by simp [begT, pieces_next]
def begL (e : Int) (t : Str) (i : Nat) : Link := ⟨e, (begT t i).take 60, 1, 1⟩
theorem begL_way (e : Int) (t : Str) (i : Nat) : (begL e t i).way.length ≤ 60 := by show ((begT t i).take 60).length ≤ 60; rw [List.length_take]; omega
theorem beg_put0 (e : Int) {t : Str} (h : pieceN t ≤ 1000) : linkPut ⟨e, [], 1, 1⟩ (begH t) = (begL e t 0, true) := by
  have q := varT_len5 (n := pieceN t) (by omega)
  rw [linkPut_f]
  · simp [begL, begT, piecesT]
  · unfold linkFull
    rw [Bool.or_eq_false_iff]
    refine ⟨by simp, ?_⟩
    have : inR ((begH t).length : Int) 1 400 = true := inR_t.2 (by unfold begH; rw [List.length_cons]; omega)
    rw [this]; rfl
theorem beg_put (e : Int) (t : Str) (i : Nat) : linkPut (begL e t i) (80 :: pieceT t i) = (begL e t (i + 1), decide (i + 1 < 60)) := by
  have q := piece_len t i
  have hl : ((begT t i).take 60).length = min 60 (i + 1) := by rw [List.length_take, begT_len]
  by_cases hi : i + 1 < 60
  · rw [linkPut_f, decide_eq_true hi]
    · unfold begL
      rw [List.take_of_length_le (by rw [begT_len]; omega), List.take_of_length_le (by rw [begT_len]; omega), begT_next]
    · unfold linkFull
      rw [Bool.or_eq_false_iff]
      refine ⟨decide_eq_false (by show ¬ (((begT t i).take 60).length : Int) ≥ 60; rw [hl]; omega), ?_⟩
      have : inR ((80 :: pieceT t i : Str).length : Int) 1 400 = true := inR_t.2 (by rw [List.length_cons]; omega)
      rw [this]; rfl
  · rw [linkPut_t, decide_eq_false hi]
    · unfold begL
      rw [begT_next, List.take_append_of_le_length (by rw [begT_len]; omega)]
    · unfold linkFull
      rw [Bool.or_eq_true]
      exact .inl (decide_eq_true (by show (((begT t i).take 60).length : Int) ≥ 60; rw [hl]; omega))
def zSync : Sync := ⟨0, ⟨0, [], 0, 0⟩, 0, [], false, false⟩
def stT (s : Store) : Str := (storeText s).getD []
def begOk (s : Store) : Bool := (storeText s).isSome && decide (pieceN (stT s) < 60)
def begY (s : Store) (e : Int) : Sync := if begOk s = true then { zSync with epoch := e, link := begL e (stT s) (pieceN (stT s)) } else zSync
theorem begY_no {s : Store} (e : Int) (h : begOk s = false) : begY s e = zSync := if_neg (by simp [h])
theorem begY_yes {s : Store} (e : Int) (h : begOk s = true) : begY s e = { zSync with epoch := e, link := begL e (stT s) (pieceN (stT s)) } := if_pos h
theorem sealT_len (s : Str) : (sealT s).length ≤ s.length + 4 := by
  unfold sealT; rw [List.length_append]; have : (fourT (sumOf s)).length = 4 := rfl; omega
theorem stT_len (s : Store) : (stT s).length ≤ 16004 := by
  unfold stT
  cases hk : storeOk s with
  | false => rw [storeText_no hk]; simp
  | true => rw [storeText_yes hk]; have := storeB_len hk; have := sealT_len (storeB s); simp only [Option.getD_some]; omega
end Go.Proofs.YtjhfabimacljhaaGreat.K

/- Walks: links and syncs copied. Printed by w2.py. -/
namespace Go.Proofs.YtjhfabimacljhaaGreat.K
open Go Go.RowKit
set_option linter.unusedVariables false
set_option linter.unusedSimpArgs false
set_option maxHeartbeats 4000000
set_option maxRecDepth 20000
theorem p_impl_copyLink (l : Link) (h : l.way.length ≤ 2097152) : Pure Tryz.prog 123 [.agg (cLink l)] (.agg (cLink l)) := by
 refine Pure.of (by simp [V.dat, V.datL, V.datLL, zz, zf, zy]) (OkCall.enter' tab_ok Tryz.func123 rfl (t := [.agg (cLink l), .any, .any, .any, .any, .any, .any, .any, .any]) rfl ?_)
 refine OQ ?_
 iterate 2 (refine EV ?_)
 refine ON ?_
 refine OQ ?_
 iterate 3 (refine EV ?_)
 refine OkOps.S rfl (ok_append_nil tab_ok (by simp only [kT] <;> rfl) (by simp only [kT] <;> rfl) (by decide) rfl rfl (by simp only [kE, kT, kL, kC] <;> rfl) (.inl ⟨_, _, by simp only [kE, kT, kL, kC] <;> rfl⟩) (by simp only [List.length_map]; omega) (by simp only [List.length_map]; omega)) (by simp only [kP, kL] <;> rfl) ?_
 refine EV ?_
 refine OE ?_
 refine ON ?_
 refine OQ ?_
 refine EV ?_
 refine OE ?_
 refine ON ?_
 refine Ok.ret ?_
 with_reducible repeat (first | refine thenQ_ret ?_ | refine blockQ_ret ?_)
 refine RT ?_
 exact ⟨by simp [V.erase, V.trav, V.travL, V.travLL, packV, zz, zf], by simp [V.labels, V.labelsL, V.labelsLL, packV, zz, zf], by simp [V.labels, V.labelsL, V.labelsLL, packV, zz, zf]⟩
theorem p_impl_copySync (y : Sync) (h : smSync y) : Pure Tryz.prog 94 [.agg (cSync y)] (.agg (cSync y)) := by
 refine Pure.of (by simp [V.dat, V.datL, V.datLL, zz, zf, zy]) (OkCall.enter' tab_ok Tryz.func94 rfl (t := [.agg (cSync y), .any, .any, .any, .any, .any, .any, .any, .any, .any, .any, .any, .any]) rfl ?_)
 refine OQ ?_
 iterate 2 (refine EV ?_)
 refine ON ?_
 refine OQ ?_
 iterate 2 (refine EV ?_)
 refine OkOps.S' rfl (OpS.pure' rfl (by simp only [kE, kT, kL, kC] <;> rfl) (by simp only [kE, kT, kL, kC, V.eraseL, V.erase, V.travL, V.trav, zz, zf, zy] <;> rfl) cl123 (by simp [V.dat, V.datL, V.datLL, zz, zf, zy]) (p_impl_copyLink y.link (by have := h.1.1; omega))) (by simp only [V.cnt, V.cntL, zz, zf, zy, Nat.add_zero, Nat.reduceAdd] <;> rfl) (by simp only [kP, V.tag, V.tagL, V.cnt, V.cntL, zz, zf, zy, Nat.add_zero, Nat.reduceAdd] <;> rfl) ?_
 refine EV ?_
 refine OE ?_
 refine ON ?_
 refine OQ ?_
 iterate 3 (refine EV ?_)
 refine OkOps.S rfl (ok_append_nil tab_ok (by simp only [kT] <;> rfl) (by simp only [kT] <;> rfl) (by decide) rfl rfl (by simp only [kE, kT, kL, kC] <;> rfl) (.inl ⟨_, _, by simp only [kE, kT, kL, kC] <;> rfl⟩) (by simp only [List.length_map]; have := h.2.1; omega) (by simp only [List.length_map]; have := h.2.1; omega)) (by simp only [kP, kL] <;> rfl) ?_
 refine EV ?_
 refine OE ?_
 refine ON ?_
 refine OQ ?_
 refine EV ?_
 refine OE ?_
 refine ON ?_
 refine Ok.ret ?_
 with_reducible repeat (first | refine thenQ_ret ?_ | refine blockQ_ret ?_)
 refine RT ?_
 exact ⟨by simp [V.erase, V.trav, V.travL, V.travLL, packV, zz, zf], by simp [V.labels, V.labelsL, V.labelsLL, packV, zz, zf], by simp [V.labels, V.labelsL, V.labelsLL, packV, zz, zf]⟩
end Go.Proofs.YtjhfabimacljhaaGreat.K

/- Walks: marks on data of the call's own. Printed by w2.py. -/
namespace Go.Proofs.YtjhfabimacljhaaGreat.K
open Go Go.RowKit
set_option linter.unusedVariables false
set_option linter.unusedSimpArgs false
set_option maxHeartbeats 4000000
set_option maxRecDepth 20000
end Go.Proofs.YtjhfabimacljhaaGreat.K

/- Walks: marks of records. Printed by w2.py. -/
namespace Go.Proofs.YtjhfabimacljhaaGreat.K
open Go Go.RowKit
set_option linter.unusedVariables false
set_option linter.unusedSimpArgs false
set_option maxHeartbeats 4000000
set_option maxRecDepth 20000
end Go.Proofs.YtjhfabimacljhaaGreat.K

/- Walks: marks that are still held. Printed by w2.py. -/
namespace Go.Proofs.YtjhfabimacljhaaGreat.K
open Go Go.RowKit
set_option linter.unusedVariables false
set_option linter.unusedSimpArgs false
set_option maxHeartbeats 4000000
set_option maxRecDepth 20000
end Go.Proofs.YtjhfabimacljhaaGreat.K

/- Walks: marks that records still hold. Printed by w2.py. -/
namespace Go.Proofs.YtjhfabimacljhaaGreat.K
open Go Go.RowKit
set_option linter.unusedVariables false
set_option linter.unusedSimpArgs false
set_option maxHeartbeats 4000000
set_option maxRecDepth 20000
end Go.Proofs.YtjhfabimacljhaaGreat.K

/- Walks: texts cut, links put to, marks in syncs. Printed by w2.py. -/
namespace Go.Proofs.YtjhfabimacljhaaGreat.K
open Go Go.RowKit
set_option linter.unusedVariables false
set_option linter.unusedSimpArgs false
set_option maxHeartbeats 4000000
set_option maxRecDepth 20000
theorem w_impl_LinkNew (e : Int) : Weak Tryz.prog 57 [.int .i64 e] (.agg (cLink ⟨e, [], 1, 1⟩)) := by
 refine Weak.enter tab_ok Tryz.func57 rfl (.inr (by simp [V.labelsL, V.labels, zz, zf, zy])) (t := [.int .i64 e, .any, .any, .any, .any]) rfl ?_
 refine OQ ?_
 refine EV ?_
 refine ON ?_
 refine OQ ?_
 refine EV ?_
 refine OkOps.ev tab_ok rfl (by simp [ev1, fillV, kE, kT, kL] <;> first | rfl | exact ⟨rfl, rfl⟩) (by simp only [kP] <;> rfl) ?_
 refine OE ?_
 refine ON ?_
 refine Ok.ret ?_
 with_reducible repeat (first | refine thenQ_ret ?_ | refine blockQ_ret ?_)
 refine RT ?_
 rfl
theorem w_impl_PiecesOf (t : Str) (h : t.length ≤ 16004) : Weak Tryz.prog 40 [.str t] (.sl 0 1 0 ((piecesT t (pieceN t)).map cS)) := by
 refine Weak.enter tab_ok Tryz.func40 rfl (.inr (by simp [V.labelsL, V.labels, zz, zf, zy])) (t := [.str t, .any, .any, .any, .any, .any, .any, .any, .any, .any, .any, .any, .any, .any, .any, .any, .any, .any, .any, .any, .any, .any, .any, .any]) rfl ?_
 refine OQ ?_
 refine EV ?_
 refine ON ?_
 refine OQ ?_
 iterate 2 (refine EV ?_)
 refine ON ?_
 refine Ok.seq ?_
 refine OQ ?_
 refine EV ?_
 refine ON ?_
 refine Ok.block ?_
 refine Ok.bump (n' := 2) (by omega) ?_
 refine Ok.loopWZ (τ := Nat) (fun x => [(3, .sl 1 1 0 ((piecesT t x).map cS)), (4, .int .i64 ((120 * x : Nat) : Int))]) [6, 7, 8, 9, 10, 11, 12, 13, 14, 15, 16, 17, 18, 19, 20, 21, 22] (fun x => by simp only [kover] <;> rfl) (fun x => x ≤ pieceN t) (fun x => pieceN t - x) 0 (by omega) (by (repeat (first | exact trivial | refine leC ?_ | refine leK ?_ ?_)) <;> first | (first | exact le_rfl' _ | exact le_nil 1 1 | exact le_eqm rfl) | exact le_rfl' _) (Nat.zero_le _) ?_
 rintro i h1
 refine Ok.seq ?_
 refine OQ ?_
 iterate 4 (refine EV ?_)
 refine ON ?_
 refine OC (fun hb3 => ?_) (fun hb3 => ?_)
 ·
  try simp only [bsimp] at hb3
  have hi : i < pieceN t := pieceN_lt (by omega)
  have hN : 120 * i < t.length := by omega
  have hpl := pieces_len t i
  have hw : IntKind.i64.wrap (((120 * i : Nat) : Int) + 120) = ((120 * i + 120 : Nat) : Int) := by rw [IntKind.wrap_i64]; omega
  have hmin := piece_min t i
  refine Ok.skip ?_
  refine Ok.seq ?_
  refine Ok.block ?_
  refine Ok.region ?_
  iterate 4 (refine EV ?_)
  refine OkOps.ev tab_ok rfl (by simp only [kE, kT, kL, kC, hw] <;> rfl) (by simp only [kP] <;> rfl) ?_
  iterate 3 (refine EV ?_)
  refine OkOps.ev tab_ok rfl (ev_cut (by simp only [kE, kT, kL, kC, Bool.false_eq_true, if_false, hmin, hw] <;> rfl) (by simp only [kE, kT, kL, kC, Bool.false_eq_true, if_false, hmin, hw] <;> rfl) (by simp only [kE, kT, kL, kC, Bool.false_eq_true, if_false, hmin, hw] <;> rfl) rfl (by omega) (by omega)) (by simp only [kP] <;> rfl) ?_
  refine OkOps.ev tab_ok rfl (ev_bs (by simp only [kT] <;> rfl) (by simp only [kT] <;> rfl) (by decide) (by decide) (by simp only [kE, kT, kL, kC, List.map_cons, List.map_nil] <;> rfl) (by simp only [kfe, beq_self_eq_true, Bool.and_true, Bool.true_and, decide_true, Nat.zero_add, Nat.lt_add_one, Nat.reduceLT, Nat.reduceAdd, Nat.zero_lt_succ, if_true, ↓reduceIte] <;> rfl)) (by simp only [kP] <;> rfl) ?_
  refine OkOps.append tab_ok rfl rfl (by simp only [kT] <;> rfl) (by simp only [kT] <;> rfl) (by decide) rfl (by simp only [kE, kT, kL, kC] <;> rfl) (.inl ⟨_, _, by simp only [kE, kT, kL, kC] <;> rfl⟩) (by omega) (by omega) (by simp only [List.length_map, List.length_cons, List.length_nil]; omega) (by simp only [List.length_map, List.length_cons, List.length_nil]; omega) (by simp [V.one]) (by simp only [V.killL, V.killLL, V.travL, V.travLL, V.trav, killS, killP, Nat.reduceEqDiff, ↓reduceIte, reduceCtorEq, if_true, if_false, List.append_nil, List.nil_append, List.cons_append, zz, zf, zy] <;> rfl) (by simp only [V.killL, V.killLL, V.travL, V.travLL, V.trav, killS, killP, Nat.reduceEqDiff, ↓reduceIte, reduceCtorEq, if_true, if_false, List.append_nil, List.nil_append, List.cons_append, zz, zf, zy, kP] <;> rfl) (rfl) ?_
  refine EV ?_
  refine ON ?_
  refine Ok.region ?_
  iterate 3 (refine EV ?_)
  refine ON ?_
  refine ⟨i + 1, ?_, rfl, hi, by omega⟩
  simp only [V.renL, V.travL, V.travLL, V.trav, frz, zz, zf, zy, Nat.reduceLeDiff, ↓reduceIte]
  (repeat (first | exact trivial | refine leC ?_ | refine leK ?_ ?_)) <;> first | (first | exact le_rfl' _ | (rw [hw]; exact le_rfl' _) | (rw [pieces_next, List.map_append, piece_cut (by omega)]; exact le_rfl' _)) | exact le_rfl' _
 try simp only [bsimp] at hb3
 obtain rfl := pieceN_ge (t := t) (k := i) (by omega) h1
 refine Ok.exit ?_
 refine OQ ?_
 iterate 2 (refine EV ?_)
 refine ON ?_
 refine Ok.ret ?_
 with_reducible repeat (first | refine thenQ_ret ?_ | refine blockQ_ret ?_)
 refine RT ?_
 first | rfl | (simp [V.erase, V.trav, V.travL, V.travLL, packV, zz, zf, zy]; done)
theorem p_impl_LinkPut (l : Link) (t : Str) (h : l.way.length ≤ 2097152) : Pure Tryz.prog 56 [.agg (cLink l), .str t] (vLB (linkPut l t)) := by
 refine Pure.of (by simp [V.dat, V.datL, V.datLL, zz, zf, zy]) (OkCall.enter' tab_ok Tryz.func56 rfl (t := [.agg (cLink l), .str t, .any, .any, .any, .any, .any, .any, .any, .any, .any, .any, .any, .any, .any, .any, .any, .any, .any, .any, .any, .any, .any, .any, .any, .any, .any]) rfl ?_)
 refine OQ ?_
 iterate 3 (refine EV ?_)
 refine ON ?_
 refine OQ ?_
 refine EV ?_
 refine OkOps.S' rfl (OpS.pure' rfl (by simp only [kE, kT, kL, kC] <;> rfl) (by simp only [kE, kT, kL, kC, V.eraseL, V.erase, V.travL, V.trav, zz, zf, zy] <;> rfl) cl123 (by simp [V.dat, V.datL, V.datLL, zz, zf, zy]) (p_impl_copyLink l h)) (by simp only [V.cnt, V.cntL, zz, zf, zy, Nat.add_zero, Nat.reduceAdd] <;> rfl) (by simp only [kP, V.tag, V.tagL, V.cnt, V.cntL, zz, zf, zy, Nat.add_zero, Nat.reduceAdd] <;> rfl) ?_
 refine EV ?_
 refine OE ?_
 refine ON ?_
 refine Ok.seq ?_
 refine Ok.seqC [(18, .bool (linkFull l t))] [9, 10, 11, 12, 13, 14, 15, 16, 17] (by simp only [kover] <;> rfl) ?_ ?_
 ·
  refine Ok.region ?_
  iterate 5 (refine EV ?_)
  refine OP (d := 13) (fun hg2_4 => ?_) (fun hg2_4 => ?_)
  ·
   try simp only [bsimp] at hg2_4
   iterate 4 (refine OU ?_)
   refine EV ?_
   refine ON ?_
   refine ⟨rfl, ?_, rfl, rfl⟩
   (repeat (first | exact trivial | refine leC ?_ | refine leK ?_ ?_)) <;> first | (refine .inl (congrArg V.bool ?_); (first | (simp [linkFull, *]; done) | (simp [linkFull, *] <;> omega) | (rw [Bool.eq_iff_iff]; simp [linkFull, *] <;> omega) | (simp_all [linkFull]; done) | (simp_all [linkFull]; omega))) | exact le_rfl' _
  try simp only [bsimp] at hg2_4
  refine OX ?_
  refine OX ?_
  refine OO ?_
  refine OW cl124 (w_impl_within _ _ _) ?_
  refine OO ?_
  iterate 2 (refine EV ?_)
  refine ON ?_
  refine ⟨rfl, ?_, rfl, rfl⟩
  (repeat (first | exact trivial | refine leC ?_ | refine leK ?_ ?_)) <;> first | (refine .inl (congrArg V.bool ?_); (first | (simp [linkFull, *]; done) | (simp [linkFull, *] <;> omega) | (rw [Bool.eq_iff_iff]; simp [linkFull, *] <;> omega) | (simp_all [linkFull]; done) | (simp_all [linkFull]; omega))) | exact le_rfl' _
 refine OC (fun hb2 => ?_) (fun hb2 => ?_)
 ·
  try simp only [bsimp] at hb2
  rw [linkPut_t hb2]
  refine OQ ?_
  refine EV ?_
  refine OE ?_
  refine EV ?_
  refine ON ?_
  refine Ok.ret ?_
  with_reducible repeat (first | refine thenQ_ret ?_ | refine blockQ_ret ?_)
  refine RT ?_
  exact ⟨by simp [V.erase, V.trav, V.travL, V.travLL, packV, zz, zf], by simp [V.labels, V.labelsL, V.labelsLL, packV, zz, zf], by simp [V.labels, V.labelsL, V.labelsLL, packV, zz, zf]⟩
 try simp only [bsimp] at hb2
 rw [linkPut_f hb2]
 refine Ok.skip ?_
 refine OQ ?_
 iterate 3 (refine EV ?_)
 refine OkOps.ev tab_ok rfl (ev_bs (by simp only [kT] <;> rfl) (by simp only [kT] <;> rfl) (by decide) (by decide) (by simp only [kE, kT, kL, kC, List.map_cons, List.map_nil] <;> rfl) (by simp only [kfe, beq_self_eq_true, Bool.and_true, Bool.true_and, decide_true, Nat.zero_add, Nat.lt_add_one, Nat.reduceLT, Nat.reduceAdd, Nat.zero_lt_succ, if_true, ↓reduceIte] <;> rfl)) (by simp only [kP] <;> rfl) ?_
 refine OkOps.append tab_ok rfl rfl (by simp only [kT] <;> rfl) (by simp only [kT] <;> rfl) (by decide) rfl (by simp only [kE, kT, kL, kC] <;> rfl) (.inl ⟨_, _, by simp only [kE, kT, kL, kC] <;> rfl⟩) (by omega) (by omega) (by simp only [List.length_map, List.length_cons, List.length_nil]; omega) (by simp only [List.length_map, List.length_cons, List.length_nil]; omega) (by simp [V.one]) (by simp only [V.killL, V.killLL, V.travL, V.travLL, V.trav, killS, killP, Nat.reduceEqDiff, ↓reduceIte, reduceCtorEq, if_true, if_false, List.append_nil, List.nil_append, List.cons_append, zz, zf, zy] <;> rfl) (by simp only [V.killL, V.killLL, V.travL, V.travLL, V.trav, killS, killP, Nat.reduceEqDiff, ↓reduceIte, reduceCtorEq, if_true, if_false, List.append_nil, List.nil_append, List.cons_append, zz, zf, zy, kP] <;> rfl) (rfl) ?_
 refine EV ?_
 refine OE ?_
 refine ON ?_
 refine OQ ?_
 refine EV ?_
 refine OE ?_
 refine EV ?_
 refine ON ?_
 refine Ok.ret ?_
 with_reducible repeat (first | refine thenQ_ret ?_ | refine blockQ_ret ?_)
 refine RT ?_
 exact ⟨by simp [V.erase, V.trav, V.travL, V.travLL, packV, zz, zf], by simp [V.labels, V.labelsL, V.labelsLL, packV, zz, zf], by simp [V.labels, V.labelsL, V.labelsLL, packV, zz, zf]⟩
end Go.Proofs.YtjhfabimacljhaaGreat.K

/- Walks: draws (12). Printed by w2.py. -/
namespace Go.Proofs.YtjhfabimacljhaaGreat.K
open Go Go.RowKit
set_option linter.unusedVariables false
set_option linter.unusedSimpArgs false
set_option maxHeartbeats 4000000
set_option maxRecDepth 20000
theorem w_laws_big (code : Str) : Weak Tryz.prog 26 [.sl 0 1 0 (code.map cB)] (.bool (decide ((code.length : Int) > 1048576))) := by
 refine Weak.enter tab_ok Tryz.func26 rfl (.inr (by simp [V.labelsL, V.labels, zz])) (t := [.sl 0 1 0 (code.map cB), .any, .any, .any, .any, .any]) rfl ?_
 refine OQ ?_
 refine EV ?_
 refine ON ?_
 refine OQ ?_
 iterate 4 (refine EV ?_)
 refine ON ?_
 refine Ok.ret ?_
 with_reducible repeat (first | refine thenQ_ret ?_ | refine blockQ_ret ?_)
 refine RT ?_
 rfl
theorem c_spec_l01New (code : Str) (hc : code.length ≤ 4611686018427387904) {h : List V} {n : Nat}  : OkCall Tryz.prog 93 [.sl 0 1 0 (code.map cB)] h n (fun r h1 n1 => r = .ptr n 0 0 (cCur (curNew code)) ∧ h1 = h.map id ∧ n1 = n + 1) := by
 refine OkCall.enter' tab_ok Tryz.func93 rfl (t := [.sl 0 1 0 (code.map cB), .any, .any, .any, .any, .any, .any, .any, .any, .any, .any, .any, .any, .any, .any, .any, .any, .any, .any, .any, .any, .any, .any, .any, .any, .any, .any, .any, .any, .any, .any, .any]) rfl ?_
 refine OQ ?_
 refine EV ?_
 refine ON ?_
 refine OQ ?_
 iterate 4 (refine EV ?_)
 refine ON ?_
 refine Ok.seq ?_
 refine OQ ?_
 refine EV ?_
 refine ON ?_
 refine Ok.block ?_
 refine Ok.loopW (τ := Nat × Int) (fun x => [(3, .int .i64 x.2), (4, .int .i64 (x.1 : Int))]) [8, 9, 10, 11, 12, 13, 14, 15, 16, 17, 18, 19, 20, 21, 22, 23, 24, 25, 26, 27] (fun x => by simp only [kover] <;> rfl) (fun x => x.1 ≤ code.length ∧ x.1 ≤ 4000 ∧ hashC (4000 - x.1) (code.drop x.1) x.2 = hashC 4000 code (IntKind.i64.wrap (77201 + (code.length : Int)))) (fun x => 4000 - x.1) (0, IntKind.i64.wrap (77201 + (code.length : Int))) (by (repeat (first | exact trivial | refine leC ?_ | refine leK ?_ ?_)) <;> first | (exact le_rfl' _) | exact le_rfl' _) (⟨Nat.zero_le _, Nat.zero_le _, rfl⟩) ?_
 rintro ⟨i, v⟩ ⟨h1, h2, h3⟩
 have h1 : i ≤ code.length := h1
 have h2 : i ≤ 4000 := h2
 have h3 : hashC (4000 - i) (code.drop i) v = hashC 4000 code (IntKind.i64.wrap (77201 + (code.length : Int))) := h3
 refine Ok.seq ?_
 refine Ok.seqC [(15, .bool (decide (i < code.length ∧ i < 4000)))] [8, 9, 10, 11, 12, 13, 14] (by simp only [kover] <;> rfl) ?_ ?_
 ·
  refine Ok.region ?_
  iterate 5 (refine EV ?_)
  refine OP (d := 12) (fun hg3_4 => ?_) (fun hg3_4 => ?_)
  ·
   try simp only [bsimp] at hg3_4
   refine OX ?_
   refine OO ?_
   iterate 2 (refine EV ?_)
   refine ON ?_
   refine ⟨rfl, ?_, rfl, rfl⟩
   (repeat (first | exact trivial | refine leC ?_ | refine leK ?_ ?_)) <;> first | (refine .inl (congrArg V.bool ?_); first | exact decide_eq_decide.2 (by clear h3; omega) | exact (decide_eq_false (by clear h3; omega)).symm) | exact le_rfl' _
  try simp only [bsimp] at hg3_4
  refine OU ?_
  refine OU ?_
  refine EV ?_
  refine ON ?_
  refine ⟨rfl, ?_, rfl, rfl⟩
  (repeat (first | exact trivial | refine leC ?_ | refine leK ?_ ?_)) <;> first | (refine .inl (congrArg V.bool ?_); first | exact decide_eq_decide.2 (by clear h3; omega) | exact (decide_eq_false (by clear h3; omega)).symm) | exact le_rfl' _
 refine OC (fun hb3 => ?_) (fun hb3 => ?_)
 ·
  try simp only [bsimp] at hb3
  obtain ⟨hi, hi4⟩ : i < code.length ∧ i < 4000 := hb3
  have hd : code.drop i = code[i] :: code.drop (i + 1) := List.drop_eq_getElem_cons hi
  rw [hd, show 4000 - i = (4000 - (i + 1)) + 1 by omega] at h3
  refine Ok.skip ?_
  refine Ok.seq ?_
  refine Ok.block ?_
  refine Ok.region ?_
  iterate 4 (refine EV ?_)
  refine OkOps.ev tab_ok rfl (ev_idx_map (by simp only [kE, kT, kL, kC] <;> rfl) (by simp only [kE, kT, kL, kC] <;> rfl) (by omega) (by simp only [kE, kT, kL, kC] <;> rfl)) (by simp only [kP] <;> rfl) ?_
  refine EV ?_
  refine OkOps.ev tab_ok rfl (by simp only [kE, kT, kL, kC, four_b] <;> rfl) (by simp only [kP] <;> rfl) ?_
  iterate 4 (refine EV ?_)
  refine ON ?_
  refine Ok.region ?_
  iterate 3 (refine EV ?_)
  refine ON ?_
  refine ⟨(i + 1, _), ?_, rfl, rfl, ⟨hi, by omega, h3⟩, by show 4000 - (i + 1) < 4000 - i; omega⟩
  (repeat (first | exact trivial | refine leC ?_ | refine leK ?_ ?_)) <;> first | (first | exact le_rfl' _ | (rw [wrap_add_one (by omega)]; exact le_rfl' _)) | exact le_rfl' _
 try simp only [bsimp] at hb3
 have hn : ¬ (i < code.length ∧ i < 4000) := hb3
 have hv : v = hashC 4000 code (IntKind.i64.wrap (77201 + (code.length : Int))) := by rw [← h3]; by_cases hz : i = 4000; (subst hz; rfl); (rw [List.drop_eq_nil_of_le (by omega)]; cases 4000 - i <;> rfl)
 subst hv
 refine Ok.exit ?_
 refine OQ ?_
 iterate 2 (refine EV ?_)
 refine OkOps.ev tab_ok rfl (by simp [ev1, fillV, kE, kT, kL] <;> first | rfl | exact ⟨rfl, rfl⟩) (by simp only [kP] <;> rfl) ?_
 iterate 2 (refine EV ?_)
 refine ON ?_
 refine Ok.ret ?_
 with_reducible repeat (first | refine thenQ_ret ?_ | refine blockQ_ret ?_)
 refine RT ?_
 exact ⟨rfl, (List.map_id h).symm, rfl⟩
theorem c_spec_l01Byte (c : Cur) (L : Nat) (hb : c.b.length ≤ 4611686018427387904) {h : List V} {n : Nat}  : OkCall Tryz.prog 159 [.ptr (L + 1) 0 0 (cCur c)] h n (fun r h1 n1 => r = .int .i64 ((curByte c).1 : Int) ∧ h1 = V.updL (L + 1) 0 (cCur (curByte c).2) h ∧ n1 = n) := by
 refine OkCall.enter' tab_ok Tryz.func159 rfl (t := [.ptr (L + 1) 0 0 (cCur c), .any, .any, .any, .any, .any, .any, .any, .any, .any, .any, .any, .any, .any, .any, .any, .any, .any, .any, .any, .any, .any, .any, .any, .any, .any, .any, .any, .any, .any, .any, .any, .any, .any, .any, .any, .any, .any, .any, .any, .any, .any, .any, .any, .any, .any, .any, .any, .any, .any, .any, .any, .any, .any, .any, .any, .any, .any]) rfl ?_
 refine OQ ?_
 refine EV ?_
 refine ON ?_
 refine OQ ?_
 iterate 9 (refine EV ?_)
 refine OkOps.storeE tab_ok rfl rfl (by simp only [kE, kT, kL, kC] <;> rfl) ⟨_, _, by simp only [kE]; rfl⟩ (by first | (simp [V.labelsL, V.labelsLL, V.labels, zz]; done) | (simp [-List.map_map, -List.map_set, -List.map_drop, -List.map_take, -List.map_tail, -List.drop_one, V.labelsL, V.labelsLL, V.labels, zz]; done)) (by simp only [eq_self, V.updL, V.travL, V.travLL, V.trav, updS, updP, and_self, true_and, and_true, false_and, and_false, Nat.reduceEqDiff, Nat.reduceSub, Nat.le_refl, Nat.zero_le, ↓reduceIte, if_true, if_false, kP, zz] <;> rfl) (rfl) ?_
 refine ON ?_
 refine Ok.seq ?_
 refine Ok.drawn 13 58 [] (by kernel_rfl) (by kernel_rfl) rfl ?_
 iterate 11 (refine SV ?_)
 refine SOps.ev tab_ok rfl (by simp only [kE, kT, kL, kC, and255_m] <;> rfl) (by simp only [kP] <;> rfl) ?_
 refine SV ?_
 refine SOps.nil ?_
 refine TOps.nil ?_
 refine Ok.seq ?_
 refine Ok.seq ?_
 refine Ok.drawn 10 58 [] (by kernel_rfl) (by kernel_rfl) rfl ?_
 iterate 10 (refine SV ?_)
 refine SOps.nil ?_
 refine TOps.nil ?_
 refine OC (fun hb3 => ?_) (fun hb3 => ?_)
 ·
  try simp only [bsimp] at hb3
  have hi : c.i < c.b.length := by omega
  rw [curByte_in hi]
  refine Ok.seq ?_
  refine Ok.drawn 14 58 [] (by kernel_rfl) (by kernel_rfl) rfl ?_
  iterate 9 (refine SV ?_)
  refine SOps.ev tab_ok rfl (ev_idx_map (by simp only [kE, kT, kL, kC] <;> rfl) (by simp only [kE, kT, kL, kC] <;> rfl) (hi) (by simp only [kE, kT, kL, kC] <;> rfl)) (by simp only [kP] <;> rfl) ?_
  refine SV ?_
  refine SOps.ev tab_ok rfl (by simp only [kE, kT, kL, kC, four_b] <;> rfl) (by simp only [kP] <;> rfl) ?_
  refine SV ?_
  refine SOps.ev tab_ok rfl (by simp only [kE, kT, kL, kC, and255_m] <;> rfl) (by simp only [kP] <;> rfl) ?_
  refine SOps.nil ?_
  refine TV ?_
  refine TOps.nil ?_
  refine Ok.region ?_
  iterate 5 (refine EV ?_)
  refine OkOps.ev tab_ok rfl (by simp only [kE, kT, kL, kC, wrap_add_one (show c.i + 1 ≤ 9223372036854775807 by omega)] <;> rfl) (by simp only [kP] <;> rfl) ?_
  iterate 2 (refine EV ?_)
  refine OkOps.storeE tab_ok rfl rfl (by simp only [kE, kT, kL, kC] <;> rfl) ⟨_, _, by simp only [kE]; rfl⟩ (by first | (simp [V.labelsL, V.labelsLL, V.labels, zz]; done) | (simp [-List.map_map, -List.map_set, -List.map_drop, -List.map_take, -List.map_tail, -List.drop_one, V.labelsL, V.labelsLL, V.labels, zz]; done)) (by simp only [eq_self, V.updL, V.travL, V.travLL, V.trav, updS, updP, and_self, true_and, and_true, false_and, and_false, Nat.reduceEqDiff, Nat.reduceSub, Nat.le_refl, Nat.zero_le, ↓reduceIte, if_true, if_false, kP, zz] <;> rfl) (rfl) ?_
  refine ON ?_
  refine OQ ?_
  iterate 2 (refine EV ?_)
  refine ON ?_
  refine Ok.ret ?_
  with_reducible repeat (first | refine thenQ_ret ?_ | refine blockQ_ret ?_)
  refine RT ?_
  exact ⟨rfl, by first | rfl | (rw [upd_twice (by simp [V.travL, V.trav, updS, zz])]; rfl), rfl⟩
 try simp only [bsimp] at hb3
 have hi : ¬ c.i < c.b.length := by omega
 rw [curByte_out hi]
 refine Ok.skip ?_
 refine OQ ?_
 iterate 2 (refine EV ?_)
 refine ON ?_
 refine Ok.ret ?_
 with_reducible repeat (first | refine thenQ_ret ?_ | refine blockQ_ret ?_)
 refine RT ?_
 exact ⟨rfl, by first | rfl | (rw [upd_twice (by simp [V.travL, V.trav, updS, zz])]; rfl), rfl⟩
theorem c_spec_l01Below (c : Cur) (m : Nat) (L : Nat) (hb : c.b.length ≤ 4611686018427387904) (hm : 0 < m) {h : List V} {n : Nat}  : OkCall Tryz.prog 105 [.ptr (L + 1) 0 0 (cCur c), .int .i64 (m : Int)] h n (fun r h1 n1 => r = .int .i64 ((curBelow c m).1 : Int) ∧ h1 = V.updL (L + 1) 0 (cCur (curBelow c m).2) h ∧ n1 = n) := by
 refine OkCall.enter' tab_ok Tryz.func105 rfl (t := [.ptr (L + 1) 0 0 (cCur c), .int .i64 (m : Int), .any, .any, .any, .any, .any, .any, .any, .any, .any, .any, .any, .any, .any, .any, .any, .any, .any, .any, .any, .any, .any, .any, .any, .any, .any, .any, .any, .any, .any, .any, .any, .any, .any, .any, .any]) rfl ?_
 refine OQ ?_
 refine EV ?_
 refine ON ?_
 refine Ok.seq ?_
 refine OQ ?_
 iterate 2 (refine EV ?_)
 refine ON ?_
 refine OC (fun hb1 => ?_) (fun hb1 => ?_)
 ·
  try simp only [bsimp] at hb1
  exfalso; omega
 try simp only [bsimp] at hb1
 have h0 : ¬ m = 0 := by omega
 have hm0 : (((m : Nat) : Int) = 0) = False := eq_false (by omega)
 refine Ok.skip ?_
 refine Ok.seq ?_
 refine OQ ?_
 iterate 2 (refine EV ?_)
 refine ON ?_
 refine OC (fun hb3 => ?_) (fun hb3 => ?_)
 ·
  try simp only [bsimp] at hb3
  have h2 : m ≤ 256 := by omega
  rw [show curBelow c m = ((curByte c).1 % m, (curByte c).2) from (if_neg h0).trans (if_pos h2)]
  refine OQ ?_
  refine EV ?_
  refine OkOps.upd rfl rfl (by simp only [kE, kT, kL, kC] <;> rfl) (by simp only [kE, kT, kL, kC] <;> rfl) cl159 (fun h => c_spec_l01Byte c L hb) (by simp only [eq_self, V.updL, V.travL, V.travLL, V.trav, updS, updP, and_self, true_and, and_true, false_and, and_false, Nat.reduceEqDiff, Nat.reduceSub, Nat.le_refl, Nat.zero_le, ↓reduceIte, if_true, if_false, kP, zz] <;> rfl) (rfl) ?_
  refine EV ?_
  refine OkOps.ev tab_ok rfl (by simp only [kE, kT, kL, kC, hm0, if_false, tmod_nat] <;> rfl) (by simp only [kP] <;> rfl) ?_
  refine EV ?_
  refine ON ?_
  refine Ok.ret ?_
  with_reducible repeat (first | refine thenQ_ret ?_ | refine blockQ_ret ?_)
  refine RT ?_
  exact ⟨rfl, rfl, rfl⟩
 try simp only [bsimp] at hb3
 have h2 : ¬ m ≤ 256 := by omega
 rw [show curBelow c m = _ from (if_neg h0).trans (if_neg h2)]
 have q1 := curByte_le c
 have q2 := curByte_le (curByte c).2
 have q3 := curByte_le (curByte (curByte c).2).2
 have q4 := curByte_le (curByte (curByte (curByte c).2).2).2
 refine Ok.skip ?_
 refine OQ ?_
 refine EV ?_
 refine OkOps.upd rfl rfl (by simp only [kE, kT, kL, kC] <;> rfl) (by simp only [kE, kT, kL, kC] <;> rfl) cl159 (fun h => c_spec_l01Byte c L hb) (by simp only [eq_self, V.updL, V.travL, V.travLL, V.trav, updS, updP, and_self, true_and, and_true, false_and, and_false, Nat.reduceEqDiff, Nat.reduceSub, Nat.le_refl, Nat.zero_le, ↓reduceIte, if_true, if_false, kP, zz] <;> rfl) (rfl) ?_
 refine EV ?_
 refine ON ?_
 refine OQ ?_
 refine EV ?_
 refine OkOps.upd rfl rfl (by simp only [kE, kT, kL, kC] <;> rfl) (by simp only [kE, kT, kL, kC] <;> rfl) cl159 (fun h => c_spec_l01Byte (curByte c).2 L (by rw [curByte_b]; exact hb)) (by simp only [eq_self, V.updL, V.travL, V.travLL, V.trav, updS, updP, and_self, true_and, and_true, false_and, and_false, Nat.reduceEqDiff, Nat.reduceSub, Nat.le_refl, Nat.zero_le, ↓reduceIte, if_true, if_false, kP, zz] <;> rfl) (rfl) ?_
 refine EV ?_
 refine ON ?_
 refine OQ ?_
 refine EV ?_
 refine OkOps.upd rfl rfl (by simp only [kE, kT, kL, kC] <;> rfl) (by simp only [kE, kT, kL, kC] <;> rfl) cl159 (fun h => c_spec_l01Byte (curByte (curByte c).2).2 L (by simp only [curByte_b]; exact hb)) (by simp only [eq_self, V.updL, V.travL, V.travLL, V.trav, updS, updP, and_self, true_and, and_true, false_and, and_false, Nat.reduceEqDiff, Nat.reduceSub, Nat.le_refl, Nat.zero_le, ↓reduceIte, if_true, if_false, kP, zz] <;> rfl) (rfl) ?_
 refine EV ?_
 refine ON ?_
 refine OQ ?_
 refine EV ?_
 refine OkOps.upd rfl rfl (by simp only [kE, kT, kL, kC] <;> rfl) (by simp only [kE, kT, kL, kC] <;> rfl) cl159 (fun h => c_spec_l01Byte (curByte (curByte (curByte c).2).2).2 L (by simp only [curByte_b]; exact hb)) (by simp only [eq_self, V.updL, V.travL, V.travLL, V.trav, updS, updP, and_self, true_and, and_true, false_and, and_false, Nat.reduceEqDiff, Nat.reduceSub, Nat.le_refl, Nat.zero_le, ↓reduceIte, if_true, if_false, kP, zz] <;> rfl) (rfl) ?_
 refine EV ?_
 refine ON ?_
 refine OQ ?_
 refine EV ?_
 refine OkOps.ev tab_ok rfl (by simp only [kE, kT, kL, kC, mul24 q1] <;> rfl) (by simp only [kP] <;> rfl) ?_
 refine EV ?_
 refine OkOps.ev tab_ok rfl (by simp only [kE, kT, kL, kC, mul16 q2] <;> rfl) (by simp only [kP] <;> rfl) ?_
 refine OkOps.ev tab_ok rfl (by simp only [kE, kT, kL, kC, wrap_add_nat (show (curByte c).1 * 16777216 + (curByte (curByte c).2).1 * 65536 ≤ 9223372036854775807 by omega)] <;> rfl) (by simp only [kP] <;> rfl) ?_
 refine EV ?_
 refine OkOps.ev tab_ok rfl (by simp only [kE, kT, kL, kC, mul8 q3] <;> rfl) (by simp only [kP] <;> rfl) ?_
 refine OkOps.ev tab_ok rfl (by simp only [kE, kT, kL, kC, wrap_add_nat (show (curByte c).1 * 16777216 + (curByte (curByte c).2).1 * 65536 + (curByte (curByte (curByte c).2).2).1 * 256 ≤ 9223372036854775807 by omega)] <;> rfl) (by simp only [kP] <;> rfl) ?_
 refine EV ?_
 refine OkOps.ev tab_ok rfl (by simp only [kE, kT, kL, kC, wrap_add_nat (show (curByte c).1 * 16777216 + (curByte (curByte c).2).1 * 65536 + (curByte (curByte (curByte c).2).2).1 * 256 + (curByte (curByte (curByte (curByte c).2).2).2).1 ≤ 9223372036854775807 by omega)] <;> rfl) (by simp only [kP] <;> rfl) ?_
 refine EV ?_
 refine OkOps.ev tab_ok rfl (by simp only [kE, kT, kL, kC, hm0, if_false, tmod_nat] <;> rfl) (by simp only [kP] <;> rfl) ?_
 refine EV ?_
 refine ON ?_
 refine Ok.ret ?_
 with_reducible repeat (first | refine thenQ_ret ?_ | refine blockQ_ret ?_)
 refine RT ?_
 exact ⟨rfl, by rw [upd_twice (by simp [V.travL, V.trav, updS, zz]), upd_twice (by simp [V.travL, V.trav, updS, zz]), upd_twice (by simp [V.travL, V.trav, updS, zz])], rfl⟩
theorem p_impl_LinkHears (l : Link) (p : Packet) (h : l.way.length ≤ 2097152) : Pure Tryz.prog 95 [.agg (cLink l), .agg (cPacket p)] (vH (linkHears l p)) := by
 refine Pure.of (by simp [V.dat, V.datL, V.datLL, zz]) (OkCall.enter' tab_ok Tryz.func95 rfl (t := [.agg (cLink l), .agg (cPacket p), .any, .any, .any, .any, .any, .any, .any, .any, .any, .any, .any, .any, .any, .any, .any, .any, .any, .any, .any, .any, .any, .any, .any, .any, .any, .any, .any, .any, .any, .any, .any, .any, .any, .any, .any, .any, .any, .any, .any, .any, .any, .any, .any, .any, .any, .any, .any, .any, .any, .any, .any, .any, .any, .any, .any, .any, .any, .any, .any, .any, .any]) rfl ?_)
 refine OQ ?_
 iterate 5 (refine EV ?_)
 refine ON ?_
 refine OQ ?_
 refine EV ?_
 refine OkOps.S' rfl (OpS.pure' rfl (by simp only [kE, kT, kL, kC] <;> rfl) (by simp only [kE, kT, kL, kC, V.eraseL, V.erase, V.travL, V.trav, zz] <;> rfl) cl123 (by simp [V.dat, V.datL, V.datLL, zz]) (p_impl_copyLink l h)) (by simp only [V.cnt, V.cntL, zz, Nat.add_zero, Nat.reduceAdd] <;> rfl) (by simp only [kP, V.tag, V.tagL, V.cnt, V.cntL, zz, Nat.add_zero, Nat.reduceAdd] <;> rfl) ?_
 refine EV ?_
 refine OkOps.storeE tab_ok rfl rfl (by simp only [kE, kT, kL, kC] <;> rfl) ⟨_, _, by simp only [kE]; rfl⟩ (by first | (simp [V.labelsL, V.labelsLL, V.labels, zz]; done) | (simp [-List.map_map, -List.map_set, -List.map_drop, -List.map_take, -List.map_tail, -List.drop_one, V.labelsL, V.labelsLL, V.labels, zz]; done)) (by simp only [eq_self, V.updL, V.travL, V.travLL, V.trav, updS, updP, and_self, true_and, and_true, false_and, and_false, Nat.reduceEqDiff, Nat.reduceSub, Nat.le_refl, Nat.zero_le, ↓reduceIte, if_true, if_false, kP, zz] <;> rfl) (rfl) ?_
 refine ON ?_
 refine Ok.seq ?_
 refine OQ ?_
 iterate 5 (refine EV ?_)
 refine ON ?_
 refine OC (fun hb2 => ?_) (fun hb2 => ?_)
 ·
  try simp only [bsimp] at hb2
  rw [linkHears_off (by simpa using hb2)]
  refine OQ ?_
  refine EV ?_
  refine OkOps.storeE tab_ok rfl rfl (by simp only [kE, kT, kL, kC] <;> rfl) ⟨_, _, by simp only [kE]; rfl⟩ (by first | (simp [V.labelsL, V.labelsLL, V.labels, zz]; done) | (simp [-List.map_map, -List.map_set, -List.map_drop, -List.map_take, -List.map_tail, -List.drop_one, V.labelsL, V.labelsLL, V.labels, zz]; done)) (by simp only [eq_self, V.updL, V.travL, V.travLL, V.trav, updS, updP, and_self, true_and, and_true, false_and, and_false, Nat.reduceEqDiff, Nat.reduceSub, Nat.le_refl, Nat.zero_le, ↓reduceIte, if_true, if_false, kP, zz] <;> rfl) (rfl) ?_
  iterate 2 (refine EV ?_)
  refine ON ?_
  refine Ok.ret ?_
  with_reducible repeat (first | refine thenQ_ret ?_ | refine blockQ_ret ?_)
  refine retQ.end (by show resVs tab _ [.cell 4 29, .tmp 5, .tmp 6] = _; simp only [kE, kT, kL, kC] <;> rfl) rfl ?_
  exact ⟨by simp [V.erase, V.trav, V.travL, packV, zz], by simp [V.labels, V.labelsL, V.labelsLL, packV, zz], by simp [V.labels, V.labelsL, V.labelsLL, packV, zz]⟩
 try simp only [bsimp] at hb2
 rw [linkHears_on (by simpa using hb2)]
 refine Ok.skip ?_
 refine Ok.seq ?_
 refine Ok.seqC [(34, .bool (decide (l.way ≠ [] ∧ p.ack > l.next ∧ p.ack = IntKind.i64.wrap (l.next + 1))))] [16, 17, 18, 19, 20, 21, 22, 23, 24, 25, 26, 27, 28, 29, 30, 31, 32, 33] (by simp only [kover] <;> rfl) ?_ ?_
 ·
  refine Ok.region ?_
  iterate 5 (refine EV ?_)
  refine OP (d := 20) (fun hg4_4 => ?_) (fun hg4_4 => ?_)
  ·
   try simp only [bsimp] at hg4_4
   iterate 4 (refine OX ?_)
   refine OO ?_
   iterate 3 (refine EV ?_)
   refine OP (d := 27) (fun hg4_11 => ?_) (fun hg4_11 => ?_)
   ·
    try simp only [bsimp] at hg4_11
    iterate 5 (refine OX ?_)
    refine OO ?_
    iterate 2 (refine EV ?_)
    refine ON ?_
    refine ⟨rfl, ?_, rfl, rfl⟩
    (repeat (first | exact trivial | refine leC ?_ | refine leK ?_ ?_)) <;> first | (refine .inl (congrArg V.bool ?_); simp only [← List.length_pos_iff, ne_eq]; first | (simp [*]; done) | (simp_all; done)) | exact le_rfl' _
   try simp only [bsimp] at hg4_11
   iterate 6 (refine OU ?_)
   refine EV ?_
   refine ON ?_
   refine ⟨rfl, ?_, rfl, rfl⟩
   (repeat (first | exact trivial | refine leC ?_ | refine leK ?_ ?_)) <;> first | (refine .inl (congrArg V.bool ?_); simp only [← List.length_pos_iff, ne_eq]; first | (simp [*]; done) | (simp_all; done)) | exact le_rfl' _
  try simp only [bsimp] at hg4_4
  iterate 5 (refine OU ?_)
  iterate 2 (refine EV ?_)
  iterate 6 (refine OU ?_)
  refine EV ?_
  refine ON ?_
  refine ⟨rfl, ?_, rfl, rfl⟩
  (repeat (first | exact trivial | refine leC ?_ | refine leK ?_ ?_)) <;> first | (refine .inl (congrArg V.bool ?_); simp only [← List.length_pos_iff, ne_eq]; first | (simp [*]; done) | (simp_all; done)) | exact le_rfl' _
 refine OC (fun hb4 => ?_) (fun hb4 => ?_)
 ·
  try simp only [bsimp] at hb4
  have hc : l.way ≠ [] ∧ p.ack > l.next ∧ p.ack = IntKind.i64.wrap (l.next + 1) := hb4
  have hm : hearMid l p = { l with way := l.way.drop 1, next := IntKind.i64.wrap (l.next + 1) } := if_pos hc
  have h1 : 1 ≤ l.way.length := by have := hc.1; cases hw : l.way with | nil => exact absurd hw this | cons a b => simp
  refine OQ ?_
  iterate 2 (refine EV ?_)
  refine OkOps.ev tab_ok rfl (ev_partLo_map (a := 1) (by simp only [kE, kT, kL, kC] <;> rfl) (by simp only [kE, kT, kL, kC] <;> rfl) (by simp only [kT] <;> rfl) (by simp only [kT, Option.map_some] <;> rfl) (by omega)) (by simp only [kP] <;> rfl) ?_
  refine EV ?_
  refine OkOps.storeE tab_ok rfl rfl (by simp only [kE, kT, kL, kC] <;> rfl) ⟨_, _, by simp only [kE]; rfl⟩ (by first | (simp [V.labelsL, V.labelsLL, V.labels, zz]; done) | (simp [-List.map_map, -List.map_set, -List.map_drop, -List.map_take, -List.map_tail, -List.drop_one, V.labelsL, V.labelsLL, V.labels, zz]; done)) (by simp only [eq_self, V.updL, V.travL, V.travLL, V.trav, updS, updP, and_self, true_and, and_true, false_and, and_false, Nat.reduceEqDiff, Nat.reduceSub, Nat.le_refl, Nat.zero_le, ↓reduceIte, if_true, if_false, kP, zz] <;> rfl) (rfl) ?_
  refine ON ?_
  refine Ok.region ?_
  iterate 4 (refine EV ?_)
  refine OkOps.storeE tab_ok rfl rfl (by simp only [kE, kT, kL, kC] <;> rfl) ⟨_, _, by simp only [kE]; rfl⟩ (by first | (simp [V.labelsL, V.labelsLL, V.labels, zz]; done) | (simp [-List.map_map, -List.map_set, -List.map_drop, -List.map_take, -List.map_tail, -List.drop_one, V.labelsL, V.labelsLL, V.labels, zz]; done)) (by simp only [eq_self, V.updL, V.travL, V.travLL, V.trav, updS, updP, and_self, true_and, and_true, false_and, and_false, Nat.reduceEqDiff, Nat.reduceSub, Nat.le_refl, Nat.zero_le, ↓reduceIte, if_true, if_false, kP, zz] <;> rfl) (rfl) ?_
  refine ON ?_
  refine Ok.seq ?_
  refine Ok.seqC [(52, .bool (decide (p.seq = 0 ∨ p.seq ≠ l.want)))] [43, 44, 45, 46, 47, 48, 49, 50, 51] (by simp only [kover] <;> rfl) ?_ ?_
  ·
   refine Ok.region ?_
   iterate 4 (refine EV ?_)
   refine OP (d := 46) (fun hg7_3 => ?_) (fun hg7_3 => ?_)
   ·
    try simp only [bsimp] at hg7_3
    iterate 5 (refine OU ?_)
    refine EV ?_
    refine ON ?_
    refine ⟨rfl, ?_, rfl, rfl⟩
    (repeat (first | exact trivial | refine leC ?_ | refine leK ?_ ?_)) <;> first | (refine .inl (congrArg V.bool ?_); first | (simp [*]; done) | (simp_all; done)) | exact le_rfl' _
   try simp only [bsimp] at hg7_3
   iterate 4 (refine OX ?_)
   refine OO ?_
   iterate 2 (refine EV ?_)
   refine ON ?_
   refine ⟨rfl, ?_, rfl, rfl⟩
   (repeat (first | exact trivial | refine leC ?_ | refine leK ?_ ?_)) <;> first | (refine .inl (congrArg V.bool ?_); first | (simp [*]; done) | (simp_all; done)) | exact le_rfl' _
  refine OC (fun hb7 => ?_) (fun hb7 => ?_)
  ·
   try simp only [bsimp] at hb7
   rw [if_pos hb7, hm]
   refine OQ ?_
   refine EV ?_
   refine OkOps.S' rfl (OpS.pure' rfl (by simp only [kE, kT, kL, kC, hm] <;> rfl) (by simp only [kE, kT, kL, kC, hm, V.eraseL, V.erase, V.travL, V.trav, zz] <;> rfl) cl123 (by simp [V.dat, V.datL, V.datLL, zz]) (p_impl_copyLink (hearMid l p) (Nat.le_trans (hearMid_len l p) h))) (by simp only [V.cnt, V.cntL, zz, Nat.add_zero, Nat.reduceAdd] <;> rfl) (by simp only [kP, V.tag, V.tagL, V.cnt, V.cntL, zz, Nat.add_zero, Nat.reduceAdd] <;> rfl) ?_
   refine OkOps.storeE tab_ok rfl rfl (by simp only [kE, kT, kL, kC] <;> rfl) ⟨_, _, by simp only [kE]; rfl⟩ (by first | (simp [V.labelsL, V.labelsLL, V.labels, zz]; done) | (simp [-List.map_map, -List.map_set, -List.map_drop, -List.map_take, -List.map_tail, -List.drop_one, V.labelsL, V.labelsLL, V.labels, zz]; done)) (by simp only [eq_self, V.updL, V.travL, V.travLL, V.trav, updS, updP, and_self, true_and, and_true, false_and, and_false, Nat.reduceEqDiff, Nat.reduceSub, Nat.le_refl, Nat.zero_le, ↓reduceIte, if_true, if_false, kP, zz] <;> rfl) (rfl) ?_
   iterate 2 (refine EV ?_)
   refine ON ?_
   refine Ok.ret ?_
   with_reducible repeat (first | refine thenQ_ret ?_ | refine blockQ_ret ?_)
   refine retQ.end (by show resVs tab _ [.cell 4 29, .tmp 5, .tmp 6] = _; simp only [kE, kT, kL, kC] <;> rfl) rfl ?_
   exact ⟨by simp [V.erase, V.trav, V.travL, packV, zz, hm], by simp [V.labels, V.labelsL, V.labelsLL, packV, zz], by simp [V.labels, V.labelsL, V.labelsLL, packV, zz]⟩
  try simp only [bsimp] at hb7
  rw [if_neg hb7, hm]
  refine Ok.skip ?_
  refine OQ ?_
  iterate 4 (refine EV ?_)
  refine OkOps.storeE tab_ok rfl rfl (by simp only [kE, kT, kL, kC] <;> rfl) ⟨_, _, by simp only [kE]; rfl⟩ (by first | (simp [V.labelsL, V.labelsLL, V.labels, zz]; done) | (simp [-List.map_map, -List.map_set, -List.map_drop, -List.map_take, -List.map_tail, -List.drop_one, V.labelsL, V.labelsLL, V.labels, zz]; done)) (by simp only [eq_self, V.updL, V.travL, V.travLL, V.trav, updS, updP, and_self, true_and, and_true, false_and, and_false, Nat.reduceEqDiff, Nat.reduceSub, Nat.le_refl, Nat.zero_le, ↓reduceIte, if_true, if_false, kP, zz] <;> rfl) (rfl) ?_
  refine ON ?_
  refine Ok.seq ?_
  refine Ok.drawn 4 63 [2, 3] (by kernel_rfl) (by kernel_rfl) rfl ?_
  refine SV ?_
  refine SOps.S' rfl (OpS.pureM rfl (by simp only [kE, kT, kL, kC, hm] <;> rfl) (by simp only [kE, kT, kL, kC, hm, V.eraseL, V.erase, V.travL, V.trav, zz] <;> rfl) cl123 (by simp [V.dat, V.datL, V.datLL, zz]) (p_impl_copyLink { hearMid l p with want := IntKind.i64.wrap (l.want + 1) } (Nat.le_trans (hearMid_len l p) h))) (by simp only [V.cnt, V.cntL, zz, Nat.add_zero, Nat.reduceAdd] <;> rfl) (by simp only [kP, V.tag, V.tagL, V.cnt, V.cntL, zz, Nat.add_zero, Nat.reduceAdd] <;> rfl) ?_
  iterate 2 (refine SV ?_)
  refine SOps.nil ?_
  refine TOps.storeL tab_ok rfl rfl rfl (by simp only [kE, kT, kL, kC] <;> rfl) ⟨_, _, by simp only [kE]; rfl⟩ (by first | (simp [V.labelsL, V.labelsLL, V.labels, zz]; done) | (simp [-List.map_map, -List.map_set, -List.map_drop, -List.map_take, -List.map_tail, -List.drop_one, V.labelsL, V.labelsLL, V.labels, zz]; done)) (by simp only [eq_self, V.updL, V.travL, V.travLL, V.trav, updS, updP, and_self, true_and, and_true, false_and, and_false, Nat.reduceEqDiff, Nat.reduceSub, Nat.le_refl, Nat.zero_le, ↓reduceIte, if_true, if_false, kP, zz] <;> rfl) (rfl) (LateOk.cons (i := 2) tab_ok (by rfl) (by rfl) (by (try simp only [List.getElem_toArray, List.getElem_cons_succ, List.getElem_cons_zero]); exact (by simp only [kE, kT, kL, kC] <;> rfl)) (by show nth _ 61 = _; simp only [kE, kT, kL, kC] <;> rfl) (LateOk.cons (i := 3) tab_ok (by rfl) (by rfl) (by (try simp only [List.getElem_toArray, List.getElem_cons_succ, List.getElem_cons_zero]); exact (by simp only [kE, kT, kL, kC] <;> rfl)) (by show nth _ 62 = _; simp only [kE, kT, kL, kC] <;> rfl) LateOk.nil)) ?_
  refine TOps.evL tab_ok rfl (by simp only [kE, kT, kL, kC] <;> rfl) (by simp only [kP] <;> rfl) (LateOk.cons (i := 2) tab_ok (by rfl) (by rfl) (by (try simp only [List.getElem_toArray, List.getElem_cons_succ, List.getElem_cons_zero]); exact (by simp only [kE, kT, kL, kC] <;> rfl)) (by show nth _ 61 = _; simp only [kE, kT, kL, kC] <;> rfl) (LateOk.cons (i := 3) tab_ok (by rfl) (by rfl) (by (try simp only [List.getElem_toArray, List.getElem_cons_succ, List.getElem_cons_zero]); exact (by simp only [kE, kT, kL, kC] <;> rfl)) (by show nth _ 62 = _; simp only [kE, kT, kL, kC] <;> rfl) LateOk.nil)) ?_
  refine TOps.evL tab_ok rfl (by simp only [kE, kT, kL, kC] <;> rfl) (by simp only [kP] <;> rfl) (LateOk.cons (i := 2) tab_ok (by rfl) (by rfl) (by (try simp only [List.getElem_toArray, List.getElem_cons_succ, List.getElem_cons_zero]); exact (by simp only [kE, kT, kL, kC] <;> rfl)) (by show nth _ 61 = _; simp only [kE, kT, kL, kC] <;> rfl) (LateOk.cons (i := 3) tab_ok (by rfl) (by rfl) (by (try simp only [List.getElem_toArray, List.getElem_cons_succ, List.getElem_cons_zero]); exact (by simp only [kE, kT, kL, kC] <;> rfl)) (by show nth _ 62 = _; simp only [kE, kT, kL, kC] <;> rfl) LateOk.nil)) ?_
  refine TOps.nil ?_
  refine Ok.ret ?_
  with_reducible repeat (first | refine thenQ_ret ?_ | refine blockQ_ret ?_)
  refine retQ.end (by show resVs tab _ [.cell 4 29, .tmp 5, .tmp 6] = _; simp only [kE, kT, kL, kC] <;> rfl) rfl ?_
  exact ⟨by simp [V.erase, V.trav, V.travL, packV, zz, hm], by simp [V.labels, V.labelsL, V.labelsLL, packV, zz], by simp [V.labels, V.labelsL, V.labelsLL, packV, zz]⟩
 try simp only [bsimp] at hb4
 have hc : ¬ (l.way ≠ [] ∧ p.ack > l.next ∧ p.ack = IntKind.i64.wrap (l.next + 1)) := hb4
 have hm : hearMid l p = l := if_neg hc
 refine Ok.skip ?_
 refine Ok.seq ?_
 refine Ok.seqC [(52, .bool (decide (p.seq = 0 ∨ p.seq ≠ l.want)))] [43, 44, 45, 46, 47, 48, 49, 50, 51] (by simp only [kover] <;> rfl) ?_ ?_
 ·
  refine Ok.region ?_
  iterate 4 (refine EV ?_)
  refine OP (d := 46) (fun hg7_3 => ?_) (fun hg7_3 => ?_)
  ·
   try simp only [bsimp] at hg7_3
   iterate 5 (refine OU ?_)
   refine EV ?_
   refine ON ?_
   refine ⟨rfl, ?_, rfl, rfl⟩
   (repeat (first | exact trivial | refine leC ?_ | refine leK ?_ ?_)) <;> first | (refine .inl (congrArg V.bool ?_); first | (simp [*]; done) | (simp_all; done)) | exact le_rfl' _
  try simp only [bsimp] at hg7_3
  iterate 4 (refine OX ?_)
  refine OO ?_
  iterate 2 (refine EV ?_)
  refine ON ?_
  refine ⟨rfl, ?_, rfl, rfl⟩
  (repeat (first | exact trivial | refine leC ?_ | refine leK ?_ ?_)) <;> first | (refine .inl (congrArg V.bool ?_); first | (simp [*]; done) | (simp_all; done)) | exact le_rfl' _
 refine OC (fun hb7 => ?_) (fun hb7 => ?_)
 ·
  try simp only [bsimp] at hb7
  rw [if_pos hb7, hm]
  refine OQ ?_
  refine EV ?_
  refine OkOps.S' rfl (OpS.pure' rfl (by simp only [kE, kT, kL, kC, hm] <;> rfl) (by simp only [kE, kT, kL, kC, hm, V.eraseL, V.erase, V.travL, V.trav, zz] <;> rfl) cl123 (by simp [V.dat, V.datL, V.datLL, zz]) (p_impl_copyLink (hearMid l p) (Nat.le_trans (hearMid_len l p) h))) (by simp only [V.cnt, V.cntL, zz, Nat.add_zero, Nat.reduceAdd] <;> rfl) (by simp only [kP, V.tag, V.tagL, V.cnt, V.cntL, zz, Nat.add_zero, Nat.reduceAdd] <;> rfl) ?_
  refine OkOps.storeE tab_ok rfl rfl (by simp only [kE, kT, kL, kC] <;> rfl) ⟨_, _, by simp only [kE]; rfl⟩ (by first | (simp [V.labelsL, V.labelsLL, V.labels, zz]; done) | (simp [-List.map_map, -List.map_set, -List.map_drop, -List.map_take, -List.map_tail, -List.drop_one, V.labelsL, V.labelsLL, V.labels, zz]; done)) (by simp only [eq_self, V.updL, V.travL, V.travLL, V.trav, updS, updP, and_self, true_and, and_true, false_and, and_false, Nat.reduceEqDiff, Nat.reduceSub, Nat.le_refl, Nat.zero_le, ↓reduceIte, if_true, if_false, kP, zz] <;> rfl) (rfl) ?_
  iterate 2 (refine EV ?_)
  refine ON ?_
  refine Ok.ret ?_
  with_reducible repeat (first | refine thenQ_ret ?_ | refine blockQ_ret ?_)
  refine retQ.end (by show resVs tab _ [.cell 4 29, .tmp 5, .tmp 6] = _; simp only [kE, kT, kL, kC] <;> rfl) rfl ?_
  exact ⟨by simp [V.erase, V.trav, V.travL, packV, zz, hm], by simp [V.labels, V.labelsL, V.labelsLL, packV, zz], by simp [V.labels, V.labelsL, V.labelsLL, packV, zz]⟩
 try simp only [bsimp] at hb7
 rw [if_neg hb7, hm]
 refine Ok.skip ?_
 refine OQ ?_
 iterate 4 (refine EV ?_)
 refine OkOps.storeE tab_ok rfl rfl (by simp only [kE, kT, kL, kC] <;> rfl) ⟨_, _, by simp only [kE]; rfl⟩ (by first | (simp [V.labelsL, V.labelsLL, V.labels, zz]; done) | (simp [-List.map_map, -List.map_set, -List.map_drop, -List.map_take, -List.map_tail, -List.drop_one, V.labelsL, V.labelsLL, V.labels, zz]; done)) (by simp only [eq_self, V.updL, V.travL, V.travLL, V.trav, updS, updP, and_self, true_and, and_true, false_and, and_false, Nat.reduceEqDiff, Nat.reduceSub, Nat.le_refl, Nat.zero_le, ↓reduceIte, if_true, if_false, kP, zz] <;> rfl) (rfl) ?_
 refine ON ?_
 refine Ok.seq ?_
 refine Ok.drawn 4 63 [2, 3] (by kernel_rfl) (by kernel_rfl) rfl ?_
 refine SV ?_
 refine SOps.S' rfl (OpS.pureM rfl (by simp only [kE, kT, kL, kC, hm] <;> rfl) (by simp only [kE, kT, kL, kC, hm, V.eraseL, V.erase, V.travL, V.trav, zz] <;> rfl) cl123 (by simp [V.dat, V.datL, V.datLL, zz]) (p_impl_copyLink { hearMid l p with want := IntKind.i64.wrap (l.want + 1) } (Nat.le_trans (hearMid_len l p) h))) (by simp only [V.cnt, V.cntL, zz, Nat.add_zero, Nat.reduceAdd] <;> rfl) (by simp only [kP, V.tag, V.tagL, V.cnt, V.cntL, zz, Nat.add_zero, Nat.reduceAdd] <;> rfl) ?_
 iterate 2 (refine SV ?_)
 refine SOps.nil ?_
 refine TOps.storeL tab_ok rfl rfl rfl (by simp only [kE, kT, kL, kC] <;> rfl) ⟨_, _, by simp only [kE]; rfl⟩ (by first | (simp [V.labelsL, V.labelsLL, V.labels, zz]; done) | (simp [-List.map_map, -List.map_set, -List.map_drop, -List.map_take, -List.map_tail, -List.drop_one, V.labelsL, V.labelsLL, V.labels, zz]; done)) (by simp only [eq_self, V.updL, V.travL, V.travLL, V.trav, updS, updP, and_self, true_and, and_true, false_and, and_false, Nat.reduceEqDiff, Nat.reduceSub, Nat.le_refl, Nat.zero_le, ↓reduceIte, if_true, if_false, kP, zz] <;> rfl) (rfl) (LateOk.cons (i := 2) tab_ok (by rfl) (by rfl) (by (try simp only [List.getElem_toArray, List.getElem_cons_succ, List.getElem_cons_zero]); exact (by simp only [kE, kT, kL, kC] <;> rfl)) (by show nth _ 61 = _; simp only [kE, kT, kL, kC] <;> rfl) (LateOk.cons (i := 3) tab_ok (by rfl) (by rfl) (by (try simp only [List.getElem_toArray, List.getElem_cons_succ, List.getElem_cons_zero]); exact (by simp only [kE, kT, kL, kC] <;> rfl)) (by show nth _ 62 = _; simp only [kE, kT, kL, kC] <;> rfl) LateOk.nil)) ?_
 refine TOps.evL tab_ok rfl (by simp only [kE, kT, kL, kC] <;> rfl) (by simp only [kP] <;> rfl) (LateOk.cons (i := 2) tab_ok (by rfl) (by rfl) (by (try simp only [List.getElem_toArray, List.getElem_cons_succ, List.getElem_cons_zero]); exact (by simp only [kE, kT, kL, kC] <;> rfl)) (by show nth _ 61 = _; simp only [kE, kT, kL, kC] <;> rfl) (LateOk.cons (i := 3) tab_ok (by rfl) (by rfl) (by (try simp only [List.getElem_toArray, List.getElem_cons_succ, List.getElem_cons_zero]); exact (by simp only [kE, kT, kL, kC] <;> rfl)) (by show nth _ 62 = _; simp only [kE, kT, kL, kC] <;> rfl) LateOk.nil)) ?_
 refine TOps.evL tab_ok rfl (by simp only [kE, kT, kL, kC] <;> rfl) (by simp only [kP] <;> rfl) (LateOk.cons (i := 2) tab_ok (by rfl) (by rfl) (by (try simp only [List.getElem_toArray, List.getElem_cons_succ, List.getElem_cons_zero]); exact (by simp only [kE, kT, kL, kC] <;> rfl)) (by show nth _ 61 = _; simp only [kE, kT, kL, kC] <;> rfl) (LateOk.cons (i := 3) tab_ok (by rfl) (by rfl) (by (try simp only [List.getElem_toArray, List.getElem_cons_succ, List.getElem_cons_zero]); exact (by simp only [kE, kT, kL, kC] <;> rfl)) (by show nth _ 62 = _; simp only [kE, kT, kL, kC] <;> rfl) LateOk.nil)) ?_
 refine TOps.nil ?_
 refine Ok.ret ?_
 with_reducible repeat (first | refine thenQ_ret ?_ | refine blockQ_ret ?_)
 refine retQ.end (by show resVs tab _ [.cell 4 29, .tmp 5, .tmp 6] = _; simp only [kE, kT, kL, kC] <;> rfl) rfl ?_
 exact ⟨by simp [V.erase, V.trav, V.travL, packV, zz, hm], by simp [V.labels, V.labelsL, V.labelsLL, packV, zz], by simp [V.labels, V.labelsL, V.labelsLL, packV, zz]⟩
theorem w_impl_LinkHears (l : Link) (p : Packet) (h : l.way.length ≤ 2097152) : Weak Tryz.prog 95 [.agg (cLink l), .agg (cPacket p)] (vH (linkHears l p)) := by
  have h := Pure.weak (by simp [V.dat, V.datL, V.datLL, zz]) (p_impl_LinkHears l p h) (by simp [V.eraseL, V.erase, V.trav, V.travL, zz])
  simpa [V.erase, V.trav, V.travL, zz] using h
end Go.Proofs.YtjhfabimacljhaaGreat.K

/- Draws of packets and links: plain functions. Calls that turn one array and take memory of their own. -/
namespace Go.Proofs.YtjhfabimacljhaaGreat.K
open Go Go.RowKit
set_option linter.unusedVariables false
set_option linter.unusedSimpArgs false
section
variable {P : Program} {ti : Tab} {n n' : Nat} {t t' h h' : List V} {Q : Exit → List V → List V → Nat → Prop} {ops : Array Oper} {o : Oper} {l : List Oper}
end
section
variable {P : Program} {ti : Tab} {n : Nat} {t h : List V} {Q : Exit → List V → List V → Nat → Prop}
theorem Ok.loopHN {τ : Type} {c : Code} {F : τ → List V} (W : τ → List (Nat × V)) (dead : List Nat) (hF : ∀ x, overW (W x) (overD dead t) = F x) (H : τ → List V) (N : τ → Nat) (p : τ → Prop) (m : τ → Nat) (x : τ) (hle : leL t (F x)) (hH : h = H x) (hn : n ≤ N x) (hp : p x)
    (round : ∀ x, p x → Ok P c (F x) (H x) (N x) (thenQ (fun t' h' n' => ∃ y, leL t' (F y) ∧ h' = H y ∧ n' ≤ N y ∧ p y ∧ m y < m x) Q)) : Ok P (.loop c) t h n Q := by
  refine Ok.loop (fun x t' h' n' => leL t' (F x) ∧ h' = H x ∧ n' ≤ N x ∧ p x) m x ⟨hle, hH, hn, hp⟩ ?_
  rintro x t' h' n' ⟨h1, rfl, h3, h4⟩
  refine Ok.bump h3 (Ok.forget (leL_spec h1).1 (leL_spec h1).2 ((round x h4).mono ?_))
  intro e t2 h2 n2 hq
  cases e with
  | normal => obtain ⟨y, a, b, c, d, e⟩ := hq; exact ⟨y, ⟨a, b, c, d⟩, e⟩
  | exit id => exact hq
  | goto l => exact hq
  | ret => exact hq
  | panic ch => exact hq
  | outgrown => exact hq
end
def pickS (c : Cur) (xs : List Str) : Str × Cur := (xs.getD (curBelow c xs.length).1 [], (curBelow c xs.length).2)
def pickI (c : Cur) (xs : List Int) : Int × Cur := (xs.getD (curBelow c xs.length).1 0, (curBelow c xs.length).2)
theorem pickS_b (c : Cur) (xs : List Str) : (pickS c xs).2.b = c.b := curBelow_b _ _
theorem pickS_get {c : Cur} {xs : List Str} (h : 0 < xs.length) : xs[(curBelow c xs.length).1]? = some (pickS c xs).1 := by
  have := curBelow_lt (c := c) h
  unfold pickS; rw [List.getD_eq_getElem?_getD, List.getElem?_eq_getElem this, Option.getD_some]
theorem pickS_mem {c : Cur} {xs : List Str} (h : 0 < xs.length) : (pickS c xs).1 ∈ xs := List.mem_of_getElem? (pickS_get h)
abbrev wOne : Str := [111, 110, 101]
abbrev wTwo : Str := [116, 119, 111]
abbrev wThree : Str := [116, 104, 114, 101, 101]
def linkGo : Nat → Nat → Link → Cur → Link × Cur
  | 0, _, l, c => (l, c)
  | f + 1, i, l, c => if i < (curBelow c 5).1 then linkGo f (i + 1) (linkPut l (pickS (curBelow c 5).2 [wOne, wTwo, wThree]).1).1 (pickS (curBelow c 5).2 [wOne, wTwo, wThree]).2 else (l, (curBelow c 5).2)
def link0 (c : Cur) : Link × Cur := linkGo 5 0 ⟨((curBelow c 3).1 : Int), [], 1, 1⟩ (curBelow c 3).2
def linkD (c : Cur) : Link × Cur := (⟨(link0 c).1.epoch, (link0 c).1.way, ((1 + (curBelow (link0 c).2 4).1 : Nat) : Int), ((1 + (curBelow (curBelow (link0 c).2 4).2 4).1 : Nat) : Int)⟩, (curBelow (curBelow (link0 c).2 4).2 4).2)
def pack0 (c : Cur) : Packet × Cur :=
  let a := curBelow c 3; let b := curBelow a.2 5; let d := curBelow b.2 6; let e := pickS d.2 [wOne, wTwo, []]
  (⟨(a.1 : Int), (b.1 : Int), (d.1 : Int), e.1⟩, e.2)
def longT (n : Nat) (x : UInt8) : Str := List.replicate n x
def packD (c : Cur) : Packet × Cur :=
  let w := curBelow (pack0 c).2 12
  if w.1 = 0 then ({ (pack0 c).1 with seq := (pickI w.2 [-1, 1000000001, 9223372036854775807]).1 }, (pickI w.2 [-1, 1000000001, 9223372036854775807]).2)
  else if w.1 = 1 then ({ (pack0 c).1 with ack := (pickI w.2 [-9223372036854775808, 9223372036854775807]).1 }, (pickI w.2 [-9223372036854775808, 9223372036854775807]).2)
  else if w.1 = 2 then ({ (pack0 c).1 with text := longT (400 + (curBelow w.2 2).1) 97 }, (curBelow w.2 2).2)
  else ((pack0 c).1, w.2)
def byteD (c : Cur) : Str × Cur := ([UInt8.ofNat (curByte c).1], (curByte c).2)
def spoilt (c : Cur) (s : Str) : Str × Cur :=
  let w := curBelow c 12
  if w.1 = 0 then (s ++ (byteD w.2).1, (byteD w.2).2)
  else if w.1 = 1 then (s.take (curBelow w.2 (s.length + 1)).1, (curBelow w.2 (s.length + 1)).2)
  else if (w.1 = 2 ∨ w.1 = 3) ∧ 0 < s.length then
    (s.take (curBelow w.2 s.length).1 ++ (byteD (curBelow w.2 s.length).2).1 ++ s.drop ((curBelow w.2 s.length).1 + 1), (byteD (curBelow w.2 s.length).2).2)
  else (s, w.2)
def hearsS (l : Link) (p : Packet) : Link × Str × Bool :=
  if p.epoch ≠ l.epoch then (l, [], false) else
  let l1 := if l.way ≠ [] ∧ p.ack > 1 ∧ IntKind.i64.wrap (p.ack - 1) = l.next then { l with way := l.way.drop 1, next := IntKind.i64.wrap (l.next + 1) } else l
  if p.seq = 0 ∨ p.seq ≠ l1.want then (l1, [], false) else ({ l1 with want := IntKind.i64.wrap (l1.want + 1) }, p.text, true)
end Go.Proofs.YtjhfabimacljhaaGreat.K

/- Calls that turn one array and take memory of their own: what the callers know is kept. -/
namespace Go.Proofs.YtjhfabimacljhaaGreat.K
open Go Go.RowKit
set_option linter.unusedVariables false
set_option linter.unusedSimpArgs false
theorem far_trav {L : Nat} {fs : Nat → Nat → Nat → List (List V) → V} {fp : Nat → Nat → Nat → List V → V} (hs : ∀ M sz off es, M ≠ L → fs M sz off es = .sl M sz off es) (hp : ∀ M i o e, M ≠ L → fp M i o e = .ptr M i o e) {l : List V} (h : L ∉ V.labelsL l) : V.travL V.nil fs fp l = l := by
  exact far2 hs hp l h
where
  far1 {L : Nat} {fs : Nat → Nat → Nat → List (List V) → V} {fp : Nat → Nat → Nat → List V → V} (hs : ∀ M sz off es, M ≠ L → fs M sz off es = .sl M sz off es) (hp : ∀ M i o e, M ≠ L → fp M i o e = .ptr M i o e) : ∀ x : V, L ∉ V.labels x → V.trav V.nil fs fp x = x
    | .sl M sz off es, h => by
      have h' : L ∉ M :: V.labelsLL es := h
      show fs M sz off (V.travLL V.nil fs fp es) = _
      rw [far3 hs hp es fun q => h' (List.mem_cons_of_mem _ q), hs _ _ _ _ fun q => h' (q ▸ List.mem_cons_self ..)]
    | .ptr M i o e, h => by
      have h' : L ∉ M :: V.labelsL e := h
      show fp M i o (V.travL V.nil fs fp e) = _
      rw [far2 hs hp e fun q => h' (List.mem_cons_of_mem _ q), hp _ _ _ _ fun q => h' (q ▸ List.mem_cons_self ..)]
    | .fn f cs, h => by show V.fn f _ = _; rw [far2 hs hp cs h]
    | .agg cs, h => by show V.agg _ = _; rw [far2 hs hp cs h]
    | .tup cs, h => by show V.tup _ = _; rw [far2 hs hp cs h]
    | .any, _ => rfl
    | .bool _, _ => rfl
    | .int .., _ => rfl
    | .str _, _ => rfl
    | .nil _, _ => rfl
    | .nilP, _ => rfl
  far2 {L : Nat} {fs : Nat → Nat → Nat → List (List V) → V} {fp : Nat → Nat → Nat → List V → V} (hs : ∀ M sz off es, M ≠ L → fs M sz off es = .sl M sz off es) (hp : ∀ M i o e, M ≠ L → fp M i o e = .ptr M i o e) : ∀ l : List V, L ∉ V.labelsL l → V.travL V.nil fs fp l = l
    | [], _ => rfl
    | x :: l, h => by
      have h' : L ∉ V.labels x ++ V.labelsL l := h
      show V.trav _ _ _ x :: V.travL _ _ _ l = _
      rw [far1 hs hp x fun q => h' (List.mem_append_left _ q), far2 hs hp l fun q => h' (List.mem_append_right _ q)]
  far3 {L : Nat} {fs : Nat → Nat → Nat → List (List V) → V} {fp : Nat → Nat → Nat → List V → V} (hs : ∀ M sz off es, M ≠ L → fs M sz off es = .sl M sz off es) (hp : ∀ M i o e, M ≠ L → fp M i o e = .ptr M i o e) : ∀ l : List (List V), L ∉ V.labelsLL l → V.travLL V.nil fs fp l = l
    | [], _ => rfl
    | x :: l, h => by
      have h' : L ∉ V.labelsL x ++ V.labelsLL l := h
      show V.travL _ _ _ x :: V.travLL _ _ _ l = _
      rw [far2 hs hp x fun q => h' (List.mem_append_left _ q), far3 hs hp l fun q => h' (List.mem_append_right _ q)]
section
variable {L j : Nat} {e : List V}
mutual
theorem lab_upd1 : ∀ x : V, ∀ y ∈ V.labels (V.trav V.nil (updS L j e) (updP L j e) x), y ∈ V.labels x ∨ y ∈ V.labelsL e
  | .sl M sz off es, y, hy => by
    have ih := lab_upd3 es
    have hy : y ∈ V.labels (updS L j e M sz off (V.travLL V.nil (updS L j e) (updP L j e) es)) := hy
    unfold updS at hy
    split at hy
    · rcases List.mem_cons.1 hy with rfl | hy
      · exact .inl (List.mem_cons_self ..)
      · obtain ⟨r, hr, hyr⟩ := mem_labelsLL.1 hy
        rcases List.mem_or_eq_of_mem_set hr with hr | rfl
        · rcases ih y (mem_labelsLL.2 ⟨r, hr, hyr⟩) with h | h
          · exact .inl (List.mem_cons_of_mem _ h)
          · exact .inr h
        · exact .inr hyr
    · rcases List.mem_cons.1 hy with rfl | hy
      · exact .inl (List.mem_cons_self ..)
      · rcases ih y hy with h | h
        · exact .inl (List.mem_cons_of_mem _ h)
        · exact .inr h
  | .ptr M i o es, y, hy => by
    have ih := lab_upd2 es
    have hy : y ∈ V.labels (updP L j e M i o (V.travL V.nil (updS L j e) (updP L j e) es)) := hy
    unfold updP at hy
    split at hy
    · rcases List.mem_cons.1 hy with rfl | hy
      · exact .inl (List.mem_cons_self ..)
      · exact .inr hy
    · rcases List.mem_cons.1 hy with rfl | hy
      · exact .inl (List.mem_cons_self ..)
      · rcases ih y hy with h | h
        · exact .inl (List.mem_cons_of_mem _ h)
        · exact .inr h
  | .fn f cs, y, hy => lab_upd2 cs y hy
  | .agg cs, y, hy => lab_upd2 cs y hy
  | .tup cs, y, hy => lab_upd2 cs y hy
  | .any, y, hy => by cases hy
  | .bool _, y, hy => by cases hy
  | .int .., y, hy => by cases hy
  | .str _, y, hy => by cases hy
  | .nil _, y, hy => by cases hy
  | .nilP, y, hy => by cases hy
theorem lab_upd2 : ∀ l : List V, ∀ y ∈ V.labelsL (V.travL V.nil (updS L j e) (updP L j e) l), y ∈ V.labelsL l ∨ y ∈ V.labelsL e
  | [], y, hy => by cases hy
  | x :: l, y, hy => by
    have hy : y ∈ V.labels (V.trav V.nil (updS L j e) (updP L j e) x) ++ V.labelsL (V.travL V.nil (updS L j e) (updP L j e) l) := hy
    rcases List.mem_append.1 hy with h | h
    · exact (lab_upd1 x y h).imp (List.mem_append_left _) id
    · exact (lab_upd2 l y h).imp (List.mem_append_right _) id
theorem lab_upd3 : ∀ l : List (List V), ∀ y ∈ V.labelsLL (V.travLL V.nil (updS L j e) (updP L j e) l), y ∈ V.labelsLL l ∨ y ∈ V.labelsL e
  | [], y, hy => by cases hy
  | x :: l, y, hy => by
    have hy : y ∈ V.labelsL (V.travL V.nil (updS L j e) (updP L j e) x) ++ V.labelsLL (V.travLL V.nil (updS L j e) (updP L j e) l) := hy
    rcases List.mem_append.1 hy with h | h
    · exact (lab_upd2 x y h).imp (List.mem_append_left _) id
    · exact (lab_upd3 l y h).imp (List.mem_append_right _) id
end
end
abbrev Ahd (n : Nat) (h : List V) : Prop := ∀ y ∈ V.labelsL h, y < n
theorem Ahd.upd {n L j : Nat} {e h : List V} (hh : Ahd n h) (he : Ahd n e) : Ahd n (V.updL L j e h) := fun y hy => (lab_upd2 h y hy).elim (hh y) (he y)
theorem Ahd.mono {n m : Nat} {h : List V} (hh : Ahd n h) (hm : n ≤ m) : Ahd m h := fun y hy => Nat.lt_of_lt_of_le (hh y hy) hm
theorem Ahd.updL {m j : Nat} {e h : List V} (hh : Ahd m h) : V.updL m j e h = h :=
  far_trav (L := m) (fun M sz off es hM => if_neg fun q => hM q.1) (fun M i o e hM => if_neg fun q => hM q.1) fun q => Nat.lt_irrefl _ (hh m q)
theorem Ahd.killL {m : Nat} {h : List V} (hh : Ahd m h) : V.killL m h = h :=
  far_trav (L := m) (fun M sz off es hM => if_neg hM) (fun M i o e hM => if_neg hM) fun q => Nat.lt_irrefl _ (hh m q)
theorem Ahd.nil (n : Nat) : Ahd n [] := fun y hy => by cases hy
theorem Ahd.cur {n : Nat} (hn : 1 ≤ n) (c : Cur) : Ahd n (cCur c) := fun y hy => by
  simp [V.labelsL, V.labels, V.labelsLL, zz] at hy; omega
theorem Ahd.app {n : Nat} {a b : List V} (ha : Ahd n a) (hb : Ahd n b) : Ahd n (a ++ b) := fun y hy => by
  obtain ⟨x, hx, hy⟩ := mem_labelsL.1 hy
  rcases List.mem_append.1 hx with h | h
  · exact ha y (mem_labelsL.2 ⟨x, h, hy⟩)
  · exact hb y (mem_labelsL.2 ⟨x, h, hy⟩)
section
variable {P : Program} {ti : Tab} {n n' : Nat} {t t' h h' : List V} {Q : Exit → List V → List V → Nat → Prop} {ops : Array Oper} {o : Oper} {l : List Oper} {late : List Nat}
theorem OkOps.updF {fx : Operand} {args : Array Operand} {ts : Array TypeId} {f : FuncId} {caps ags : List V} {L j k : Nat} {e' : List V} {x : V} (hg : o.guard = none) (ho : o.op = .call ⟨.value fx, args, ts⟩) (hf : opnd t fx = .fn f caps) (ha : args.toList.map (opnd t) ++ caps = ags)
    (hcl : Callable P f) (h1 : Ahd n t) (h2 : Ahd n h) (hc : ∀ h, Ahd n h → OkCall P f ags h n fun r h1 n1 => r = x ∧ h1 = V.updL L j e' h ∧ n1 = n + k) (hn : n + k = n') (ht : putV (V.updL L j e' t) o.dst x = t') (hh : V.updL L j e' h = h') (hk : OkOps P ops l t' h' n' Q) : OkOps P ops (o :: l) t h n Q := by
  refine OkOps.step hg (t' := t') (h' := h') (n' := n') ?_ hk
  rw [← ht, ← hh]
  refine OpOk.call ho hf hcl ?_ ?_
  · unfold V.updL; rw [travL_len]
  · rw [ha]
    refine (hc (t ++ h) (h1.app h2)).mono ?_
    rintro r h1 n1 ⟨rfl, rfl, rfl⟩
    exact ⟨rfl, by unfold V.updL; rw [travL_eq, travL_eq, travL_eq, List.map_append], hn⟩
theorem maskP_ahd {f : Nat → Bool} : ∀ {t : List V} {i : Nat}, Ahd n t → Ahd n (maskP f i t)
  | [], i, h => h
  | x :: t, i, h => by
    have h0 : ∀ y ∈ V.labels x ++ V.labelsL t, y < n := h
    intro y hy
    have hy : y ∈ V.labels (if f i then x else .any) ++ V.labelsL (maskP f (i + 1) t) := hy
    rcases List.mem_append.1 hy with hy | hy
    · split at hy
      · exact h0 y (List.mem_append_left _ hy)
      · cases hy
    · exact maskP_ahd (i := i + 1) (fun z hz => h0 z (List.mem_append_right _ hz)) y hy
theorem TOps.updF {fx : Operand} {args : Array Operand} {ts : Array TypeId} {f : FuncId} {caps ags : List V} {L j k : Nat} {e' : List V} {x : V} (hg : o.guard = none) (ho : o.op = .call ⟨.value fx, args, ts⟩) (hf : opnd t fx = .fn f caps) (ha : args.toList.map (opnd t) ++ caps = ags)
    (hcl : Callable P f) (h1 : Ahd n t) (h2 : Ahd n h) (hc : ∀ h, Ahd n h → OkCall P f ags h n fun r h1 n1 => r = x ∧ h1 = V.updL L j e' h ∧ n1 = n + k) (hn : n + k = n') (ht : putV (V.updL L j e' t) o.dst x = t') (hh : V.updL L j e' h = h') (hl : LateOk P ops t' late) (hk : TOps P ops late Q l t' h' n') : TOps P ops late Q (o :: l) t h n := by
  refine ⟨t', h', n', hg, .inr fun f' hf' hd => ?_, hl, hk⟩
  have e1 : opnd (maskP f' 0 t) fx = opnd t fx := opnd_maskP (by rw [ho]; simp [Op.operands, Call.operands]) hf'
  have e2 : args.toList.map (opnd (maskP f' 0 t)) = args.toList.map (opnd t) := List.map_congr_left fun x hx => opnd_maskP (by rw [ho]; simp only [Op.operands, Call.operands, Array.toList_append, List.mem_append]; exact .inr hx) hf'
  have e3 : maskP f' 0 (V.updL L j e' t) = V.updL L j e' (maskP f' 0 t) := by
    unfold V.updL
    rw [travL_eq, travL_eq]
    exact maskP_map f' _ rfl t 0
  rw [← ht, ← hh, ← maskP_put hd, e3]
  refine OpOk.call ho (e1.trans hf) hcl ?_ ?_
  · unfold V.updL; rw [travL_len]
  · rw [e2, ha]
    refine (hc (maskP f' 0 t ++ h) ((maskP_ahd h1).app h2)).mono ?_
    rintro r h1 n1 ⟨rfl, rfl, rfl⟩
    exact ⟨rfl, by unfold V.updL; rw [travL_eq, travL_eq, travL_eq, List.map_append], hn⟩
end
end Go.Proofs.YtjhfabimacljhaaGreat.K

/- Plain laws: bytes laid one by one. -/
namespace Go.Proofs.YtjhfabimacljhaaGreat.K
open Go Go.RowKit
abbrev hearsK (code : Str) : Nat := (curBelow (curNew code) 3).1
abbrev hearsL (code : Str) : Link := (linkD (curBelow (curNew code) 3).2).1
abbrev hearsP0 (code : Str) : Packet := (packD (linkD (curBelow (curNew code) 3).2).2).1
def hearsP1 (code : Str) : Packet := if hearsK code > 0 then { hearsP0 code with epoch := (hearsL code).epoch } else hearsP0 code
def hearsD (code : Str) : Packet := if hearsK code > 1 then { hearsP1 code with seq := (hearsL code).want, ack := IntKind.i64.wrap ((hearsL code).next + 1) } else hearsP1 code
abbrev readK (code : Str) : Nat := (curBelow (curNew code) 3).1
abbrev readC (code : Str) : Cur := (packD (curBelow (curNew code) 3).2).2
abbrev readT (code : Str) : Str := (packetText (packD (curBelow (curNew code) 3).2).1).getD []
def readD (code : Str) : Str := if readK code = 0 ∧ (unsealed (readT code)).isSome = true then (sealed (spoilt (readC code) ((unsealed (readT code)).getD [])).1).getD [] else readT code
abbrev putW : List Int := [0, 1, 400, 401]
def putT (code : Str) : Str := longT (pickI (curNew code) putW).1.toNat 97
abbrev putC (code : Str) : Cur := (linkD (pickI (curNew code) putW).2).2
def putL (code : Str) : Link := if ((curBelow (putC code) 8).1 : Int) = 0 then { (linkD (pickI (curNew code) putW).2).1 with way := List.replicate 60 [] } else (linkD (pickI (curNew code) putW).2).1
def drops (l : Link) (p : Packet) : Bool := decide (l.way ≠ [] ∧ p.ack > 1 ∧ IntKind.i64.wrap (p.ack - 1) = l.next)
def wants (l : Link) (p : Packet) : Bool := !decide (p.seq = 0 ∨ p.seq ≠ l.want)
end Go.Proofs.YtjhfabimacljhaaGreat.K

/- Walks: draws (60). Printed by w2.py. -/
namespace Go.Proofs.YtjhfabimacljhaaGreat.K
open Go Go.RowKit
set_option linter.unusedVariables false
set_option linter.unusedSimpArgs false
set_option maxHeartbeats 4000000
set_option maxRecDepth 20000
theorem c_spec_l01Pick (c : Cur) (xs : List Str) (L M : Nat) (hb : c.b.length ≤ 4611686018427387904) (hx : 0 < xs.length) (hM : ¬ M = L + 1) {h : List V} {n : Nat}  : OkCall Tryz.prog 107 [.ptr (L + 1) 0 0 (cCur c), .sl M 1 0 (xs.map cS)] h n (fun r h1 n1 => r = .str (pickS c xs).1 ∧ h1 = V.updL (L + 1) 0 (cCur (pickS c xs).2) h ∧ n1 = n) := by
 refine OkCall.enter' tab_ok Tryz.func107 rfl (t := [.ptr (L + 1) 0 0 (cCur c), .sl M 1 0 (xs.map cS), .any, .any, .any, .any, .any, .any, .any, .any, .any, .any]) rfl ?_
 refine OQ ?_
 refine EV ?_
 refine ON ?_
 refine OQ ?_
 iterate 4 (refine EV ?_)
 refine OkOps.upd rfl rfl (by simp only [kE, kT, kL, kC] <;> rfl) (by simp only [kE, kT, kL, kC] <;> rfl) cl105 (fun h => c_spec_l01Below c xs.length L hb hx) (by simp only [eq_self, V.updL, V.travL, V.travLL, V.trav, updS, updP, and_self, true_and, and_true, false_and, and_false, Nat.reduceEqDiff, Nat.reduceSub, Nat.le_refl, Nat.zero_le, ↓reduceIte, if_true, if_false, kP, zz, hM] <;> rfl) (rfl) ?_
 refine OkOps.ev tab_ok rfl (ev_idx (by simp only [kE, kT, kL, kC] <;> rfl) (by simp only [kE, kT, kL, kC] <;> rfl) (by rw [List.getElem?_map, pickS_get hx]; rfl) (by simp only [kE, kT, kL, kC] <;> rfl)) (by simp only [kP] <;> rfl) ?_
 iterate 2 (refine EV ?_)
 refine ON ?_
 refine Ok.ret ?_
 with_reducible repeat (first | refine thenQ_ret ?_ | refine blockQ_ret ?_)
 refine RT ?_
 exact ⟨rfl, rfl, rfl⟩
theorem c_spec_l01Once (c : Cur) (m : Nat) (L : Nat) (hb : c.b.length ≤ 4611686018427387904) (hm : 0 < m) {h : List V} {n : Nat}  : OkCall Tryz.prog 114 [.ptr (L + 1) 0 0 (cCur c), .int .i64 (m : Int)] h n (fun r h1 n1 => r = .bool (decide (((curBelow c m).1 : Int) = 0)) ∧ h1 = V.updL (L + 1) 0 (cCur (curBelow c m).2) h ∧ n1 = n) := by
 refine OkCall.enter' tab_ok Tryz.func114 rfl (t := [.ptr (L + 1) 0 0 (cCur c), .int .i64 (m : Int), .any, .any, .any, .any, .any, .any, .any]) rfl ?_
 refine OQ ?_
 refine EV ?_
 refine ON ?_
 refine OQ ?_
 iterate 2 (refine EV ?_)
 refine OkOps.upd rfl rfl (by simp only [kE, kT, kL, kC] <;> rfl) (by simp only [kE, kT, kL, kC] <;> rfl) cl105 (fun h => c_spec_l01Below c m L hb hm) (by simp only [eq_self, V.updL, V.travL, V.travLL, V.trav, updS, updP, and_self, true_and, and_true, false_and, and_false, Nat.reduceEqDiff, Nat.reduceSub, Nat.le_refl, Nat.zero_le, ↓reduceIte, if_true, if_false, kP, zz] <;> rfl) (rfl) ?_
 iterate 2 (refine EV ?_)
 refine ON ?_
 refine Ok.ret ?_
 with_reducible repeat (first | refine thenQ_ret ?_ | refine blockQ_ret ?_)
 refine RT ?_
 exact ⟨rfl, rfl, rfl⟩
end Go.Proofs.YtjhfabimacljhaaGreat.K
