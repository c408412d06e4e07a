/- Walks: what is done in stores, as the reference has it. Printed by w2.py. -/
import Derived.Test.YtiipkeendfpddaaGreatPM
import Derived.Test.YtiipkeendfpddaaGreatG8
import Derived.Test.YtiipkeendfpddaaGreatG7
import Derived.Test.YtiipkeendfpddaaGreatG4
import Derived.Test.YtiipkeendfpddaaGreatG6
namespace Go.Proofs.YtiipkeendfpddaaGreat.K
open Go Go.RowKit
set_option linter.unusedVariables false
set_option linter.unusedSimpArgs false
theorem boxAt_lt {s : Store} {g : Int} {j : Nat} (h : idxI (boxAt s g) = (j : Int)) : j < s.boxes.length := by
  cases e : boxAt s g with
  | some i => rw [e] at h; have : i < s.boxes.length := idx_get e; have h2 : ((i : Nat) : Int) = j := h; omega
  | none => rw [e] at h; have h2 : (-1 : Int) = j := h; omega
theorem OkOps.fresh {P : Program} {ops : Array Oper} {l : List Oper} {t t' h : List V} {n : Nat} {Q : Exit → List V → List V → Nat → Prop} (d q : Nat) (hd : t[d]? = some (.nil q)) (ht : t.set d (.sl n q 0 []) = t') (hk : OkOps P ops l t' h (n + 1) Q) : OkOps P ops l t h n Q := by
  subst ht
  intro base w0 hv σ a w g
  refine hk base w0 hv σ a w ⟨⟨by rw [List.length_set]; exact g.ts.1, fun i y u hy hu => ?_⟩, g.hs, g.dfr, g.bel, ⟨g.inv.bs, by omega, g.inv.zero, fun L hL => g.inv.fresh L M58, g.inv.own, g.inv.inj⟩⟩
  by_cases hi : d = i
  · subst hi
    have hm := g.ts.2 d _ u hd hu
    have hlt : d < t.length := (List.getElem?_eq_some_iff.1 hd).1
    rw [List.getElem?_set_self hlt] at hy
    obtain rfl := Option.some.inj hy
    cases hm with
    | nil _ A => exact .sl n q 0 [] A 0 (fun _ _ => undef) (Nat.le_refl _) (Nat.zero_le _) (by simp) (.inr (.inl rfl)) (by simp) (by simp)
  · rw [List.getElem?_set_ne hi] at hy
    exact g.ts.2 i y u hy hu
theorem OkOps.nilAgg {P : Program} {ops : Array Oper} {l : List Oper} {t t' h : List V} {n : Nat} {Q : Exit → List V → List V → Nat → Prop} {cs cs' : List V} (d : Nat) (hd : t[d]? = some (.agg cs)) (hle : leL cs cs') (ht : t.set d (.agg cs') = t') (hk : OkOps P ops l t' h n Q) : OkOps P ops l t h n Q := by
  subst ht
  intro base w0 hv σ a w g
  refine hk base w0 hv σ a w ⟨⟨by rw [List.length_set]; exact g.ts.1, fun i y u hy hu => ?_⟩, g.hs, g.dfr, g.bel, g.inv⟩
  by_cases hi : d = i
  · subst hi
    have hm := g.ts.2 d _ u hd hu
    have hlt : d < t.length := (List.getElem?_eq_some_iff.1 hd).1
    rw [List.getElem?_set_self hlt] at hy
    obtain rfl := Option.some.inj hy
    obtain ⟨h1, h2⟩ := leL_spec hle
    cases hm with
    | agg _ vs e1 e6 =>
      refine .agg cs' vs (h1 ▸ e1) fun c x v hx hv2 => ?_
      have hc : c < cs.length := by have := (List.getElem?_eq_some_iff.1 hx).1; omega
      have hx0 : cs[c]? = some cs[c] := List.getElem?_eq_getElem hc
      have hm1 := e6 c _ v hx0 hv2
      rcases h2 c _ x hx0 hx with e | e | ⟨L, sz, ea, eb⟩
      · rw [← e]; exact hm1
      · rw [e]; exact .any _
      · rw [ea] at hm1; rw [eb]
        cases hm1 with
        | nil _ A => exact .sl L sz 0 [] A 0 (fun _ _ => undef) (Nat.le_refl _) (Nat.zero_le _) (by simp) (.inr (.inl rfl)) (by simp) (by simp)
  · rw [List.getElem?_set_ne hi] at hy
    exact g.ts.2 i y u hy hu
theorem store_time {s : Store} (h : storeOk s = true) : IntKind.i64.wrap (s.time + 1) = s.time + 1 := by
  have := (store_small h).t0; have := (store_small h).t1
  exact wrap_add_1 M58 M58
theorem addMail_sm {b : Box} {g flags : Int} {t : Str} {s : Stamp} (h : smBox b) (ht : t.length ≤ 1048576) : smBox (addMail b g flags t s).1 := by
  unfold addMail
  split
  · exact h
  · split
    · rename_i h2; exact (box_small h2).sm
    · exact h
theorem setFlags_len (l : List Reg) (n : Int) (s : Stamp) : (setFlags l n s).length = l.length := by
  unfold setFlags
  split
  · rfl
  · exact setGo_len _ _ _ _
theorem flagMail_sm {b : Box} {g n : Int} {s : Stamp} (h : smBox b) : smBox (flagMail b g n s).1 := by
  unfold flagMail
  split
  · exact h
  · show smBox (flagOut b _ n s)
    unfold flagOut
    split
    · rename_i m hm
      refine ⟨h.1, ⟨by show (b.mails.set _ _).length ≤ _; rw [List.length_set]; exact h.2.1.1, fun z hz => ?_⟩, h.2.2⟩
      rcases List.mem_or_eq_of_mem_set hz with h1 | rfl
      · exact h.2.1.2 z h1
      · have := h.2.1.2 m (List.mem_of_getElem? hm)
        exact ⟨by show (setFlags _ _ _).length ≤ _; rw [setFlags_len]; exact this.1, this.2⟩
    · exact h
theorem newBox_sm {s : Store} {g : Int} {n : Str} (hn : n.length ≤ 1048576) : smBox (newBox s g n) := ⟨hn, ⟨by show (0 : Nat) ≤ _; omega, fun z hz => by cases hz⟩, by show (0 : Nat) ≤ _; omega⟩
theorem makeOut_sm {s : Store} {g : Int} {n : Str} (h : StoreS s) (hn : n.length ≤ 1048576) : smStore (makeOut s g n) := by
  have h1 := h.boxes; have h2 := h.gone; have hs := h.sm
  refine ⟨⟨?_, fun z hz => ?_⟩, by show s.gone.length ≤ _; omega⟩
  · show (s.boxes.filter (ltB g) ++ [newBox s g n] ++ s.boxes.filter (gtB g)).length ≤ _
    have := List.length_filter_le (ltB g) s.boxes; have := List.length_filter_le (gtB g) s.boxes
    simp only [List.length_append, List.length_singleton]; omega
  · have hz' : z ∈ s.boxes.filter (ltB g) ++ [newBox s g n] ++ s.boxes.filter (gtB g) := hz
    rcases List.mem_append.1 hz' with hz | hz
    · rcases List.mem_append.1 hz with hz | hz
      · exact hs.1.2 z (List.mem_filter.1 hz).1
      · obtain rfl := List.mem_singleton.1 hz; exact newBox_sm hn
    · exact hs.1.2 z (List.mem_filter.1 hz).1
theorem set_sm {s : Store} {i : Nat} {b : Box} {t : Int} (h : smStore s) (hb : smBox b) : smStore { s with time := t, boxes := s.boxes.set i b } := by
  refine ⟨⟨by show (s.boxes.set i b).length ≤ _; rw [List.length_set]; exact h.1.1, fun z hz => ?_⟩, h.2⟩
  rcases List.mem_or_eq_of_mem_set hz with h1 | rfl
  · exact h.1.2 z h1
  · exact hb
set_option maxHeartbeats 4000000
set_option maxRecDepth 20000
theorem w_spec_l07Stamped (s : Store) (i : Nat) (b : Box) (h : smStore s) (hi : i < s.boxes.length) (hb : smBox b) : Weak Tryz.prog 118 [.agg (cStore s), .int .i64 (i : Int), .agg (cBox b)] (vSB (stamped s i b)) := by
 refine Weak.enter tab_ok Tryz.func118 rfl (.inr M33) (ht := ANYS 23) ?_
 refine S64 ?_
 refine S6 ?_
 refine OkOps.S' rfl (OpS.semi rfl M48 M27 cl54 M44 M41 (p_spec_l07Copy s h)) M35 M32 ?_
 refine S33 ?_
 refine S38 ?_
 refine OkOps.ev tab_ok rfl (ev_idx M48 M48 (by rw [List.getElem?_map, List.getElem?_eq_getElem hi]; rfl) M48) M52 ?_
 refine S17 ?_
 refine Ok.seq ?_
 rw [show (List.map cBox s.boxes).set (i - 0) [V.int .i64 b.gid, .str b.name, .int .i64 b.named.time, .int .i64 b.named.by_, .int .i64 b.next, .sl 0 4 0 (b.mails.map cMail), .sl 0 1 0 (b.gone.map cZ)] = (s.boxes.set i b).map cBox from set_map cBox s.boxes i b]
 refine S35 ?_
 refine S17 ?_
 refine S59 ?_
 refine OkOps.S0 rfl (OpS.weakE rfl (by simp only [kE, kT, kL, kC, stampOut, cStore] <;> rfl) (by simp only [kE, kT, kL, kC, stampOut, cStore, V.eraseL, V.erase, V.travL, V.trav, zz, zf, zy] <;> rfl) cl59 M42 (w_spec_StoreOk (stampOut s i b) (set_sm h hb))) M52 ?_
 refine S2 ?_
 refine OC (fun hb4 => ?_) (fun hb4 => ?_)
 ·
  try simp only [bsimp] at hb4
  rw [show stamped s i b = (s, false) from if_neg (by simpa using hb4)]
  refine S6 ?_
  refine OW cl54 ((Pure.weak' (p_spec_l07Copy s h) M44 M40 M43)) ?_
  refine S30 ?_
  first | rfl | (simp [-List.map_set, -List.map_take, -List.map_drop, V.erase, V.trav, V.travL, V.travLL, packV, zz, zf, zy, stampOut]; done)
 try simp only [bsimp] at hb4
 rw [show stamped s i b = (stampOut s i b, true) from if_pos (by simpa using hb4)]
 refine S60 ?_
 refine S30 ?_
 first | rfl | (simp [-List.map_set, -List.map_take, -List.map_drop, V.erase, V.trav, V.travL, V.travLL, packV, zz, zf, zy, stampOut]; done)
theorem w_spec_PutMail (s : Store) (box g flags : Int) (t : Str) (h : smStore s) (ht : t.length ≤ 1048576) : Weak Tryz.prog 87 [.agg (cStore s), .int .i64 box, .int .i64 g, .int .i64 flags, .str t] (vSB (putMail s box g flags t)) := by
 refine Weak.enter tab_ok Tryz.func87 rfl (.inr M33) (ht := ANYS 51) ?_
 refine S34 ?_
 refine S11 ?_
 refine OW cl117 (w_spec_BoxAt s box M114) ?_
 refine S55 ?_
 refine Ok.seqC [(29, .bool (putCond s box g))] [18, 19, 20, 21, 22, 23, 24, 25, 26, 27, 28] M51 ?_ ?_
 ·
  refine S15 ?_
  refine OW cl59 (w_spec_StoreOk s h) ?_
  iterate 2 (refine EV ?_)
  refine OP (d := 21) (fun hg2_3 => ?_) (fun hg2_3 => ?_)
  ·
   try simp only [bsimp] at hg2_3
   iterate 3 (refine OU ?_)
   iterate 2 (refine EV ?_)
   refine S61 ?_
   refine S2 ?_
   refine ⟨rfl, ?_, rfl, rfl⟩
   (repeat (first | exact trivial | refine leC ?_ | refine leK ?_ ?_)) <;> first | (refine .inl (congrArg V.bool ?_); (first | (simp [putCond, *]; done) | (simp [putCond, *] <;> omega) | (rw [Bool.eq_iff_iff]; simp [putCond, *] <;> omega) | (simp_all [putCond]; done) | (simp_all [putCond]; omega))) | exact le_rfl' _
  try simp only [bsimp] at hg2_3
  refine S25 ?_
  refine OW cl115 (w_spec_Knows s g h) ?_
  iterate 2 (refine EV ?_)
  refine OP (d := 26) (fun hg2_8 => ?_) (fun hg2_8 => ?_)
  ·
   try simp only [bsimp] at hg2_8
   refine S61 ?_
   refine S2 ?_
   refine ⟨rfl, ?_, rfl, rfl⟩
   (repeat (first | exact trivial | refine leC ?_ | refine leK ?_ ?_)) <;> first | (refine .inl (congrArg V.bool ?_); (first | (simp [putCond, *]; done) | (simp [putCond, *] <;> omega) | (rw [Bool.eq_iff_iff]; simp [putCond, *] <;> omega) | (simp_all [putCond]; done) | (simp_all [putCond]; omega))) | exact le_rfl' _
  try simp only [bsimp] at hg2_8
  refine S18 ?_
  refine S1 ?_
  refine ⟨rfl, ?_, rfl, rfl⟩
  (repeat (first | exact trivial | refine leC ?_ | refine leK ?_ ?_)) <;> first | (refine .inl (congrArg V.bool ?_); (first | (simp [putCond, *]; done) | (simp [putCond, *] <;> omega) | (rw [Bool.eq_iff_iff]; simp [putCond, *] <;> omega) | (simp_all [putCond]; done) | (simp_all [putCond]; omega))) | exact le_rfl' _
 refine OC (fun hb2 => ?_) (fun hb2 => ?_)
 ·
  try simp only [bsimp] at hb2
  rw [show putMail s box g flags t = (s, false) from if_pos hb2]
  refine S6 ?_
  refine OW cl54 ((Pure.weak' (p_spec_l07Copy s h) M44 M40 M43)) ?_
  refine S30 ?_
  first | rfl | (simp [-List.map_set, -List.map_take, -List.map_drop, V.erase, V.trav, V.travL, V.travLL, packV, zz, zf, zy]; done)
 try simp only [bsimp] at hb2
 have hc : storeOk s = true ∧ ¬ idxI (boxAt s box) < 0 := by have h9 := hb2; simp only [putCond, Bool.or_eq_false_iff, Bool.not_eq_false', decide_eq_false_iff_not] at h9; exact ⟨h9.1.1, h9.2⟩
 obtain ⟨j, hj⟩ : ∃ j : Nat, idxI (boxAt s box) = (j : Int) := ⟨(idxI (boxAt s box)).toNat, by omega⟩
 have hjl := boxAt_lt hj
 have hbi : boxIn s box = s.boxes[j] := by unfold boxIn; rw [hj, Int.toNat_natCast, List.getElem?_eq_getElem hjl]; rfl
 rw [show putMail s box g flags t = if (addMail (boxIn s box) g flags t (nextStamp s)).2 = true then stamped s (idxI (boxAt s box)).toNat (addMail (boxIn s box) g flags t (nextStamp s)).1 else (s, false) from if_neg (by simp [hb2])]
 rw [hbi, hj, Int.toNat_natCast]
 have hba := addMail_sm (g := g) (flags := flags) (s := nextStamp s) (h.1.2 _ (List.getElem_mem hjl)) ht
 refine S7 ?_
 refine Ok.drawn 15 56 [13] M56 M56 rfl ?_
 iterate 3 (refine SV ?_)
 refine SOps.ev tab_ok rfl (ev_idx M48 M48 (by rw [List.getElem?_map, List.getElem?_eq_getElem hjl]; rfl) M48) M52 ?_
 iterate 5 (refine SV ?_)
 refine SOps.S0 rfl (OpS.weakM rfl M48 M48 cl116 (w_spec_NextStamp s)) M52 ?_
 refine SOps.S0 rfl (OpS.weakM rfl M48 M48 cl95 (w_spec_AddMail s.boxes[j] g flags t (nextStamp s) (h.1.2 _ (List.getElem_mem hjl)) ht)) M52 ?_
 refine S62 ?_
 refine TOps.storeL tab_ok rfl rfl rfl M48 ⟨_, _, by simp only [kE]; rfl⟩ M7 M65 (rfl) (LateOk.cons (i := 13) tab_ok M126 M126 M71 (by show nth _ 45 = _; simp only [kE, kT, kL, kC] <;> rfl) LateOk.nil) ?_
 refine TOps.evL tab_ok rfl M48 M52 (LateOk.cons (i := 13) tab_ok M59 M59 M79 (by show nth _ 45 = _; simp only [kE, kT, kL, kC] <;> rfl) LateOk.nil) ?_
 refine TOps.nil ?_
 refine S65 ?_
 refine OC (fun hb5 => ?_) (fun hb5 => ?_)
 ·
  try simp only [bsimp] at hb5
  rw [if_neg (by simpa using hb5)]
  refine S6 ?_
  refine OW cl54 ((Pure.weak' (p_spec_l07Copy s h) M44 M40 M43)) ?_
  refine S30 ?_
  first | rfl | (simp [-List.map_set, -List.map_take, -List.map_drop, V.erase, V.trav, V.travL, V.travLL, packV, zz, zf, zy]; done)
 try simp only [bsimp] at hb5
 rw [if_pos (by simpa using hb5)]
 refine Ok.skip ?_
 refine S19 ?_
 refine OW cl118 (w_spec_l07Stamped s j (addMail s.boxes[j] g flags t (nextStamp s)).1 h hjl hba) ?_
 iterate 2 (refine EV ?_)
 refine S30 ?_
 first | rfl | (simp [-List.map_set, -List.map_take, -List.map_drop, V.erase, V.trav, V.travL, V.travLL, packV, zz, zf, zy]; done)
theorem w_spec_MarkMail (s : Store) (box g flags : Int) (h : smStore s) : Weak Tryz.prog 89 [.agg (cStore s), .int .i64 box, .int .i64 g, .int .i64 flags] (vSB (markMail s box g flags)) := by
 refine Weak.enter tab_ok Tryz.func89 rfl (.inr M33) (ht := ANYS 44) ?_
 refine S34 ?_
 refine S11 ?_
 refine OW cl117 (w_spec_BoxAt s box M114) ?_
 refine S55 ?_
 refine Ok.seqC [(22, .bool (markCond s box))] [16, 17, 18, 19, 20, 21] M51 ?_ ?_
 ·
  refine S15 ?_
  refine OW cl59 (w_spec_StoreOk s h) ?_
  iterate 2 (refine EV ?_)
  refine OP (d := 19) (fun hg2_3 => ?_) (fun hg2_3 => ?_)
  ·
   try simp only [bsimp] at hg2_3
   refine S61 ?_
   refine S2 ?_
   refine ⟨rfl, ?_, rfl, rfl⟩
   (repeat (first | exact trivial | refine leC ?_ | refine leK ?_ ?_)) <;> first | (refine .inl (congrArg V.bool ?_); (first | (simp [markCond, *]; done) | (simp [markCond, *] <;> omega) | (rw [Bool.eq_iff_iff]; simp [markCond, *] <;> omega) | (simp_all [markCond]; done) | (simp_all [markCond]; omega))) | exact le_rfl' _
  try simp only [bsimp] at hg2_3
  refine S18 ?_
  refine S1 ?_
  refine ⟨rfl, ?_, rfl, rfl⟩
  (repeat (first | exact trivial | refine leC ?_ | refine leK ?_ ?_)) <;> first | (refine .inl (congrArg V.bool ?_); (first | (simp [markCond, *]; done) | (simp [markCond, *] <;> omega) | (rw [Bool.eq_iff_iff]; simp [markCond, *] <;> omega) | (simp_all [markCond]; done) | (simp_all [markCond]; omega))) | exact le_rfl' _
 refine OC (fun hb2 => ?_) (fun hb2 => ?_)
 ·
  try simp only [bsimp] at hb2
  rw [show markMail s box g flags = (s, false) from if_pos hb2]
  refine S6 ?_
  refine OW cl54 ((Pure.weak' (p_spec_l07Copy s h) M44 M40 M43)) ?_
  refine S30 ?_
  first | rfl | (simp [-List.map_set, -List.map_take, -List.map_drop, V.erase, V.trav, V.travL, V.travLL, packV, zz, zf, zy]; done)
 try simp only [bsimp] at hb2
 have hc : storeOk s = true ∧ ¬ idxI (boxAt s box) < 0 := by have h9 := hb2; simp only [markCond, Bool.or_eq_false_iff, Bool.not_eq_false', decide_eq_false_iff_not] at h9; exact ⟨h9.1, h9.2⟩
 obtain ⟨j, hj⟩ : ∃ j : Nat, idxI (boxAt s box) = (j : Int) := ⟨(idxI (boxAt s box)).toNat, by omega⟩
 have hjl := boxAt_lt hj
 have hbi : boxIn s box = s.boxes[j] := by unfold boxIn; rw [hj, Int.toNat_natCast, List.getElem?_eq_getElem hjl]; rfl
 rw [show markMail s box g flags = if (flagMail (boxIn s box) g flags (nextStamp s)).2 = true then stamped s (idxI (boxAt s box)).toNat (flagMail (boxIn s box) g flags (nextStamp s)).1 else (s, false) from if_neg (by simp [hb2])]
 rw [hbi, hj, Int.toNat_natCast]
 have hba := flagMail_sm (g := g) (n := flags) (s := nextStamp s) (h.1.2 _ (List.getElem_mem hjl))
 refine S7 ?_
 refine Ok.drawn 14 48 [12] M56 M56 rfl ?_
 iterate 3 (refine SV ?_)
 refine SOps.ev tab_ok rfl (ev_idx M48 M48 (by rw [List.getElem?_map, List.getElem?_eq_getElem hjl]; rfl) M48) M52 ?_
 iterate 4 (refine SV ?_)
 refine SOps.S0 rfl (OpS.weakM rfl M48 M48 cl116 (w_spec_NextStamp s)) M52 ?_
 refine SOps.S0 rfl (OpS.weakM rfl M48 M48 cl96 (w_spec_FlagMail s.boxes[j] g flags (nextStamp s) (h.1.2 _ (List.getElem_mem hjl)))) M52 ?_
 refine S62 ?_
 refine TOps.storeL tab_ok rfl rfl rfl M48 ⟨_, _, by simp only [kE]; rfl⟩ M7 M65 (rfl) (LateOk.cons (i := 12) tab_ok M126 M126 M71 M97 LateOk.nil) ?_
 refine TOps.evL tab_ok rfl M48 M52 (LateOk.cons (i := 12) tab_ok M59 M59 M79 M97 LateOk.nil) ?_
 refine TOps.nil ?_
 refine S65 ?_
 refine OC (fun hb5 => ?_) (fun hb5 => ?_)
 ·
  try simp only [bsimp] at hb5
  rw [if_neg (by simpa using hb5)]
  refine S6 ?_
  refine OW cl54 ((Pure.weak' (p_spec_l07Copy s h) M44 M40 M43)) ?_
  refine S30 ?_
  first | rfl | (simp [-List.map_set, -List.map_take, -List.map_drop, V.erase, V.trav, V.travL, V.travLL, packV, zz, zf, zy]; done)
 try simp only [bsimp] at hb5
 rw [if_pos (by simpa using hb5)]
 refine Ok.skip ?_
 refine S19 ?_
 refine OW cl118 (w_spec_l07Stamped s j (flagMail s.boxes[j] g flags (nextStamp s)).1 h hjl hba) ?_
 iterate 2 (refine EV ?_)
 refine S30 ?_
 first | rfl | (simp [-List.map_set, -List.map_take, -List.map_drop, V.erase, V.trav, V.travL, V.travLL, packV, zz, zf, zy]; done)
theorem w_spec_DropMail (s : Store) (box g : Int) (h : smStore s) : Weak Tryz.prog 90 [.agg (cStore s), .int .i64 box, .int .i64 g] (vSB (dropMail s box g)) := by
 refine Weak.enter tab_ok Tryz.func90 rfl (.inr M33) (ht := ANYS 41) ?_
 refine S34 ?_
 refine S6 ?_
 refine OkOps.S' rfl (OpS.semi rfl M48 M27 cl54 M44 M41 (p_spec_l07Copy s h)) M35 M32 ?_
 refine S33 ?_
 refine S11 ?_
 refine OW cl117 (w_spec_BoxAt s box M114) ?_
 refine S55 ?_
 refine Ok.seqC [(23, .bool (markCond s box))] [17, 18, 19, 20, 21, 22] M51 ?_ ?_
 ·
  refine S15 ?_
  refine OW cl59 (w_spec_StoreOk s h) ?_
  iterate 2 (refine EV ?_)
  refine OP (d := 20) (fun hg3_3 => ?_) (fun hg3_3 => ?_)
  ·
   try simp only [bsimp] at hg3_3
   refine S61 ?_
   refine S2 ?_
   refine ⟨rfl, ?_, rfl, rfl⟩
   (repeat (first | exact trivial | refine leC ?_ | refine leK ?_ ?_)) <;> first | (refine .inl (congrArg V.bool ?_); (first | (simp [markCond, *]; done) | (simp [markCond, *] <;> omega) | (rw [Bool.eq_iff_iff]; simp [markCond, *] <;> omega) | (simp_all [markCond]; done) | (simp_all [markCond]; omega))) | exact le_rfl' _
  try simp only [bsimp] at hg3_3
  refine S18 ?_
  refine S1 ?_
  refine ⟨rfl, ?_, rfl, rfl⟩
  (repeat (first | exact trivial | refine leC ?_ | refine leK ?_ ?_)) <;> first | (refine .inl (congrArg V.bool ?_); (first | (simp [markCond, *]; done) | (simp [markCond, *] <;> omega) | (rw [Bool.eq_iff_iff]; simp [markCond, *] <;> omega) | (simp_all [markCond]; done) | (simp_all [markCond]; omega))) | exact le_rfl' _
 refine OC (fun hb3 => ?_) (fun hb3 => ?_)
 ·
  try simp only [bsimp] at hb3
  rw [show dropMail s box g = (s, false) from if_pos hb3]
  refine S6 ?_
  refine S30 ?_
  first | rfl | (simp [-List.map_set, -List.map_take, -List.map_drop, V.erase, V.trav, V.travL, V.travLL, packV, zz, zf, zy]; done)
 try simp only [bsimp] at hb3
 have hc : storeOk s = true ∧ ¬ idxI (boxAt s box) < 0 := by have h9 := hb3; simp only [markCond, Bool.or_eq_false_iff, Bool.not_eq_false', decide_eq_false_iff_not] at h9; exact ⟨h9.1, h9.2⟩
 obtain ⟨j, hj⟩ : ∃ j : Nat, idxI (boxAt s box) = (j : Int) := ⟨(idxI (boxAt s box)).toNat, by omega⟩
 have hjl := boxAt_lt hj
 have hbi : boxIn s box = s.boxes[j] := by unfold boxIn; rw [hj, Int.toNat_natCast, List.getElem?_eq_getElem hjl]; rfl
 rw [show dropMail s box g = if (takeOut (boxIn s box) g).2 = true then ({ s with boxes := s.boxes.set (idxI (boxAt s box)).toNat (takeOut (boxIn s box) g).1 }, true) else (s, false) from if_neg (by simp [hb3])]
 rw [hbi, hj, Int.toNat_natCast]
 refine Ok.skip ?_
 refine S19 ?_
 refine OkOps.ev tab_ok rfl (ev_idx M48 M48 (by rw [List.getElem?_map, List.getElem?_eq_getElem hjl]; rfl) M48) M52 ?_
 iterate 2 (refine EV ?_)
 refine OW cl97 (w_spec_TakeOut s.boxes[j] g (h.1.2 _ (List.getElem_mem hjl))) ?_
 iterate 4 (refine EV ?_)
 refine OE ?_
 refine S2 ?_
 refine S65 ?_
 refine OC (fun hb6 => ?_) (fun hb6 => ?_)
 ·
  try simp only [bsimp] at hb6
  rw [if_neg (by simpa using hb6)]
  refine S6 ?_
  refine S30 ?_
  first | rfl | (simp [-List.map_set, -List.map_take, -List.map_drop, V.erase, V.trav, V.travL, V.travLL, packV, zz, zf, zy]; done)
 try simp only [bsimp] at hb6
 rw [if_pos (by simpa using hb6)]
 refine Ok.skip ?_
 refine S38 ?_
 refine OkOps.ev tab_ok rfl (ev_idx M48 M48 (by rw [List.getElem?_map, List.getElem?_eq_getElem hjl]; rfl) M48) M52 ?_
 refine S17 ?_
 refine Ok.seq ?_
 rw [show (List.map cBox s.boxes).set (j - 0) [V.int .i64 (takeOut s.boxes[j] g).1.gid, .str (takeOut s.boxes[j] g).1.name, .int .i64 (takeOut s.boxes[j] g).1.named.time, .int .i64 (takeOut s.boxes[j] g).1.named.by_, .int .i64 (takeOut s.boxes[j] g).1.next, .sl 0 4 0 ((takeOut s.boxes[j] g).1.mails.map cMail), .sl 0 1 0 ((takeOut s.boxes[j] g).1.gone.map cZ)] = (s.boxes.set j (takeOut s.boxes[j] g).1).map cBox from set_map cBox s.boxes j (takeOut s.boxes[j] g).1]
 refine S15 ?_
 refine S30 ?_
 first | rfl | (simp [-List.map_set, -List.map_take, -List.map_drop, V.erase, V.trav, V.travL, V.travLL, packV, zz, zf, zy]; done)
theorem w_spec_DropBox (s : Store) (box : Int) (h : smStore s) : Weak Tryz.prog 92 [.agg (cStore s), .int .i64 box] (vSB (dropBox s box)) := by
 refine Weak.enter tab_ok Tryz.func92 rfl (.inr M33) (ht := ANYS 44) ?_
 refine S34 ?_
 refine S6 ?_
 refine OkOps.S' rfl (OpS.semi rfl M48 M27 cl54 M44 M41 (p_spec_l07Copy s h)) M35 M32 ?_
 refine S33 ?_
 refine S11 ?_
 refine OW cl117 (w_spec_BoxAt s box M114) ?_
 refine S55 ?_
 refine Ok.seqC [(25, .bool (dropCond s box))] [13, 14, 15, 16, 17, 18, 19, 20, 21, 22, 23, 24] M51 ?_ ?_
 ·
  refine S15 ?_
  refine OW cl59 (w_spec_StoreOk s h) ?_
  iterate 2 (refine EV ?_)
  refine OP (d := 16) (fun hg3_3 => ?_) (fun hg3_3 => ?_)
  ·
   try simp only [bsimp] at hg3_3
   refine S61 ?_
   refine S13 ?_
   refine S2 ?_
   refine ⟨rfl, ?_, rfl, rfl⟩
   (repeat (first | exact trivial | refine leC ?_ | refine leK ?_ ?_)) <;> first | (refine .inl (congrArg V.bool ?_); (first | (simp [dropCond, *]; done) | (simp [dropCond, *] <;> omega) | (rw [Bool.eq_iff_iff]; simp [dropCond, *] <;> omega) | (simp_all [dropCond]; done) | (simp_all [dropCond]; omega))) | exact le_rfl' _
  try simp only [bsimp] at hg3_3
  refine S18 ?_
  iterate 3 (refine EV ?_)
  refine OP (d := 20) (fun hg3_7 => ?_) (fun hg3_7 => ?_)
  ·
   try simp only [bsimp] at hg3_7
   refine S44 ?_
   refine ⟨rfl, ?_, rfl, rfl⟩
   (repeat (first | exact trivial | refine leC ?_ | refine leK ?_ ?_)) <;> first | (refine .inl (congrArg V.bool ?_); (first | (simp [dropCond, *]; done) | (simp [dropCond, *] <;> omega) | (rw [Bool.eq_iff_iff]; simp [dropCond, *] <;> omega) | (simp_all [dropCond]; done) | (simp_all [dropCond]; omega))) | exact le_rfl' _
  try simp only [bsimp] at hg3_7
  iterate 3 (refine OX ?_)
  refine S39 ?_
  refine ⟨rfl, ?_, rfl, rfl⟩
  (repeat (first | exact trivial | refine leC ?_ | refine leK ?_ ?_)) <;> first | (refine .inl (congrArg V.bool ?_); (first | (simp [dropCond, *]; done) | (simp [dropCond, *] <;> omega) | (rw [Bool.eq_iff_iff]; simp [dropCond, *] <;> omega) | (simp_all [dropCond]; done) | (simp_all [dropCond]; omega))) | exact le_rfl' _
 refine OC (fun hb3 => ?_) (fun hb3 => ?_)
 ·
  try simp only [bsimp] at hb3
  rw [show dropBox s box = (s, false) from if_pos hb3]
  refine S6 ?_
  refine S30 ?_
  first | rfl | (simp [-List.map_set, -List.map_take, -List.map_drop, V.erase, V.trav, V.travL, V.travLL, packV, zz, zf, zy, dropRest]; done)
 try simp only [bsimp] at hb3
 have hc : storeOk s = true ∧ ¬ idxI (boxAt s box) < 0 := by have h9 := hb3; simp only [dropCond, Bool.or_eq_false_iff, Bool.not_eq_false', decide_eq_false_iff_not] at h9; exact ⟨h9.1.1, h9.1.2⟩
 have hss := store_small hc.1
 have hb5 := hss.boxes
 have hg20 := hss.gone
 obtain ⟨j, hj⟩ : ∃ j : Nat, idxI (boxAt s box) = (j : Int) := ⟨(idxI (boxAt s box)).toNat, by omega⟩
 have hjl := boxAt_lt hj
 rw [show dropBox s box = ({ s with boxes := dropRest s (idxI (boxAt s box)).toNat, gone := insG s.gone box }, true) from if_neg (by simp [hb3])]
 rw [hj, Int.toNat_natCast]
 have hw1 : IntKind.i64.wrap ((j : Int) + 1) = ((j + 1 : Nat) : Int) := wrap_add_one M58
 refine S7 ?_
 refine Ok.drawn 11 46 [] M56 M56 rfl ?_
 iterate 4 (refine SV ?_)
 refine SOps.ev tab_ok rfl (ev_partHi_map M48 M48 M53 M106 M58) M52 ?_
 refine SOps.S rfl (ok_append_nil tab_ok M53 M53 M57 rfl rfl M48 (.inl ⟨_, _, by simp only [kE, kT, kL, kC] <;> rfl⟩) M19 M19) M110 ?_
 iterate 3 (refine SV ?_)
 refine SOps.ev tab_ok rfl M105 M52 ?_
 refine SOps.ev tab_ok rfl (ev_partLo_map M48 M48 M53 M106 M58) M52 ?_
 refine SOps.nil ?_
 refine TOps.append tab_ok rfl rfl M53 M53 M57 rfl M48 (.inl ⟨_, _, by simp only [kE, kT, kL, kC] <;> rfl⟩) M58 M58 M19 M19 (one_boxes) M13 M10 (rfl) ?_
 refine TV ?_
 refine TOps.storeE tab_ok rfl rfl M48 ⟨_, _, by simp only [kE]; rfl⟩ M7 M65 (rfl) ?_
 refine TOps.nil ?_
 refine S19 ?_
 refine OW cl119 (w_spec_l06Put s.gone box M58) ?_
 refine S33 ?_
 refine S6 ?_
 refine S30 ?_
 first | rfl | (simp [-List.map_set, -List.map_take, -List.map_drop, V.erase, V.trav, V.travL, V.travLL, packV, zz, zf, zy, dropRest]; done)
theorem w_spec_RenameBox (s : Store) (box : Int) (n : Str) (h : smStore s) (hn : n.length ≤ 1048576) : Weak Tryz.prog 91 [.agg (cStore s), .int .i64 box, .str n] (vSB (renameBox s box n)) := by
 refine Weak.enter tab_ok Tryz.func91 rfl (.inr M33) (ht := ANYS 49) ?_
 refine S34 ?_
 refine S6 ?_
 refine OkOps.S' rfl (OpS.semi rfl M48 M27 cl54 M44 M41 (p_spec_l07Copy s h)) M35 M32 ?_
 refine S33 ?_
 refine S11 ?_
 refine OW cl117 (w_spec_BoxAt s box M114) ?_
 refine S55 ?_
 refine Ok.seqC [(27, .bool (nameCond s box n))] [15, 16, 17, 18, 19, 20, 21, 22, 23, 24, 25, 26] M51 ?_ ?_
 ·
  refine S15 ?_
  refine OW cl59 (w_spec_StoreOk s h) ?_
  iterate 2 (refine EV ?_)
  refine OP (d := 18) (fun hg3_3 => ?_) (fun hg3_3 => ?_)
  ·
   try simp only [bsimp] at hg3_3
   refine S61 ?_
   refine S13 ?_
   refine S2 ?_
   refine ⟨rfl, ?_, rfl, rfl⟩
   (repeat (first | exact trivial | refine leC ?_ | refine leK ?_ ?_)) <;> first | (refine .inl (congrArg V.bool ?_); (first | (simp [nameCond, *]; done) | (simp [nameCond, *] <;> omega) | (rw [Bool.eq_iff_iff]; simp [nameCond, *] <;> omega) | (simp_all [nameCond]; done) | (simp_all [nameCond]; omega))) | exact le_rfl' _
  try simp only [bsimp] at hg3_3
  refine S18 ?_
  iterate 3 (refine EV ?_)
  refine OP (d := 22) (fun hg3_7 => ?_) (fun hg3_7 => ?_)
  ·
   try simp only [bsimp] at hg3_7
   refine S44 ?_
   refine ⟨rfl, ?_, rfl, rfl⟩
   (repeat (first | exact trivial | refine leC ?_ | refine leK ?_ ?_)) <;> first | (refine .inl (congrArg V.bool ?_); (first | (simp [nameCond, *]; done) | (simp [nameCond, *] <;> omega) | (rw [Bool.eq_iff_iff]; simp [nameCond, *] <;> omega) | (simp_all [nameCond]; done) | (simp_all [nameCond]; omega))) | exact le_rfl' _
  try simp only [bsimp] at hg3_7
  refine S25 ?_
  refine OW cl80 (w_spec_BoxNamed s n M114) ?_
  refine S39 ?_
  refine ⟨rfl, ?_, rfl, rfl⟩
  (repeat (first | exact trivial | refine leC ?_ | refine leK ?_ ?_)) <;> first | (refine .inl (congrArg V.bool ?_); (first | (simp [nameCond, *]; done) | (simp [nameCond, *] <;> omega) | (rw [Bool.eq_iff_iff]; simp [nameCond, *] <;> omega) | (simp_all [nameCond]; done) | (simp_all [nameCond]; omega))) | exact le_rfl' _
 refine OC (fun hb3 => ?_) (fun hb3 => ?_)
 ·
  try simp only [bsimp] at hb3
  rw [show renameBox s box n = (s, false) from if_pos hb3]
  refine S6 ?_
  refine S30 ?_
  first | rfl | (simp [-List.map_set, -List.map_take, -List.map_drop, V.erase, V.trav, V.travL, V.travLL, packV, zz, zf, zy]; done)
 try simp only [bsimp] at hb3
 have hc : storeOk s = true ∧ ¬ idxI (boxAt s box) < 0 := by have h9 := hb3; simp only [nameCond, Bool.or_eq_false_iff, Bool.not_eq_false', decide_eq_false_iff_not] at h9; exact ⟨h9.1.1, h9.1.2⟩
 obtain ⟨j, hj⟩ : ∃ j : Nat, idxI (boxAt s box) = (j : Int) := ⟨(idxI (boxAt s box)).toNat, by omega⟩
 have hjl := boxAt_lt hj
 have hw1 := store_time hc.1
 rw [show renameBox s box n = if storeOk (nameOut s (idxI (boxAt s box)).toNat n) = true then (nameOut s (idxI (boxAt s box)).toNat n, true) else (s, false) from if_neg (by simp [hb3])]
 rw [hj, Int.toNat_natCast]
 have hno : nameOut s j n = { s with time := s.time + 1, boxes := s.boxes.set j { s.boxes[j] with name := n, named := nextStamp s } } := by unfold nameOut; rw [List.getElem?_eq_getElem hjl]
 have hbj := h.1.2 _ (List.getElem_mem hjl)
 have hso : smStore (nameOut s j n) := by rw [hno]; exact set_sm h ⟨hn, hbj.2.1, hbj.2.2⟩
 refine Ok.skip ?_
 refine S38 ?_
 refine OkOps.ev tab_ok rfl (ev_idx M48 M48 (by rw [List.getElem?_map, List.getElem?_eq_getElem hjl]; rfl) M48) M52 ?_
 refine S33 ?_
 refine Ok.seq ?_
 rw [show (List.map cBox s.boxes).set (j - 0) [V.int .i64 s.boxes[j].gid, .str n, .int .i64 s.boxes[j].named.time, .int .i64 s.boxes[j].named.by_, .int .i64 s.boxes[j].next, .sl 0 4 0 (s.boxes[j].mails.map cMail), .sl 0 1 0 (s.boxes[j].gone.map cZ)] = (s.boxes.set j { s.boxes[j] with name := n }).map cBox from set_map cBox s.boxes j { s.boxes[j] with name := n }]
 refine Ok.drawn 7 52 [] M56 M56 rfl ?_
 iterate 4 (refine SV ?_)
 refine SOps.S0 rfl (OpS.weakM rfl M48 M48 cl116 (w_spec_NextStamp s)) M52 ?_
 refine SOps.ev tab_ok rfl (ev_idx M48 M48 (by rw [List.getElem?_map, List.getElem?_set_self hjl]; rfl) M48) M52 ?_
 refine SV ?_
 refine SOps.nil ?_
 refine TOps.storeE tab_ok rfl rfl M48 ⟨_, _, by simp only [kE]; rfl⟩ M7 M65 (rfl) ?_
 refine TOps.nil ?_
 refine Ok.seq ?_
 rw [show ((s.boxes.set j { s.boxes[j] with name := n }).map cBox).set (j - 0) [V.int .i64 s.boxes[j].gid, .str n, .int .i64 (nextStamp s).time, .int .i64 (nextStamp s).by_, .int .i64 s.boxes[j].next, .sl 0 4 0 (s.boxes[j].mails.map cMail), .sl 0 1 0 (s.boxes[j].gone.map cZ)] = (s.boxes.set j { s.boxes[j] with name := n, named := nextStamp s }).map cBox from (set_map cBox (s.boxes.set j { s.boxes[j] with name := n }) j { s.boxes[j] with name := n, named := nextStamp s }).trans (by rw [List.set_set])]
 refine S20 ?_
 refine OkOps.ev tab_ok rfl M105 M52 ?_
 refine S33 ?_
 refine S59 ?_
 refine OkOps.S0 rfl (OpS.weakE rfl (by simp only [kE, kT, kL, kC, hno, cStore] <;> rfl) (by simp only [kE, kT, kL, kC, hno, cStore, V.eraseL, V.erase, V.travL, V.trav, zz, zf, zy] <;> rfl) cl59 M42 (w_spec_StoreOk (nameOut s j n) hso)) M52 ?_
 refine S2 ?_
 refine OC (fun hb8 => ?_) (fun hb8 => ?_)
 ·
  try simp only [bsimp] at hb8
  rw [show (if storeOk (nameOut s j n) = true then (nameOut s j n, true) else (s, false)) = (s, false) from if_neg (by simp [hb8])]
  refine S6 ?_
  refine OW cl54 ((Pure.weak' (p_spec_l07Copy s h) M44 M40 M43)) ?_
  refine S30 ?_
  first | rfl | (simp [-List.map_set, -List.map_take, -List.map_drop, V.erase, V.trav, V.travL, V.travLL, packV, zz, zf, zy]; done)
 try simp only [bsimp] at hb8
 rw [show (if storeOk (nameOut s j n) = true then (nameOut s j n, true) else (s, false)) = (nameOut s j n, true) from if_pos hb8]
 rw [hno]
 refine S60 ?_
 refine S30 ?_
 first | rfl | (simp [-List.map_set, -List.map_take, -List.map_drop, V.erase, V.trav, V.travL, V.travLL, packV, zz, zf, zy]; done)
theorem w_spec_MakeBox (s : Store) (g : Int) (n : Str) (h : smStore s) (hn : n.length ≤ 1048576) : Weak Tryz.prog 86 [.agg (cStore s), .int .i64 g, .str n] (vSB (makeBox s g n)) := by
 refine Weak.enter tab_ok Tryz.func86 rfl (.inr M33) (ht := ANYS 102) ?_
 refine S34 ?_
 refine Ok.seq ?_
 refine Ok.seqC [(25, .bool (makeCond s g n))] [12, 13, 14, 15, 16, 17, 18, 19, 20, 21, 22, 23, 24] M51 ?_ ?_
 ·
  refine S15 ?_
  refine OW cl59 (w_spec_StoreOk s h) ?_
  iterate 2 (refine EV ?_)
  refine OP (d := 15) (fun hg1_3 => ?_) (fun hg1_3 => ?_)
  ·
   try simp only [bsimp] at hg1_3
   iterate 3 (refine OU ?_)
   refine S13 ?_
   refine S2 ?_
   refine ⟨rfl, ?_, rfl, rfl⟩
   (repeat (first | exact trivial | refine leC ?_ | refine leK ?_ ?_)) <;> first | (refine .inl (congrArg V.bool ?_); (first | (simp [makeCond, *]; done) | (simp [makeCond, *] <;> omega) | (rw [Bool.eq_iff_iff]; simp [makeCond, *] <;> omega) | (simp_all [makeCond]; done) | (simp_all [makeCond]; omega))) | exact le_rfl' _
  try simp only [bsimp] at hg1_3
  refine S25 ?_
  refine OW cl115 (w_spec_Knows s g h) ?_
  iterate 2 (refine EV ?_)
  refine OP (d := 20) (fun hg1_8 => ?_) (fun hg1_8 => ?_)
  ·
   try simp only [bsimp] at hg1_8
   refine S44 ?_
   refine ⟨rfl, ?_, rfl, rfl⟩
   (repeat (first | exact trivial | refine leC ?_ | refine leK ?_ ?_)) <;> first | (refine .inl (congrArg V.bool ?_); (first | (simp [makeCond, *]; done) | (simp [makeCond, *] <;> omega) | (rw [Bool.eq_iff_iff]; simp [makeCond, *] <;> omega) | (simp_all [makeCond]; done) | (simp_all [makeCond]; omega))) | exact le_rfl' _
  try simp only [bsimp] at hg1_8
  refine S25 ?_
  refine OW cl80 (w_spec_BoxNamed s n M114) ?_
  refine S39 ?_
  refine ⟨rfl, ?_, rfl, rfl⟩
  (repeat (first | exact trivial | refine leC ?_ | refine leK ?_ ?_)) <;> first | (refine .inl (congrArg V.bool ?_); (first | (simp [makeCond, *]; done) | (simp [makeCond, *] <;> omega) | (rw [Bool.eq_iff_iff]; simp [makeCond, *] <;> omega) | (simp_all [makeCond]; done) | (simp_all [makeCond]; omega))) | exact le_rfl' _
 refine OC (fun hb1 => ?_) (fun hb1 => ?_)
 ·
  try simp only [bsimp] at hb1
  rw [show makeBox s g n = (s, false) from if_pos hb1]
  refine S6 ?_
  refine OW cl54 ((Pure.weak' (p_spec_l07Copy s h) M44 M40 M43)) ?_
  refine S30 ?_
  first | rfl | (simp [-List.map_set, -List.map_take, -List.map_drop, V.erase, V.trav, V.travL, V.travLL, packV, zz, zf, zy, makeOut]; done)
 try simp only [bsimp] at hb1
 have hc : storeOk s = true := by have h9 := hb1; simp only [makeCond, Bool.or_eq_false_iff, Bool.not_eq_false'] at h9; exact h9.1.1
 have hss := store_small hc
 have hb5 := hss.boxes
 have hw1 := store_time hc
 have hso : smStore (makeOut s g n) := makeOut_sm hss hn
 rw [show makeBox s g n = if storeOk (makeOut s g n) = true then (makeOut s g n, true) else (s, false) from if_neg (by simp [hb1])]
 refine S60 ?_
 refine OkOps.S' rfl (OpS.semi rfl M48 M27 cl54 M44 M41 (p_spec_l07Copy s h)) M35 M32 ?_
 refine S33 ?_
 refine S6 ?_
 refine OkOps.fresh 30 7 M59 (by simp only [List.set_cons_succ, List.set_cons_zero] <;> rfl) ?_
 refine S33 ?_
 refine S19 ?_
 refine OW cl116 (w_spec_NextStamp s) ?_
 refine OkOps.ev tab_ok rfl M36 M112 ?_
 refine OkOps.nilAgg 36 (cs' := cBox (newBox s g n)) M59 (by exact ⟨.inl rfl, .inl rfl, .inl rfl, .inl rfl, .inl rfl, le_nil 0 4, le_nil 0 1, trivial⟩) (by simp only [List.set_cons_succ, List.set_cons_zero] <;> rfl) ?_
 refine S33 ?_
 refine S28 ?_
 refine Ok.bump (n' := 20) M58 ?_
 refine Ok.loopWZ (τ := Nat) (fun x => [(8, .ptr 5 0 0 [.int .i64 s.by_, .int .i64 s.time, .sl 6 7 0 (((s.boxes.take x).filter (ltB g)).map cBox), .sl 4 1 0 (s.gone.map cZ)]), (10, .int .i64 (x : Int))]) [28, 29, 30, 31, 37, 38, 39, 40, 41, 42, 43, 44, 45, 46, 47, 48, 49, 50, 51, 52, 53, 54, 55, 56, 57, 58, 59, 60, 61, 62] (fun x => by simp only [kover] <;> rfl) (fun x => x ≤ s.boxes.length) (fun x => s.boxes.length - x) 0 M58 (by (repeat (first | exact trivial | refine leC ?_ | refine leK ?_ ?_)) <;> first | (first | exact le_rfl' _ | exact le_eqm rfl) | exact le_rfl' _) (Nat.zero_le _) ?_
 rintro i h1
 refine S51 ?_
 refine OC (fun hb7 => ?_) (fun hb7 => ?_)
 ·
  try simp only [bsimp] at hb7
  have hi : i < s.boxes.length := by omega
  have hlf := flt_len s.boxes (ltB g) i
  refine S14 ?_
  refine S19 ?_
  refine OkOps.ev tab_ok rfl (ev_idx_map M48 M48 M58 M48) M52 ?_
  refine S16 ?_
  refine OC (fun hb9 => ?_) (fun hb9 => ?_)
  ·
   try simp only [bsimp] at hb9
   have hq := flt_t (p := ltB g) hi (by simpa [ltB] using hb9)
   refine Ok.drawn 9 105 [] M56 M56 rfl ?_
   iterate 5 (refine SV ?_)
   refine SOps.ev tab_ok rfl (ev_idx_map M48 M48 M58 M48) M52 ?_
   refine SV ?_
   refine SOps.S0 rfl (OpS.weakM rfl M48 M48 cl65 ((Pure.weak' (p_spec_l06Copy (s.boxes[i]) (h.1.2 _ (List.getElem_mem hi))) M44 M40 M43))) M52 ?_
   refine SOps.ev tab_ok rfl (ev_bs M53 M53 M57 M57 M37 M16) M52 ?_
   refine SOps.nil ?_
   refine TOps.append tab_ok rfl rfl M53 M53 M57 rfl M48 (.inl ⟨_, _, by simp only [kE, kT, kL, kC] <;> rfl⟩) M58 M58 M19 M19 M55 M13 M10 (rfl) ?_
   refine TV ?_
   refine TOps.storeE tab_ok rfl rfl M48 ⟨_, _, by simp only [kE]; rfl⟩ M7 M65 (rfl) ?_
   refine TOps.nil ?_
   refine S12 ?_
   refine ⟨i + 1, ?_, rfl, by omega, by omega⟩
   simp only [V.renL, V.travL, V.travLL, V.trav, frz, zz, zf, zy, Nat.reduceLeDiff, ↓reduceIte]
   (repeat (first | exact trivial | refine leC ?_ | refine leK ?_ ?_)) <;> first | (first | exact le_rfl' _ | (rw [wrap_add_one (by omega)]; exact le_rfl' _) | (rw [hq]; exact le_rfl' _) | (rw [hq, List.map_append]; exact le_rfl' _)) | exact le_rfl' _
  try simp only [bsimp] at hb9
  have hq := flt_f (p := ltB g) hi (by simpa [ltB] using hb9)
  refine S42 ?_
  refine ⟨i + 1, ?_, rfl, by omega, by omega⟩
  simp only [V.renL, V.travL, V.travLL, V.trav, frz, zz, zf, zy, Nat.reduceLeDiff, ↓reduceIte]
  (repeat (first | exact trivial | refine leC ?_ | refine leK ?_ ?_)) <;> first | (first | exact le_rfl' _ | (rw [wrap_add_one (by omega)]; exact le_rfl' _) | (rw [hq]; exact le_rfl' _) | (rw [hq, List.map_append]; exact le_rfl' _)) | exact le_rfl' _
 try simp only [bsimp] at hb7
 obtain rfl : i = s.boxes.length := by omega
 rw [List.take_length]
 have hlf := List.length_filter_le (ltB g) s.boxes
 refine Ok.exit ?_
 refine S19 ?_
 refine OkOps.ev tab_ok rfl (ev_bs M53 M53 M57 M57 M37 M16) M52 ?_
 refine OkOps.append tab_ok rfl rfl M53 M53 M57 rfl M48 (.inl ⟨_, _, by simp only [kE, kT, kL, kC] <;> rfl⟩) M58 M58 M19 M19 M55 M13 M10 (rfl) ?_
 refine S33 ?_
 refine S28 ?_
 refine Ok.bump (n' := 30) M58 ?_
 refine Ok.loopWZ (τ := Nat) (fun x => [(8, .ptr 5 0 0 [.int .i64 s.by_, .int .i64 s.time, .sl 6 7 0 ((s.boxes.filter (ltB g) ++ [newBox s g n] ++ (s.boxes.take x).filter (gtB g)).map cBox), .sl 4 1 0 (s.gone.map cZ)]), (11, .int .i64 (x : Int))]) [63, 64, 65, 66, 67, 68, 69, 70, 71, 72, 73, 74, 75, 76, 77, 78, 79, 80, 81, 82, 83, 84, 85, 86, 87, 88, 89, 90, 91, 92, 93, 94] (fun x => by simp only [kover] <;> rfl) (fun x => x ≤ s.boxes.length) (fun x => s.boxes.length - x) 0 M58 (by (repeat (first | exact trivial | refine leC ?_ | refine leK ?_ ?_)) <;> first | (first | exact le_rfl' _ | exact le_eqm rfl | (refine le_eqm ?_; simp [newBox]; done)) | exact le_rfl' _) (Nat.zero_le _) ?_
 rintro i h1
 refine S51 ?_
 refine OC (fun hb13 => ?_) (fun hb13 => ?_)
 ·
  try simp only [bsimp] at hb13
  have hi : i < s.boxes.length := by omega
  have hlg := flt_len s.boxes (gtB g) i
  have hlf := List.length_filter_le (ltB g) s.boxes
  refine S14 ?_
  refine S19 ?_
  refine OkOps.ev tab_ok rfl (ev_idx_map M48 M48 M58 M48) M52 ?_
  refine S16 ?_
  refine OC (fun hb15 => ?_) (fun hb15 => ?_)
  ·
   try simp only [bsimp] at hb15
   have hq := flt_t (p := gtB g) hi (by simpa [gtB] using hb15)
   refine Ok.drawn 9 105 [] M56 M56 rfl ?_
   iterate 5 (refine SV ?_)
   refine SOps.ev tab_ok rfl (ev_idx_map M48 M48 M58 M48) M52 ?_
   refine SV ?_
   refine SOps.S0 rfl (OpS.weakM rfl M48 M48 cl65 ((Pure.weak' (p_spec_l06Copy (s.boxes[i]) (h.1.2 _ (List.getElem_mem hi))) M44 M40 M43))) M52 ?_
   refine SOps.ev tab_ok rfl (ev_bs M53 M53 M57 M57 M37 M16) M52 ?_
   refine SOps.nil ?_
   refine TOps.append tab_ok rfl rfl M53 M53 M57 rfl M48 (.inl ⟨_, _, by simp only [kE, kT, kL, kC] <;> rfl⟩) M58 M58 M19 M19 M55 M13 M10 (rfl) ?_
   refine TV ?_
   refine TOps.storeE tab_ok rfl rfl M48 ⟨_, _, by simp only [kE]; rfl⟩ M7 M65 (rfl) ?_
   refine TOps.nil ?_
   refine S12 ?_
   refine ⟨i + 1, ?_, rfl, by omega, by omega⟩
   simp only [V.renL, V.travL, V.travLL, V.trav, frz, zz, zf, zy, Nat.reduceLeDiff, ↓reduceIte]
   (repeat (first | exact trivial | refine leC ?_ | refine leK ?_ ?_)) <;> first | (first | exact le_rfl' _ | (rw [wrap_add_one (by omega)]; exact le_rfl' _) | (rw [hq]; exact le_rfl' _) | (rw [hq, ← List.append_assoc, List.map_append (l₁ := _ ++ _)]; exact le_rfl' _) | (refine le_eqm ?_; rw [hq, ← List.append_assoc, List.map_append (l₁ := s.boxes.filter (ltB g) ++ [newBox s g n] ++ _)]; rfl)) | exact le_rfl' _
  try simp only [bsimp] at hb15
  have hq := flt_f (p := gtB g) hi (by simpa [gtB] using hb15)
  refine S42 ?_
  refine ⟨i + 1, ?_, rfl, by omega, by omega⟩
  simp only [V.renL, V.travL, V.travLL, V.trav, frz, zz, zf, zy, Nat.reduceLeDiff, ↓reduceIte]
  (repeat (first | exact trivial | refine leC ?_ | refine leK ?_ ?_)) <;> first | (first | exact le_rfl' _ | (rw [wrap_add_one (by omega)]; exact le_rfl' _) | (rw [hq]; exact le_rfl' _) | (rw [hq, ← List.append_assoc, List.map_append (l₁ := _ ++ _)]; exact le_rfl' _) | (refine le_eqm ?_; rw [hq, ← List.append_assoc, List.map_append (l₁ := s.boxes.filter (ltB g) ++ [newBox s g n] ++ _)]; rfl)) | exact le_rfl' _
 try simp only [bsimp] at hb13
 obtain rfl : i = s.boxes.length := by omega
 rw [List.take_length]
 refine Ok.exit ?_
 refine S11 ?_
 refine OkOps.ev tab_ok rfl M105 M52 ?_
 refine S33 ?_
 refine S59 ?_
 refine OkOps.S0 rfl (OpS.weakE rfl (by simp only [kE, kT, kL, kC, makeOut, cStore] <;> rfl) (by simp only [kE, kT, kL, kC, makeOut, cStore, V.eraseL, V.erase, V.travL, V.trav, zz, zf, zy] <;> rfl) cl59 M42 (w_spec_StoreOk (makeOut s g n) hso)) M52 ?_
 refine S2 ?_
 refine OC (fun hb18 => ?_) (fun hb18 => ?_)
 ·
  try simp only [bsimp] at hb18
  rw [show (if storeOk (makeOut s g n) = true then (makeOut s g n, true) else (s, false)) = (s, false) from if_neg (by simp [hb18])]
  refine S6 ?_
  refine OW cl54 ((Pure.weak' (p_spec_l07Copy s h) M44 M40 M43)) ?_
  refine S30 ?_
  first | rfl | (simp [-List.map_set, -List.map_take, -List.map_drop, V.erase, V.trav, V.travL, V.travLL, packV, zz, zf, zy, makeOut]; done)
 try simp only [bsimp] at hb18
 rw [show (if storeOk (makeOut s g n) = true then (makeOut s g n, true) else (s, false)) = (makeOut s g n, true) from if_pos hb18]
 refine S60 ?_
 refine S30 ?_
 first | rfl | (simp [-List.map_set, -List.map_take, -List.map_drop, V.erase, V.trav, V.travL, V.travLL, packV, zz, zf, zy, makeOut]; done)
end Go.Proofs.YtiipkeendfpddaaGreat.K

/- Walks: links and syncs copied. Printed by w2.py. -/
namespace Go.Proofs.YtiipkeendfpddaaGreat.K
open Go Go.RowKit
set_option linter.unusedVariables false
set_option linter.unusedSimpArgs false
set_option maxHeartbeats 4000000
set_option maxRecDepth 20000
theorem p_impl_copyLink (l : Link) (h : l.way.length ≤ 2097152) : Pure Tryz.prog 48 [.agg (cLink l)] (.agg (cLink l)) := by
 refine Pure.of M44 (OkCall.enter' tab_ok Tryz.func48 rfl (t := [.agg (cLink l), .any, .any, .any, .any, .any, .any, .any, .any]) rfl ?_)
 refine S10 ?_
 refine S19 ?_
 refine OkOps.S rfl (ok_append_nil tab_ok M53 M53 M57 rfl rfl M48 (.inl ⟨_, _, by simp only [kE, kT, kL, kC] <;> rfl⟩) M107 M107) M110 ?_
 refine S33 ?_
 refine S6 ?_
 refine S17 ?_
 refine S3 ?_
 exact ⟨by simp [V.erase, V.trav, V.travL, V.travLL, packV, zz, zf], by simp [V.labels, V.labelsL, V.labelsLL, packV, zz, zf], by simp [V.labels, V.labelsL, V.labelsLL, packV, zz, zf]⟩
theorem p_spec_l17Copy (l : Link) (h : l.way.length ≤ 2097152) : Pure Tryz.prog 51 [.agg (cLink l)] (.agg (cLink l)) := by
 refine Pure.of M44 (OkCall.enter' tab_ok Tryz.func51 rfl (t := [.agg (cLink l), .any, .any, .any, .any, .any, .any, .any, .any, .any, .any, .any, .any, .any]) rfl ?_)
 refine S10 ?_
 refine Ok.seq ?_
 refine Ok.drawn 11 14 [] M56 M56 rfl ?_
 iterate 5 (refine SV ?_)
 refine SOps.S rfl (ok_append_nil tab_ok M53 M53 M57 rfl rfl M48 (.inl ⟨_, _, by simp only [kE, kT, kL, kC] <;> rfl⟩) M107 M107) M110 ?_
 iterate 4 (refine SV ?_)
 refine SOps.ev tab_ok rfl M36 M112 ?_
 refine SOps.nil ?_
 refine TOps.storeE tab_ok rfl rfl M48 ⟨_, _, by simp only [kE]; rfl⟩ M7 M65 (rfl) ?_
 refine TOps.nil ?_
 refine S3 ?_
 exact ⟨by simp [V.erase, V.trav, V.travL, V.travLL, packV, zz, zf], by simp [V.labels, V.labelsL, V.labelsLL, packV, zz, zf], by simp [V.labels, V.labelsL, V.labelsLL, packV, zz, zf]⟩
theorem p_impl_copySync (y : Sync) (h : smSync y) : Pure Tryz.prog 27 [.agg (cSync y)] (.agg (cSync y)) := by
 refine Pure.of M44 (OkCall.enter' tab_ok Tryz.func27 rfl (t := [.agg (cSync y), .any, .any, .any, .any, .any, .any, .any, .any, .any, .any, .any, .any]) rfl ?_)
 refine S10 ?_
 refine S11 ?_
 refine OkOps.S' rfl (OpS.pure' rfl M48 M27 cl48 M44 (p_impl_copyLink y.link M114)) M30 M23 ?_
 refine S33 ?_
 refine S19 ?_
 refine OkOps.S rfl (ok_append_nil tab_ok M53 M53 M57 rfl rfl M48 (.inl ⟨_, _, by simp only [kE, kT, kL, kC] <;> rfl⟩) M100 M100) M110 ?_
 refine S33 ?_
 refine S6 ?_
 refine S17 ?_
 refine S3 ?_
 exact ⟨by simp [V.erase, V.trav, V.travL, V.travLL, packV, zz, zf], by simp [V.labels, V.labelsL, V.labelsLL, packV, zz, zf], by simp [V.labels, V.labelsL, V.labelsLL, packV, zz, zf]⟩
theorem p_spec_l18Copy (y : Sync) (h : smSync y) : Pure Tryz.prog 30 [.agg (cSync y)] (.agg (cSync y)) := by
 refine Pure.of M44 (OkCall.enter' tab_ok Tryz.func30 rfl (t := [.agg (cSync y), .any, .any, .any, .any, .any, .any, .any, .any, .any, .any, .any, .any, .any, .any]) rfl ?_)
 refine S10 ?_
 refine S11 ?_
 refine S17 ?_
 refine S11 ?_
 refine OkOps.S' rfl (OpS.pure' rfl M48 M27 cl51 M44 (p_spec_l17Copy y.link M114)) M30 M23 ?_
 refine S33 ?_
 refine S19 ?_
 refine OkOps.S rfl (ok_append_nil tab_ok M53 M53 M57 rfl rfl M48 (.inl ⟨_, _, by simp only [kE, kT, kL, kC] <;> rfl⟩) M100 M100) M110 ?_
 refine S33 ?_
 refine S6 ?_
 refine S17 ?_
 refine S3 ?_
 exact ⟨by simp [V.erase, V.trav, V.travL, V.travLL, packV, zz, zf], by simp [V.labels, V.labelsL, V.labelsLL, packV, zz, zf], by simp [V.labels, V.labelsL, V.labelsLL, packV, zz, zf]⟩
end Go.Proofs.YtiipkeendfpddaaGreat.K

/- Walks: marks on data of the call's own. Printed by w2.py. -/
namespace Go.Proofs.YtiipkeendfpddaaGreat.K
open Go Go.RowKit
set_option linter.unusedVariables false
set_option linter.unusedSimpArgs false
set_option maxHeartbeats 4000000
set_option maxRecDepth 20000
end Go.Proofs.YtiipkeendfpddaaGreat.K

/- Walks: marks of records. Printed by w2.py. -/
namespace Go.Proofs.YtiipkeendfpddaaGreat.K
open Go Go.RowKit
set_option linter.unusedVariables false
set_option linter.unusedSimpArgs false
set_option maxHeartbeats 4000000
set_option maxRecDepth 20000
end Go.Proofs.YtiipkeendfpddaaGreat.K

/- Walks: marks that are still held. Printed by w2.py. -/
namespace Go.Proofs.YtiipkeendfpddaaGreat.K
open Go Go.RowKit
set_option linter.unusedVariables false
set_option linter.unusedSimpArgs false
set_option maxHeartbeats 4000000
set_option maxRecDepth 20000
end Go.Proofs.YtiipkeendfpddaaGreat.K

/- Walks: marks that records still hold. Printed by w2.py. -/
namespace Go.Proofs.YtiipkeendfpddaaGreat.K
open Go Go.RowKit
set_option linter.unusedVariables false
set_option linter.unusedSimpArgs false
set_option maxHeartbeats 4000000
set_option maxRecDepth 20000
end Go.Proofs.YtiipkeendfpddaaGreat.K

/- Walks: texts cut, links put to, marks in syncs. Printed by w2.py. -/
namespace Go.Proofs.YtiipkeendfpddaaGreat.K
open Go Go.RowKit
set_option linter.unusedVariables false
set_option linter.unusedSimpArgs false
set_option maxHeartbeats 4000000
set_option maxRecDepth 20000
theorem w_impl_LinkNew (e : Int) : Weak Tryz.prog 35 [.int .i64 e] (.agg (cLink ⟨e, [], 1, 1⟩)) := by
 refine Weak.enter tab_ok Tryz.func35 rfl (.inr M46) (ht := ANYS 4) ?_
 refine S53 ?_
 refine OkOps.ev tab_ok rfl M36 M112 ?_
 refine S17 ?_
 refine S3 ?_
 rfl
theorem w_impl_PiecesOf (t : Str) (h : t.length ≤ 16004) : Weak Tryz.prog 12 [.str t] (.sl 0 1 0 ((piecesT t (pieceN t)).map cS)) := by
 refine Weak.enter tab_ok Tryz.func12 rfl (.inr M46) (ht := ANYS 23) ?_
 refine S8 ?_
 refine S10 ?_
 refine S28 ?_
 refine Ok.bump (n' := 2) M58 ?_
 refine Ok.loopWZ (τ := Nat) (fun x => [(3, .sl 1 1 0 ((piecesT t x).map cS)), (4, .int .i64 ((120 * x : Nat) : Int))]) [6, 7, 8, 9, 10, 11, 12, 13, 14, 15, 16, 17, 18, 19, 20, 21, 22] (fun x => by simp only [kover] <;> rfl) (fun x => x ≤ pieceN t) (fun x => pieceN t - x) 0 M58 (by (repeat (first | exact trivial | refine leC ?_ | refine leK ?_ ?_)) <;> first | (first | exact le_rfl' _ | exact le_nil 1 1 | exact le_eqm rfl) | exact le_rfl' _) (Nat.zero_le _) ?_
 rintro i h1
 refine S50 ?_
 refine OC (fun hb3 => ?_) (fun hb3 => ?_)
 ·
  try simp only [bsimp] at hb3
  have hi : i < pieceN t := pieceN_lt M58
  have hN : 120 * i < t.length := by omega
  have hpl := pieces_len t i
  have hw : IntKind.i64.wrap (((120 * i : Nat) : Int) + 120) = ((120 * i + 120 : Nat) : Int) := by rw [IntKind.wrap_i64]; omega
  have hmin := piece_min t i
  refine S14 ?_
  refine S35 ?_
  refine OkOps.ev tab_ok rfl (by simp only [kE, kT, kL, kC, hw] <;> rfl) M52 ?_
  iterate 3 (refine EV ?_)
  refine OkOps.ev tab_ok rfl (ev_cut M86 M86 M86 rfl M58 M58) M52 ?_
  refine OkOps.ev tab_ok rfl (ev_bs M53 M53 M57 M57 M37 M16) M52 ?_
  refine OkOps.append tab_ok rfl rfl M53 M53 M57 rfl M48 (.inl ⟨_, _, by simp only [kE, kT, kL, kC] <;> rfl⟩) M58 M58 M34 M34 M55 M13 M10 (rfl) ?_
  refine S63 ?_
  refine ⟨i + 1, ?_, rfl, hi, by omega⟩
  simp only [V.renL, V.travL, V.travLL, V.trav, frz, zz, zf, zy, Nat.reduceLeDiff, ↓reduceIte]
  (repeat (first | exact trivial | refine leC ?_ | refine leK ?_ ?_)) <;> first | (first | exact le_rfl' _ | (rw [hw]; exact le_rfl' _) | (rw [pieces_next, List.map_append, piece_cut (by omega)]; exact le_rfl' _)) | exact le_rfl' _
 try simp only [bsimp] at hb3
 obtain rfl := pieceN_ge (t := t) (k := i) M58 h1
 refine Ok.exit ?_
 refine S46 ?_
 first | rfl | (simp [V.erase, V.trav, V.travL, V.travLL, packV, zz, zf, zy]; done)
theorem w_spec_LinkNew (e : Int) : Weak Tryz.prog 38 [.int .i64 e] (.agg (cLink ⟨e, [], 1, 1⟩)) := by
 refine Weak.enter tab_ok Tryz.func38 rfl (.inr M46) (ht := ANYS 4) ?_
 refine S53 ?_
 refine OkOps.ev tab_ok rfl M36 M112 ?_
 refine S17 ?_
 refine S3 ?_
 rfl
theorem w_spec_PiecesOf (t : Str) (h : t.length ≤ 16004) : Weak Tryz.prog 17 [.str t] (.sl 0 1 0 ((piecesT t (pieceN t)).map cS)) := by
 refine Weak.enter tab_ok Tryz.func17 rfl (.inr M46) (ht := ANYS 28) ?_
 refine S8 ?_
 refine S10 ?_
 refine S28 ?_
 refine Ok.bump (n' := 2) M58 ?_
 refine Ok.loopWZ (τ := Nat) (fun x => [(3, .sl 1 1 0 ((piecesT t x).map cS)), (4, .int .i64 ((120 * x : Nat) : Int))]) [5, 7, 8, 9, 10, 11, 12, 13, 14, 15, 16, 17, 18, 19, 20, 21, 22, 23, 24, 25, 26, 27] (fun x => by simp only [kover] <;> rfl) (fun x => x ≤ pieceN t) (fun x => pieceN t - x) 0 M58 (by (repeat (first | exact trivial | refine leC ?_ | refine leK ?_ ?_)) <;> first | (first | exact le_rfl' _ | exact le_nil 1 1 | exact le_eqm rfl) | exact le_rfl' _) (Nat.zero_le _) ?_
 rintro i h1
 refine S50 ?_
 refine OC (fun hb3 => ?_) (fun hb3 => ?_)
 ·
  try simp only [bsimp] at hb3
  have hi : i < pieceN t := pieceN_lt M58
  have hN : 120 * i < t.length := by omega
  have hpl := pieces_len t i
  have hw : IntKind.i64.wrap (((120 * i : Nat) : Int) + 120) = ((120 * i + 120 : Nat) : Int) := by rw [IntKind.wrap_i64]; omega
  refine S14 ?_
  refine S6 ?_
  refine OkOps.ev tab_ok rfl (by simp only [kE, kT, kL, kC, hw] <;> rfl) M52 ?_
  refine S2 ?_
  refine S50 ?_
  refine OC (fun hb6 => ?_) (fun hb6 => ?_)
  ·
   try simp only [bsimp] at hb6
   refine S12 ?_
   refine S35 ?_
   refine OkOps.ev tab_ok rfl (ev_cut M48 M48 M48 rfl M58 M58) M52 ?_
   refine OkOps.ev tab_ok rfl (ev_bs M53 M53 M57 M57 M37 M16) M52 ?_
   refine OkOps.append tab_ok rfl rfl M53 M53 M57 rfl M48 (.inl ⟨_, _, by simp only [kE, kT, kL, kC] <;> rfl⟩) M58 M58 M34 M34 M55 M13 M10 (rfl) ?_
   refine S63 ?_
   refine ⟨i + 1, ?_, rfl, hi, by omega⟩
   simp only [V.renL, V.travL, V.travLL, V.trav, frz, zz, zf, zy, Nat.reduceLeDiff, ↓reduceIte]
   (repeat (first | exact trivial | refine leC ?_ | refine leK ?_ ?_)) <;> first | (first | exact le_rfl' _ | (rw [hw]; exact le_rfl' _) | (rw [pieces_next, List.map_append, piece_cut (by omega)]; exact le_rfl' _)) | exact le_rfl' _
  try simp only [bsimp] at hb6
  refine Ok.skip ?_
  refine S35 ?_
  refine OkOps.ev tab_ok rfl (ev_cut M48 M48 M48 rfl M58 M58) M52 ?_
  refine OkOps.ev tab_ok rfl (ev_bs M53 M53 M57 M57 M37 M16) M52 ?_
  refine OkOps.append tab_ok rfl rfl M53 M53 M57 rfl M48 (.inl ⟨_, _, by simp only [kE, kT, kL, kC] <;> rfl⟩) M58 M58 M34 M34 M55 M13 M10 (rfl) ?_
  refine S63 ?_
  refine ⟨i + 1, ?_, rfl, hi, by omega⟩
  simp only [V.renL, V.travL, V.travLL, V.trav, frz, zz, zf, zy, Nat.reduceLeDiff, ↓reduceIte]
  (repeat (first | exact trivial | refine leC ?_ | refine leK ?_ ?_)) <;> first | (first | exact le_rfl' _ | (rw [hw]; exact le_rfl' _) | (rw [pieces_next, List.map_append, piece_cut (by omega)]; exact le_rfl' _)) | exact le_rfl' _
 try simp only [bsimp] at hb3
 obtain rfl := pieceN_ge (t := t) (k := i) M58 h1
 refine Ok.exit ?_
 refine S46 ?_
 first | rfl | (simp [V.erase, V.trav, V.travL, V.travLL, packV, zz, zf, zy]; done)
theorem p_impl_LinkPut (l : Link) (t : Str) (h : l.way.length ≤ 2097152) : Pure Tryz.prog 34 [.agg (cLink l), .str t] (vLB (linkPut l t)) := by
 refine Pure.of M44 (OkCall.enter' tab_ok Tryz.func34 rfl (t := [.agg (cLink l), .str t, .any, .any, .any, .any, .any, .any, .any, .any, .any, .any, .any, .any, .any, .any, .any, .any, .any, .any, .any, .any, .any, .any, .any, .any, .any]) rfl ?_)
 refine S34 ?_
 refine S6 ?_
 refine OkOps.S' rfl (OpS.pure' rfl M48 M27 cl48 M44 (p_impl_copyLink l h)) M30 M23 ?_
 refine S33 ?_
 refine Ok.seq ?_
 refine Ok.seqC [(18, .bool (linkFull l t))] [9, 10, 11, 12, 13, 14, 15, 16, 17] M51 ?_ ?_
 ·
  refine S66 ?_
  refine OP (d := 13) (fun hg2_4 => ?_) (fun hg2_4 => ?_)
  ·
   try simp only [bsimp] at hg2_4
   refine S44 ?_
   refine ⟨rfl, ?_, rfl, rfl⟩
   (repeat (first | exact trivial | refine leC ?_ | refine leK ?_ ?_)) <;> first | (refine .inl (congrArg V.bool ?_); (first | (simp [linkFull, *]; done) | (simp [linkFull, *] <;> omega) | (rw [Bool.eq_iff_iff]; simp [linkFull, *] <;> omega) | (simp_all [linkFull]; done) | (simp_all [linkFull]; omega))) | exact le_rfl' _
  try simp only [bsimp] at hg2_4
  refine S25 ?_
  refine OW cl49 (w_impl_within _ _ _) ?_
  refine S39 ?_
  refine ⟨rfl, ?_, rfl, rfl⟩
  (repeat (first | exact trivial | refine leC ?_ | refine leK ?_ ?_)) <;> first | (refine .inl (congrArg V.bool ?_); (first | (simp [linkFull, *]; done) | (simp [linkFull, *] <;> omega) | (rw [Bool.eq_iff_iff]; simp [linkFull, *] <;> omega) | (simp_all [linkFull]; done) | (simp_all [linkFull]; omega))) | exact le_rfl' _
 refine OC (fun hb2 => ?_) (fun hb2 => ?_)
 ·
  try simp only [bsimp] at hb2
  rw [linkPut_t hb2]
  refine S6 ?_
  refine S30 ?_
  exact ⟨by simp [V.erase, V.trav, V.travL, V.travLL, packV, zz, zf], by simp [V.labels, V.labelsL, V.labelsLL, packV, zz, zf], by simp [V.labels, V.labelsL, V.labelsLL, packV, zz, zf]⟩
 try simp only [bsimp] at hb2
 rw [linkPut_f hb2]
 refine Ok.skip ?_
 refine S19 ?_
 refine OkOps.ev tab_ok rfl (ev_bs M53 M53 M57 M57 M37 M16) M52 ?_
 refine OkOps.append tab_ok rfl rfl M53 M53 M57 rfl M48 (.inl ⟨_, _, by simp only [kE, kT, kL, kC] <;> rfl⟩) M58 M58 M34 M34 M55 M13 M10 (rfl) ?_
 refine S33 ?_
 refine S6 ?_
 refine S30 ?_
 exact ⟨by simp [V.erase, V.trav, V.travL, V.travLL, packV, zz, zf], by simp [V.labels, V.labelsL, V.labelsLL, packV, zz, zf], by simp [V.labels, V.labelsL, V.labelsLL, packV, zz, zf]⟩
theorem p_spec_LinkPut (l : Link) (t : Str) (h : l.way.length ≤ 2097152) : Pure Tryz.prog 39 [.agg (cLink l), .str t] (vLB (linkPut l t)) := by
 refine Pure.of M44 (OkCall.enter' tab_ok Tryz.func39 rfl (t := [.agg (cLink l), .str t, .any, .any, .any, .any, .any, .any, .any, .any, .any, .any, .any, .any, .any, .any, .any, .any, .any, .any, .any, .any, .any, .any, .any, .any, .any]) rfl ?_)
 refine S34 ?_
 refine S6 ?_
 refine OkOps.S' rfl (OpS.pure' rfl M48 M27 cl51 M44 (p_spec_l17Copy l h)) M30 M23 ?_
 refine S33 ?_
 refine Ok.seq ?_
 refine Ok.seqC [(18, .bool (linkFull l t))] [9, 10, 11, 12, 13, 14, 15, 16, 17] M51 ?_ ?_
 ·
  refine S66 ?_
  refine OP (d := 13) (fun hg2_4 => ?_) (fun hg2_4 => ?_)
  ·
   try simp only [bsimp] at hg2_4
   refine S44 ?_
   refine ⟨rfl, ?_, rfl, rfl⟩
   (repeat (first | exact trivial | refine leC ?_ | refine leK ?_ ?_)) <;> first | (refine .inl (congrArg V.bool ?_); (first | (simp [linkFull, *]; done) | (simp [linkFull, *] <;> omega) | (rw [Bool.eq_iff_iff]; simp [linkFull, *] <;> omega) | (simp_all [linkFull]; done) | (simp_all [linkFull]; omega))) | exact le_rfl' _
  try simp only [bsimp] at hg2_4
  refine S25 ?_
  refine OW cl62 (w_spec_l01In _ _ _) ?_
  refine S39 ?_
  refine ⟨rfl, ?_, rfl, rfl⟩
  (repeat (first | exact trivial | refine leC ?_ | refine leK ?_ ?_)) <;> first | (refine .inl (congrArg V.bool ?_); (first | (simp [linkFull, *]; done) | (simp [linkFull, *] <;> omega) | (rw [Bool.eq_iff_iff]; simp [linkFull, *] <;> omega) | (simp_all [linkFull]; done) | (simp_all [linkFull]; omega))) | exact le_rfl' _
 refine OC (fun hb2 => ?_) (fun hb2 => ?_)
 ·
  try simp only [bsimp] at hb2
  rw [linkPut_t hb2]
  refine S6 ?_
  refine S30 ?_
  exact ⟨by simp [V.erase, V.trav, V.travL, V.travLL, packV, zz, zf], by simp [V.labels, V.labelsL, V.labelsLL, packV, zz, zf], by simp [V.labels, V.labelsL, V.labelsLL, packV, zz, zf]⟩
 try simp only [bsimp] at hb2
 rw [linkPut_f hb2]
 refine Ok.skip ?_
 refine S19 ?_
 refine OkOps.ev tab_ok rfl (ev_bs M53 M53 M57 M57 M37 M16) M52 ?_
 refine OkOps.append tab_ok rfl rfl M53 M53 M57 rfl M48 (.inl ⟨_, _, by simp only [kE, kT, kL, kC] <;> rfl⟩) M58 M58 M34 M34 M55 M13 M10 (rfl) ?_
 refine S33 ?_
 refine S6 ?_
 refine S30 ?_
 exact ⟨by simp [V.erase, V.trav, V.travL, V.travLL, packV, zz, zf], by simp [V.labels, V.labelsL, V.labelsLL, packV, zz, zf], by simp [V.labels, V.labelsL, V.labelsLL, packV, zz, zf]⟩
theorem w_spec_LinkPut (l : Link) (t : Str) (h : l.way.length ≤ 2097152) : Weak Tryz.prog 39 [.agg (cLink l), .str t] (vLB (linkPut l t)) := by
  have h := Pure.weak M44 (p_spec_LinkPut l t h) M40
  simpa [V.erase, V.trav, V.travL, zz, zf, zy] using h
end Go.Proofs.YtiipkeendfpddaaGreat.K

/- Walks: draws (12). Printed by w2.py. -/
namespace Go.Proofs.YtiipkeendfpddaaGreat.K
open Go Go.RowKit
set_option linter.unusedVariables false
set_option linter.unusedSimpArgs false
set_option maxHeartbeats 4000000
set_option maxRecDepth 20000
theorem w_laws_big (code : Str) : Weak Tryz.prog 4 [.sl 0 1 0 (code.map cB)] (.bool (decide ((code.length : Int) > 1048576))) := by
 refine Weak.enter tab_ok Tryz.func4 rfl (.inr M49) (ht := ANYS 5) ?_
 refine S8 ?_
 refine S64 ?_
 refine S3 ?_
 rfl
theorem c_spec_l01New (code : Str) (hc : code.length ≤ 4611686018427387904) {h : List V} {n : Nat}  : OkCall Tryz.prog 22 [.sl 0 1 0 (code.map cB)] h n (fun r h1 n1 => r = .ptr n 0 0 (cCur (curNew code)) ∧ h1 = h.map id ∧ n1 = n + 1) := by
 refine OkCall.enter' tab_ok Tryz.func22 rfl (ht := ANYS 31) ?_
 refine S8 ?_
 refine S64 ?_
 refine S28 ?_
 refine Ok.loopW (τ := Nat × Int) (fun x => [(3, .int .i64 x.2), (4, .int .i64 (x.1 : Int))]) [8, 9, 10, 11, 12, 13, 14, 15, 16, 17, 18, 19, 20, 21, 22, 23, 24, 25, 26, 27] (fun x => by simp only [kover] <;> rfl) (fun x => x.1 ≤ code.length ∧ x.1 ≤ 4000 ∧ hashC (4000 - x.1) (code.drop x.1) x.2 = hashC 4000 code (IntKind.i64.wrap (77201 + (code.length : Int)))) (fun x => 4000 - x.1) (0, IntKind.i64.wrap (77201 + (code.length : Int))) (by (repeat (first | exact trivial | refine leC ?_ | refine leK ?_ ?_)) <;> first | (exact le_rfl' _) | exact le_rfl' _) (⟨Nat.zero_le _, Nat.zero_le _, rfl⟩) ?_
 rintro ⟨i, v⟩ ⟨h1, h2, h3⟩
 have h1 : i ≤ code.length := h1
 have h2 : i ≤ 4000 := h2
 have h3 : hashC (4000 - i) (code.drop i) v = hashC 4000 code (IntKind.i64.wrap (77201 + (code.length : Int))) := h3
 refine Ok.seq ?_
 refine Ok.seqC [(15, .bool (decide (i < code.length ∧ i < 4000)))] [8, 9, 10, 11, 12, 13, 14] M51 ?_ ?_
 ·
  refine S66 ?_
  refine OP (d := 12) (fun hg3_4 => ?_) (fun hg3_4 => ?_)
  ·
   try simp only [bsimp] at hg3_4
   refine S18 ?_
   refine S1 ?_
   refine ⟨rfl, ?_, rfl, rfl⟩
   (repeat (first | exact trivial | refine leC ?_ | refine leK ?_ ?_)) <;> first | (refine .inl (congrArg V.bool ?_); first | exact decide_eq_decide.2 (by clear h3; omega) | exact (decide_eq_false (by clear h3; omega)).symm) | exact le_rfl' _
  try simp only [bsimp] at hg3_4
  refine S61 ?_
  refine S2 ?_
  refine ⟨rfl, ?_, rfl, rfl⟩
  (repeat (first | exact trivial | refine leC ?_ | refine leK ?_ ?_)) <;> first | (refine .inl (congrArg V.bool ?_); first | exact decide_eq_decide.2 (by clear h3; omega) | exact (decide_eq_false (by clear h3; omega)).symm) | exact le_rfl' _
 refine OC (fun hb3 => ?_) (fun hb3 => ?_)
 ·
  try simp only [bsimp] at hb3
  obtain ⟨hi, hi4⟩ : i < code.length ∧ i < 4000 := hb3
  have hd : code.drop i = code[i] :: code.drop (i + 1) := List.drop_eq_getElem_cons hi
  rw [hd, show 4000 - i = (4000 - (i + 1)) + 1 by omega] at h3
  refine S14 ?_
  refine S35 ?_
  refine OkOps.ev tab_ok rfl (ev_idx_map M48 M48 M58 M48) M52 ?_
  refine EV ?_
  refine OkOps.ev tab_ok rfl (by simp only [kE, kT, kL, kC, four_b] <;> rfl) M52 ?_
  refine S16 ?_
  refine S12 ?_
  refine ⟨(i + 1, _), ?_, rfl, rfl, ⟨hi, by omega, h3⟩, by show 4000 - (i + 1) < 4000 - i; omega⟩
  (repeat (first | exact trivial | refine leC ?_ | refine leK ?_ ?_)) <;> first | (first | exact le_rfl' _ | (rw [wrap_add_one (by omega)]; exact le_rfl' _)) | exact le_rfl' _
 try simp only [bsimp] at hb3
 have hn : ¬ (i < code.length ∧ i < 4000) := hb3
 have hv : v = hashC 4000 code (IntKind.i64.wrap (77201 + (code.length : Int))) := by rw [← h3]; by_cases hz : i = 4000; (subst hz; rfl); (rw [List.drop_eq_nil_of_le M58]; cases 4000 - i <;> rfl)
 subst hv
 refine Ok.exit ?_
 refine S11 ?_
 refine OkOps.ev tab_ok rfl M36 M112 ?_
 refine S41 ?_
 exact ⟨rfl, (List.map_id h).symm, rfl⟩
theorem c_spec_l01Byte (c : Cur) (L : Nat) (hb : c.b.length ≤ 4611686018427387904) {h : List V} {n : Nat}  : OkCall Tryz.prog 45 [.ptr (L + 1) 0 0 (cCur c)] h n (fun r h1 n1 => r = .int .i64 ((curByte c).1 : Int) ∧ h1 = V.updL (L + 1) 0 (cCur (curByte c).2) h ∧ n1 = n) := by
 refine OkCall.enter' tab_ok Tryz.func45 rfl (ht := ANYS 57) ?_
 refine S8 ?_
 refine OQ ?_
 iterate 9 (refine EV ?_)
 refine OkOps.storeE tab_ok rfl rfl M48 ⟨_, _, by simp only [kE]; rfl⟩ M12 M68 (rfl) ?_
 refine S29 ?_
 refine Ok.drawn 13 58 [] M56 M56 rfl ?_
 iterate 11 (refine SV ?_)
 refine SOps.ev tab_ok rfl (by simp only [kE, kT, kL, kC, and255_m] <;> rfl) M52 ?_
 refine S23 ?_
 refine Ok.seq ?_
 refine Ok.seq ?_
 refine Ok.drawn 10 58 [] M56 M56 rfl ?_
 iterate 10 (refine SV ?_)
 refine S9 ?_
 refine OC (fun hb3 => ?_) (fun hb3 => ?_)
 ·
  try simp only [bsimp] at hb3
  have hi : c.i < c.b.length := by omega
  rw [curByte_in hi]
  refine Ok.seq ?_
  refine Ok.drawn 14 58 [] M56 M56 rfl ?_
  iterate 9 (refine SV ?_)
  refine SOps.ev tab_ok rfl (ev_idx_map M48 M48 (hi) M48) M52 ?_
  refine SV ?_
  refine SOps.ev tab_ok rfl (by simp only [kE, kT, kL, kC, four_b] <;> rfl) M52 ?_
  refine SV ?_
  refine SOps.ev tab_ok rfl (by simp only [kE, kT, kL, kC, and255_m] <;> rfl) M52 ?_
  refine SOps.nil ?_
  refine TV ?_
  refine TOps.nil ?_
  refine S66 ?_
  refine OkOps.ev tab_ok rfl (by simp only [kE, kT, kL, kC, wrap_add_one (show c.i + 1 ≤ 9223372036854775807 by omega)] <;> rfl) M52 ?_
  iterate 2 (refine EV ?_)
  refine OkOps.storeE tab_ok rfl rfl M48 ⟨_, _, by simp only [kE]; rfl⟩ M12 M68 (rfl) ?_
  refine ON ?_
  refine S46 ?_
  exact ⟨rfl, by first | rfl | (rw [upd_twice (by simp [V.travL, V.trav, updS, zz])]; rfl), rfl⟩
 try simp only [bsimp] at hb3
 have hi : ¬ c.i < c.b.length := by omega
 rw [curByte_out hi]
 refine Ok.skip ?_
 refine S46 ?_
 exact ⟨rfl, by first | rfl | (rw [upd_twice (by simp [V.travL, V.trav, updS, zz])]; rfl), rfl⟩
theorem c_spec_l01Below (c : Cur) (m : Nat) (L : Nat) (hb : c.b.length ≤ 4611686018427387904) (hm : 0 < m) {h : List V} {n : Nat}  : OkCall Tryz.prog 23 [.ptr (L + 1) 0 0 (cCur c), .int .i64 (m : Int)] h n (fun r h1 n1 => r = .int .i64 ((curBelow c m).1 : Int) ∧ h1 = V.updL (L + 1) 0 (cCur (curBelow c m).2) h ∧ n1 = n) := by
 refine OkCall.enter' tab_ok Tryz.func23 rfl (ht := ANYS 35) ?_
 refine S8 ?_
 refine S65 ?_
 refine OC (fun hb1 => ?_) (fun hb1 => ?_)
 ·
  try simp only [bsimp] at hb1
  exfalso; omega
 try simp only [bsimp] at hb1
 have h0 : ¬ m = 0 := by omega
 have hm0 : (((m : Nat) : Int) = 0) = False := eq_false M58
 refine Ok.skip ?_
 refine S65 ?_
 refine OC (fun hb3 => ?_) (fun hb3 => ?_)
 ·
  try simp only [bsimp] at hb3
  have h2 : m ≤ 256 := by omega
  rw [show curBelow c m = ((curByte c).1 % m, (curByte c).2) from (if_neg h0).trans (if_pos h2)]
  refine S6 ?_
  refine OkOps.upd rfl rfl M48 M48 cl45 (fun h => c_spec_l01Byte c L hb) M6 (rfl) ?_
  refine EV ?_
  refine OkOps.ev tab_ok rfl (by simp only [kE, kT, kL, kC, hm0, if_false, tmod_nat] <;> rfl) M52 ?_
  refine S22 ?_
  exact ⟨rfl, rfl, rfl⟩
 try simp only [bsimp] at hb3
 have h2 : ¬ m ≤ 256 := by omega
 rw [show curBelow c m = _ from (if_neg h0).trans (if_neg h2)]
 have q1 := curByte_le c
 have q2 := curByte_le (curByte c).2
 have q3 := curByte_le (curByte (curByte c).2).2
 have q4 := curByte_le (curByte (curByte (curByte c).2).2).2
 refine S60 ?_
 refine OkOps.upd rfl rfl M48 M48 cl45 (fun h => c_spec_l01Byte c L hb) M6 (rfl) ?_
 refine S40 ?_
 refine OkOps.upd rfl rfl M48 M48 cl45 (fun h => c_spec_l01Byte (curByte c).2 L (by rw [curByte_b]; exact hb)) M6 (rfl) ?_
 refine S40 ?_
 refine OkOps.upd rfl rfl M48 M48 cl45 (fun h => c_spec_l01Byte (curByte (curByte c).2).2 L (by simp only [curByte_b]; exact hb)) M6 (rfl) ?_
 refine S40 ?_
 refine OkOps.upd rfl rfl M48 M48 cl45 (fun h => c_spec_l01Byte (curByte (curByte (curByte c).2).2).2 L (by simp only [curByte_b]; exact hb)) M6 (rfl) ?_
 refine S40 ?_
 refine OkOps.ev tab_ok rfl (by simp only [kE, kT, kL, kC, mul24 q1] <;> rfl) M52 ?_
 refine EV ?_
 refine OkOps.ev tab_ok rfl (by simp only [kE, kT, kL, kC, mul16 q2] <;> rfl) M52 ?_
 refine OkOps.ev tab_ok rfl (by simp only [kE, kT, kL, kC, wrap_add_nat (show (curByte c).1 * 16777216 + (curByte (curByte c).2).1 * 65536 ≤ 9223372036854775807 by omega)] <;> rfl) M52 ?_
 refine EV ?_
 refine OkOps.ev tab_ok rfl (by simp only [kE, kT, kL, kC, mul8 q3] <;> rfl) M52 ?_
 refine OkOps.ev tab_ok rfl (by simp only [kE, kT, kL, kC, wrap_add_nat (show (curByte c).1 * 16777216 + (curByte (curByte c).2).1 * 65536 + (curByte (curByte (curByte c).2).2).1 * 256 ≤ 9223372036854775807 by omega)] <;> rfl) M52 ?_
 refine EV ?_
 refine OkOps.ev tab_ok rfl (by simp only [kE, kT, kL, kC, wrap_add_nat (show (curByte c).1 * 16777216 + (curByte (curByte c).2).1 * 65536 + (curByte (curByte (curByte c).2).2).1 * 256 + (curByte (curByte (curByte (curByte c).2).2).2).1 ≤ 9223372036854775807 by omega)] <;> rfl) M52 ?_
 refine EV ?_
 refine OkOps.ev tab_ok rfl (by simp only [kE, kT, kL, kC, hm0, if_false, tmod_nat] <;> rfl) M52 ?_
 refine S22 ?_
 exact ⟨rfl, by rw [upd_twice M109, upd_twice M109, upd_twice M109], rfl⟩
theorem w_laws_sameTexts (a b : List Str) : Weak Tryz.prog 16 [.sl 0 1 0 (a.map cS), .sl 0 1 0 (b.map cS)] (.bool (decide (a = b))) := by
 refine Weak.len 0 rfl fun ha => ?_
 refine Weak.enter tab_ok Tryz.func16 rfl (.inr M49) (ht := ANYS 24) ?_
 refine S8 ?_
 refine S51 ?_
 refine OC (fun hb1 => ?_) (fun hb1 => ?_)
 ·
  try simp only [bsimp] at hb1
  refine S37 ?_
  rw [decide_eq_false (fun h => hb1 (by rw [h]))]; rfl
 try simp only [bsimp] at hb1
 have hb1 : (a.length : Int) = b.length := by simpa using hb1
 refine Ok.skip ?_
 refine S28 ?_
 refine Ok.loopW (τ := Nat) (fun x => [(5, .int .i64 (x : Int))]) [4, 11, 12, 13, 14, 15, 16, 17, 18, 19, 20, 21, 22, 23, 24, 25] (fun x => by simp only [kover] <;> rfl) (fun x => x ≤ a.length ∧ a.take x = b.take x) (fun x => a.length - x) 0 (by (repeat (first | exact trivial | refine leC ?_ | refine leK ?_ ?_)) <;> first | (exact le_rfl' _) | exact le_rfl' _) (⟨Nat.zero_le _, rfl⟩) ?_
 rintro i ⟨h1, h2⟩
 refine S50 ?_
 refine OC (fun hb4 => ?_) (fun hb4 => ?_)
 ·
  try simp only [bsimp] at hb4
  have hi : i < a.length := by omega
  have hj : i < b.length := by omega
  refine S14 ?_
  refine Ok.seq ?_
  refine Ok.drawn 9 26 [] M56 M56 rfl ?_
  iterate 2 (refine SV ?_)
  refine SOps.ev tab_ok rfl (ev_idx_map M48 M48 M58 M48) M52 ?_
  iterate 3 (refine SV ?_)
  refine SOps.ev tab_ok rfl (ev_idx_map M48 M48 M58 M48) M52 ?_
  iterate 2 (refine SV ?_)
  refine S9 ?_
  refine OC (fun hb6 => ?_) (fun hb6 => ?_)
  ·
   try simp only [bsimp] at hb6
   refine S37 ?_
   rw [decide_eq_false (fun h => hb6 (by subst h; rfl))]; rfl
  try simp only [bsimp] at hb6
  refine S42 ?_
  refine ⟨i + 1, ?_, rfl, rfl, ⟨by omega, take_next h2 hi hj hb6⟩, by omega⟩
  (repeat (first | exact trivial | refine leC ?_ | refine leK ?_ ?_)) <;> first | ((rw [wrap_succ (by simp only [List.length_map] at ha; unfold maxLen at ha; omega)]; exact le_rfl' _)) | exact le_rfl' _
 try simp only [bsimp] at hb4
 refine Ok.exit ?_
 refine S37 ?_
 rw [decide_eq_true (eq_of_take M58 M58 h2)]; rfl
theorem p_impl_LinkHears (l : Link) (p : Packet) (h : l.way.length ≤ 2097152) : Pure Tryz.prog 28 [.agg (cLink l), .agg (cPacket p)] (vH (linkHears l p)) := by
 refine Pure.of M108 (OkCall.enter' tab_ok Tryz.func28 rfl (t := [.agg (cLink l), .agg (cPacket p), .any, .any, .any, .any, .any, .any, .any, .any, .any, .any, .any, .any, .any, .any, .any, .any, .any, .any, .any, .any, .any, .any, .any, .any, .any, .any, .any, .any, .any, .any, .any, .any, .any, .any, .any, .any, .any, .any, .any, .any, .any, .any, .any, .any, .any, .any, .any, .any, .any, .any, .any, .any, .any, .any, .any, .any, .any, .any, .any, .any, .any]) rfl ?_)
 refine OQ ?_
 refine S24 ?_
 refine S6 ?_
 refine OkOps.S' rfl (OpS.pure' rfl M48 (by simp only [kE, kT, kL, kC, V.eraseL, V.erase, V.travL, V.trav, zz] <;> rfl) cl48 M108 (p_impl_copyLink l h)) M87 M26 ?_
 refine EV ?_
 refine OkOps.storeE tab_ok rfl rfl M48 ⟨_, _, by simp only [kE]; rfl⟩ M12 M68 (rfl) ?_
 refine ON ?_
 refine S51 ?_
 refine OC (fun hb2 => ?_) (fun hb2 => ?_)
 ·
  try simp only [bsimp] at hb2
  rw [linkHears_off (by simpa using hb2)]
  refine S6 ?_
  refine OkOps.storeE tab_ok rfl rfl M48 ⟨_, _, by simp only [kE]; rfl⟩ M12 M68 (rfl) ?_
  refine S1 ?_
  refine S0 ?_
  refine retQ.end M82 rfl ?_
  exact ⟨by simp [V.erase, V.trav, V.travL, packV, zz], by simp [V.labels, V.labelsL, V.labelsLL, packV, zz], by simp [V.labels, V.labelsL, V.labelsLL, packV, zz]⟩
 try simp only [bsimp] at hb2
 rw [linkHears_on (by simpa using hb2)]
 refine S7 ?_
 refine Ok.seqC [(34, .bool (decide (l.way ≠ [] ∧ p.ack > l.next ∧ p.ack = IntKind.i64.wrap (l.next + 1))))] [16, 17, 18, 19, 20, 21, 22, 23, 24, 25, 26, 27, 28, 29, 30, 31, 32, 33] M51 ?_ ?_
 ·
  refine S66 ?_
  refine OP (d := 20) (fun hg4_4 => ?_) (fun hg4_4 => ?_)
  ·
   try simp only [bsimp] at hg4_4
   iterate 4 (refine OX ?_)
   refine S31 ?_
   refine OP (d := 27) (fun hg4_11 => ?_) (fun hg4_11 => ?_)
   ·
    try simp only [bsimp] at hg4_11
    iterate 5 (refine OX ?_)
    refine S39 ?_
    refine ⟨rfl, ?_, rfl, rfl⟩
    (repeat (first | exact trivial | refine leC ?_ | refine leK ?_ ?_)) <;> first | (refine .inl (congrArg V.bool ?_); simp only [← List.length_pos_iff, ne_eq]; first | (simp [*]; done) | (simp_all; done)) | exact le_rfl' _
   try simp only [bsimp] at hg4_11
   iterate 6 (refine OU ?_)
   refine S2 ?_
   refine ⟨rfl, ?_, rfl, rfl⟩
   (repeat (first | exact trivial | refine leC ?_ | refine leK ?_ ?_)) <;> first | (refine .inl (congrArg V.bool ?_); simp only [← List.length_pos_iff, ne_eq]; first | (simp [*]; done) | (simp_all; done)) | exact le_rfl' _
  try simp only [bsimp] at hg4_4
  iterate 5 (refine OU ?_)
  iterate 2 (refine EV ?_)
  iterate 6 (refine OU ?_)
  refine S2 ?_
  refine ⟨rfl, ?_, rfl, rfl⟩
  (repeat (first | exact trivial | refine leC ?_ | refine leK ?_ ?_)) <;> first | (refine .inl (congrArg V.bool ?_); simp only [← List.length_pos_iff, ne_eq]; first | (simp [*]; done) | (simp_all; done)) | exact le_rfl' _
 refine OC (fun hb4 => ?_) (fun hb4 => ?_)
 ·
  try simp only [bsimp] at hb4
  have hc : l.way ≠ [] ∧ p.ack > l.next ∧ p.ack = IntKind.i64.wrap (l.next + 1) := hb4
  have hm : hearMid l p = { l with way := l.way.drop 1, next := IntKind.i64.wrap (l.next + 1) } := if_pos hc
  have h1 : 1 ≤ l.way.length := by have := hc.1; cases hw : l.way with | nil => exact absurd hw this | cons a b => simp
  refine S11 ?_
  refine OkOps.ev tab_ok rfl (ev_partLo_map (a := 1) M48 M48 M53 M106 M58) M52 ?_
  refine EV ?_
  refine OkOps.storeE tab_ok rfl rfl M48 ⟨_, _, by simp only [kE]; rfl⟩ M12 M68 (rfl) ?_
  refine ON ?_
  refine S35 ?_
  refine OkOps.storeE tab_ok rfl rfl M48 ⟨_, _, by simp only [kE]; rfl⟩ M12 M68 (rfl) ?_
  refine S29 ?_
  refine Ok.seqC [(52, .bool (decide (p.seq = 0 ∨ p.seq ≠ l.want)))] [43, 44, 45, 46, 47, 48, 49, 50, 51] M51 ?_ ?_
  ·
   refine S35 ?_
   refine OP (d := 46) (fun hg7_3 => ?_) (fun hg7_3 => ?_)
   ·
    try simp only [bsimp] at hg7_3
    iterate 5 (refine OU ?_)
    refine S2 ?_
    refine ⟨rfl, ?_, rfl, rfl⟩
    (repeat (first | exact trivial | refine leC ?_ | refine leK ?_ ?_)) <;> first | (refine .inl (congrArg V.bool ?_); first | (simp [*]; done) | (simp_all; done)) | exact le_rfl' _
   try simp only [bsimp] at hg7_3
   iterate 4 (refine OX ?_)
   refine S39 ?_
   refine ⟨rfl, ?_, rfl, rfl⟩
   (repeat (first | exact trivial | refine leC ?_ | refine leK ?_ ?_)) <;> first | (refine .inl (congrArg V.bool ?_); first | (simp [*]; done) | (simp_all; done)) | exact le_rfl' _
  refine OC (fun hb7 => ?_) (fun hb7 => ?_)
  ·
   try simp only [bsimp] at hb7
   rw [if_pos hb7, hm]
   refine S6 ?_
   refine OkOps.S' rfl (OpS.pure' rfl M47 M84 cl48 M108 (p_impl_copyLink (hearMid l p) (Nat.le_trans (hearMid_len l p) h))) M87 M26 ?_
   refine OkOps.storeE tab_ok rfl rfl M48 ⟨_, _, by simp only [kE]; rfl⟩ M12 M68 (rfl) ?_
   refine S1 ?_
   refine S0 ?_
   refine retQ.end M82 rfl ?_
   exact ⟨by simp [V.erase, V.trav, V.travL, packV, zz, hm], by simp [V.labels, V.labelsL, V.labelsLL, packV, zz], by simp [V.labels, V.labelsL, V.labelsLL, packV, zz]⟩
  try simp only [bsimp] at hb7
  rw [if_neg hb7, hm]
  refine Ok.skip ?_
  refine S38 ?_
  refine OkOps.storeE tab_ok rfl rfl M48 ⟨_, _, by simp only [kE]; rfl⟩ M12 M68 (rfl) ?_
  refine S29 ?_
  refine Ok.drawn 4 63 [2, 3] M56 M56 rfl ?_
  refine SV ?_
  refine SOps.S' rfl (OpS.pureM rfl M47 M84 cl48 M108 (p_impl_copyLink { hearMid l p with want := IntKind.i64.wrap (l.want + 1) } (Nat.le_trans (hearMid_len l p) h))) M87 M26 ?_
  iterate 2 (refine SV ?_)
  refine SOps.nil ?_
  refine TOps.storeL tab_ok rfl rfl rfl M48 ⟨_, _, by simp only [kE]; rfl⟩ M12 M68 (rfl) (LateOk.cons (i := 2) tab_ok M126 M126 M71 M92 (LateOk.cons (i := 3) tab_ok M126 M126 M71 M94 LateOk.nil)) ?_
  refine TOps.evL tab_ok rfl M48 M52 (LateOk.cons (i := 2) tab_ok M59 M59 M79 M92 (LateOk.cons (i := 3) tab_ok M59 M59 M79 M94 LateOk.nil)) ?_
  refine TOps.evL tab_ok rfl M48 M52 (LateOk.cons (i := 2) tab_ok M59 M59 M79 M92 (LateOk.cons (i := 3) tab_ok M59 M59 M79 M94 LateOk.nil)) ?_
  refine TOps.nil ?_
  refine S0 ?_
  refine retQ.end M82 rfl ?_
  exact ⟨by simp [V.erase, V.trav, V.travL, packV, zz, hm], by simp [V.labels, V.labelsL, V.labelsLL, packV, zz], by simp [V.labels, V.labelsL, V.labelsLL, packV, zz]⟩
 try simp only [bsimp] at hb4
 have hc : ¬ (l.way ≠ [] ∧ p.ack > l.next ∧ p.ack = IntKind.i64.wrap (l.next + 1)) := hb4
 have hm : hearMid l p = l := if_neg hc
 refine S7 ?_
 refine Ok.seqC [(52, .bool (decide (p.seq = 0 ∨ p.seq ≠ l.want)))] [43, 44, 45, 46, 47, 48, 49, 50, 51] M51 ?_ ?_
 ·
  refine S35 ?_
  refine OP (d := 46) (fun hg7_3 => ?_) (fun hg7_3 => ?_)
  ·
   try simp only [bsimp] at hg7_3
   iterate 5 (refine OU ?_)
   refine S2 ?_
   refine ⟨rfl, ?_, rfl, rfl⟩
   (repeat (first | exact trivial | refine leC ?_ | refine leK ?_ ?_)) <;> first | (refine .inl (congrArg V.bool ?_); first | (simp [*]; done) | (simp_all; done)) | exact le_rfl' _
  try simp only [bsimp] at hg7_3
  iterate 4 (refine OX ?_)
  refine S39 ?_
  refine ⟨rfl, ?_, rfl, rfl⟩
  (repeat (first | exact trivial | refine leC ?_ | refine leK ?_ ?_)) <;> first | (refine .inl (congrArg V.bool ?_); first | (simp [*]; done) | (simp_all; done)) | exact le_rfl' _
 refine OC (fun hb7 => ?_) (fun hb7 => ?_)
 ·
  try simp only [bsimp] at hb7
  rw [if_pos hb7, hm]
  refine S6 ?_
  refine OkOps.S' rfl (OpS.pure' rfl M47 M84 cl48 M108 (p_impl_copyLink (hearMid l p) (Nat.le_trans (hearMid_len l p) h))) M87 M26 ?_
  refine OkOps.storeE tab_ok rfl rfl M48 ⟨_, _, by simp only [kE]; rfl⟩ M12 M68 (rfl) ?_
  refine S1 ?_
  refine S0 ?_
  refine retQ.end M82 rfl ?_
  exact ⟨by simp [V.erase, V.trav, V.travL, packV, zz, hm], by simp [V.labels, V.labelsL, V.labelsLL, packV, zz], by simp [V.labels, V.labelsL, V.labelsLL, packV, zz]⟩
 try simp only [bsimp] at hb7
 rw [if_neg hb7, hm]
 refine Ok.skip ?_
 refine S38 ?_
 refine OkOps.storeE tab_ok rfl rfl M48 ⟨_, _, by simp only [kE]; rfl⟩ M12 M68 (rfl) ?_
 refine S29 ?_
 refine Ok.drawn 4 63 [2, 3] M56 M56 rfl ?_
 refine SV ?_
 refine SOps.S' rfl (OpS.pureM rfl M47 M84 cl48 M108 (p_impl_copyLink { hearMid l p with want := IntKind.i64.wrap (l.want + 1) } (Nat.le_trans (hearMid_len l p) h))) M87 M26 ?_
 iterate 2 (refine SV ?_)
 refine SOps.nil ?_
 refine TOps.storeL tab_ok rfl rfl rfl M48 ⟨_, _, by simp only [kE]; rfl⟩ M12 M68 (rfl) (LateOk.cons (i := 2) tab_ok M126 M126 M71 M92 (LateOk.cons (i := 3) tab_ok M126 M126 M71 M94 LateOk.nil)) ?_
 refine TOps.evL tab_ok rfl M48 M52 (LateOk.cons (i := 2) tab_ok M59 M59 M79 M92 (LateOk.cons (i := 3) tab_ok M59 M59 M79 M94 LateOk.nil)) ?_
 refine TOps.evL tab_ok rfl M48 M52 (LateOk.cons (i := 2) tab_ok M59 M59 M79 M92 (LateOk.cons (i := 3) tab_ok M59 M59 M79 M94 LateOk.nil)) ?_
 refine TOps.nil ?_
 refine S0 ?_
 refine retQ.end M82 rfl ?_
 exact ⟨by simp [V.erase, V.trav, V.travL, packV, zz, hm], by simp [V.labels, V.labelsL, V.labelsLL, packV, zz], by simp [V.labels, V.labelsL, V.labelsLL, packV, zz]⟩
theorem w_impl_LinkHears (l : Link) (p : Packet) (h : l.way.length ≤ 2097152) : Weak Tryz.prog 28 [.agg (cLink l), .agg (cPacket p)] (vH (linkHears l p)) := by
  have h := Pure.weak M108 (p_impl_LinkHears l p h) (by simp [V.eraseL, V.erase, V.trav, V.travL, zz])
  simpa [V.erase, V.trav, V.travL, zz] using h
end Go.Proofs.YtiipkeendfpddaaGreat.K

/- Walks: draws (60). Printed by w2.py. -/
namespace Go.Proofs.YtiipkeendfpddaaGreat.K
open Go Go.RowKit
set_option linter.unusedVariables false
set_option linter.unusedSimpArgs false
set_option maxHeartbeats 4000000
set_option maxRecDepth 20000
theorem c_spec_l01Pick (c : Cur) (xs : List Str) (L M : Nat) (hb : c.b.length ≤ 4611686018427387904) (hx : 0 < xs.length) (hM : ¬ M = L + 1) {h : List V} {n : Nat}  : OkCall Tryz.prog 25 [.ptr (L + 1) 0 0 (cCur c), .sl M 1 0 (xs.map cS)] h n (fun r h1 n1 => r = .str (pickS c xs).1 ∧ h1 = V.updL (L + 1) 0 (cCur (pickS c xs).2) h ∧ n1 = n) := by
 refine OkCall.enter' tab_ok Tryz.func25 rfl (ht := ANYS 10) ?_
 refine S8 ?_
 refine S38 ?_
 refine OkOps.upd rfl rfl M48 M48 cl23 (fun h => c_spec_l01Below c xs.length L hb hx) M67 (rfl) ?_
 refine OkOps.ev tab_ok rfl (ev_idx M48 M48 (by rw [List.getElem?_map, pickS_get hx]; rfl) M48) M52 ?_
 refine S41 ?_
 exact ⟨rfl, rfl, rfl⟩
theorem c_spec_l01PickInt (c : Cur) (xs : List Int) (L M : Nat) (hb : c.b.length ≤ 4611686018427387904) (hx : 0 < xs.length) (hM : ¬ M = L + 1) {h : List V} {n : Nat}  : OkCall Tryz.prog 42 [.ptr (L + 1) 0 0 (cCur c), .sl M 1 0 (xs.map cZ)] h n (fun r h1 n1 => r = .int .i64 (pickI c xs).1 ∧ h1 = V.updL (L + 1) 0 (cCur (pickI c xs).2) h ∧ n1 = n) := by
 refine OkCall.enter' tab_ok Tryz.func42 rfl (ht := ANYS 10) ?_
 refine S8 ?_
 refine S38 ?_
 refine OkOps.upd rfl rfl M48 M48 cl23 (fun h => c_spec_l01Below c xs.length L hb hx) M67 (rfl) ?_
 refine OkOps.ev tab_ok rfl (ev_idx M48 M48 (by rw [List.getElem?_map, pickI_get hx]; rfl) M48) M52 ?_
 refine S41 ?_
 exact ⟨rfl, rfl, rfl⟩
theorem c_spec_l01Once (c : Cur) (m : Nat) (L : Nat) (hb : c.b.length ≤ 4611686018427387904) (hm : 0 < m) {h : List V} {n : Nat}  : OkCall Tryz.prog 43 [.ptr (L + 1) 0 0 (cCur c), .int .i64 (m : Int)] h n (fun r h1 n1 => r = .bool (decide (((curBelow c m).1 : Int) = 0)) ∧ h1 = V.updL (L + 1) 0 (cCur (curBelow c m).2) h ∧ n1 = n) := by
 refine OkCall.enter' tab_ok Tryz.func43 rfl (ht := ANYS 7) ?_
 refine S8 ?_
 refine S11 ?_
 refine OkOps.upd rfl rfl M48 M48 cl23 (fun h => c_spec_l01Below c m L hb hm) M6 (rfl) ?_
 refine S41 ?_
 exact ⟨rfl, rfl, rfl⟩
theorem w_spec_l01Long (n : Nat) (b : UInt8) (hn : n ≤ 1000) : Weak Tryz.prog 41 [.int .i64 (n : Int), .int .u8 (b.toNat : Int)] (.str (longT n b)) := by
 refine Weak.enter tab_ok Tryz.func41 rfl (.inr M49) (ht := ANYS 18) ?_
 refine S53 ?_
 refine OkOps.S' rfl (ok_makeSlice (a := n) (b := n) tab_ok M53 M53 M57 rfl rfl (by simp only [kE, kL] <;> rfl) (by simp only [kE, kL] <;> rfl) M58 M58 M58 (by show ((1 : Nat) : Int) * _ ≤ _; omega)) (by simp only [Nat.reduceAdd] <;> rfl) (by simp only [kP, Int.toNat_natCast] <;> rfl) ?_
 refine S2 ?_
 refine S28 ?_
 refine Ok.bump (n' := 2) M58 ?_
 refine Ok.loopWZ (τ := Nat) (fun x => [(5, .sl 1 1 0 ((List.replicate x b ++ List.replicate (n - x) 0).map cB)), (6, .int .i64 (x : Int)), (8, .any)]) [9, 10, 11, 12, 13, 14, 15, 16, 17] (fun x => by simp only [kover] <;> rfl) (fun x => x ≤ n) (fun x => n - x) 0 M58 (by (repeat (first | exact trivial | refine leC ?_ | refine leK ?_ ?_)) <;> first | (first | exact le_rfl' _ | (refine le_eqm (congrArg (V.sl 1 1 0) ?_); rw [List.replicate_zero, List.nil_append, Nat.sub_zero, List.map_replicate]; rfl)) | exact le_rfl' _) (Nat.zero_le _) ?_
 rintro i h1
 refine S5 ?_
 refine S4 ?_
 refine OC (fun hb3 => ?_) (fun hb3 => ?_)
 ·
  try simp only [bsimp] at hb3
  have hi : i < n := by omega
  have hs := set_repB (b := b) (d := 0) hi
  refine S14 ?_
  refine S26 ?_
  refine OkOps.ev tab_ok rfl (ev_idx_map M48 M48 M118 M48) M52 ?_
  refine OkOps.storeE tab_ok rfl rfl M48 ⟨_, _, by simp only [kE]; rfl⟩ M12 (by simp only [eq_self, V.updL, V.travL, V.travLL, V.trav, updS, updP, and_self, true_and, and_true, false_and, and_false, Nat.reduceEqDiff, Nat.reduceSub, Nat.le_refl, Nat.zero_le, ↓reduceIte, if_true, if_false, kP, zz, hs, Nat.sub_zero] <;> rfl) (rfl) ?_
  refine ON ?_
  refine S12 ?_
  refine ⟨i + 1, ?_, rfl, by omega, by omega⟩
  simp only [V.renL, V.travL, V.travLL, V.trav, frz, zz, Nat.reduceLeDiff, ↓reduceIte]
  (repeat (first | exact trivial | refine leC ?_ | refine leK ?_ ?_)) <;> first | (first | (rw [wrap_succ (by omega)]; exact le_rfl' _) | exact le_rfl' _) | exact le_rfl' _
 try simp only [bsimp] at hb3
 obtain rfl : i = n := by omega
 rw [longT_end]
 have hll := longT_len i b
 refine Ok.exit ?_
 refine S6 ?_
 refine OkOps.ev tab_ok rfl (ev_text' M48 rfl rfl rfl M22) M52 ?_
 refine S22 ?_
 rfl
end Go.Proofs.YtiipkeendfpddaaGreat.K

/- Walks: draws (61). Printed by w2.py. -/
namespace Go.Proofs.YtiipkeendfpddaaGreat.K
open Go Go.RowKit
set_option linter.unusedVariables false
set_option linter.unusedSimpArgs false
set_option maxHeartbeats 4000000
set_option maxRecDepth 20000
theorem c_spec_l17Packet (c : Cur) (L : Nat) (hb : c.b.length ≤ 4611686018427387904) {h : List V} {n : Nat} (hlt : Ahd n h) (hL : L + 1 < n) : OkCall Tryz.prog 26 [.ptr (L + 1) 0 0 (cCur c)] h n (fun r h1 n1 => r = .agg (cPacket (packD c).1) ∧ h1 = V.updL (L + 1) 0 (cCur (packD c).2) h ∧ n1 = n + 10) := by
 obtain ⟨n, rfl⟩ : ∃ k, n = k + 1 := ⟨n - 1, by omega⟩
 have nd := NDL [L + 1, n + 1, n + 1 + 1, n + 1 + 1 + 1, n + 1 + 1 + 1 + 1, 0]
 refine OkCall.enter' tab_ok Tryz.func26 rfl (ht := ANYS 35) ?_
 refine S53 ?_
 refine OkOps.upd rfl rfl M48 M48 cl23 (fun h => c_spec_l01Below c 3 L hb M57) M5 (rfl) ?_
 refine EV ?_
 refine OkOps.upd rfl rfl M48 M48 cl23 (fun h => c_spec_l01Below (curBelow c 3).2 5 L M20 M57) M5 (rfl) ?_
 refine EV ?_
 refine OkOps.upd rfl rfl M48 M48 cl23 (fun h => c_spec_l01Below (curBelow (curBelow c 3).2 5).2 6 L M20 M57) M5 (rfl) ?_
 refine EV ?_
 refine OkOps.ev tab_ok rfl (ev_bs M53 M53 M57 M57 M37 M16) M52 ?_
 refine OkOps.upd rfl rfl M48 M48 cl25 (fun h => c_spec_l01Pick (curBelow (curBelow (curBelow c 3).2 5).2 6).2 [wOne, wTwo, []] L (n + 1 + 1) M20 M57 M58) M5 (rfl) ?_
 refine OkOps.ev tab_ok rfl M36 M112 ?_
 refine EV ?_
 refine OkOps.storeE tab_ok rfl rfl M48 ⟨_, _, by simp only [kE]; rfl⟩ M12 M66 (Ahd.updL (by repeat (first | exact hlt | exact hlt.mono (by omega) | refine Ahd.upd ?_ (Ahd.cur (by omega) _)))) ?_
 refine ON ?_
 refine S59 ?_
 refine OkOps.upd rfl rfl M48 M48 cl23 (fun h => c_spec_l01Below (pack0 c).2 12 L M20 M57) M5 (rfl) ?_
 refine ON ?_
 refine Ok.block ?_
 refine S10 ?_
 refine OC (fun hb3 => ?_) (fun hb3 => ?_)
 ·
  try simp only [bsimp] at hb3
  have e := packD_0 (c := c) M58
  rw [e]
  refine S15 ?_
  refine OkOps.ev tab_ok rfl (ev_bs M53 M53 M57 M57 M37 M16) M52 ?_
  refine OkOps.upd rfl rfl M48 M48 cl42 (fun h => c_spec_l01PickInt (curBelow (pack0 c).2 12).2 [-1, 1000000001, 9223372036854775807] L (n + 1 + 1 + 1 + 1) M20 M57 M58) M5 (rfl) ?_
  refine EV ?_
  refine OkOps.storeE tab_ok rfl rfl M48 ⟨_, _, by simp only [kE]; rfl⟩ M12 M66 (Ahd.updL (by repeat (first | exact hlt | exact hlt.mono (by omega) | refine Ahd.upd ?_ (Ahd.cur (by omega) _)))) ?_
  refine S29 ?_
  refine Ok.bump (n' := n + 1 + 10) M58 ?_
  refine S15 ?_
  refine OkOps.storeE tab_ok rfl rfl M48 ⟨_, _, by simp only [kE]; rfl⟩ M12 M66 (Ahd.updL (by repeat (first | exact hlt | exact hlt.mono (by omega) | refine Ahd.upd ?_ (Ahd.cur (by omega) _)))) ?_
  refine S36 ?_
  exact ⟨by simp only [packV, pack0], by (repeat rw [upd_twice M109]) <;> (try simp only [pack0]), rfl⟩
 try simp only [bsimp] at hb3
 refine S10 ?_
 refine OC (fun hb5 => ?_) (fun hb5 => ?_)
 ·
  try simp only [bsimp] at hb5
  have e := packD_1 (c := c) M58
  rw [e]
  refine S15 ?_
  refine OkOps.ev tab_ok rfl (ev_bs M53 M53 M57 M57 M37 M16) M52 ?_
  refine OkOps.upd rfl rfl M48 M48 cl42 (fun h => c_spec_l01PickInt (curBelow (pack0 c).2 12).2 [-9223372036854775808, 9223372036854775807] L (n + 1 + 1 + 1 + 1) M20 M57 M58) M5 (rfl) ?_
  refine EV ?_
  refine OkOps.storeE tab_ok rfl rfl M48 ⟨_, _, by simp only [kE]; rfl⟩ M12 M66 (Ahd.updL (by repeat (first | exact hlt | exact hlt.mono (by omega) | refine Ahd.upd ?_ (Ahd.cur (by omega) _)))) ?_
  refine S29 ?_
  refine Ok.bump (n' := n + 1 + 10) M58 ?_
  refine S15 ?_
  refine OkOps.storeE tab_ok rfl rfl M48 ⟨_, _, by simp only [kE]; rfl⟩ M12 M66 (Ahd.updL (by repeat (first | exact hlt | exact hlt.mono (by omega) | refine Ahd.upd ?_ (Ahd.cur (by omega) _)))) ?_
  refine S36 ?_
  exact ⟨by simp only [packV, pack0], by (repeat rw [upd_twice M109]) <;> (try simp only [pack0]), rfl⟩
 try simp only [bsimp] at hb5
 refine S10 ?_
 refine OC (fun hb7 => ?_) (fun hb7 => ?_)
 ·
  try simp only [bsimp] at hb7
  have e := packD_2 (c := c) M58
  rw [e]
  have hq := curBelow_lt (c := (curBelow (pack0 c).2 12).2) (n := 2) M57
  refine S15 ?_
  refine OkOps.upd rfl rfl M48 M48 cl23 (fun h => c_spec_l01Below (curBelow (pack0 c).2 12).2 2 L M20 M57) M5 (rfl) ?_
  refine OkOps.ev tab_ok rfl (by simp only [kE, kT, kL, kC, wrap_400 (show (curBelow (curBelow (pack0 c).2 12).2 2).1 ≤ 1000 by omega)] <;> rfl) M52 ?_
  refine OW cl41 (w_spec_l01Long (400 + (curBelow (curBelow (pack0 c).2 12).2 2).1) 97 M58) ?_
  refine EV ?_
  refine OkOps.storeE tab_ok rfl rfl M48 ⟨_, _, by simp only [kE]; rfl⟩ M12 M66 (Ahd.updL (by repeat (first | exact hlt | exact hlt.mono (by omega) | refine Ahd.upd ?_ (Ahd.cur (by omega) _)))) ?_
  refine S29 ?_
  refine Ok.bump (n' := n + 1 + 10) M58 ?_
  refine S15 ?_
  refine OkOps.storeE tab_ok rfl rfl M48 ⟨_, _, by simp only [kE]; rfl⟩ M12 M66 (Ahd.updL (by repeat (first | exact hlt | exact hlt.mono (by omega) | refine Ahd.upd ?_ (Ahd.cur (by omega) _)))) ?_
  refine S36 ?_
  exact ⟨by simp only [packV, pack0], by (repeat rw [upd_twice M109]) <;> (try simp only [pack0]), rfl⟩
 try simp only [bsimp] at hb7
 have e := packD_n (c := c) M58 M58 M58
 rw [e]
 refine S7 ?_
 refine Ok.bump (n' := n + 1 + 10) M58 ?_
 refine S15 ?_
 refine OkOps.storeE tab_ok rfl rfl M48 ⟨_, _, by simp only [kE]; rfl⟩ M12 M66 (Ahd.updL (by repeat (first | exact hlt | exact hlt.mono (by omega) | refine Ahd.upd ?_ (Ahd.cur (by omega) _)))) ?_
 refine S36 ?_
 exact ⟨by simp only [packV, pack0], by (repeat rw [upd_twice M109]) <;> (try simp only [pack0]), rfl⟩
end Go.Proofs.YtiipkeendfpddaaGreat.K
