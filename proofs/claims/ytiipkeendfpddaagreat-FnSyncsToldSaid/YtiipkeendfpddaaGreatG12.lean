/- Walks: stores compared, syncs ended. Printed by w2.py. -/
import Derived.Test.YtiipkeendfpddaaGreatPM
import Derived.Test.YtiipkeendfpddaaGreatG10
import Derived.Test.YtiipkeendfpddaaGreatG9
import Derived.Test.YtiipkeendfpddaaGreatG11
import Derived.Test.YtiipkeendfpddaaGreatG4
import Derived.Test.YtiipkeendfpddaaGreatG6
import Derived.Test.YtiipkeendfpddaaGreatG8
namespace Go.Proofs.YtiipkeendfpddaaGreat.K
open Go Go.RowKit
set_option linter.unusedVariables false
set_option linter.unusedSimpArgs false
def alike (a b : Store) : Bool := decide (a.boxes = b.boxes ∧ a.gone = b.gone)
set_option maxHeartbeats 4000000
set_option maxRecDepth 20000
theorem w_impl_SyncEnds (y : Sync) (b : Bool) (h : smSync y) : Weak Tryz.prog 18 [.agg (cSync y), .bool b] (.agg (cSync (syncEnds y b))) := by
 refine Weak.enter tab_ok Tryz.func18 rfl (.inr M46) (ht := ANYS 10) ?_
 refine S10 ?_
 refine S6 ?_
 refine OkOps.S' rfl (OpS.pure' rfl M48 M27 cl27 M44 (p_impl_copySync y h)) M30 M23 ?_
 refine S33 ?_
 refine S5 ?_
 refine S2 ?_
 refine OC (fun hb2 => ?_) (fun hb2 => ?_)
 ·
  try simp only [bsimp] at hb2
  rw [syncEnds_t hb2]
  refine S15 ?_
  refine S17 ?_
  refine S6 ?_
  refine S17 ?_
  refine S3 ?_
  first | rfl | (simp [V.erase, V.trav, V.travL, V.travLL, packV, zz, zf, zy]; done)
 try simp only [bsimp] at hb2
 rw [syncEnds_f hb2]
 refine S15 ?_
 refine S17 ?_
 refine S6 ?_
 refine S17 ?_
 refine S3 ?_
 first | rfl | (simp [V.erase, V.trav, V.travL, V.travLL, packV, zz, zf, zy]; done)
theorem w_impl_SyncOver (y : Sync) : Weak Tryz.prog 20 [.agg (cSync y)] (.bool (syncOver y)) := by
 refine Weak.enter tab_ok Tryz.func20 rfl (.inr M46) (ht := ANYS 11) ?_
 refine S10 ?_
 refine S19 ?_
 refine OP (d := 5) (fun hg1_2 => ?_) (fun hg1_2 => ?_)
 ·
  try simp only [bsimp] at hg1_2
  refine S57 ?_
  refine S4 ?_
  refine S3 ?_
  first | (simp_all [syncOver, V.erase, V.trav, packV, kE]; done) | (simp [syncOver, *, V.erase, V.trav, packV, kE]; done)
 try simp only [bsimp] at hg1_2
 iterate 5 (refine OU ?_)
 refine S41 ?_
 first | (simp_all [syncOver, V.erase, V.trav, packV, kE]; done) | (simp [syncOver, *, V.erase, V.trav, packV, kE]; done)
end Go.Proofs.YtiipkeendfpddaaGreat.K

/- Walks: syncs that hear, as the reference has it. Printed by w2.py. -/
namespace Go.Proofs.YtiipkeendfpddaaGreat.K
open Go Go.RowKit
set_option linter.unusedVariables false
set_option linter.unusedSimpArgs false
set_option maxHeartbeats 4000000
set_option maxRecDepth 20000
theorem c_spec_l17Hear (y : Sync) (p : Packet) (L : Nat) (hlw : y.link.way.length ≤ 2097152) {h : List V} {n : Nat} (hlt : Ahd n h) (hL : L + 1 < n) (hfix : V.updL (L + 1) 0 (cSync y) h = h) : OkCall Tryz.prog 52 [.ptr (L + 1) 0 1 (cSync y), .agg (cPacket p)] h n (fun r h1 n1 => r = .tup [.str (hearsS y.link p).2.1, .bool (hearsS y.link p).2.2] ∧ h1 = V.updL (L + 1) 0 (cSync { y with link := (hearsS y.link p).1 }) h ∧ n1 = n + 4) := by
 obtain ⟨n, rfl⟩ : ∃ k, n = k + 1 := ⟨n - 1, by omega⟩
 have nd := NDL [L + 1, n + 1, 0, n + 1 + 1]
 refine OkCall.enter' tab_ok Tryz.func52 rfl (ht := ANYS 70) ?_
 refine S34 ?_
 refine Ok.seq ?_
 refine Ok.seq ?_
 refine Ok.drawn 7 72 [] M56 M56 rfl ?_
 iterate 7 (refine SV ?_)
 refine S9 ?_
 refine OC (fun hb1 => ?_) (fun hb1 => ?_)
 ·
  try simp only [bsimp] at hb1
  refine Ok.seq ?_
  refine Ok.bump (n' := n + 1 + 4) M58 ?_
  refine S27 ?_
  refine S3 ?_
  first | (rw [hears_off hb1]; exact ⟨rfl, hfix.symm, rfl⟩) | (rw [hears_no hb1 hb3 hb6]; exact ⟨rfl, hfix.symm, rfl⟩) | (rw [hears_want hb1 hb3 hb6]; exact ⟨rfl, rfl, rfl⟩) | (rw [hears_dx hb1 hb3 hb6]; exact ⟨rfl, rfl, rfl⟩) | (rw [hears_dw hb1 hb3 hb6]; exact ⟨rfl, rfl, rfl⟩)
 try simp only [bsimp] at hb1
 refine S7 ?_
 refine Ok.seqC [(33, .bool (drops y.link p))] [13, 14, 15, 16, 17, 18, 19, 20, 21, 22, 23, 24, 25, 26, 27, 28, 29, 30, 31, 32] M51 ?_ ?_
 ·
  refine Ok.drawn 21 72 [] M56 M56 rfl ?_
  iterate 7 (refine SV ?_)
  refine SOps.split (d := 19) M48 M52 M52 (fun hg3_6 => ?_) (fun hg3_6 => ?_)
  ·
   try simp only [bsimp] at hg3_6
   iterate 3 (refine SN ?_)
   iterate 2 (refine SV ?_)
   refine SOps.split (d := 24) M48 M52 M52 (fun hg3_11 => ?_) (fun hg3_11 => ?_)
   ·
    try simp only [bsimp] at hg3_11
    iterate 8 (refine SN ?_)
    refine S23 ?_
    refine ⟨rfl, ?_, rfl, rfl⟩
    (repeat (first | exact trivial | refine leC ?_ | refine leK ?_ ?_)) <;> first | (refine .inl (congrArg V.bool ?_); unfold drops; simp only [← List.length_pos_iff, ne_eq]; first | (simp [*]; done) | (simp_all; done) | (simp_all; omega)) | exact le_rfl' _
   try simp only [bsimp] at hg3_11
   iterate 8 (refine SU ?_)
   refine S23 ?_
   refine ⟨rfl, ?_, rfl, rfl⟩
   (repeat (first | exact trivial | refine leC ?_ | refine leK ?_ ?_)) <;> first | (refine .inl (congrArg V.bool ?_); unfold drops; simp only [← List.length_pos_iff, ne_eq]; first | (simp [*]; done) | (simp_all; done) | (simp_all; omega)) | exact le_rfl' _
  try simp only [bsimp] at hg3_6
  iterate 3 (refine SU ?_)
  iterate 2 (refine SV ?_)
  iterate 8 (refine SU ?_)
  refine S23 ?_
  refine ⟨rfl, ?_, rfl, rfl⟩
  (repeat (first | exact trivial | refine leC ?_ | refine leK ?_ ?_)) <;> first | (refine .inl (congrArg V.bool ?_); unfold drops; simp only [← List.length_pos_iff, ne_eq]; first | (simp [*]; done) | (simp_all; done) | (simp_all; omega)) | exact le_rfl' _
 refine OC (fun hb3 => ?_) (fun hb3 => ?_)
 ·
  try simp only [bsimp] at hb3
  have hne := List.length_pos_iff.2 (drops_t hb3).1
  refine OQ ?_
  iterate 6 (refine EV ?_)
  refine OkOps.ev tab_ok rfl (ev_partLo_map (a := 1) M48 M48 M53 M106 M58) M52 ?_
  refine OkOps.S rfl (ok_append_nil tab_ok M53 M53 M57 rfl rfl M48 (.inl ⟨_, _, by simp only [kE, kT, kL, kC] <;> rfl⟩) (by simp only [List.length_map, List.length_drop]; omega) (by simp only [List.length_map, List.length_drop]; omega)) M110 ?_
  refine OkOps.freeze (n + 1 + 1) M58 ?_
  have f1 : frz (n + 1 + 1) (L + 1) = L + 1 := frz_lt M58
  have f2 : frz (n + 1 + 1) (n + 1) = n + 1 := frz_lt M58
  have f3 : frz (n + 1 + 1) (n + 1 + 1) = 0 := if_pos M58
  have f4 : frz (n + 1 + 1) 0 = 0 := frz_lt M58
  rw [(hlt.mono M58 : Ahd (n + 1 + 1) h).ren]
  simp only [V.renL, V.travL, V.trav, zz, zf, zy, f1, f2, f3, f4]
  iterate 2 (refine EV ?_)
  refine OkOps.storeE tab_ok rfl rfl M48 ⟨_, _, by simp only [kE]; rfl⟩ M24 M3 (rfl) ?_
  refine ON ?_
  refine Ok.region ?_
  iterate 7 (refine EV ?_)
  refine OkOps.storeE tab_ok rfl rfl M48 ⟨_, _, by simp only [kE]; rfl⟩ M24 M3 (by first | (refine upd_twice ?_ h; simp [-List.map_drop, -List.drop_one, V.travL, V.trav, updS, zz, zf, zy]; done) | (refine upd_twice ?_ h; simp [-List.map_drop, -List.drop_one, V.travL, V.trav, updS, zz, zf, zy]; omega) | rfl) ?_
  refine S29 ?_
  refine Ok.seqC [(62, .bool (!wants y.link p))] [51, 52, 53, 54, 55, 56, 57, 58, 59, 60, 61] M51 ?_ ?_
  ·
   refine Ok.drawn 12 72 [] M56 M56 rfl ?_
   iterate 4 (refine SV ?_)
   refine SOps.split (d := 54) M48 M52 M52 (fun hg6_3 => ?_) (fun hg6_3 => ?_)
   ·
    try simp only [bsimp] at hg6_3
    iterate 7 (refine SU ?_)
    refine S23 ?_
    refine ⟨rfl, ?_, rfl, rfl⟩
    (repeat (first | exact trivial | refine leC ?_ | refine leK ?_ ?_)) <;> first | (refine .inl (congrArg V.bool ?_); unfold wants; first | (simp [*]; done) | (simp_all; done)) | exact le_rfl' _
   try simp only [bsimp] at hg6_3
   iterate 7 (refine SN ?_)
   refine S23 ?_
   refine ⟨rfl, ?_, rfl, rfl⟩
   (repeat (first | exact trivial | refine leC ?_ | refine leK ?_ ?_)) <;> first | (refine .inl (congrArg V.bool ?_); unfold wants; first | (simp [*]; done) | (simp_all; done)) | exact le_rfl' _
  refine OC (fun hb6 => ?_) (fun hb6 => ?_)
  ·
   try simp only [bsimp] at hb6
   refine Ok.seq ?_
   refine Ok.bump (n' := n + 1 + 4) M58 ?_
   refine S27 ?_
   refine S3 ?_
   first | (rw [hears_off hb1]; exact ⟨rfl, hfix.symm, rfl⟩) | (rw [hears_no hb1 hb3 hb6]; exact ⟨rfl, hfix.symm, rfl⟩) | (rw [hears_want hb1 hb3 hb6]; exact ⟨rfl, rfl, rfl⟩) | (rw [hears_dx hb1 hb3 hb6]; exact ⟨rfl, rfl, rfl⟩) | (rw [hears_dw hb1 hb3 hb6]; exact ⟨rfl, rfl, rfl⟩)
  try simp only [bsimp] at hb6
  refine Ok.skip ?_
  refine OQ ?_
  iterate 7 (refine EV ?_)
  refine OkOps.storeE tab_ok rfl rfl M48 ⟨_, _, by simp only [kE]; rfl⟩ M24 M3 (by first | (refine upd_twice ?_ h; simp [-List.map_drop, -List.drop_one, V.travL, V.trav, updS, zz, zf, zy]; done) | (refine upd_twice ?_ h; simp [-List.map_drop, -List.drop_one, V.travL, V.trav, updS, zz, zf, zy]; omega) | rfl) ?_
  refine S29 ?_
  refine Ok.bump (n' := n + 1 + 4) M58 ?_
  refine Ok.region ?_
  refine S16 ?_
  refine S3 ?_
  first | (rw [hears_off hb1]; exact ⟨rfl, hfix.symm, rfl⟩) | (rw [hears_no hb1 hb3 hb6]; exact ⟨rfl, hfix.symm, rfl⟩) | (rw [hears_want hb1 hb3 hb6]; exact ⟨rfl, rfl, rfl⟩) | (rw [hears_dx hb1 hb3 hb6]; exact ⟨rfl, rfl, rfl⟩) | (rw [hears_dw hb1 hb3 hb6]; exact ⟨rfl, rfl, rfl⟩)
 try simp only [bsimp] at hb3
 refine S7 ?_
 refine Ok.seqC [(62, .bool (!wants y.link p))] [51, 52, 53, 54, 55, 56, 57, 58, 59, 60, 61] M51 ?_ ?_
 ·
  refine Ok.drawn 12 72 [] M56 M56 rfl ?_
  iterate 4 (refine SV ?_)
  refine SOps.split (d := 54) M48 M52 M52 (fun hg6_3 => ?_) (fun hg6_3 => ?_)
  ·
   try simp only [bsimp] at hg6_3
   iterate 7 (refine SU ?_)
   refine S23 ?_
   refine ⟨rfl, ?_, rfl, rfl⟩
   (repeat (first | exact trivial | refine leC ?_ | refine leK ?_ ?_)) <;> first | (refine .inl (congrArg V.bool ?_); unfold wants; first | (simp [*]; done) | (simp_all; done)) | exact le_rfl' _
  try simp only [bsimp] at hg6_3
  iterate 7 (refine SN ?_)
  refine S23 ?_
  refine ⟨rfl, ?_, rfl, rfl⟩
  (repeat (first | exact trivial | refine leC ?_ | refine leK ?_ ?_)) <;> first | (refine .inl (congrArg V.bool ?_); unfold wants; first | (simp [*]; done) | (simp_all; done)) | exact le_rfl' _
 refine OC (fun hb6 => ?_) (fun hb6 => ?_)
 ·
  try simp only [bsimp] at hb6
  refine Ok.seq ?_
  refine Ok.bump (n' := n + 1 + 4) M58 ?_
  refine S27 ?_
  refine S3 ?_
  first | (rw [hears_off hb1]; exact ⟨rfl, hfix.symm, rfl⟩) | (rw [hears_no hb1 hb3 hb6]; exact ⟨rfl, hfix.symm, rfl⟩) | (rw [hears_want hb1 hb3 hb6]; exact ⟨rfl, rfl, rfl⟩) | (rw [hears_dx hb1 hb3 hb6]; exact ⟨rfl, rfl, rfl⟩) | (rw [hears_dw hb1 hb3 hb6]; exact ⟨rfl, rfl, rfl⟩)
 try simp only [bsimp] at hb6
 refine Ok.skip ?_
 refine OQ ?_
 iterate 7 (refine EV ?_)
 refine OkOps.storeE tab_ok rfl rfl M48 ⟨_, _, by simp only [kE]; rfl⟩ M24 M3 (by first | (refine upd_twice ?_ h; simp [-List.map_drop, -List.drop_one, V.travL, V.trav, updS, zz, zf, zy]; done) | (refine upd_twice ?_ h; simp [-List.map_drop, -List.drop_one, V.travL, V.trav, updS, zz, zf, zy]; omega) | rfl) ?_
 refine S29 ?_
 refine Ok.bump (n' := n + 1 + 4) M58 ?_
 refine Ok.region ?_
 refine S16 ?_
 refine S3 ?_
 first | (rw [hears_off hb1]; exact ⟨rfl, hfix.symm, rfl⟩) | (rw [hears_no hb1 hb3 hb6]; exact ⟨rfl, hfix.symm, rfl⟩) | (rw [hears_want hb1 hb3 hb6]; exact ⟨rfl, rfl, rfl⟩) | (rw [hears_dx hb1 hb3 hb6]; exact ⟨rfl, rfl, rfl⟩) | (rw [hears_dw hb1 hb3 hb6]; exact ⟨rfl, rfl, rfl⟩)
theorem c_spec_l18Hear (y : Sync) (p : Packet) (L : Nat) (hs : smSync y) (hp : p.text.length ≤ 1000000) (hf : y.pieces.flatten.length ≤ 1000000) {h : List V} {n : Nat} (hlt : Ahd n h) (hL : L + 1 < n) (hfix : V.updL (L + 1) 0 (cSync y) h = h) : OkCall Tryz.prog 31 [.ptr (L + 1) 0 0 (cSync y), .agg (cPacket p)] h n (fun r h1 n1 => r = .str (syncHearsS y p).2 ∧ h1 = V.updL (L + 1) 0 (cSync (syncHearsS y p).1) h ∧ n1 = n + 10) := by
 obtain ⟨n, rfl⟩ : ∃ k, n = k + 1 := ⟨n - 1, by omega⟩
 have nd := NDL [L + 1, n + 1, 0, n + 1 + 1 + 4, n + 1 + 1 + 4 + 1]
 refine OkCall.enter' tab_ok Tryz.func31 rfl (ht := ANYS 108) ?_
 refine S10 ?_
 refine Ok.seq ?_
 refine Ok.stages 110 [0, 1, 2, 3] [(4, [], [5, 6, 7, 8, 9])] M56 M56 rfl ?_
 simp only [ixs, List.getElem?_toArray, List.getElem?_cons_zero, List.getElem?_cons_succ]
 refine S62 ?_
 refine Pend.updG (k := 4) (by simp only [List.getElem?_toArray, List.getElem?_cons_zero, List.getElem?_cons_succ] <;> rfl) M59 M59 M48 M48 cl52 M29 (by repeat (first | exact hlt | exact hlt.mono (by omega) | refine Ahd.upd ?_ (Ahd.cur (by omega) _))) (fun h hlt hfix => c_spec_l17Hear y p L (by have := hs.1.1; omega) hlt (by omega) hfix) (by simp only [eq_self, V.updL, V.travL, V.travLL, V.trav, updS, updP, and_self, true_and, and_true, false_and, and_false, Nat.reduceEqDiff, Nat.reduceSub, Nat.le_refl, Nat.zero_le, ↓reduceIte, if_true, if_false, zz, zf, zy, nd]) (by first | exact hfix | rfl | exact upd_twice (by simp [V.travL, V.trav, updS, zz, zf, zy]) _) (by first | rfl | (simp only [Nat.add_zero, Nat.reduceAdd] <;> rfl)) (by simp only [eq_self, V.updL, V.travL, V.travLL, V.trav, updS, updP, and_self, true_and, and_true, false_and, and_false, Nat.reduceEqDiff, Nat.reduceSub, Nat.le_refl, Nat.zero_le, ↓reduceIte, if_true, if_false, kP, zz, zf, zy, nd] <;> rfl) (rfl) ?_
 simp only [ixs, List.getElem?_toArray, List.getElem?_cons_zero, List.getElem?_cons_succ]
 iterate 5 (refine SV ?_)
 refine SOps.nil ⟨LateOk.A LateOk.nil M58, ?_⟩
 refine Pend.nil ?_
 refine Ok.seq ?_
 refine Ok.seq ?_
 obtain ⟨⟨L1, T, b1⟩, hlh⟩ : ∃ z, hearsS y.link p = z := ⟨_, rfl⟩
 have htl := hearsS_text y.link p
 rw [hlh] at htl ⊢
 dsimp only at htl ⊢
 refine S27 ?_
 refine OC (fun hb2 => ?_) (fun hb2 => ?_)
 ·
  try simp only [bsimp] at hb2
  obtain rfl : b1 = false := by simpa using hb2
  rw [syncHearsS_no hlh]
  refine Ok.seq ?_
  refine Ok.bump (n' := n + 1 + 10) M58 ?_
  refine Ok.region ?_
  refine S22 ?_
  first | exact ⟨rfl, rfl, rfl⟩ | (refine ⟨rfl, ?_, rfl⟩; simp only [cSync, hE1, hE2, hE3, hE4, hot]; done) | (refine ⟨rfl, ?_, rfl⟩; simp only [cSync, hE1, hE2, hE3, hE4, hot]; rfl)
 try simp only [bsimp] at hb2
 obtain rfl : b1 = true := by simpa using hb2
 refine Ok.skip ?_
 refine S65 ?_
 refine OC (fun hb4 => ?_) (fun hb4 => ?_)
 ·
  try simp only [bsimp] at hb4
  obtain rfl : T = [] := hb4
  rw [syncHearsS_empty hlh]
  refine S19 ?_
  refine OkOps.storeE tab_ok rfl rfl M48 ⟨_, _, by simp only [kE]; rfl⟩ M24 M3 (by first | (refine upd_twice ?_ h; simp [-List.map_drop, -List.drop_one, V.travL, V.trav, updS, zz, zf, zy]; done) | (refine upd_twice ?_ h; simp [-List.map_drop, -List.drop_one, V.travL, V.trav, updS, zz, zf, zy]; omega) | rfl) ?_
  refine S29 ?_
  refine Ok.bump (n' := n + 1 + 10) M58 ?_
  refine Ok.region ?_
  refine S22 ?_
  first | exact ⟨rfl, rfl, rfl⟩ | (refine ⟨rfl, ?_, rfl⟩; simp only [cSync, hE1, hE2, hE3, hE4, hot]; done) | (refine ⟨rfl, ?_, rfl⟩; simp only [cSync, hE1, hE2, hE3, hE4, hot]; rfl)
 try simp only [bsimp] at hb4
 have hT0 : 0 < T.length := List.length_pos_iff.2 hb4
 rw [syncHearsS_yes hlh]
 refine Ok.skip ?_
 refine S59 ?_
 refine OkOps.ev tab_ok rfl (ev_byte_lt (j := 0) M48 M48 (hT0) rfl) M52 ?_
 refine ON ?_
 refine Ok.block ?_
 refine Ok.seqC [(32, .bool (isB 84 T))] [33] M51 ?_ ?_
 ·
  refine S27 ?_
  refine ⟨rfl, ?_, rfl, rfl⟩
  (repeat (first | exact trivial | refine leC ?_ | refine leK ?_ ?_)) <;> first | (refine .inl (congrArg V.bool ?_); (first | exact isB84 _ | exact isB80 _ | (simp_all [isB]; done))) | exact le_rfl' _
 refine OC (fun hb10 => ?_) (fun hb10 => ?_)
 ·
  try simp only [bsimp] at hb10
  refine S6 ?_
  refine OW cl53 (w_spec_ReadVar T 1 M58) ?_
  iterate 7 (refine EV ?_)
  refine S29 ?_
  refine Ok.seqC [(51, .bool (tellB T))] [40, 41, 42, 43, 44, 45, 46, 47, 48, 49, 50] M51 ?_ ?_
  ·
   refine S26 ?_
   refine OP (d := 42) (fun hg12_2 => ?_) (fun hg12_2 => ?_)
   ·
    try simp only [bsimp] at hg12_2
    iterate 4 (refine OU ?_)
    iterate 2 (refine EV ?_)
    refine S61 ?_
    refine S2 ?_
    refine ⟨rfl, ?_, rfl, rfl⟩
    (repeat (first | exact trivial | refine leC ?_ | refine leK ?_ ?_)) <;> first | (refine .inl (congrArg V.bool ?_); (first | (simp [tellB, *]; done) | (simp [tellB, *] <;> omega) | (rw [Bool.eq_iff_iff]; simp [tellB, *] <;> omega) | (simp_all [tellB]; done))) | exact le_rfl' _
   try simp only [bsimp] at hg12_2
   iterate 3 (refine OX ?_)
   refine S31 ?_
   refine OP (d := 48) (fun hg12_8 => ?_) (fun hg12_8 => ?_)
   ·
    try simp only [bsimp] at hg12_8
    refine S61 ?_
    refine S2 ?_
    refine ⟨rfl, ?_, rfl, rfl⟩
    (repeat (first | exact trivial | refine leC ?_ | refine leK ?_ ?_)) <;> first | (refine .inl (congrArg V.bool ?_); (first | (simp [tellB, *]; done) | (simp [tellB, *] <;> omega) | (rw [Bool.eq_iff_iff]; simp [tellB, *] <;> omega) | (simp_all [tellB]; done))) | exact le_rfl' _
   try simp only [bsimp] at hg12_8
   refine S18 ?_
   refine S1 ?_
   refine ⟨rfl, ?_, rfl, rfl⟩
   (repeat (first | exact trivial | refine leC ?_ | refine leK ?_ ?_)) <;> first | (refine .inl (congrArg V.bool ?_); (first | (simp [tellB, *]; done) | (simp [tellB, *] <;> omega) | (rw [Bool.eq_iff_iff]; simp [tellB, *] <;> omega) | (simp_all [tellB]; done))) | exact le_rfl' _
  refine OC (fun hb12 => ?_) (fun hb12 => ?_)
  ·
   try simp only [bsimp] at hb12
   rw [syncText_F hb10 (tell_no hb12)]
   refine S19 ?_
   refine OkOps.storeE tab_ok rfl rfl M48 ⟨_, _, by simp only [kE]; rfl⟩ M24 M3 (by first | (refine upd_twice ?_ h; simp [-List.map_drop, -List.drop_one, V.travL, V.trav, updS, zz, zf, zy]; done) | (refine upd_twice ?_ h; simp [-List.map_drop, -List.drop_one, V.travL, V.trav, updS, zz, zf, zy]; omega) | rfl) ?_
   refine S29 ?_
   refine Ok.bump (n' := n + 1 + 10) M58 ?_
   refine Ok.region ?_
   refine S22 ?_
   first | exact ⟨rfl, rfl, rfl⟩ | (refine ⟨rfl, ?_, rfl⟩; simp only [cSync, hE1, hE2, hE3, hE4, hot]; done) | (refine ⟨rfl, ?_, rfl⟩; simp only [cSync, hE1, hE2, hE3, hE4, hot]; rfl)
  try simp only [bsimp] at hb12
  rw [syncText_T hb10 (tell_yes hb12)]
  obtain ⟨o, ho⟩ : ∃ o : Sync, o = { y with link := L1, total := (((readVar T 1).getD (0, 0)).1 : Int) } := ⟨_, rfl⟩
  rw [← ho]
  have hop : o.pieces.flatten.length ≤ 2000000 := by rw [ho]; show y.pieces.flatten.length ≤ _; omega
  have hot : o.total = (((readVar T 1).getD (0, 0)).1 : Int) := by rw [ho]
  have hoP : y.pieces.map cS = o.pieces.map cS := by rw [ho]
  have hol : o.pieces.length ≤ 2097152 := by rw [ho]; exact (by have := hs.2.1; show y.pieces.length ≤ _; omega)
  obtain ⟨hE1, hE2, hE3, hE4⟩ : o.epoch = y.epoch ∧ o.link = L1 ∧ o.done = y.done ∧ o.failed = y.failed := by rw [ho]; exact ⟨rfl, rfl, rfl, rfl⟩
  clear ho
  refine Ok.skip ?_
  refine S35 ?_
  refine OkOps.storeE tab_ok rfl rfl M48 ⟨_, _, by simp only [kE]; rfl⟩ M24 M3 (by first | (refine upd_twice ?_ h; simp [-List.map_drop, -List.drop_one, V.travL, V.trav, updS, zz, zf, zy]; done) | (refine upd_twice ?_ h; simp [-List.map_drop, -List.drop_one, V.travL, V.trav, updS, zz, zf, zy]; omega) | rfl) ?_
  refine S29 ?_
  rw [hoP]
  refine Ok.freeze (n + 1 + 1 + 4) M58 ?_
  have f1 : frz (n + 1 + 1 + 4) (L + 1) = L + 1 := frz_lt M58
  have f2 : frz (n + 1 + 1 + 4) (n + 1) = n + 1 := frz_lt M58
  have f3 : frz (n + 1 + 1 + 4) (n + 1 + 1 + 4) = 0 := if_pos M58
  have f5 : frz (n + 1 + 1 + 4) (n + 1 + 1 + 4 + 1) = 0 := if_pos M58
  have f4 : frz (n + 1 + 1 + 4) 0 = 0 := frz_lt M58
  rw [(hlt.mono M58 : Ahd (n + 1 + 1 + 4) h).ren_upd]
  simp only [V.renL, V.travL, V.trav, zz, zf, zy, f1, f2, f3, f4, f5]
  refine Ok.seqC [(90, .bool (doneB o))] [74, 75, 76, 77, 78, 79, 80, 81, 82, 83, 84, 85, 86, 87, 88, 89] M51 ?_ ?_
  ·
   refine Ok.drawn 17 110 [] M56 M56 rfl ?_
   iterate 6 (refine SV ?_)
   refine SOps.split (d := 79) M48 M52 M52 (fun hg18_5 => ?_) (fun hg18_5 => ?_)
   ·
    try simp only [bsimp] at hg18_5
    iterate 10 (refine SU ?_)
    refine S23 ?_
    refine ⟨rfl, ?_, rfl, rfl⟩
    (repeat (first | exact trivial | refine leC ?_ | refine leK ?_ ?_)) <;> first | (refine .inl (congrArg V.bool ?_); (first | (simp [doneB, hot, *]; done) | (simp_all [doneB]; done))) | exact le_rfl' _
   try simp only [bsimp] at hg18_5
   iterate 10 (refine SN ?_)
   refine S23 ?_
   refine ⟨rfl, ?_, rfl, rfl⟩
   (repeat (first | exact trivial | refine leC ?_ | refine leK ?_ ?_)) <;> first | (refine .inl (congrArg V.bool ?_); (first | (simp [doneB, hot, *]; done) | (simp_all [doneB]; done))) | exact le_rfl' _
  refine OC (fun hb18 => ?_) (fun hb18 => ?_)
  ·
   try simp only [bsimp] at hb18
   rw [done_no hb18]
   refine Ok.seq ?_
   refine Ok.bump (n' := n + 1 + 10) M58 ?_
   refine Ok.region ?_
   refine S22 ?_
   first | exact ⟨rfl, rfl, rfl⟩ | (refine ⟨rfl, ?_, rfl⟩; simp only [cSync, hE1, hE2, hE3, hE4, hot]; done) | (refine ⟨rfl, ?_, rfl⟩; simp only [cSync, hE1, hE2, hE3, hE4, hot]; rfl)
  try simp only [bsimp] at hb18
  rw [done_yes hb18]
  refine Ok.skip ?_
  refine S8 ?_
  refine S28 ?_
  refine Ok.loopW (τ := Nat) (fun x => [(10, .str ((o.pieces.take x).flatten)), (11, .int .i64 (x : Int))]) [91, 92, 93, 94, 95, 96, 97, 98, 99, 100, 101, 102, 103, 104, 105, 106, 107, 108] (fun x => by simp only [kover] <;> rfl) (fun x => x ≤ o.pieces.length) (fun x => o.pieces.length - x) 0 (by (repeat (first | exact trivial | refine leC ?_ | refine leK ?_ ?_)) <;> first | (first | exact le_rfl' _ | exact le_eqm rfl) | exact le_rfl' _) (Nat.zero_le _) ?_
  rintro i h1
  refine S5 ?_
  iterate 7 (refine EV ?_)
  refine ON ?_
  refine OC (fun hb22 => ?_) (fun hb22 => ?_)
  ·
   try simp only [bsimp] at hb22
   have hi : i < o.pieces.length := by omega
   have hfl := flat_take hi
   have hfb := flatT_le (l := o.pieces) (i + 1)
   rw [hfl, List.length_append] at hfb
   refine S14 ?_
   refine Ok.region ?_
   iterate 6 (refine EV ?_)
   refine OkOps.ev tab_ok rfl (ev_idx_map M48 M48 M58 M48) M52 ?_
   refine EV ?_
   refine OkOps.ev tab_ok rfl (ev_cat M48 M48 M21) M112 ?_
   refine S63 ?_
   refine ⟨i + 1, ?_, rfl, rfl, by omega, by omega⟩
   (repeat (first | exact trivial | refine leC ?_ | refine leK ?_ ?_)) <;> first | (first | exact le_rfl' _ | (rw [wrap_add_one (by omega)]; exact le_rfl' _) | (rw [hfl]; exact le_rfl' _)) | exact le_rfl' _
  try simp only [bsimp] at hb22
  rw [show i = o.pieces.length by omega, List.take_length]
  refine S54 ?_
  refine Ok.bump (n' := n + 1 + 10) M58 ?_
  refine S27 ?_
  refine S3 ?_
  first | exact ⟨rfl, rfl, rfl⟩ | (refine ⟨rfl, ?_, rfl⟩; simp only [cSync, hE1, hE2, hE3, hE4, hot]; done) | (refine ⟨rfl, ?_, rfl⟩; simp only [cSync, hE1, hE2, hE3, hE4, hot]; rfl)
 try simp only [bsimp] at hb10
 refine Ok.seqC [(59, .bool (isB 80 T))] [60] M51 ?_ ?_
 ·
  refine S27 ?_
  refine ⟨rfl, ?_, rfl, rfl⟩
  (repeat (first | exact trivial | refine leC ?_ | refine leK ?_ ?_)) <;> first | (refine .inl (congrArg V.bool ?_); (first | exact isB84 _ | exact isB80 _ | (simp_all [isB]; done))) | exact le_rfl' _
 refine OC (fun hb16 => ?_) (fun hb16 => ?_)
 ·
  try simp only [bsimp] at hb16
  rw [syncText_P hb10 hb16]
  obtain ⟨r, hxr⟩ := isB_cond.1 hb16
  have hT1 : 1 ≤ T.length := by rw [hxr]; simp
  obtain ⟨o, ho⟩ : ∃ o : Sync, o = { y with link := L1, pieces := y.pieces ++ [T.drop 1] } := ⟨_, rfl⟩
  rw [← ho]
  have hot : o.total = y.total := by rw [ho]
  have hol : o.pieces.length ≤ 2097152 := by rw [ho]; show (y.pieces ++ [_]).length ≤ _; have := hs.2.1; simp only [List.length_append, List.length_singleton]; omega
  have hoP : y.pieces.map cS ++ [[V.str (T.drop 1)]] = o.pieces.map cS := by rw [ho]; simp
  obtain ⟨hE1, hE2, hE3, hE4⟩ : o.epoch = y.epoch ∧ o.link = L1 ∧ o.done = y.done ∧ o.failed = y.failed := by rw [ho]; exact ⟨rfl, rfl, rfl, rfl⟩
  have hop : o.pieces.flatten.length ≤ 2000000 := by rw [ho]; show (y.pieces ++ [T.drop 1]).flatten.length ≤ _; simp only [List.flatten_append, List.flatten_cons, List.flatten_nil, List.append_nil, List.length_append, List.length_drop]; omega
  clear ho
  refine Ok.drawn 10 110 [0] M56 M56 rfl ?_
  iterate 6 (refine SV ?_)
  refine SOps.S rfl (ok_append_nil tab_ok M53 M53 M57 rfl rfl M48 (.inl ⟨_, _, by simp only [kE, kT, kL, kC] <;> rfl⟩) (by have := hs.2.1; simp only [List.length_map]; omega) (by have := hs.2.1; simp only [List.length_map]; omega)) M110 ?_
  refine SV ?_
  refine SOps.ev tab_ok rfl (ev_cutLo (a := 1) M48 M48 rfl M58) M52 ?_
  refine SOps.ev tab_ok rfl (ev_bs M53 M53 M57 M57 M37 M16) M52 ?_
  refine SOps.nil ?_
  refine TOps.appendL tab_ok rfl rfl M53 M53 M57 rfl M48 (.inl ⟨_, _, by simp only [kE, kT, kL, kC] <;> rfl⟩) M58 M58 (by have := hs.2.1; simp only [List.length_map, List.length_cons, List.length_nil]; omega) (by have := hs.2.1; simp only [List.length_map, List.length_cons, List.length_nil]; omega) M55 M11 M9 (Ahd.killL (Ahd.upd (hlt.mono M58) (by intro z hz; simp [V.labelsL, V.labels, V.labelsLL, zz, zf, zy] at hz; omega))) (LateOk.cons (i := 0) tab_ok M59 M59 M79 M92 LateOk.nil) ?_
  refine TOps.evL tab_ok rfl M48 M52 (LateOk.cons (i := 0) tab_ok M59 M59 M79 M92 LateOk.nil) ?_
  refine TOps.evL tab_ok rfl M48 M52 (LateOk.cons (i := 0) tab_ok M59 M59 M79 M92 LateOk.nil) ?_
  refine TOps.storeL tab_ok rfl rfl rfl M48 ⟨_, _, by simp only [kE]; rfl⟩ M24 M3 (by first | (refine upd_twice ?_ h; simp [-List.map_drop, -List.drop_one, V.travL, V.trav, updS, zz, zf, zy]; done) | (refine upd_twice ?_ h; simp [-List.map_drop, -List.drop_one, V.travL, V.trav, updS, zz, zf, zy]; omega) | rfl) (LateOk.cons (i := 0) tab_ok (by rfl) (by rfl) (by (try simp only [List.getElem_toArray, List.getElem_cons_succ, List.getElem_cons_zero]); exact (by simp only [kE, kT, kL, kC] <;> rfl)) (by show nth _ 61 = _; simp only [kE, kT, kL, kC] <;> rfl) LateOk.nil) ?_
  refine TOps.nil ?_
  refine Ok.seq ?_
  rw [hoP]
  refine Ok.freeze (n + 1 + 1 + 4) M58 ?_
  have f1 : frz (n + 1 + 1 + 4) (L + 1) = L + 1 := frz_lt M58
  have f2 : frz (n + 1 + 1 + 4) (n + 1) = n + 1 := frz_lt M58
  have f3 : frz (n + 1 + 1 + 4) (n + 1 + 1 + 4) = 0 := if_pos M58
  have f5 : frz (n + 1 + 1 + 4) (n + 1 + 1 + 4 + 1) = 0 := if_pos M58
  have f4 : frz (n + 1 + 1 + 4) 0 = 0 := frz_lt M58
  rw [(hlt.mono M58 : Ahd (n + 1 + 1 + 4) h).ren_upd]
  simp only [V.renL, V.travL, V.trav, zz, zf, zy, f1, f2, f3, f4, f5]
  refine Ok.seqC [(90, .bool (doneB o))] [74, 75, 76, 77, 78, 79, 80, 81, 82, 83, 84, 85, 86, 87, 88, 89] M51 ?_ ?_
  ·
   refine Ok.drawn 17 110 [] M56 M56 rfl ?_
   iterate 6 (refine SV ?_)
   refine SOps.split (d := 79) M48 M52 M52 (fun hg18_5 => ?_) (fun hg18_5 => ?_)
   ·
    try simp only [bsimp] at hg18_5
    iterate 10 (refine SU ?_)
    refine S23 ?_
    refine ⟨rfl, ?_, rfl, rfl⟩
    (repeat (first | exact trivial | refine leC ?_ | refine leK ?_ ?_)) <;> first | (refine .inl (congrArg V.bool ?_); (first | (simp [doneB, hot, *]; done) | (simp_all [doneB]; done))) | exact le_rfl' _
   try simp only [bsimp] at hg18_5
   iterate 10 (refine SN ?_)
   refine S23 ?_
   refine ⟨rfl, ?_, rfl, rfl⟩
   (repeat (first | exact trivial | refine leC ?_ | refine leK ?_ ?_)) <;> first | (refine .inl (congrArg V.bool ?_); (first | (simp [doneB, hot, *]; done) | (simp_all [doneB]; done))) | exact le_rfl' _
  refine OC (fun hb18 => ?_) (fun hb18 => ?_)
  ·
   try simp only [bsimp] at hb18
   rw [done_no hb18]
   refine Ok.seq ?_
   refine Ok.bump (n' := n + 1 + 10) M58 ?_
   refine Ok.region ?_
   refine S22 ?_
   first | exact ⟨rfl, rfl, rfl⟩ | (refine ⟨rfl, ?_, rfl⟩; simp only [cSync, hE1, hE2, hE3, hE4, hot]; done) | (refine ⟨rfl, ?_, rfl⟩; simp only [cSync, hE1, hE2, hE3, hE4, hot]; rfl)
  try simp only [bsimp] at hb18
  rw [done_yes hb18]
  refine Ok.skip ?_
  refine S8 ?_
  refine S28 ?_
  refine Ok.loopW (τ := Nat) (fun x => [(10, .str ((o.pieces.take x).flatten)), (11, .int .i64 (x : Int))]) [91, 92, 93, 94, 95, 96, 97, 98, 99, 100, 101, 102, 103, 104, 105, 106, 107, 108] (fun x => by simp only [kover] <;> rfl) (fun x => x ≤ o.pieces.length) (fun x => o.pieces.length - x) 0 (by (repeat (first | exact trivial | refine leC ?_ | refine leK ?_ ?_)) <;> first | (first | exact le_rfl' _ | exact le_eqm rfl) | exact le_rfl' _) (Nat.zero_le _) ?_
  rintro i h1
  refine S5 ?_
  iterate 7 (refine EV ?_)
  refine ON ?_
  refine OC (fun hb22 => ?_) (fun hb22 => ?_)
  ·
   try simp only [bsimp] at hb22
   have hi : i < o.pieces.length := by omega
   have hfl := flat_take hi
   have hfb := flatT_le (l := o.pieces) (i + 1)
   rw [hfl, List.length_append] at hfb
   refine S14 ?_
   refine Ok.region ?_
   iterate 6 (refine EV ?_)
   refine OkOps.ev tab_ok rfl (ev_idx_map M48 M48 M58 M48) M52 ?_
   refine EV ?_
   refine OkOps.ev tab_ok rfl (ev_cat M48 M48 M21) M112 ?_
   refine S63 ?_
   refine ⟨i + 1, ?_, rfl, rfl, by omega, by omega⟩
   (repeat (first | exact trivial | refine leC ?_ | refine leK ?_ ?_)) <;> first | (first | exact le_rfl' _ | (rw [wrap_add_one (by omega)]; exact le_rfl' _) | (rw [hfl]; exact le_rfl' _)) | exact le_rfl' _
  try simp only [bsimp] at hb22
  rw [show i = o.pieces.length by omega, List.take_length]
  refine S54 ?_
  refine Ok.bump (n' := n + 1 + 10) M58 ?_
  refine S27 ?_
  refine S3 ?_
  first | exact ⟨rfl, rfl, rfl⟩ | (refine ⟨rfl, ?_, rfl⟩; simp only [cSync, hE1, hE2, hE3, hE4, hot]; done) | (refine ⟨rfl, ?_, rfl⟩; simp only [cSync, hE1, hE2, hE3, hE4, hot]; rfl)
 try simp only [bsimp] at hb16
 rw [syncText_X hb10 hb16]
 refine S19 ?_
 refine OkOps.storeE tab_ok rfl rfl M48 ⟨_, _, by simp only [kE]; rfl⟩ M24 M3 (by first | (refine upd_twice ?_ h; simp [-List.map_drop, -List.drop_one, V.travL, V.trav, updS, zz, zf, zy]; done) | (refine upd_twice ?_ h; simp [-List.map_drop, -List.drop_one, V.travL, V.trav, updS, zz, zf, zy]; omega) | rfl) ?_
 refine S29 ?_
 refine Ok.bump (n' := n + 1 + 10) M58 ?_
 refine Ok.region ?_
 refine S22 ?_
 first | exact ⟨rfl, rfl, rfl⟩ | (refine ⟨rfl, ?_, rfl⟩; simp only [cSync, hE1, hE2, hE3, hE4, hot]; done) | (refine ⟨rfl, ?_, rfl⟩; simp only [cSync, hE1, hE2, hE3, hE4, hot]; rfl)
end Go.Proofs.YtiipkeendfpddaaGreat.K

/- Plain: bytes drawn. -/
namespace Go.Proofs.YtiipkeendfpddaaGreat.K
open Go Go.RowKit
set_option linter.unusedVariables false
def bytesD : Nat → Cur → Str × Cur
  | 0, c => ([], c)
  | k + 1, c => ((bytesD k c).1 ++ [UInt8.ofNat (curByte (bytesD k c).2).1], (curByte (bytesD k c).2).2)
theorem bytesD_len : ∀ (k : Nat) (c : Cur), (bytesD k c).1.length = k
  | 0, c => rfl
  | k + 1, c => by show ((bytesD k c).1 ++ [_]).length = _; rw [List.length_append, bytesD_len k c]; rfl
theorem bytesD_b : ∀ (k : Nat) (c : Cur), (bytesD k c).2.b = c.b
  | 0, c => rfl
  | k + 1, c => (curByte_b _).trans (bytesD_b k c)
end Go.Proofs.YtiipkeendfpddaaGreat.K

/- Walks: syncs compared, syncs that hear, bytes drawn. Printed by w2.py. -/
namespace Go.Proofs.YtiipkeendfpddaaGreat.K
open Go Go.RowKit
set_option linter.unusedVariables false
set_option linter.unusedSimpArgs false
set_option maxHeartbeats 4000000
set_option maxRecDepth 20000
theorem w_laws_sameLink (a b : Link) : Weak Tryz.prog 44 [.agg (cLink a), .agg (cLink b)] (.bool (decide (a = b))) := by
 refine Weak.enter tab_ok Tryz.func44 rfl (.inr M46) (ht := ANYS 29) ?_
 refine S34 ?_
 refine OQ ?_
 iterate 6 (refine EV ?_)
 refine OP (d := 10) (fun hg1_5 => ?_) (fun hg1_5 => ?_)
 ·
  try simp only [bsimp] at hg1_5
  refine S57 ?_
  refine OW cl16 (w_laws_sameTexts _ _) ?_
  iterate 2 (refine EV ?_)
  refine OP (d := 17) (fun hg1_12 => ?_) (fun hg1_12 => ?_)
  ·
   try simp only [bsimp] at hg1_12
   iterate 4 (refine OX ?_)
   refine S31 ?_
   refine OP (d := 24) (fun hg1_19 => ?_) (fun hg1_19 => ?_)
   ·
    try simp only [bsimp] at hg1_19
    refine S57 ?_
    refine S4 ?_
    refine S3 ?_
    first | (rw [show decide (a = b) = decide (a.want = b.want) from decide_eq_decide.2 ⟨fun h => by rw [h], fun h => by cases a; cases b; simp_all⟩]; rfl) | first | (rw [decide_eq_true (by cases a; cases b; simp_all)]; rfl) | (rw [decide_eq_false (by intro h; subst h; simp_all)]; rfl)
   try simp only [bsimp] at hg1_19
   iterate 5 (refine OU ?_)
   refine S41 ?_
   first | (rw [show decide (a = b) = decide (a.want = b.want) from decide_eq_decide.2 ⟨fun h => by rw [h], fun h => by cases a; cases b; simp_all⟩]; rfl) | first | (rw [decide_eq_true (by cases a; cases b; simp_all)]; rfl) | (rw [decide_eq_false (by intro h; subst h; simp_all)]; rfl)
  try simp only [bsimp] at hg1_12
  iterate 5 (refine OU ?_)
  iterate 2 (refine EV ?_)
  iterate 5 (refine OU ?_)
  refine S41 ?_
  first | (rw [show decide (a = b) = decide (a.want = b.want) from decide_eq_decide.2 ⟨fun h => by rw [h], fun h => by cases a; cases b; simp_all⟩]; rfl) | first | (rw [decide_eq_true (by cases a; cases b; simp_all)]; rfl) | (rw [decide_eq_false (by intro h; subst h; simp_all)]; rfl)
 try simp only [bsimp] at hg1_5
 iterate 5 (refine OU ?_)
 iterate 2 (refine EV ?_)
 iterate 5 (refine OU ?_)
 iterate 2 (refine EV ?_)
 iterate 5 (refine OU ?_)
 refine S41 ?_
 first | (rw [show decide (a = b) = decide (a.want = b.want) from decide_eq_decide.2 ⟨fun h => by rw [h], fun h => by cases a; cases b; simp_all⟩]; rfl) | first | (rw [decide_eq_true (by cases a; cases b; simp_all)]; rfl) | (rw [decide_eq_false (by intro h; subst h; simp_all)]; rfl)
theorem w_laws_sameSync (a : Sync) : Weak Tryz.prog 15 [.agg (cSync a), .agg (cSync a)] (.bool true) := by
 refine Weak.enter tab_ok Tryz.func15 rfl (.inr M46) (ht := ANYS 43) ?_
 refine S34 ?_
 refine S38 ?_
 refine OkOps.ev tab_ok rfl M31 M52 ?_
 refine EV ?_
 refine S57 ?_
 refine OW cl44 ((by have h := w_laws_sameLink a.link a.link; rwa [decide_eq_true rfl] at h)) ?_
 iterate 2 (refine EV ?_)
 refine S57 ?_
 refine OkOps.ev tab_ok rfl M31 M52 ?_
 iterate 2 (refine EV ?_)
 refine S57 ?_
 refine OW cl16 ((by have h := w_laws_sameTexts a.pieces a.pieces; rwa [decide_eq_true rfl] at h)) ?_
 iterate 2 (refine EV ?_)
 refine S57 ?_
 refine OkOps.ev tab_ok rfl M31 M52 ?_
 iterate 2 (refine EV ?_)
 refine S57 ?_
 refine OkOps.ev tab_ok rfl M31 M52 ?_
 refine S41 ?_
 rfl
theorem w_spec_SyncEnds (y : Sync) (b : Bool) (h : smSync y) : Weak Tryz.prog 19 [.agg (cSync y), .bool b] (.agg (cSync (syncEnds y b))) := by
 refine Weak.enter tab_ok Tryz.func19 rfl (.inr M46) (ht := ANYS 10) ?_
 refine S10 ?_
 refine S6 ?_
 refine OW cl30 (((p_spec_l18Copy y h).weak' M44 M95 M43)) ?_
 refine S33 ?_
 refine S5 ?_
 refine S2 ?_
 refine OC (fun hb2 => ?_) (fun hb2 => ?_)
 ·
  try simp only [bsimp] at hb2
  rw [syncEnds_t hb2]
  refine S15 ?_
  refine S17 ?_
  refine S6 ?_
  refine S17 ?_
  refine S3 ?_
  first | rfl | (simp [V.erase, V.trav, V.travL, V.travLL, packV, zz, zf, zy]; done)
 try simp only [bsimp] at hb2
 rw [syncEnds_f hb2]
 refine S15 ?_
 refine S17 ?_
 refine S6 ?_
 refine S17 ?_
 refine S3 ?_
 first | rfl | (simp [V.erase, V.trav, V.travL, V.travLL, packV, zz, zf, zy]; done)
theorem w_spec_SyncOver (y : Sync) : Weak Tryz.prog 21 [.agg (cSync y)] (.bool (syncOver y)) := by
 refine Weak.enter tab_ok Tryz.func21 rfl (.inr M46) (ht := ANYS 11) ?_
 refine S10 ?_
 refine S19 ?_
 refine OP (d := 5) (fun hg1_2 => ?_) (fun hg1_2 => ?_)
 ·
  try simp only [bsimp] at hg1_2
  refine S57 ?_
  refine S4 ?_
  refine S3 ?_
  first | (simp_all [syncOver, V.erase, V.trav, packV, kE]; done) | (simp [syncOver, *, V.erase, V.trav, packV, kE]; done)
 try simp only [bsimp] at hg1_2
 iterate 5 (refine OU ?_)
 refine S41 ?_
 first | (simp_all [syncOver, V.erase, V.trav, packV, kE]; done) | (simp [syncOver, *, V.erase, V.trav, packV, kE]; done)
theorem w_spec_SyncHears (y : Sync) (p : Packet) (hs : smSync y) (hp : p.text.length ≤ 1000000) (hf : y.pieces.flatten.length ≤ 1000000) : Weak Tryz.prog 7 [.agg (cSync y), .agg (cPacket p)] (vYS (syncHearsS y p)) := by
 refine Weak.enter tab_ok Tryz.func7 rfl (.inr M33) (ht := ANYS 12) ?_
 refine S64 ?_
 refine S6 ?_
 refine OW cl30 (((p_spec_l18Copy y hs).weak' M44 M95 M43)) ?_
 refine S33 ?_
 refine S6 ?_
 refine OkOps.updG (k := 10) rfl rfl M48 M48 cl31 M29 (Ahd.nil _) (fun h hlt hfix => c_spec_l18Hear y p 3 hs hp hf hlt M58 hfix) M8 (rfl) M38 M65 (rfl) ?_
 refine S2 ?_
 refine S11 ?_
 refine S30 ?_
 first | rfl | (simp [V.erase, V.trav, V.travL, V.travLL, packV, zz, zf, zy]; done)
theorem c_spec_l01TextN (c : Cur) (m : Nat) (L : Nat) (hb : c.b.length ≤ 4611686018427387904) (hm : m ≤ 100) {h : List V} {n : Nat} (hlt : Ahd n h) (hL : L + 1 < n) (hfix : V.updL (L + 1) 0 (cCur c) h = h) : OkCall Tryz.prog 47 [.ptr (L + 1) 0 0 (cCur c), .int .i64 (m : Int)] h n (fun r h1 n1 => r = .str (bytesD m c).1 ∧ h1 = V.updL (L + 1) 0 (cCur (bytesD m c).2) h ∧ n1 = n + (m + 1)) := by
 have nd := NDL [L + 1, n, n + 1, 0]
 have hm5 : ¬ (m : Int) > 5000 := by omega
 refine OkCall.enter' tab_ok Tryz.func47 rfl (ht := ANYS 21) ?_
 refine S8 ?_
 refine S65 ?_
 refine OC (fun hb1 => ?_) (fun hb1 => ?_)
 ·
  try simp only [bsimp] at hb1
  exfalso; omega
 try simp only [bsimp] at hb1
 refine Ok.skip ?_
 refine S10 ?_
 refine S28 ?_
 refine Ok.loopHN (τ := Nat) (fun x => [(0, .ptr (L + 1) 0 0 (cCur (bytesD x c).2)), (5, .sl n 1 0 ((bytesD x c).1.map cB)), (6, .int .i64 (x : Int))]) [10, 11, 12, 13, 14, 15, 16, 17, 18, 19, 20] (fun x => by simp only [kover] <;> rfl) (fun x => V.updL (L + 1) 0 (cCur (bytesD x c).2) h) (fun x => n + 1 + x) (fun x => x ≤ m) (fun x => m - x) 0 (by (repeat (first | exact trivial | refine leC ?_ | refine leK ?_ ?_)) <;> first | (first | exact le_rfl' _ | exact le_nil n 1) | exact le_rfl' _) (hfix.symm) ((by omega)) (Nat.zero_le _) ?_
 rintro i h1
 have hll := bytesD_len i c
 have hcb : (bytesD i c).2.b.length ≤ 4611686018427387904 := by rw [bytesD_b]; exact hb
 refine S5 ?_
 refine S4 ?_
 refine OC (fun hb5 => ?_) (fun hb5 => ?_)
 ·
  try simp only [bsimp] at hb5
  refine S14 ?_
  refine S20 ?_
  refine OkOps.upd rfl rfl M48 M48 cl45 (fun h => c_spec_l01Byte (bytesD i c).2 L hcb) M3 (upd_twice M45 h) ?_
  refine OkOps.ev tab_ok rfl M101 M52 ?_
  refine OkOps.ev tab_ok rfl (ev_bs M53 M53 M57 M57 M37 M16) M52 ?_
  refine OkOps.append tab_ok rfl rfl M53 M53 M57 rfl M48 (.inl ⟨_, _, by simp only [kE, kT, kL, kC] <;> rfl⟩) M58 M58 (by simp only [List.length_map, List.length_nil, List.length_cons]; omega) (by simp only [List.length_map, List.length_nil, List.length_cons]; omega) M55 M11 M9 (Ahd.killL (by repeat (first | exact hlt | exact hlt.mono (by omega) | refine Ahd.upd ?_ (Ahd.cur (by omega) _)))) ?_
  refine S63 ?_
  refine ⟨i + 1, ?_, rfl, M58, by omega, by omega⟩
  (repeat (first | exact trivial | refine leC ?_ | refine leK ?_ ?_)) <;> first | (first | exact le_rfl' _ | (rw [wrap_succ (by omega)]; exact le_rfl' _) | (refine le_eqm ?_; show _ = V.sl n 1 0 (((bytesD i c).1 ++ [_]).map cB); rw [List.map_append]; rfl)) | exact le_rfl' _
 try simp only [bsimp] at hb5
 obtain rfl : i = m := by omega
 refine Ok.exit ?_
 refine S6 ?_
 refine OkOps.ev tab_ok rfl (ev_text' M48 rfl rfl rfl M22) M52 ?_
 refine S22 ?_
 exact ⟨rfl, rfl, by omega⟩
end Go.Proofs.YtiipkeendfpddaaGreat.K

/- Plain: rounds of a sync; a text is carried whole. -/
namespace Go.Proofs.YtiipkeendfpddaaGreat.K
open Go Go.RowKit
set_option linter.unusedVariables false
theorem pieces_flat (t : Str) : ∀ i, (piecesT t i).flatten = t.take (120 * i)
  | 0 => by simp [piecesT]
  | i + 1 => by
    rw [pieces_next, List.flatten_append, pieces_flat t i]
    unfold pieceT
    rw [show 120 * (i + 1) = 120 * i + 120 by omega, List.take_add]
    simp
theorem pieces_all (t : Str) : (piecesT t (pieceN t)).flatten = t := by
  rw [pieces_flat, List.take_of_length_le]
  unfold pieceN; omega
def heardY (t : Str) (y : Sync) (i : Nat) : Sync := { y with total := if i = 0 then 0 else (pieceN t : Int), pieces := piecesT t (i - 1) }
def lkY (L : List Str) (i w : Nat) : Link := ⟨5, L.drop i, ((1 + i : Nat) : Int), ((1 + w : Nat) : Int)⟩
def upY (L : List Str) (i m : Nat) : Nat := if i < L.length ∧ m = i + 1 then i + 1 else i
def sideY (t u : Str) (i w : Nat) : Sync := heardY u ⟨5, lkY (begT t (pieceN t)) i w, 0, [], false, false⟩ w
def stA (t u : Str) (k : Nat) : Sync := sideY t u (min k (pieceN t + 1)) (min k (pieceN u + 1))
def stB (t u : Str) (k : Nat) : Sync := sideY u t (min (k - 1) (pieceN u + 1)) (min k (pieceN t + 1))
def gotY (t : Str) (k : Nat) : Str := if pieceN t + 1 ≤ k then t else []
theorem begT_short {t x : Str} (ht : pieceN t < 60) (h : x ∈ begT t (pieceN t)) : x.length ≤ 1000 := by
  unfold begT at h
  rcases List.mem_cons.1 h with rfl | h
  · have := varT_len5 (n := pieceN t) M58
    unfold begH; rw [List.length_cons]; omega
  · obtain ⟨p, hp, rfl⟩ := List.mem_map.1 h
    unfold piecesT at hp
    obtain ⟨k, -, rfl⟩ := List.mem_map.1 hp
    have := piece_len t k
    rw [List.length_cons]; omega
theorem varI_len4 {n : Nat} (h : n ≤ 2097151) : (varT n).length ≤ 3 := by
  have e : ∀ m, m ≤ 127 → (varT m).length = 1 := fun m hm => by rw [varT_lo hm]; rfl
  have s : ∀ m k, 127 < m → (varT (m / 128)).length ≤ k → (varT m).length ≤ k + 1 := fun m k hm hk => by rw [varT_hi hm]; simpa using hk
  rcases Nat.lt_or_ge 127 n with h1 | h1
  · refine s n 2 h1 ?_
    rcases Nat.lt_or_ge 127 (n / 128) with h2 | h2
    · refine s _ 1 h2 ?_
      rw [e _ M58]
      exact Nat.le_refl 1
    · rw [e _ h2]; omega
  · rw [e _ h1]; omega
theorem varI3 {z : Int} (h : z ≤ 2097151) : (varT z.toNat).length ≤ 3 := varI_len4 M58
theorem gone3 {l : List Int} (h : ∀ g ∈ l, 1 ≤ g ∧ g ≤ 9999) : (l.flatMap gT).length ≤ l.length * 3 := flat_le fun g hg => varI3 (by have := (h g hg).2; omega)
theorem mailT3 {m : Mail} (h : mailOk m = true) : (mailT m).length ≤ 115 := by
  obtain ⟨h1, h2, h3, h4, h5⟩ := mailOk_is h
  have hs := mail_small h
  have q1 := varI3 (z := m.gid) M58
  have q2 := varI3 (z := m.uid) M58
  have q3 := regs_len h3
  have q4 := varI_len4 (n := m.text.length) M58
  simp only [mailT, List.length_append]; omega
theorem mails3 {l : List Mail} (h : ∀ m ∈ l, mailOk m = true) : (l.flatMap mailT).length ≤ l.length * 115 := flat_le fun m hm => mailT3 (h m hm)
theorem boxT3 {b : Box} (h : boxOk b = true) : (boxT b).length ≤ 1310 := by
  obtain ⟨h1, h2, h3, h4, h5, h6, h7, h8⟩ := boxOk_is h
  have q1 := varI3 (z := b.gid) M58
  have q2 := varI3 (z := b.named.time) M58
  have q3 := varI3 (z := b.named.by_) M58
  have q4 := varI3 (z := b.next) M58
  have q5 := varI_len4 (n := b.name.length) M58
  have q6 := varI_len4 (n := b.mails.length) M58
  have q7 := varI_len4 (n := b.gone.length) M58
  have q8 := mails3 h6
  have q9 := gone3 h7
  simp only [boxT, goneT_eq, List.length_append]; omega
theorem boxes3 {l : List Box} (h : ∀ b ∈ l, boxOk b = true) : (l.flatMap boxT).length ≤ l.length * 1310 := flat_le fun b hb => boxT3 (h b hb)
theorem storeB3 {s : Store} (h : storeOk s = true) : (storeB s).length ≤ 7000 := by
  obtain ⟨h1, h2, h3, h4, h5, h6⟩ := storeOk_is h
  have q1 := varI3 (z := s.by_) M58
  have q2 := varI3 (z := s.time) M58
  have q3 := varI_len4 (n := s.boxes.length) M58
  have q4 := varI_len4 (n := s.gone.length) M58
  have q5 := boxes3 h4
  have q6 := gone3 h5
  simp only [storeB, goneT_eq, List.length_append]; omega
theorem begOk_ok {s : Store} (h : storeOk s = true) : begOk s = true ∧ 1 ≤ pieceN (stT s) ∧ pieceN (stT s) < 60 ∧ storeText s = some (stT s) := by
  have e := storeText_yes h
  have e2 : stT s = sealT (storeB s) := by unfold stT; rw [e]; rfl
  have h1 := storeB3 h
  have h2 := sealT_len (storeB s)
  have h3 : 4 ≤ (sealT (storeB s)).length := by
    unfold sealT; rw [List.length_append]; have : (fourT (sumOf (storeB s))).length = 4 := rfl; omega
  have h4 : pieceN (stT s) < 60 := by unfold pieceN; rw [e2]; omega
  refine ⟨?_, by unfold pieceN; rw [e2]; omega, h4, by rw [e, e2]⟩
  unfold begOk
  rw [e, decide_eq_true h4]; rfl
end Go.Proofs.YtiipkeendfpddaaGreat.K

/- Plain: what drawn syncs are like. -/
namespace Go.Proofs.YtiipkeendfpddaaGreat.K
open Go Go.RowKit
set_option linter.unusedVariables false
structure SyI (k : Nat) (y : Sync) : Prop where
  way : y.link.way.length ≤ 60
  wayS : ∀ x ∈ y.link.way, x.length ≤ 1000
  next1 : 1 ≤ y.link.next
  next2 : y.link.next ≤ 1 + (k : Int)
  pcs : y.pieces.length ≤ k
  pcsS : ∀ x ∈ y.pieces, x.length ≤ 10
theorem flat_sum {l : List Str} {m : Nat} (h : ∀ x ∈ l, x.length ≤ m) : l.flatten.length ≤ l.length * m := by
  induction l with
  | nil => exact Nat.zero_le _
  | cons x l ih =>
    have h1 := h x (List.mem_cons_self ..)
    have h2 := ih (fun z hz => h z (List.mem_cons_of_mem _ hz))
    rw [List.flatten_cons, List.length_append, List.length_cons, Nat.add_mul]; omega
theorem SyI.sm {k : Nat} {y : Sync} (h : SyI k y) (hk : k ≤ 100) : smSync y ∧ y.pieces.flatten.length ≤ 1000000 := by
  refine ⟨⟨⟨by have := h.way; omega, fun x hx => by have := h.wayS x hx; omega⟩, ⟨by have := h.pcs; omega, fun x hx => by have := h.pcsS x hx; omega⟩⟩, ?_⟩
  have h1 := flat_sum h.pcsS
  have h2 := h.pcs
  omega
theorem SyI.mono {k m : Nat} {y : Sync} (h : SyI k y) (hm : k ≤ m) : SyI m y := ⟨h.way, h.wayS, h.next1, by have := h.next2; omega, by have := h.pcs; omega, h.pcsS⟩
structure LkI (k : Nat) (l : Link) : Prop where
  way : l.way.length ≤ 60
  wayS : ∀ x ∈ l.way, x.length ≤ 1000
  next1 : 1 ≤ l.next
  next2 : l.next ≤ 1 + (k : Int)
theorem hearsS_lk {k : Nat} {l : Link} {p : Packet} (hk : k ≤ 100) (h : LkI k l) : LkI (k + 1) (hearsS l p).1 := by
  have h1 := h.next1; have h2 := h.next2
  have hw : IntKind.i64.wrap (l.next + 1) = l.next + 1 := by rw [IntKind.wrap_i64]; omega
  have h0 : LkI (k + 1) l := ⟨h.way, h.wayS, h1, by omega⟩
  have hd : LkI (k + 1) { l with way := l.way.drop 1, next := IntKind.i64.wrap (l.next + 1) } := by
    refine ⟨by show (l.way.drop 1).length ≤ 60; rw [List.length_drop]; have := h.way; omega, fun x hx => h.wayS x (List.mem_of_mem_drop hx), ?_, ?_⟩
    · show 1 ≤ IntKind.i64.wrap (l.next + 1); omega
    · show IntKind.i64.wrap (l.next + 1) ≤ _; omega
  have hg : ∀ l1 : Link, LkI (k + 1) l1 → LkI (k + 1) (if p.seq = 0 ∨ p.seq ≠ l1.want then (l1, ([] : Str), false) else ({ l1 with want := IntKind.i64.wrap (l1.want + 1) }, p.text, true)).1 := by
    intro l1 h3
    split
    · exact h3
    · exact ⟨h3.way, h3.wayS, h3.next1, h3.next2⟩
  unfold hearsS
  split
  · exact h0
  · refine hg _ ?_
    split
    · exact hd
    · exact h0
theorem SyI.of {k : Nat} {y : Sync} (l : LkI k y.link) (h1 : y.pieces.length ≤ k) (h2 : ∀ x ∈ y.pieces, x.length ≤ 10) : SyI k y := ⟨l.way, l.wayS, l.next1, l.next2, h1, h2⟩
theorem syncDone_1 (o : Sync) : (syncDone o).1 = o := by unfold syncDone; split <;> rfl
theorem SyI.hear {k : Nat} {y : Sync} {p : Packet} (hk : k ≤ 100) (h : SyI k y) (hp : p.text.length ≤ 10) : SyI (k + 1) (syncHearsS y p).1 := by
  have hl := hearsS_lk (p := p) hk (⟨h.way, h.wayS, h.next1, h.next2⟩ : LkI k y.link)
  have ht := hearsS_text y.link p
  have h3 := h.pcs
  unfold syncHearsS
  split
  · generalize (hearsS y.link p).1 = L at hl ⊢
    generalize (hearsS y.link p).2.1 = T at ht ⊢
    have hsame : ∀ o : Sync, o.link = L → o.pieces = y.pieces → SyI (k + 1) o := fun o e1 e2 => SyI.of (by rw [e1]; exact hl) (by rw [e2]; omega) (by rw [e2]; exact h.pcsS)
    unfold syncText
    split
    · split
      · rw [syncDone_1]; exact hsame _ rfl rfl
      · exact hsame _ rfl rfl
    · split
      · rw [syncDone_1]
        refine SyI.of hl ?_ ?_
        · show (y.pieces ++ [T.drop 1]).length ≤ _
          rw [List.length_append]; show _ + 1 ≤ _; omega
        · intro x hx
          rcases List.mem_append.1 hx with hx | hx
          · exact h.pcsS x hx
          · obtain rfl := List.mem_singleton.1 hx
            rw [List.length_drop]; omega
      · exact hsame _ rfl rfl
  · exact SyI.of hl (by show y.pieces.length ≤ _; omega) h.pcsS
theorem SyI.beg {s : Store} (e : Int) (h : storeOk s = true) : SyI 0 (begY s e) := by
  obtain ⟨h1, h2, h3, h4⟩ := begOk_ok h
  rw [begY_yes _ h1]
  exact ⟨begL_way _ _ _, fun x hx => begT_short h3 (List.mem_of_mem_take hx), Int.le_refl _, Int.le_refl _, Nat.zero_le _, fun x hx => by cases hx⟩
end Go.Proofs.YtiipkeendfpddaaGreat.K

/- Walks: syncs drawn. Printed by w2.py. -/
namespace Go.Proofs.YtiipkeendfpddaaGreat.K
open Go Go.RowKit
set_option linter.unusedVariables false
set_option linter.unusedSimpArgs false
set_option maxHeartbeats 4000000
set_option maxRecDepth 20000
theorem c_spec_l18Sync (c : Cur) (L : Nat) (hb : c.b.length ≤ 4611686018427387904) {h : List V} {n : Nat} (hlt : Ahd n h) (hL : L + 1 < n) (hfix : V.updL (L + 1) 0 (cCur c) h = h) : OkCall Tryz.prog 24 [.ptr (L + 1) 0 0 (cCur c)] h n (fun r h1 n1 => ∃ z : Sync × Cur, (SyI 3 z.1 ∧ z.2.b = c.b) ∧ r = .agg (cSync z.1) ∧ h1 = V.updL (L + 1) 0 (cCur z.2) h ∧ n1 = n + 501) := by
 obtain ⟨n, rfl⟩ : ∃ k, n = k + 1 := ⟨n - 1, by omega⟩
 have nd := NDL [L + 1, n + 1, 0, n + 1 + 410 + 1]
 refine OkCall.enter' tab_ok Tryz.func24 rfl (ht := ANYS 46) ?_
 refine S53 ?_
 refine OkOps.updX (k := 401) rfl rfl M48 M48 cl46 M29 (by repeat (first | exact hlt | exact hlt.mono (by omega) | refine Ahd.upd ?_ (Ahd.cur (by omega) _))) (fun h hlt hfix => c_spec_l07Store c L hb hlt (by omega) hfix) (by simp only [eq_self, V.updL, V.travL, V.travLL, V.trav, updS, updP, and_self, true_and, and_true, false_and, and_false, Nat.reduceEqDiff, Nat.reduceSub, Nat.le_refl, Nat.zero_le, ↓reduceIte, if_true, if_false, zz, zf, zy, nd]) (by first | exact hfix | rfl | exact upd_twice (by simp [V.travL, V.trav, updS, zz, zf, zy]) _) (by first | rfl | (simp only [Nat.add_zero, Nat.reduceAdd] <;> rfl)) (fun y => by simp only [eq_self, V.updL, V.travL, V.travLL, V.trav, updS, updP, and_self, true_and, and_true, false_and, and_false, Nat.reduceEqDiff, Nat.reduceSub, Nat.le_refl, Nat.zero_le, ↓reduceIte, if_true, if_false, kP, zz, zf, zy, nd] <;> rfl) (fun y => rfl) ?_
 rintro ⟨s1, c1⟩ ⟨hs1, hb1⟩
 dsimp only
 have hc1 : c1.b.length ≤ 4611686018427387904 := by rw [hb1]; exact hb
 have hq1 := curBelow_lt (c := c1) (n := 2) M57
 have hw1 : IntKind.i64.wrap (1 + ((curBelow c1 2).1 : Int)) = (1 + ((curBelow c1 2).1 : Int)) := by rw [IntKind.wrap_i64]; omega
 have hY := SyI.beg (1 + ((curBelow c1 2).1 : Int)) hs1
 refine EV ?_
 refine OkOps.upd rfl rfl M48 M48 cl23 (fun h => c_spec_l01Below c1 2 L hc1 M57) M3 (upd_twice M45 h) ?_
 refine OkOps.ev tab_ok rfl M105 M52 ?_
 refine OW cl10 (w_spec_SyncBegin s1 (store_sm hs1) (1 + ((curBelow c1 2).1 : Int))) ?_
 iterate 3 (refine EV ?_)
 refine OkOps.freeze (n + 1 + 410 + 1) M58 ?_
 have f1 : frz (n + 1 + 410 + 1) (L + 1) = L + 1 := frz_lt M58
 have f2 : frz (n + 1 + 410 + 1) (n + 1) = n + 1 := frz_lt M58
 have f4 : frz (n + 1 + 410 + 1) 0 = 0 := frz_lt M58
 rw [(hlt.mono M58 : Ahd (n + 1 + 410 + 1) h).ren_upd]
 simp only [V.renL, V.travL, V.trav, zz, zf, zy, f1, f2, f4]
 refine EV ?_
 refine OkOps.storeE tab_ok rfl rfl M48 ⟨_, _, by simp only [kE]; rfl⟩ M7 M64 (Ahd.updL (by repeat (first | exact hlt | exact hlt.mono (by omega) | refine Ahd.upd ?_ (Ahd.cur (by omega) _)))) ?_
 refine S2 ?_
 refine S28 ?_
 refine Ok.loopHN (τ := Nat × Sync × Cur × Nat) (fun x => [(0, .ptr (L + 1) 0 0 (cCur x.2.2.1)), (3, .ptr (n + 1 + 410 + 1) 0 0 (cSync x.2.1)), (5, .int .i64 (x.1 : Int))]) [6, 7, 8, 9, 10, 11, 12, 13, 14, 15, 16, 17, 18, 19, 20, 21, 22, 23, 24, 25, 26, 27, 28, 29, 30, 31, 32, 33, 34, 35, 36, 37, 38, 39, 40, 41, 42, 43, 44, 45] (fun x => by simp only [kover] <;> rfl) (fun x => V.updL (L + 1) 0 (cCur x.2.2.1) h) (fun x => n + 1 + 410 + 1 + 1 + x.2.2.2) (fun x => x.1 ≤ 3 ∧ SyI x.1 x.2.1 ∧ x.2.2.1.b = c.b ∧ x.2.2.2 ≤ 14 * x.1) (fun x => 3 - x.1) (0, begY s1 (1 + ((curBelow c1 2).1 : Int)), (curBelow c1 2).2, 0) (by (repeat (first | exact trivial | refine leC ?_ | refine leK ?_ ?_)) <;> first | (first | exact le_rfl' _ | exact le_eqm rfl) | exact le_rfl' _) (rfl) ((by dsimp only; omega)) (⟨Nat.zero_le _, hY, by dsimp only; rw [curBelow_b]; exact hb1, Nat.le_refl _⟩) ?_
 rintro ⟨i, y, cc, k⟩ ⟨h1, hyI, hcb, hk⟩
 dsimp only at h1 hyI hcb hk ⊢
 have hcc : cc.b.length ≤ 4611686018427387904 := by rw [hcb]; exact hb
 obtain ⟨hsm, hsf⟩ := hyI.sm M58
 have hq3 := curBelow_lt (c := cc) (n := 4) M57
 have hn1 := hyI.next1
 have hn2 := hyI.next2
 refine S5 ?_
 iterate 2 (refine EV ?_)
 refine OkOps.upd rfl rfl M48 M48 cl23 (fun h => c_spec_l01Below cc 4 L hcc M57) M3 (upd_twice M45 h) ?_
 refine S2 ?_
 refine OC (fun hb3 => ?_) (fun hb3 => ?_)
 ·
  try simp only [bsimp] at hb3
  refine S14 ?_
  refine S6 ?_
  refine OkOps.updG (k := 4) rfl rfl M48 M48 cl47 M29 (by repeat (first | exact hlt | exact hlt.mono (by omega) | refine Ahd.upd ?_ (Ahd.cur (by omega) _))) (fun h hlt hfix =>  c_spec_l01TextN (curBelow cc 4).2 3 L (by rw [curBelow_b]; exact hcc) (by decide) hlt (by omega) hfix) (by simp only [eq_self, V.updL, V.travL, V.travLL, V.trav, updS, updP, and_self, true_and, and_true, false_and, and_false, Nat.reduceEqDiff, Nat.reduceSub, Nat.le_refl, Nat.zero_le, ↓reduceIte, if_true, if_false, zz, zf, zy, nd]) (by first | exact hfix | rfl | exact upd_twice (by simp [V.travL, V.trav, updS, zz, zf, zy]) _) (by first | rfl | (simp only [Nat.add_zero, Nat.reduceAdd] <;> rfl)) (by simp only [eq_self, V.updL, V.travL, V.travLL, V.trav, updS, updP, and_self, true_and, and_true, false_and, and_false, Nat.reduceEqDiff, Nat.reduceSub, Nat.le_refl, Nat.zero_le, ↓reduceIte, if_true, if_false, kP, zz, zf, zy, nd] <;> rfl) (upd_twice (by simp [V.travL, V.trav, updS, zz, zf, zy]) h) ?_
  refine OkOps.ev tab_ok rfl (ev_cat M48 M48 M77) (by simp only [kP] <;> rfl) ?_
  refine S2 ?_
  refine Ok.join (τ := Str × Cur) (fun x => [(0, .ptr (L + 1) 0 0 (cCur x.2)), (6, .str x.1), (17, .any), (22, .any)]) [25, 26, 27, 28, 29, 30, 31] (fun x => by simp only [kover] <;> rfl) (fun x => V.updL (L + 1) 0 (cCur x.2) h) (fun x => n + 1 + 410 + 1 + 1 + k + 4) (fun x => x.2.b = c.b ∧ x.1.length ≤ 10) ?_ ?_
  ·
   refine Ok.seq ?_
   obtain ⟨⟨t3, ct⟩, hz⟩ : ∃ z, bytesD 3 (curBelow cc 4).2 = z := ⟨_, rfl⟩
   have hz1 : t3.length = 3 := by have := bytesD_len 3 (curBelow cc 4).2; rw [hz] at this; exact this
   have hz2 : ct.b = c.b := by have := bytesD_b 3 (curBelow cc 4).2; rw [hz, curBelow_b, hcb] at this; exact this
   simp only [hz]
   clear hz
   refine S27 ?_
   refine OC (fun hb6 => ?_) (fun hb6 => ?_)
   ·
    try simp only [bsimp] at hb6
    have hq7 := curBelow_lt (c := ct) (n := 4) M57
    have hw7 : IntKind.i64.wrap (1 + ((curBelow ct 4).1 : Int)) = 1 + ((curBelow ct 4).1 : Int) := by rw [IntKind.wrap_i64]; omega
    have hv7 := varT_len5 (n := (1 + ((curBelow ct 4).1 : Int)).toNat) M58
    refine S15 ?_
    refine OkOps.upd rfl rfl M48 M48 cl23 (fun h => c_spec_l01Below ct 4 L (by rw [hz2]; exact hb) M57) M3 (upd_twice M45 h) ?_
    refine OkOps.ev tab_ok rfl (by simp only [kE, kT, kL, kC, hw7] <;> rfl) M52 ?_
    refine OW cl40 (w_spec_l01Var (1 + ((curBelow ct 4).1 : Int)) M58) ?_
    refine OkOps.ev tab_ok rfl (ev_cat M48 M48 M77) (by simp only [kP] <;> rfl) ?_
    refine S2 ?_
    refine ⟨(84 :: varT (1 + ((curBelow ct 4).1 : Int)).toNat, (curBelow ct 4).2), ?_, rfl, (by first | omega | (dsimp only; omega)), ⟨by rw [curBelow_b]; exact hz2, by rw [List.length_cons]; omega⟩⟩
    (repeat (first | exact trivial | refine leC ?_ | refine leK ?_ ?_)) <;> first | (exact le_eqm rfl) | exact le_rfl' _
   try simp only [bsimp] at hb6
   refine Ok.skip ?_
   refine ⟨(80 :: t3, ct), ?_, rfl, (by first | omega | (dsimp only; omega)), ⟨hz2, by rw [List.length_cons]; omega⟩⟩
   (repeat (first | exact trivial | refine leC ?_ | refine leK ?_ ?_)) <;> first | (exact le_eqm rfl) | exact le_rfl' _
  rintro ⟨T, cd⟩ ⟨hcdb, hTl⟩
  dsimp only at hcdb hTl ⊢
  have hcd : cd.b.length ≤ 4611686018427387904 := by rw [hcdb]; exact hb
  have hq8 := curBelow_lt (c := cd) (n := 2) M57
  have hw8 : IntKind.i64.wrap (y.link.next + ((curBelow cd 2).1 : Int)) = y.link.next + ((curBelow cd 2).1 : Int) := by rw [IntKind.wrap_i64]; omega
  refine Ok.stages 47 [0, 1, 2, 3, 4, 5, 6, 7, 8, 11] [(9, [0, 1, 2, 3, 4, 5, 6, 7, 11], [10, 12]), (13, [], [])] M56 M56 rfl ?_
  simp only [ixs, List.getElem?_toArray, List.getElem?_cons_zero, List.getElem?_cons_succ]
  iterate 10 (refine SV ?_)
  refine SOps.nil ?_
  refine Pend.updF (k := 0) (by simp only [List.getElem?_toArray, List.getElem?_cons_zero, List.getElem?_cons_succ] <;> rfl) M59 M59 M48 M48 cl23 M29 (by repeat (first | exact hlt | exact hlt.mono (by omega) | refine Ahd.upd ?_ (Ahd.cur (by omega) _))) (fun h hlt => c_spec_l01Below cd 2 L hcd (by decide)) (by first | rfl | (simp only [Nat.add_zero, Nat.reduceAdd] <;> rfl)) (by simp only [eq_self, V.updL, V.travL, V.travLL, V.trav, updS, updP, and_self, true_and, and_true, false_and, and_false, Nat.reduceEqDiff, Nat.reduceSub, Nat.le_refl, Nat.zero_le, ↓reduceIte, if_true, if_false, kP, zz, zf, zy, nd] <;> rfl) (upd_twice (by simp [V.travL, V.trav, updS, zz, zf, zy]) h) ?_
  simp only [ixs, List.getElem?_toArray, List.getElem?_cons_zero, List.getElem?_cons_succ]
  refine SOps.ev tab_ok rfl (by simp only [kE, kT, kL, kC, hw8] <;> rfl) M52 ?_
  refine SOps.ev tab_ok rfl M36 M112 ?_
  refine SOps.nil ⟨LateOk.A (LateOk.cons (i := 0) tab_ok M59 M59 M79 (by show nth _ 32 = _; simp only [kE, kT, kL, kC] <;> rfl) (LateOk.cons (i := 1) tab_ok M59 M59 M79 (by show nth _ 33 = _; simp only [kE, kT, kL, kC] <;> rfl) (LateOk.cons (i := 2) tab_ok M59 M59 M79 M96 (LateOk.cons (i := 3) tab_ok M59 M59 M79 (by show nth _ 35 = _; simp only [kE, kT, kL, kC] <;> rfl) (LateOk.cons (i := 4) tab_ok M59 M59 M79 M93 (LateOk.cons (i := 5) tab_ok M59 M59 M79 M97 (LateOk.cons (i := 6) tab_ok M59 M59 M79 (by show nth _ 38 = _; simp only [kE, kT, kL, kC] <;> rfl) (LateOk.cons (i := 7) tab_ok M59 M59 M79 (by show nth _ 39 = _; simp only [kE, kT, kL, kC] <;> rfl) (LateOk.cons (i := 11) tab_ok M59 M59 M79 M98 LateOk.nil))))))))) M58, ?_⟩
  refine Pend.updG (k := 10) (by simp only [List.getElem?_toArray, List.getElem?_cons_zero, List.getElem?_cons_succ] <;> rfl) M59 M59 M48 M48 cl31 M29 (by repeat (first | exact hlt | exact hlt.mono (by omega) | refine Ahd.upd ?_ (Ahd.cur (by omega) _))) (fun h hlt hfix => c_spec_l18Hear y (⟨y.epoch, y.link.want, y.link.next + ((curBelow cd 2).1 : Int), T⟩ : Packet) (n + 1 + 410) hsm (by show T.length ≤ _; omega) hsf hlt (by omega) hfix) (by simp only [eq_self, V.updL, V.travL, V.travLL, V.trav, updS, updP, and_self, true_and, and_true, false_and, and_false, Nat.reduceEqDiff, Nat.reduceSub, Nat.le_refl, Nat.zero_le, ↓reduceIte, if_true, if_false, zz, zf, zy, nd]) (Ahd.updL (by repeat (first | exact hlt | exact hlt.mono (by omega) | refine Ahd.upd ?_ (Ahd.cur (by omega) _)))) (by first | rfl | (simp only [Nat.add_zero, Nat.reduceAdd] <;> rfl)) (by simp only [eq_self, V.updL, V.travL, V.travLL, V.trav, updS, updP, and_self, true_and, and_true, false_and, and_false, Nat.reduceEqDiff, Nat.reduceSub, Nat.le_refl, Nat.zero_le, ↓reduceIte, if_true, if_false, kP, zz, zf, zy, nd] <;> rfl) (Ahd.updL (by repeat (first | exact hlt | exact hlt.mono (by omega) | refine Ahd.upd ?_ (Ahd.cur (by omega) _)))) ?_
  simp only [ixs, List.getElem?_toArray, List.getElem?_cons_zero, List.getElem?_cons_succ]
  refine SOps.nil ⟨LateOk.A LateOk.nil M58, ?_⟩
  refine Pend.nil ?_
  refine S12 ?_
  refine ⟨(i + 1, (syncHearsS y (⟨y.epoch, y.link.want, y.link.next + ((curBelow cd 2).1 : Int), T⟩ : Packet)).1, (curBelow cd 2).2, k + 14), ?_, rfl, M54, ⟨by dsimp only; omega, hyI.hear M58 (by show T.length ≤ _; omega), by dsimp only; rw [curBelow_b, hcdb], by dsimp only; omega⟩, by dsimp only; omega⟩
  (repeat (first | exact trivial | refine leC ?_ | refine leK ?_ ?_)) <;> first | (first | exact le_rfl' _ | (rw [wrap_succ (by omega)]; exact le_rfl' _)) | exact le_rfl' _
 try simp only [bsimp] at hb3
 refine S54 ?_
 refine Ok.bump (n' := n + 1 + 501) M58 ?_
 refine S15 ?_
 refine OkOps.storeE tab_ok rfl rfl M48 ⟨_, _, by simp only [kE]; rfl⟩ M7 M64 (Ahd.updL (by repeat (first | exact hlt | exact hlt.mono (by omega) | refine Ahd.upd ?_ (Ahd.cur (by omega) _)))) ?_
 refine S36 ?_
 exact ⟨(y, (curBelow cc 4).2), ⟨hyI.mono h1, by rw [curBelow_b]; exact hcb⟩, rfl, rfl, by omega⟩
end Go.Proofs.YtiipkeendfpddaaGreat.K

/- Walks: arguments of syncs drawn. Printed by w2.py. -/
namespace Go.Proofs.YtiipkeendfpddaaGreat.K
open Go Go.RowKit
set_option linter.unusedVariables false
set_option linter.unusedSimpArgs false
set_option maxHeartbeats 4000000
set_option maxRecDepth 20000
theorem x_spec_DrawSyncEnds (code : Str) (hc : code.length ≤ 4611686018427387904) : WeakX Tryz.prog 13 [.sl 0 1 0 (code.map cB)] (Sync × Bool) (fun y => .tup [.agg (cSync y.1), .bool y.2]) (fun y => SyI 3 y.1) := by
 refine WeakX.enter tab_ok Tryz.func13 rfl (.inr M33) (ht := ANYS 12) ?_
 refine S10 ?_
 refine S6 ?_
 refine OkOps.turn _ rfl rfl M48 M48 cl22 (fun h => c_spec_l01New code hc) M38 M69 (rfl) ?_
 refine S40 ?_
 refine OkOps.upd rfl rfl M48 M48 cl43 (fun h => c_spec_l01Once (curNew code) 2 1 hc M57) M4 (rfl) ?_
 refine S40 ?_
 refine OkOps.updX (k := 501) rfl rfl M48 M48 cl24 M29 (Ahd.nil _) (fun h hlt hfix => c_spec_l18Sync (curBelow (curNew code) 2).2 1 (by rw [curBelow_b]; exact hc) hlt M58 hfix) M8 M81 M121 (fun y => by simp only [eq_self, V.updL, V.travL, V.travLL, V.trav, updS, updP, and_self, true_and, and_true, false_and, and_false, Nat.reduceEqDiff, Nat.reduceSub, Nat.le_refl, Nat.zero_le, ↓reduceIte, if_true, if_false, kP, zz, zf, zy] <;> rfl) (fun y => rfl) ?_
 rintro ⟨y1, c1⟩ ⟨hy1, hb1⟩
 dsimp only
 refine EV ?_
 refine S30 ?_
 exact ⟨(y1, decide (((curBelow (curNew code) 2).1 : Int) = 0)), hy1, by first | rfl | (simp [show ty9.size = 1 from rfl, V.erase, V.trav, V.travL, V.travLL, packV, zz, zf, zy]; done)⟩
theorem x_spec_DrawSyncOver (code : Str) (hc : code.length ≤ 4611686018427387904) : WeakX Tryz.prog 14 [.sl 0 1 0 (code.map cB)] (Sync) (fun y => .agg (cSync y)) (fun y => True) := by
 refine WeakX.enter tab_ok Tryz.func14 rfl (.inr M33) (ht := ANYS 17) ?_
 refine S53 ?_
 refine OkOps.turn _ rfl rfl M48 M48 cl22 (fun h => c_spec_l01New code hc) M38 M69 (rfl) ?_
 refine S40 ?_
 refine OkOps.updX (k := 501) rfl rfl M48 M48 cl24 M29 (Ahd.nil _) (fun h hlt hfix => c_spec_l18Sync (curNew code) 1 hc hlt M58 hfix) M8 M81 M121 (fun y => by simp only [eq_self, V.updL, V.travL, V.travLL, V.trav, updS, updP, and_self, true_and, and_true, false_and, and_false, Nat.reduceEqDiff, Nat.reduceSub, Nat.le_refl, Nat.zero_le, ↓reduceIte, if_true, if_false, kP, zz, zf, zy] <;> rfl) (fun y => rfl) ?_
 rintro ⟨y1, c1⟩ ⟨hy1, hb1⟩
 dsimp only
 refine S33 ?_
 refine S59 ?_
 refine OkOps.upd rfl rfl M48 M48 cl43 (fun h => c_spec_l01Once c1 2 1 (by rw [hb1]; exact hc) M57) M4 (rfl) ?_
 refine ON ?_
 refine OC (fun hb3 => ?_) (fun hb3 => ?_)
 ·
  try simp only [bsimp] at hb3
  refine S15 ?_
  refine S17 ?_
  refine S59 ?_
  refine OkOps.upd rfl rfl M48 M48 cl43 (fun h => c_spec_l01Once (curBelow c1 2).2 2 1 (by rw [curBelow_b, hb1]; exact hc) M57) M4 (rfl) ?_
  refine ON ?_
  refine OC (fun hb5 => ?_) (fun hb5 => ?_)
  ·
   try simp only [bsimp] at hb5
   refine S26 ?_
   refine S17 ?_
   refine S6 ?_
   refine S17 ?_
   refine S3 ?_
   first | (refine ⟨y1, trivial, ?_⟩; first | (with_unfolding_all rfl) | (simp [show ty9.size = 1 from rfl, V.erase, V.trav, V.travL, V.travLL, packV, zz, zf, zy]; done)) | (refine ⟨{ y1 with done := true }, trivial, ?_⟩; first | (with_unfolding_all rfl) | (simp [show ty9.size = 1 from rfl, V.erase, V.trav, V.travL, V.travLL, packV, zz, zf, zy]; done)) | (refine ⟨{ y1 with link := { y1.link with way := [] } }, trivial, ?_⟩; first | (with_unfolding_all rfl) | (simp [show ty9.size = 1 from rfl, V.erase, V.trav, V.travL, V.travLL, packV, zz, zf, zy]; done)) | (refine ⟨{ y1 with done := true, link := { y1.link with way := [] } }, trivial, ?_⟩; first | (with_unfolding_all rfl) | (simp [show ty9.size = 1 from rfl, V.erase, V.trav, V.travL, V.travLL, packV, zz, zf, zy]; done))
  try simp only [bsimp] at hb5
  refine S60 ?_
  refine S17 ?_
  refine S3 ?_
  first | (refine ⟨y1, trivial, ?_⟩; first | (with_unfolding_all rfl) | (simp [show ty9.size = 1 from rfl, V.erase, V.trav, V.travL, V.travLL, packV, zz, zf, zy]; done)) | (refine ⟨{ y1 with done := true }, trivial, ?_⟩; first | (with_unfolding_all rfl) | (simp [show ty9.size = 1 from rfl, V.erase, V.trav, V.travL, V.travLL, packV, zz, zf, zy]; done)) | (refine ⟨{ y1 with link := { y1.link with way := [] } }, trivial, ?_⟩; first | (with_unfolding_all rfl) | (simp [show ty9.size = 1 from rfl, V.erase, V.trav, V.travL, V.travLL, packV, zz, zf, zy]; done)) | (refine ⟨{ y1 with done := true, link := { y1.link with way := [] } }, trivial, ?_⟩; first | (with_unfolding_all rfl) | (simp [show ty9.size = 1 from rfl, V.erase, V.trav, V.travL, V.travLL, packV, zz, zf, zy]; done))
 try simp only [bsimp] at hb3
 refine Ok.skip ?_
 refine S59 ?_
 refine OkOps.upd rfl rfl M48 M48 cl43 (fun h => c_spec_l01Once (curBelow c1 2).2 2 1 (by rw [curBelow_b, hb1]; exact hc) M57) M4 (rfl) ?_
 refine ON ?_
 refine OC (fun hb5 => ?_) (fun hb5 => ?_)
 ·
  try simp only [bsimp] at hb5
  refine S26 ?_
  refine S17 ?_
  refine S6 ?_
  refine S17 ?_
  refine S3 ?_
  first | (refine ⟨y1, trivial, ?_⟩; first | (with_unfolding_all rfl) | (simp [show ty9.size = 1 from rfl, V.erase, V.trav, V.travL, V.travLL, packV, zz, zf, zy]; done)) | (refine ⟨{ y1 with done := true }, trivial, ?_⟩; first | (with_unfolding_all rfl) | (simp [show ty9.size = 1 from rfl, V.erase, V.trav, V.travL, V.travLL, packV, zz, zf, zy]; done)) | (refine ⟨{ y1 with link := { y1.link with way := [] } }, trivial, ?_⟩; first | (with_unfolding_all rfl) | (simp [show ty9.size = 1 from rfl, V.erase, V.trav, V.travL, V.travLL, packV, zz, zf, zy]; done)) | (refine ⟨{ y1 with done := true, link := { y1.link with way := [] } }, trivial, ?_⟩; first | (with_unfolding_all rfl) | (simp [show ty9.size = 1 from rfl, V.erase, V.trav, V.travL, V.travLL, packV, zz, zf, zy]; done))
 try simp only [bsimp] at hb5
 refine S60 ?_
 refine S17 ?_
 refine S3 ?_
 first | (refine ⟨y1, trivial, ?_⟩; first | (with_unfolding_all rfl) | (simp [show ty9.size = 1 from rfl, V.erase, V.trav, V.travL, V.travLL, packV, zz, zf, zy]; done)) | (refine ⟨{ y1 with done := true }, trivial, ?_⟩; first | (with_unfolding_all rfl) | (simp [show ty9.size = 1 from rfl, V.erase, V.trav, V.travL, V.travLL, packV, zz, zf, zy]; done)) | (refine ⟨{ y1 with link := { y1.link with way := [] } }, trivial, ?_⟩; first | (with_unfolding_all rfl) | (simp [show ty9.size = 1 from rfl, V.erase, V.trav, V.travL, V.travLL, packV, zz, zf, zy]; done)) | (refine ⟨{ y1 with done := true, link := { y1.link with way := [] } }, trivial, ?_⟩; first | (with_unfolding_all rfl) | (simp [show ty9.size = 1 from rfl, V.erase, V.trav, V.travL, V.travLL, packV, zz, zf, zy]; done))
theorem x_spec_DrawPiecesOf (code : Str) (hc : code.length ≤ 4611686018427387904) : WeakX Tryz.prog 11 [.sl 0 1 0 (code.map cB)] (Str) (fun y => .str y) (fun y => y.length ≤ 300) := by
 obtain ⟨q, hq, hq3⟩ : ∃ q : Nat, (pickI (curNew code) [0, 1, 119, 120, 121, 240, 300]).1 = (q : Int) ∧ q ≤ 300 := by
   have h := pickI_mem (c := (curNew code)) (xs := [0, 1, 119, 120, 121, 240, 300]) M57
   generalize (pickI (curNew code) [0, 1, 119, 120, 121, 240, 300]).1 = z at h ⊢
   simp only [List.mem_cons, List.not_mem_nil, or_false] at h
   exact ⟨z.toNat, by omega, by omega⟩
 refine WeakX.enter tab_ok Tryz.func11 rfl (.inr M33) (ht := ANYS 9) ?_
 refine S53 ?_
 refine OkOps.turn _ rfl rfl M48 M48 cl22 (fun h => c_spec_l01New code hc) M38 M69 (rfl) ?_
 refine S40 ?_
 refine OkOps.ev tab_ok rfl (ev_bs M53 M53 M57 M57 M37 M16) M52 ?_
 refine OkOps.upd rfl rfl M48 M48 cl42 (fun h => c_spec_l01PickInt (curNew code) [0, 1, 119, 120, 121, 240, 300] 0 2 hc M57 M57) M4 (rfl) ?_
 refine OkOps.S0 rfl (OpS.weak' rfl (by simp only [kE, kT, kL, kC, hq] <;> rfl) (by simp only [kE, kT, kL, kC, hq] <;> rfl) cl41 (w_spec_l01Long q 97 M58)) M52 ?_
 refine S22 ?_
 exact ⟨longT q 97, by rw [longT_len]; exact hq3, by first | rfl | (simp [show ty9.size = 1 from rfl, V.erase, V.trav, V.travL, V.travLL, packV, zz, zf, zy]; done)⟩
end Go.Proofs.YtiipkeendfpddaaGreat.K

/- Plain: drawn packets' numbers and texts. -/
namespace Go.Proofs.YtiipkeendfpddaaGreat.K
open Go Go.RowKit
set_option linter.unusedVariables false
theorem pick_ack (c : Cur) : (pickI c [-9223372036854775808, 9223372036854775807]).1 ≤ 9223372036854775807 := by
  have h := pickI_mem (c := c) (xs := [-9223372036854775808, 9223372036854775807]) (Nat.succ_pos _)
  generalize (pickI c [-9223372036854775808, 9223372036854775807]).1 = z at h ⊢
  simp only [List.mem_cons, List.not_mem_nil, or_false] at h
  omega
structure PkI (p : Packet) : Prop where
  ack : p.ack ≤ 9223372036854775807
  text : p.text.length ≤ 1000
theorem pack0_i (c : Cur) : PkI (pack0 c).1 := by
  unfold pack0
  refine ⟨?_, ?_⟩
  · simp only []
    have := curBelow_lt (c := (curBelow (curBelow c 3).2 5).2) (n := 6) M57; omega
  · simp only []
    have h := pickS_mem (c := (curBelow (curBelow (curBelow c 3).2 5).2 6).2) (xs := [wOne, wTwo, []]) (Nat.succ_pos _)
    generalize (pickS (curBelow (curBelow (curBelow c 3).2 5).2 6).2 [wOne, wTwo, []]).1 = z at h ⊢
    simp only [List.mem_cons, List.not_mem_nil, or_false] at h
    rcases h with rfl | rfl | rfl <;> decide
theorem PkI.seq {p : Packet} (h : PkI p) (z : Int) (c : Cur) : PkI (({ p with seq := z }, c) : Packet × Cur).1 := ⟨h.ack, h.text⟩
theorem PkI.ack' {p : Packet} (h : PkI p) {z : Int} (hz : z ≤ 9223372036854775807) (c : Cur) : PkI (({ p with ack := z }, c) : Packet × Cur).1 := ⟨hz, h.text⟩
theorem PkI.text' {p : Packet} (h : PkI p) {z : Str} (hz : z.length ≤ 1000) (c : Cur) : PkI (({ p with text := z }, c) : Packet × Cur).1 := ⟨h.ack, hz⟩
theorem packD_i (c : Cur) : PkI (packD c).1 := by
  have h0 := pack0_i c
  by_cases h1 : (curBelow (pack0 c).2 12).1 = 0
  · rw [packD_0 h1]; exact PkI.seq h0 _ _
  by_cases h2 : (curBelow (pack0 c).2 12).1 = 1
  · rw [packD_1 h2]; exact PkI.ack' h0 (pick_ack _) _
  by_cases h3 : (curBelow (pack0 c).2 12).1 = 2
  · rw [packD_2 h3]
    refine PkI.text' h0 ?_ _
    rw [longT_len]
    have := curBelow_lt (c := (curBelow (pack0 c).2 12).2) (n := 2) M57; omega
  · rw [packD_n h1 h2 h3]; exact h0
abbrev hearTs : List Str := [[80], [80, 97, 98, 99], [84, 1], [84, 2], [84, 0], [88], [], [84, 120, 1]]
theorem hearTs_len (c : Cur) : (pickS c hearTs).1.length ≤ 10 := by
  have h := pickS_mem (c := c) (xs := hearTs) (Nat.succ_pos _)
  generalize (pickS c hearTs).1 = z at h ⊢
  simp only [List.mem_cons, List.not_mem_nil, or_false] at h
  rcases h with rfl | rfl | rfl | rfl | rfl | rfl | rfl | rfl <;> decide
end Go.Proofs.YtiipkeendfpddaaGreat.K

/- Walks: packets for syncs drawn. Printed by w2.py. -/
namespace Go.Proofs.YtiipkeendfpddaaGreat.K
open Go Go.RowKit
set_option linter.unusedVariables false
set_option linter.unusedSimpArgs false
set_option maxHeartbeats 4000000
set_option maxRecDepth 20000
theorem x_spec_DrawSyncHears (code : Str) (hc : code.length ≤ 4611686018427387904) : WeakX Tryz.prog 5 [.sl 0 1 0 (code.map cB)] (Sync × Packet) (fun y => .tup [.agg (cSync y.1), .agg (cPacket y.2)]) (fun y => SyI 3 y.1 ∧ PkI y.2) := by
 refine WeakX.enter tab_ok Tryz.func5 rfl (.inr M33) (ht := ANYS 36) ?_
 refine S10 ?_
 refine S6 ?_
 refine OkOps.turn _ rfl rfl M48 M48 cl22 (fun h => c_spec_l01New code hc) M38 M69 (rfl) ?_
 refine S40 ?_
 refine OkOps.upd rfl rfl M48 M48 cl23 (fun h => c_spec_l01Below (curNew code) 8 2 hc M57) M4 (rfl) ?_
 refine S40 ?_
 refine OkOps.updX (k := 501) rfl rfl M48 M48 cl24 M29 (Ahd.nil _) (fun h hlt hfix => c_spec_l18Sync (curBelow (curNew code) 8).2 2 (by rw [curBelow_b]; exact hc) hlt M58 hfix) M8 M81 M121 (fun y => by simp only [eq_self, V.updL, V.travL, V.travLL, V.trav, updS, updP, and_self, true_and, and_true, false_and, and_false, Nat.reduceEqDiff, Nat.reduceSub, Nat.le_refl, Nat.zero_le, ↓reduceIte, if_true, if_false, kP, zz, zf, zy] <;> rfl) (fun y => rfl) ?_
 rintro ⟨y1, c1⟩ ⟨hy1, hb1⟩
 dsimp only at hy1 hb1 ⊢
 have hc1 : c1.b.length ≤ 4611686018427387904 := by rw [hb1, curBelow_b]; exact hc
 have hn1 := hy1.next1
 have hn2 := hy1.next2
 refine S33 ?_
 refine S6 ?_
 refine OkOps.ev tab_ok rfl (ev_bs M53 M53 M57 M57 M37 M16) M52 ?_
 refine OkOps.upd rfl rfl M48 M48 cl25 (fun h => c_spec_l01Pick c1 hearTs 2 506 hc1 M57 M57) M4 (rfl) ?_
 refine S55 ?_
 obtain ⟨⟨t4, c4⟩, hz4⟩ : ∃ z, pickS c1 hearTs = z := ⟨_, rfl⟩
 have ht4 : t4.length ≤ 10 := by have := hearTs_len c1; rw [hz4] at this; exact this
 have hb4 : c4.b = c1.b := by have := pickS_b c1 hearTs; rw [hz4] at this; exact this
 simp only [hz4]
 clear hz4
 have hq5 := curBelow_lt (c := c4) (n := 2) M57
 have hw5 : IntKind.i64.wrap (y1.link.next + ((curBelow c4 2).1 : Int)) = y1.link.next + ((curBelow c4 2).1 : Int) := by rw [IntKind.wrap_i64]; omega
 refine Ok.stages 37 [0, 1, 2, 3, 4, 5, 6, 7, 8, 11, 13] [(9, [0, 1, 2, 3, 4, 5, 6, 7, 11, 13], [10, 12]), (14, [], [])] M56 M56 rfl ?_
 simp only [ixs, List.getElem?_toArray, List.getElem?_cons_zero, List.getElem?_cons_succ]
 iterate 11 (refine SV ?_)
 refine SOps.nil ?_
 refine Pend.updF (k := 0) (by simp only [List.getElem?_toArray, List.getElem?_cons_zero, List.getElem?_cons_succ] <;> rfl) M59 M59 M48 M48 cl23 M29 (Ahd.nil _) (fun h hlt => c_spec_l01Below c4 2 2 (by rw [hb4]; exact hc1) M57) M38 M65 (rfl) ?_
 simp only [ixs, List.getElem?_toArray, List.getElem?_cons_zero, List.getElem?_cons_succ]
 refine SOps.ev tab_ok rfl (by simp only [kE, kT, kL, kC, hw5] <;> rfl) M52 ?_
 refine SOps.ev tab_ok rfl M36 M112 ?_
 refine SOps.nil ⟨LateA.alloc (ia := 13) tab_ok M59 M59 M59 (by show nth _ 8 = _; simp only [kE, kT, kL, kC] <;> rfl) M79 M58 M58 (fun hm => absurd (((Ahd.nil _) : Ahd _ _) _ hm) (Nat.lt_irrefl _)) (by intro hm; simp [V.labelsL, V.labels, V.labelsLL, zz, zf, zy, lz] at hm <;> omega) (LateOk.cons (i := 0) tab_ok M59 M59 M79 (by show nth _ 18 = _; simp only [kE, kT, kL, kC] <;> rfl) (LateOk.cons (i := 1) tab_ok M59 M59 M79 (by show nth _ 19 = _; simp only [kE, kT, kL, kC] <;> rfl) (LateOk.cons (i := 2) tab_ok M59 M59 M79 (by show nth _ 20 = _; simp only [kE, kT, kL, kC] <;> rfl) (LateOk.cons (i := 3) tab_ok M59 M59 M79 (by show nth _ 21 = _; simp only [kE, kT, kL, kC] <;> rfl) (LateOk.cons (i := 4) tab_ok M59 M59 M79 (by show nth _ 22 = _; simp only [kE, kT, kL, kC] <;> rfl) (LateOk.cons (i := 5) tab_ok M59 M59 M79 (by show nth _ 23 = _; simp only [kE, kT, kL, kC] <;> rfl) (LateOk.cons (i := 6) tab_ok M59 M59 M79 (by show nth _ 24 = _; simp only [kE, kT, kL, kC] <;> rfl) (LateOk.cons (i := 7) tab_ok M59 M59 M79 (by show nth _ 25 = _; simp only [kE, kT, kL, kC] <;> rfl) (LateOk.cons (i := 11) tab_ok M59 M59 M79 (by show nth _ 29 = _; simp only [kE, kT, kL, kC] <;> rfl) LateOk.nil))))))))) M57, ?_⟩
 refine Pend.store tab_ok (by simp only [List.getElem?_toArray, List.getElem?_cons_zero, List.getElem?_cons_succ] <;> rfl) M59 M59 M59 M48 ⟨_, _, by simp only [kE]; rfl⟩ M7 M65 (rfl) ?_
 simp only [ixs, List.getElem?_toArray, List.getElem?_cons_zero, List.getElem?_cons_succ]
 refine SOps.nil ⟨LateOk.A LateOk.nil M58, ?_⟩
 refine Pend.nil ?_
 refine Ok.seq ?_
 refine Ok.seq ?_
 obtain ⟨⟨b5, c5⟩, hz5⟩ : ∃ z, curBelow c4 2 = z := ⟨_, rfl⟩
 rw [hz5] at hq5
 have hb5 : c5.b = c1.b := by have := curBelow_b c4 2; rw [hz5, hb4] at this; exact this
 simp only [hz5]
 clear hz5 hw5
 dsimp only at hq5
 have hp1 : PkI (⟨y1.epoch, y1.link.want, y1.link.next + (b5 : Int), t4⟩ : Packet) := ⟨by dsimp only; omega, by dsimp only; omega⟩
 refine S27 ?_
 refine OC (fun hb6 => ?_) (fun hb6 => ?_)
 ·
  try simp only [bsimp] at hb6
  refine S15 ?_
  refine OkOps.updF (k := 10) rfl rfl M48 M48 cl26 M29 (Ahd.nil _) (fun h hlt => c_spec_l17Packet c5 2 (by rw [hb5]; exact hc1) hlt M58) M38 M65 (rfl) ?_
  refine S17 ?_
  refine Ok.seq ?_
  refine Ok.drawn 2 37 [1] M56 M56 rfl ?_
  iterate 2 (refine SV ?_)
  refine SOps.nil ?_
  refine TOps.storeL tab_ok rfl rfl rfl M48 ⟨_, _, by simp only [kE]; rfl⟩ M7 M65 (rfl) (LateOk.cons (i := 1) tab_ok M126 M126 M71 M93 LateOk.nil) ?_
  refine TOps.storeL tab_ok rfl rfl rfl M48 ⟨_, _, by simp only [kE]; rfl⟩ M7 M65 (rfl) (LateOk.cons (i := 1) tab_ok M126 M126 M71 M93 LateOk.nil) ?_
  refine TOps.nil ?_
  refine S0 ?_
  refine retQ.end (by show resVs tab _ [.cell 2 28, .cell 3 30] = _; simp only [kE, kT, kL, kC] <;> rfl) rfl ?_
  (have hp2 := packD_i c5; generalize (packD c5).1 = q at hp2 ⊢; refine ⟨(y1, q), ⟨hy1, hp2⟩, ?_⟩; simp [show ty9.size = 1 from rfl, V.erase, V.trav, V.travL, V.travLL, packV, zz, zf, zy])
 try simp only [bsimp] at hb6
 refine S7 ?_
 refine Ok.drawn 2 37 [1] M56 M56 rfl ?_
 iterate 2 (refine SV ?_)
 refine SOps.nil ?_
 refine TOps.storeL tab_ok rfl rfl rfl M48 ⟨_, _, by simp only [kE]; rfl⟩ M7 M65 (rfl) (LateOk.cons (i := 1) tab_ok M126 M126 M71 M93 LateOk.nil) ?_
 refine TOps.storeL tab_ok rfl rfl rfl M48 ⟨_, _, by simp only [kE]; rfl⟩ M7 M65 (rfl) (LateOk.cons (i := 1) tab_ok M126 M126 M71 M93 LateOk.nil) ?_
 refine TOps.nil ?_
 refine S0 ?_
 refine retQ.end (by show resVs tab _ [.cell 2 28, .cell 3 30] = _; simp only [kE, kT, kL, kC] <;> rfl) rfl ?_
 (refine ⟨(y1, ⟨y1.epoch, y1.link.want, y1.link.next + (b5 : Int), t4⟩), ⟨hy1, hp1⟩, ?_⟩; simp [show ty9.size = 1 from rfl, V.erase, V.trav, V.travL, V.travLL, packV, zz, zf, zy])
end Go.Proofs.YtiipkeendfpddaaGreat.K

/- An append in the chain of a region that draws its order. -/
namespace Go.Proofs.YtiipkeendfpddaaGreat.K
open Go Go.RowKit
set_option linter.unusedVariables false
set_option linter.unusedSimpArgs false
section
variable {P : Program} {ti : Tab} {t t' h h' : List V} {n n' : Nat} {Q : Exit → List V → List V → Nat → Prop} {ops : Array Oper} {o : Oper} {i : Nat} {la hs : List Nat} {rest : List Stg} {l0 : List Oper}
theorem Pend.append {T e : TypeId} {inf : TInfo} {s x : Operand} {L off : Nat} {es es2 es3 : List (List V)} {s1 b1 : Nat} {z1 : List V} (hti : TabOk P ti) (hb : ops[i]? = some o) (hg : o.guard = none) (ho : o.op = .call ⟨.builtin .append, #[s, x], #[T, T]⟩) (hT : ti T = some ⟨.slice e, s1, b1, z1⟩) (he : ti e = some inf)
    (hi : 0 < inf.size) (hz : inf.zero.length = inf.size) (hs' : opnd t s = .sl L inf.size off es) (hx : (∃ L2 off2, opnd t x = .sl L2 inf.size off2 es2) ∨ (es2 = [] ∧ ∃ q, opnd t x = .nil q)) (hL : L ≠ 0) (hLn : L < n)
    (hb1 : (es.length + es2.length) * inf.bytes ≤ 140737488355328) (hb2 : es.length + es2.length ≤ 9223372036854775807) (hone : ∀ e ∈ es2, ∀ y ∈ e, V.one y = true) (he3 : V.killLL L (es ++ es2) = es3) (ht : putV (V.killL L t) o.dst (.sl L inf.size 0 es3) = t') (hh : V.killL L h = h')
    (hk : SOps P ops (ixs ops hs) t' n fun t2 n2 => LateA P ops t' h' n t2 la ∧ Pend P ops Q rest t2 h' n2) : Pend P ops Q ((i, la, hs) :: rest) t h n := by
  refine Pend.step hb hg ?_ (fun f hf hd => ?_) hk
  · rw [← ht]
    have : (V.killL L t).length = t.length := by unfold V.killL; rw [travL_len]
    cases o.dst <;> simp [putV, this]
  have e1 : opnd (maskP f 0 t) s = opnd t s := opnd_maskP M102 hf
  have e2 : opnd (maskP f 0 t) x = opnd t x := opnd_maskP M102 hf
  subst he3 ht hh
  rw [maskP_putK hd]
  exact ok_append (h := h) (n := n) (t := maskP f 0 t) hti hT he hi hz ho (by rw [e1]; exact hs') (by rw [e2]; exact hx) hL hLn hb1 hb2 hone
theorem Pend.ev {X : V} (hti : TabOk P ti) (hb : ops[i]? = some o) (hg : o.guard = none) (he : ev1 ti t n o.type o.op = some (X, n')) (ht : putV t o.dst X = t')
    (hk : SOps P ops (ixs ops hs) t' n' fun t2 n2 => LateA P ops t' h n' t2 la ∧ Pend P ops Q rest t2 h n2) : Pend P ops Q ((i, la, hs) :: rest) t h n := by
  refine Pend.step hb hg ?_ (ht ▸ OpT.ev hti he) hk
  rw [← ht]
  cases o.dst <;> simp [putV]
theorem M.off0 {base : Base} {σ : Sig} {w : World} (h0 : σ 0 = none) {sz off : Nat} {es : List (List V)} {v : Value} (hm : M base σ w (.sl 0 sz off es) v) : M base σ w (.sl 0 sz 0 es) v := by
  cases hm with
  | sl _ _ _ _ A cap u h1 h2 h3 h4 h5 h6 =>
    refine .sl 0 sz 0 es A cap u h1 h2 h3 ?_ h5 h6
    rcases h4 with h4 | h4 | ⟨ad, hA, h4⟩
    · exact .inl h4
    · exact .inr (.inl h4)
    · refine .inr (.inr ⟨ad, hA, ?_⟩)
      rcases h4 with h4 | ⟨b, o, cur, e, fr, h5, _⟩
      · exact .inl h4
      · rw [h0] at h5; cases h5
theorem OkOps.off0 (d : Nat) {sz off : Nat} {es : List (List V)} (hd : t[d]? = some (.sl 0 sz off es)) (ht : setN t d (.sl 0 sz 0 es) = t') (hk : OkOps P ops l0 t' h n Q) : OkOps P ops l0 t h n Q := by
  rw [setN_set] at ht
  subst ht
  intro base w0 hv σ a w g
  refine hk base w0 hv σ a w ⟨⟨by rw [List.length_set]; exact g.ts.1, fun j y u hy hu => ?_⟩, g.hs, g.dfr, g.bel, g.inv⟩
  by_cases hj : d = j
  · subst hj
    rw [List.getElem?_set_self (List.getElem?_eq_some_iff.1 hd).1] at hy
    obtain rfl := Option.some.inj hy
    exact M.off0 g.inv.zero (g.ts.2 d _ u hd hu)
  · rw [List.getElem?_set_ne hj] at hy
    exact g.ts.2 j y u hy hu
end
end Go.Proofs.YtiipkeendfpddaaGreat.K

/- Plain: what is drawn of stamps, flags, mails, boxes. -/
namespace Go.Proofs.YtiipkeendfpddaaGreat.K
open Go Go.RowKit
set_option linter.unusedVariables false
set_option linter.unusedSimpArgs false
abbrev nOld9 : Str := [111,108,100,57]
abbrev names3 : List Str := [nInbox, nWork, nOld9]
abbrev names4 : List Str := [[], [65], [116,104,105,114,116,101,101,110,115,105,103,110,115]]
def stampD (c : Cur) : Stamp × Cur :=
  let p := curBelow c 12
  let q := curBelow p.2 2
  (⟨(p.1 : Int), 1 + (q.1 : Int)⟩, q.2)
def stampA (c : Cur) : Stamp × Cur :=
  let s := stampD c
  let k := curBelow s.2 8
  if k.1 = 0 then ({ s.1 with time := (pickI k.2 [-1, 100000, 100001]).1 }, (pickI k.2 [-1, 100000, 100001]).2)
  else if k.1 = 1 then ({ s.1 with by_ := (pickI k.2 [-1, 0, 3]).1 }, (pickI k.2 [-1, 0, 3]).2)
  else (s.1, k.2)
def regD (c : Cur) : Reg × Cur :=
  let s := stampA c
  let v := pickI s.2 [0, 1, 1, 7, -1, 1000000001]
  (⟨v.1, s.1⟩, v.2)
def flagsGoD : Nat → Cur → List Reg → List Reg × Cur
  | 0, c, l => (l, c)
  | k + 1, c, l => flagsGoD k (curBelow (stampD c).2 2).2 (l ++ [⟨((curBelow (stampD c).2 2).1 : Int), (stampD c).1⟩])
def flagsD (c : Cur) : List Reg × Cur := flagsGoD 3 c []
def flagsA (c : Cur) : List Reg × Cur :=
  let k := curBelow c 10
  let l := flagsD k.2
  if k.1 = 0 then (l.1 ++ [⟨0, ⟨0, 0⟩⟩], l.2)
  else if k.1 = 1 then (l.1.drop 1, l.2)
  else if k.1 = 2 then (l.1.set (curBelow l.2 3).1 (regD (curBelow l.2 3).2).1, (regD (curBelow l.2 3).2).2)
  else l
def mailD (c : Cur) : Mail × Cur :=
  let g := curBelow c 6
  let u := curBelow g.2 6
  let f := flagsD u.2
  let t := pickS f.2 textsL
  (⟨1 + (g.1 : Int), 1 + (u.1 : Int), f.1, t.1⟩, t.2)
def mailA (c : Cur) : Mail × Cur :=
  let k := curBelow c 10
  let x := curBelow k.2 60
  let m := mailD x.2
  if k.1 = 0 then ({ m.1 with gid := [0, 9999, 10000, -1].getD (x.1 % 4) 0 }, m.2)
  else if k.1 = 1 then ({ m.1 with uid := [0, 9999, 10000].getD (x.1 % 3) 0 }, m.2)
  else if k.1 = 2 then ({ m.1 with flags := (flagsA m.2).1 }, (flagsA m.2).2)
  else if k.1 = 3 then ({ m.1 with text := longT (60 + x.1 % 2) 97 }, m.2)
  else m
theorem stampD_b (c : Cur) : (stampD c).2.b = c.b := by simp only [stampD, curBelow_b]
theorem stampA_b (c : Cur) : (stampA c).2.b = c.b := by
  unfold stampA
  dsimp only
  split
  · simp only [pickI_b, curBelow_b, stampD_b]
  · split
    · simp only [pickI_b, curBelow_b, stampD_b]
    · simp only [curBelow_b, stampD_b]
theorem regD_b (c : Cur) : (regD c).2.b = c.b := by simp only [regD, pickI_b, stampA_b]
theorem flagsGoD_b : ∀ (k : Nat) (c : Cur) (l : List Reg), (flagsGoD k c l).2.b = c.b
  | 0, _, _ => rfl
  | k + 1, c, l => by rw [flagsGoD, flagsGoD_b, curBelow_b, stampD_b]
theorem flagsGoD_len : ∀ (k : Nat) (c : Cur) (l : List Reg), (flagsGoD k c l).1.length = l.length + k
  | 0, _, _ => rfl
  | k + 1, c, l => by rw [flagsGoD, flagsGoD_len, List.length_append, List.length_singleton]; omega
theorem flagsD_b (c : Cur) : (flagsD c).2.b = c.b := flagsGoD_b _ _ _
theorem flagsD_len (c : Cur) : (flagsD c).1.length = 3 := flagsGoD_len _ _ _
theorem flagsA_b (c : Cur) : (flagsA c).2.b = c.b := by
  unfold flagsA
  dsimp only
  split
  · simp only [curBelow_b, flagsD_b]
  · split
    · simp only [curBelow_b, flagsD_b]
    · split
      · simp only [curBelow_b, flagsD_b, regD_b]
      · simp only [curBelow_b, flagsD_b]
theorem flagsA_len (c : Cur) : (flagsA c).1.length ≤ 4 := by
  unfold flagsA
  dsimp only
  split
  · simp only [List.length_append, flagsD_len, List.length_singleton]; omega
  · split
    · simp only [List.length_drop, flagsD_len]; omega
    · split
      · simp only [List.length_set, flagsD_len]; omega
      · simp only [flagsD_len]; omega
theorem mailD_b (c : Cur) : (mailD c).2.b = c.b := by simp only [mailD, pickS_b, flagsD_b, curBelow_b]
theorem mailD_flags (c : Cur) : (mailD c).1.flags = (flagsD (curBelow (curBelow c 6).2 6).2).1 := by simp only [mailD]
theorem mailD_text (c : Cur) : (mailD c).1.text = (pickS (flagsD (curBelow (curBelow c 6).2 6).2).2 textsL).1 := by simp only [mailD]
theorem mailD_len (c : Cur) : (mailD c).1.flags.length = 3 ∧ (mailD c).1.text.length ≤ 10 := by
  rw [mailD_flags, mailD_text]
  exact ⟨flagsD_len _, pick_len M57 M57⟩
theorem mailA_b (c : Cur) : (mailA c).2.b = c.b := by
  unfold mailA
  dsimp only
  split
  · simp only [curBelow_b, mailD_b]
  · split
    · simp only [curBelow_b, mailD_b]
    · split
      · simp only [curBelow_b, mailD_b, flagsA_b]
      · split
        · simp only [curBelow_b, mailD_b]
        · simp only [curBelow_b, mailD_b]
theorem mailA_len (c : Cur) : (mailA c).1.flags.length ≤ 4 ∧ (mailA c).1.text.length ≤ 61 := by
  have h := mailD_len (curBelow (curBelow c 10).2 60).2
  unfold mailA
  dsimp only
  generalize mailD (curBelow (curBelow c 10).2 60).2 = m at h ⊢
  generalize curBelow (curBelow c 10).2 60 = x
  generalize curBelow c 10 = k
  obtain ⟨m, c1⟩ := m
  dsimp only at h ⊢
  split
  · exact ⟨by show m.flags.length ≤ 4; omega, by show m.text.length ≤ 61; omega⟩
  · split
    · exact ⟨by show m.flags.length ≤ 4; omega, by show m.text.length ≤ 61; omega⟩
    · split
      · exact ⟨flagsA_len _, by show m.text.length ≤ 61; omega⟩
      · split
        · exact ⟨by show m.flags.length ≤ 4; omega, by show (longT _ _).length ≤ 61; rw [longT_len]; omega⟩
        · exact ⟨by show m.flags.length ≤ 4; omega, by show m.text.length ≤ 61; omega⟩
def boxStepD (b : Box) (c : Cur) : Box × Cur :=
  let g := curBelow c 9
  let s := stampD g.2
  let k := curBelow s.2 5
  if k.1 ≤ 2 then ((addMail b (10 + (g.1 : Int)) ((curBelow k.2 8).1 : Int) (pickS (curBelow k.2 8).2 textsL).1 s.1).1, (pickS (curBelow k.2 8).2 textsL).2)
  else if k.1 = 3 then ((flagMail b (10 + (g.1 : Int)) ((curBelow k.2 8).1 : Int) s.1).1, (curBelow k.2 8).2)
  else ((takeOut b (10 + (g.1 : Int))).1, k.2)
def boxGoD : Nat → Nat → Box → Cur → Box × Cur
  | 0, _, b, c => (b, (curBelow c 12).2)
  | f + 1, i, b, c => if i < (curBelow c 12).1 then boxGoD f (i + 1) (boxStepD b (curBelow c 12).2).1 (boxStepD b (curBelow c 12).2).2 else (b, (curBelow c 12).2)
def box0D (c : Cur) : Box × Cur :=
  let s := stampD c
  let n := pickS s.2 names3
  let k := curBelow n.2 4
  (⟨7, n.1, s.1, 1 + (k.1 : Int), [], []⟩, k.2)
def boxD (c : Cur) : Box × Cur := boxGoD 12 0 (box0D c).1 (box0D c).2
theorem boxStepD_b (b : Box) (c : Cur) : (boxStepD b c).2.b = c.b := by
  unfold boxStepD
  dsimp only
  split
  · simp only [pickS_b, curBelow_b, stampD_b]
  · split
    · simp only [curBelow_b, stampD_b]
    · simp only [curBelow_b, stampD_b]
theorem flagOut_s {b : Box} (i : Nat) (n : Int) (s : Stamp) (h : BoxS b) : BoxS (flagOut b i n s) := by
  unfold flagOut
  split
  · rename_i m hm
    refine ⟨h.name, by show (b.mails.set _ _).length ≤ 10; rw [List.length_set]; exact h.mails, fun x hx => ?_, h.gone⟩
    have hx' : x ∈ b.mails.set i { m with flags := setFlags m.flags n s } := hx
    rcases List.mem_or_eq_of_mem_set hx' with h1 | rfl
    · exact h.mail _ h1
    · have h2 := h.mail _ (List.mem_of_getElem? hm)
      refine ⟨?_, h2.2⟩
      show (setFlags m.flags n s).length = 3
      unfold setFlags
      split
      · exact h2.1
      · rw [setGo_len]; exact h2.1
  · exact h
theorem insG_le (l : List Int) (x : Int) : (insG l x).length ≤ l.length + 1 := by
  unfold insG
  rw [List.length_append, List.length_append, List.length_singleton]
  induction l with
  | nil => simp
  | cons y l ih =>
    by_cases h1 : y < x
    · have h2 : ¬ y > x := by omega
      simp only [List.filter_cons, h1, h2, decide_true, decide_false, if_true, Bool.false_eq_true, if_false, List.length_cons]; omega
    · by_cases h2 : y > x
      · simp only [List.filter_cons, h1, h2, decide_true, decide_false, if_true, Bool.false_eq_true, if_false, List.length_cons]; omega
      · simp only [List.filter_cons, h1, h2, decide_true, decide_false, if_true, Bool.false_eq_true, if_false, List.length_cons]; omega
theorem addMail_s {b : Box} (g f : Int) (t : Str) (s : Stamp) (h : BoxS b) : BoxS (addMail b g f t s).1 := by
  unfold addMail
  split
  · exact h
  · split
    · rename_i h1; exact box_small h1
    · exact h
theorem flagMail_s {b : Box} (g f : Int) (s : Stamp) (h : BoxS b) : BoxS (flagMail b g f s).1 := by
  unfold flagMail
  split
  · exact h
  · exact flagOut_s _ _ _ h
theorem takeOut_s {b : Box} (g : Int) (h : BoxS b) : BoxS (takeOut b g).1 := by
  unfold takeOut
  split
  · exact h
  · rename_i h1
    have h2 : b.gone.length < 40 := by
      simp only [takeCond, Bool.or_eq_true, decide_eq_true_eq, not_or] at h1; omega
    refine ⟨h.name, ?_, fun m hm => ?_, ?_⟩
    · show (takeRest b _).length ≤ 10
      have := h.mails
      unfold takeRest
      rw [List.length_append, List.length_take, List.length_drop]; omega
    · have hm' : m ∈ takeRest b (idxI (mailAt b g)).toNat := hm
      rcases List.mem_append.1 hm' with h3 | h3
      · exact h.mail _ (List.mem_of_mem_take h3)
      · exact h.mail _ (List.mem_of_mem_drop h3)
    · show (insG b.gone g).length ≤ 40
      have := insG_le b.gone g; omega
theorem boxStepD_s {b : Box} (c : Cur) (h : BoxS b) : BoxS (boxStepD b c).1 := by
  unfold boxStepD
  dsimp only
  split
  · exact addMail_s _ _ _ _ h
  · split
    · exact flagMail_s _ _ _ h
    · exact takeOut_s _ h
theorem boxGoD_b : ∀ (f i : Nat) (b : Box) (c : Cur), (boxGoD f i b c).2.b = c.b
  | 0, _, _, c => curBelow_b _ _
  | f + 1, i, b, c => by
    rw [boxGoD]
    split
    · rw [boxGoD_b, boxStepD_b, curBelow_b]
    · exact curBelow_b _ _
theorem boxGoD_s : ∀ (f i : Nat) (b : Box) (c : Cur), BoxS b → BoxS (boxGoD f i b c).1
  | 0, _, _, c, h => h
  | f + 1, i, b, c, h => by
    rw [boxGoD]
    split
    · exact boxGoD_s _ _ _ _ (boxStepD_s _ h)
    · exact h
theorem box0D_b (c : Cur) : (box0D c).2.b = c.b := by simp only [box0D, curBelow_b, pickS_b, stampD_b]
theorem box0D_s (c : Cur) : BoxS (box0D c).1 := by
  have e : (box0D c).1 = ⟨7, (pickS (stampD c).2 names3).1, (stampD c).1, 1 + ((curBelow (pickS (stampD c).2 names3).2 4).1 : Int), [], []⟩ := by simp only [box0D]
  rw [e]
  exact ⟨Nat.le_trans (pick_len (m := 5) M57 M57) M57, by simp, by simp, by simp⟩
theorem boxD_b (c : Cur) : (boxD c).2.b = c.b := by rw [boxD, boxGoD_b, box0D_b]
theorem boxD_s (c : Cur) : BoxS (boxD c).1 := boxGoD_s _ _ _ _ (box0D_s c)
def boxA (c : Cur) : Box × Cur :=
  let k := curBelow c 14
  let x := curBelow k.2 60
  let b := boxD x.2
  if k.1 = 0 then ({ b.1 with gid := ((x.1 % 3 : Nat) : Int) }, b.2)
  else if k.1 = 1 then ({ b.1 with name := names4.getD (x.1 % 3) [] }, b.2)
  else if k.1 = 2 then ({ b.1 with next := ((x.1 % 5 : Nat) : Int) }, b.2)
  else if k.1 = 3 then ({ b.1 with mails := b.1.mails ++ [(mailA b.2).1] }, (mailA b.2).2)
  else if k.1 = 4 then ({ b.1 with gone := b.1.gone ++ [(x.1 : Int)] }, b.2)
  else if k.1 = 5 then ({ b.1 with named := (stampA b.2).1 }, (stampA b.2).2)
  else b
theorem boxA_b (c : Cur) : (boxA c).2.b = c.b := by
  unfold boxA
  dsimp only
  split
  · simp only [curBelow_b, boxD_b]
  · split
    · simp only [curBelow_b, boxD_b]
    · split
      · simp only [curBelow_b, boxD_b]
      · split
        · simp only [curBelow_b, boxD_b, mailA_b]
        · split
          · simp only [curBelow_b, boxD_b]
          · split
            · simp only [curBelow_b, boxD_b, stampA_b]
            · simp only [curBelow_b, boxD_b]
structure BoxM (b : Box) : Prop where
  name : b.name.length ≤ 13
  mails : b.mails.length ≤ 11
  mail : ∀ m ∈ b.mails, m.flags.length ≤ 4 ∧ m.text.length ≤ 61
  gone : b.gone.length ≤ 41
theorem BoxS.m {b : Box} (h : BoxS b) : BoxM b := ⟨by have := h.name; omega, by have := h.mails; omega, fun m hm => by have := h.mail m hm; omega, by have := h.gone; omega⟩
theorem BoxM.sm {b : Box} (h : BoxM b) : smBox b := by
  have h1 := h.name; have h2 := h.mails; have h4 := h.gone
  exact ⟨by omega, ⟨by omega, fun m hm => by have := h.mail m hm; exact ⟨by omega, by omega⟩⟩, by omega⟩
theorem names4_len : ∀ i < 3, (names4.getD i []).length ≤ 13 := by decide
theorem boxA_m (c : Cur) : BoxM (boxA c).1 := by
  have h := (boxD_s (curBelow (curBelow c 14).2 60).2)
  unfold boxA
  dsimp only
  generalize boxD (curBelow (curBelow c 14).2 60).2 = b at h ⊢
  generalize curBelow (curBelow c 14).2 60 = x
  generalize curBelow c 14 = k
  obtain ⟨b, c1⟩ := b
  dsimp only at h ⊢
  have hm := h.m
  split
  · exact ⟨hm.name, hm.mails, hm.mail, hm.gone⟩
  · split
    · exact ⟨names4_len _ (Nat.mod_lt _ M57), hm.mails, hm.mail, hm.gone⟩
    · split
      · exact ⟨hm.name, hm.mails, hm.mail, hm.gone⟩
      · split
        · refine ⟨hm.name, ?_, fun m hmm => ?_, hm.gone⟩
          · have := h.mails
            show (b.mails ++ [_]).length ≤ 11
            rw [List.length_append, List.length_singleton]; omega
          · have hmm' : m ∈ b.mails ++ [(mailA c1).1] := hmm
            rcases List.mem_append.1 hmm' with h1 | h1
            · exact hm.mail _ h1
            · obtain rfl := List.mem_singleton.1 h1
              exact mailA_len _
        · split
          · refine ⟨hm.name, hm.mails, hm.mail, ?_⟩
            have := h.gone
            show (b.gone ++ [_]).length ≤ 41
            rw [List.length_append, List.length_singleton]; omega
          · split
            · exact ⟨hm.name, hm.mails, hm.mail, hm.gone⟩
            · exact hm
theorem sm_set {s : Store} {i : Nat} {b : Box} (h : smStore s) (hb : smBox b) : smStore { s with boxes := s.boxes.set i b } := by
  refine ⟨⟨by show (s.boxes.set i b).length ≤ _; rw [List.length_set]; exact h.1.1, fun z hz => ?_⟩, h.2⟩
  rcases List.mem_or_eq_of_mem_set hz with h1 | rfl
  · exact h.1.2 _ h1
  · exact hb
theorem sm_gone {s : Store} {x : Int} (h : smStore s) (hg : s.gone.length ≤ 20) : smStore { s with gone := s.gone ++ [x] } :=
  ⟨h.1, by show (s.gone ++ [x]).length ≤ _; rw [List.length_append, List.length_singleton]; omega⟩
theorem sm_name {b : Box} {n : Str} (h : smBox b) (hn : n.length ≤ 1048576) : smBox { b with name := n } := ⟨hn, h.2.1, h.2.2⟩
theorem ren_mail {k : Nat} (hk : frz k 0 = 0) (l : List Mail) : V.travLL V.nil (fun L sz off es => .sl (frz k L) sz off es) (fun L i o e => .ptr (frz k L) i o e) (l.map cMail) = l.map cMail := by
  rw [travLL_eq, List.map_map]
  refine List.map_congr_left fun m _ => ?_
  show V.travL V.nil (fun L sz off es => .sl (frz k L) sz off es) (fun L i o e => .ptr (frz k L) i o e) (cMail m) = cMail m
  simp only [cMail, V.travL, V.trav, zz, zf, zy, hk]
theorem ren_box {k : Nat} (hk : frz k 0 = 0) (l : List Box) : V.travLL V.nil (fun L sz off es => .sl (frz k L) sz off es) (fun L i o e => .ptr (frz k L) i o e) (l.map cBox) = l.map cBox := by
  rw [travLL_eq, List.map_map]
  refine List.map_congr_left fun m _ => ?_
  show V.travL V.nil (fun L sz off es => .sl (frz k L) sz off es) (fun L i o e => .ptr (frz k L) i o e) (cBox m) = cBox m
  simp only [cBox, V.travL, V.trav, zz, zf, zy, hk, ren_mail hk]
theorem getZ {l : List Int} {w : Nat} (h : w < l.length) : (l.map cZ)[w]? = some [V.int .i64 (l.getD w 0)] := by
  rw [List.getElem?_map, List.getElem?_eq_getElem h, List.getD_eq_getElem?_getD, List.getElem?_eq_getElem h]; rfl
theorem getS {l : List Str} {w : Nat} (h : w < l.length) : (l.map cS)[w]? = some [V.str (l.getD w [])] := by
  rw [List.getElem?_map, List.getElem?_eq_getElem h, List.getD_eq_getElem?_getD, List.getElem?_eq_getElem h]; rfl
end Go.Proofs.YtiipkeendfpddaaGreat.K
