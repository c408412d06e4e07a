/- What a server and a pair show: plain functions. -/
import Derived.Test.YtjhfabimacljhaaY20
namespace Go.Proofs.Ytjhfabimacljhaa.K
open Go Go.RowKit
set_option linter.unusedVariables false
set_option linter.unusedSimpArgs false
theorem le_eq {a b : V} (h : a = b) : V.le a b := h ▸ le_rfl' a
section
variable {P : Program} {ti : Tab} {ops : Array Oper} {o : Oper} {l : List Oper} {t t' h h' : List V} {n n' : Nat} {Q : Exit → List V → List V → Nat → Prop}
theorem TOps.append {T e : TypeId} {i : TInfo} {s x : Operand} {L off : Nat} {es es2 es3 : List (List V)} {s1 b1 : Nat} {z1 : List V} (hti : TabOk P ti) (hg : o.guard = none) (ho : o.op = .call ⟨.builtin .append, #[s, x], #[T, T]⟩) (hT : ti T = some ⟨.slice e, s1, b1, z1⟩) (he : ti e = some i)
    (hi : 0 < i.size) (hz : i.zero.length = i.size) (hs : opnd t s = .sl L i.size off es) (hx : (∃ L2 off2, opnd t x = .sl L2 i.size off2 es2) ∨ (es2 = [] ∧ ∃ q, opnd t x = .nil q)) (hL : L ≠ 0) (hLn : L < n)
    (hb : (es.length + es2.length) * i.bytes ≤ 140737488355328) (hb2 : es.length + es2.length ≤ 9223372036854775807) (hone : ∀ e ∈ es2, ∀ y ∈ e, V.one y = true) (he3 : V.killLL L (es ++ es2) = es3) (ht : putV (V.killL L t) o.dst (.sl L i.size 0 es3) = t') (hh : V.killL L h = h')
    (hk : TOps P ops [] Q l t' h' n) : TOps P ops [] Q (o :: l) t h n :=
  TOps.ok h' hg (ht ▸ hh ▸ he3 ▸ ok_append hti hT he hi hz ho hs hx hL hLn hb hb2 hone) hk
end
def fig (d : Nat) : UInt8 := if d < 10 then UInt8.ofNat (48 + d) else UInt8.ofNat (87 + d)
theorem fig_lt {d : Nat} (h : d < 10) : fig d = UInt8.ofNat (48 + d) := if_pos h
theorem fig_ge {d : Nat} (h : ¬ d < 10) : fig d = UInt8.ofNat (87 + d) := if_neg h
theorem fig_byte {d : Nat} (h : d < 10) : IntKind.u8.wrap (IntKind.i64.wrap (48 + (d : Int))) = (((UInt8.ofNat (48 + d)).toNat : Nat) : Int) := by
  rw [show (48 : Int) + (d : Int) = ((48 + d : Nat) : Int) by omega, wrap_nat (by omega), wrap_u8_nat]
theorem fig_byte2 {d : Nat} (h : d < 16) (h2 : ¬ d < 10) : IntKind.u8.wrap (IntKind.i64.wrap (IntKind.i64.wrap (97 + (d : Int)) - 10)) = (((UInt8.ofNat (87 + d)).toNat : Nat) : Int) := by
  rw [show (97 : Int) + (d : Int) = ((97 + d : Nat) : Int) by omega, wrap_nat (by omega), show ((97 + d : Nat) : Int) - 10 = ((87 + d : Nat) : Int) by omega, wrap_nat (by omega), wrap_u8_nat]
abbrev figT : Str := [48,49,50,51,52,53,54,55,56,57,97,98,99,100,101,102]
theorem fig_cut {d : Nat} (h : d < 16) : (figT.take (d + 1)).drop d = [fig d] := by
  have : ∀ d < 16, (figT.take (d + 1)).drop d = [fig d] := by decide
  exact this d h
theorem fig_get {d : Nat} (h : d < 16) (h2 : d < figT.length) : figT[d]'h2 = fig d := by
  have : ∀ d : Fin 16, figT[d.val]'(d.isLt) = fig d.val := by decide
  exact this ⟨d, h⟩
def dg (v : Int) : Nat := (v.tmod 10).natAbs
theorem dg_lt (v : Int) : dg v < 10 := by
  unfold dg
  rw [Int.natAbs_tmod]
  exact Nat.mod_lt _ (by decide)
theorem dg_neg {v : Int} (h : v.tmod 10 < 0) : IntKind.i64.wrap (0 - v.tmod 10) = (dg v : Int) := by
  have := dg_lt v
  unfold dg at *
  rw [IntKind.wrap_i64]; omega
theorem dg_pos {v : Int} (h : ¬ v.tmod 10 < 0) : v.tmod 10 = (dg v : Int) := by
  unfold dg; omega
theorem dg_max (v : Int) : (if IntKind.i64.wrap (0 - v.tmod 10) > v.tmod 10 then IntKind.i64.wrap (0 - v.tmod 10) else v.tmod 10) = (dg v : Int) := by
  have := dg_lt v
  unfold dg at *
  rw [IntKind.wrap_i64]; split <;> omega
theorem wrap_abs (x : Int) : (IntKind.i64.wrap x).natAbs ≤ x.natAbs := by rw [IntKind.wrap_i64]; omega
theorem wrap_le (x : Int) : (IntKind.i64.wrap x).natAbs ≤ 9223372036854775808 := by rw [IntKind.wrap_i64]; omega
theorem quo_abs (v : Int) : (IntKind.i64.wrap (v.tdiv 10)).natAbs ≤ v.natAbs / 10 := by
  have h := wrap_abs (v.tdiv 10)
  rw [Int.natAbs_tdiv] at h
  exact h
def decV (v : Int) (acc : Str) : Str := if h : v = 0 then acc else decV (IntKind.i64.wrap (v.tdiv 10)) (fig (dg v) :: acc)
termination_by v.natAbs
decreasing_by have := quo_abs v; omega
theorem decV_zero {v : Int} {acc : Str} (h : v = 0) : decV v acc = acc := by rw [decV, dif_pos h]
theorem decV_pos {v : Int} {acc : Str} (h : ¬ v = 0) : decV v acc = decV (IntKind.i64.wrap (v.tdiv 10)) (fig (dg v) :: acc) := by rw [decV, dif_neg h]
theorem decV_lt (k : Nat) : ∀ (v : Int) (acc : Str), v.natAbs < 10 ^ k → (decV v acc).length ≤ acc.length + k := by
  induction k with
  | zero => intro v acc h; rw [decV_zero (by omega)]; omega
  | succ k ih =>
    intro v acc h
    by_cases hv : v = 0
    · rw [decV_zero hv]; omega
    · rw [decV_pos hv]
      have h2 := quo_abs v
      have h3 := ih (IntKind.i64.wrap (v.tdiv 10)) (fig (dg v) :: acc) (by rw [Nat.pow_succ] at h; omega)
      simp only [List.length_cons] at h3
      omega
theorem decV_len (v : Int) : (decV v []).length ≤ 20 := by
  by_cases hv : v = 0
  · rw [decV_zero hv]; decide
  · rw [decV_pos hv]
    have h2 := wrap_le (v.tdiv 10)
    have h3 := decV_lt 19 (IntKind.i64.wrap (v.tdiv 10)) [fig (dg v)] (by omega)
    simp only [List.length_cons, List.length_nil] at h3
    omega
theorem decV_ge : ∀ (k : Nat) (v : Int) (acc : Str), v.natAbs ≤ k → acc.length ≤ (decV v acc).length := by
  intro k
  induction k with
  | zero => intro v acc h; rw [decV_zero (by omega)]; exact Nat.le_refl _
  | succ k ih =>
    intro v acc h
    by_cases hv : v = 0
    · rw [decV_zero hv]; exact Nat.le_refl _
    · rw [decV_pos hv]
      have h2 := quo_abs v
      have h3 := ih (IntKind.i64.wrap (v.tdiv 10)) (fig (dg v) :: acc) (by omega)
      simp only [List.length_cons] at h3
      omega
theorem decV_acc {v m : Int} {acc : Str} (h : decV m acc = decV v []) : acc.length ≤ 20 := by
  have h1 := decV_ge _ m acc (Nat.le_refl _)
  have h2 := decV_len v
  rw [h] at h1
  omega
theorem quo_abs_lt {v : Int} (h : ¬ v = 0) : (IntKind.i64.wrap (v.tdiv 10)).natAbs < v.natAbs := by
  have := quo_abs v
  omega
def decimal (v : Int) : Str := if v = 0 then [48] else if v < 0 then 45 :: decV v [] else decV v []
theorem decimal_zero {v : Int} (h : v = 0) : decimal v = [48] := if_pos h
theorem decimal_neg {v : Int} (h : v < 0) : decimal v = 45 :: decV v [] := (if_neg (by omega)).trans (if_pos h)
theorem decimal_pos {v : Int} (h : ¬ v = 0) (h2 : ¬ v < 0) : decimal v = decV v [] := (if_neg h).trans (if_neg h2)
theorem decimal_len (v : Int) : (decimal v).length ≤ 21 := by
  have := decV_len v
  unfold decimal
  split
  · simp
  · split
    · simp only [List.length_cons]; omega
    · omega
def numS (v : Int) : Str := decimal (if v > 0 then v else 0)
theorem numS_neg {v : Int} (h : v < 0) : numS v = [48] := by rw [numS, if_neg (by omega)]; rfl
theorem numS_pos {v : Int} (h : ¬ v < 0) : numS v = decimal v := by
  unfold numS
  split
  · rfl
  · rw [show v = 0 by omega]
theorem numS_nat (n : Nat) : numS (n : Int) = decimal (n : Int) := numS_pos (by omega)
theorem numS_len (v : Int) : (numS v).length ≤ 21 := decimal_len _
def hexC (c : UInt8) : Str := [fig (c.toNat / 16), fig (c.toNat % 16)]
def hexL (s : Str) : Str := s.flatMap hexC
theorem hexL_len (s : Str) : (hexL s).length = 2 * s.length := by
  induction s with
  | nil => rfl
  | cons c s ih =>
    unfold hexL at *
    rw [List.flatMap_cons, List.length_append, ih]
    simp only [hexC, List.length_cons, List.length_nil]
    omega
theorem flat_next {α : Type} {f : α → Str} {a : List α} {i : Nat} (h : i < a.length) : (a.take (i + 1)).flatMap f = (a.take i).flatMap f ++ f a[i] := by
  rw [List.take_succ_eq_append_getElem h, List.flatMap_append]
  simp
def hexS (s : Str) : Str := if s.length > 20000 then [] else hexL s
theorem hexS_len (s : Str) : (hexS s).length ≤ 40000 := by
  unfold hexS
  split
  · simp
  · rw [hexL_len]; omega
theorem hexS_off {s : Str} (h : s.length > 20000) : hexS s = [] := if_pos h
theorem hexS_on {s : Str} (h : ¬ s.length > 20000) : hexS s = hexL s := if_neg h
theorem hi_nib {b : UInt8} : ((b.toNat : Int)).fdiv (2 ^ min (Int.toNat 4) IntKind.u8.bits) = ((b.toNat / 16 : Nat) : Int) := by
  show ((b.toNat : Int)).fdiv 16 = _
  rw [Int.fdiv_eq_ediv_of_nonneg _ (by omega)]; rfl
theorem lo_nib {b : UInt8} : IntKind.u8.wrap ((BitVec.ofInt IntKind.u8.bits (b.toNat : Int) &&& BitVec.ofInt IntKind.u8.bits 15).toNat : Int) = ((b.toNat % 16 : Nat) : Int) := by
  have hb := b.toNat_lt
  have : (BitVec.ofInt IntKind.u8.bits (b.toNat : Int) &&& BitVec.ofInt IntKind.u8.bits 15).toNat = b.toNat % 16 := by
    show (BitVec.ofInt 8 (b.toNat : Int) &&& BitVec.ofInt 8 15).toNat = _
    rw [BitVec.toNat_and, BitVec.ofInt_natCast, BitVec.toNat_ofNat, show (BitVec.ofInt 8 15).toNat = 2 ^ 4 - 1 from rfl, Nat.and_two_pow_sub_one_eq_mod]
    omega
  rw [this]
  have h2 : b.toNat % 16 < 256 := by omega
  show IntKind.u8.wrap _ = _
  rw [IntKind.wrap_u8]; omega
theorem quo16 {b : UInt8} : IntKind.i64.wrap (((b.toNat : Int)).tdiv 16) = ((b.toNat / 16 : Nat) : Int) := by
  have hb := b.toNat_lt
  rw [Int.tdiv_eq_ediv_of_nonneg (by omega), IntKind.wrap_i64]; omega
theorem rem16 {b : UInt8} : ((b.toNat : Int)).tmod 16 = ((b.toNat % 16 : Nat) : Int) := by rw [Int.tmod_eq_emod_of_nonneg (by omega)]; rfl
theorem two_len {s : Str} (h : ¬ s.length > 20000) : IntKind.i64.wrap (2 * (s.length : Int)) = ((2 * s.length : Nat) : Int) := by rw [IntKind.wrap_i64]; omega
theorem wrap_u64_nat {i : Nat} (h : i ≤ 3) : IntKind.u64.wrap (i : Int) = (i : Int) := by rw [IntKind.wrap_u64]; omega
def flB (r : Reg) : Nat := (r.val % 2).toNat
theorem flB_lt (r : Reg) : flB r < 2 := by unfold flB; omega
def flN : Nat → List Reg → Nat
  | _, [] => 0
  | i, r :: l => flB r * 2 ^ i + flN (i + 1) l
theorem flN_snoc (r : Reg) : ∀ (l : List Reg) (i : Nat), flN i (l ++ [r]) = flN i l + flB r * 2 ^ (i + l.length)
  | [], i => by simp [flN]
  | a :: l, i => by
    simp only [List.cons_append, flN, flN_snoc r l (i + 1), List.length_cons]
    rw [show i + 1 + l.length = i + (l.length + 1) by omega]
    omega
theorem flN_lt : ∀ (l : List Reg) (i : Nat), flN i l + 2 ^ i ≤ 2 ^ (i + l.length)
  | [], i => by simp [flN]
  | a :: l, i => by
    have h1 := flN_lt l (i + 1)
    have h2 := flB_lt a
    have h3 : flB a * 2 ^ i ≤ 1 * 2 ^ i := Nat.mul_le_mul_right _ (by omega)
    simp only [flN, List.length_cons]
    rw [show i + (l.length + 1) = i + 1 + l.length by omega]
    have h4 : 2 ^ (i + 1) = 2 * 2 ^ i := by rw [Nat.pow_succ]; omega
    omega
theorem flN_next {a : List Reg} {i : Nat} (h : i < a.length) : flN 0 (a.take (i + 1)) = flN 0 (a.take i) + flB a[i] * 2 ^ i := by
  rw [List.take_succ_eq_append_getElem h, flN_snoc]
  simp only [List.length_take, Nat.zero_add]
  rw [Nat.min_eq_left (by omega)]
theorem flN_le {a : List Reg} {i : Nat} (h : i ≤ 3) : flN 0 (a.take i) ≤ 7 := by
  have h1 := flN_lt (a.take i) 0
  have h2 : 2 ^ (0 + (a.take i).length) ≤ 2 ^ 3 := Nat.pow_le_pow_right (by decide) (by simp only [List.length_take]; omega)
  omega
theorem and_one {v : Int} : IntKind.i64.wrap ((BitVec.ofInt IntKind.i64.bits v &&& BitVec.ofInt IntKind.i64.bits 1).toNat : Int) = (((v % 2).toNat : Nat) : Int) := by
  have : (BitVec.ofInt IntKind.i64.bits v &&& BitVec.ofInt IntKind.i64.bits 1).toNat = (v % 2).toNat := by
    show (BitVec.ofInt 64 v &&& BitVec.ofInt 64 1).toNat = _
    rw [BitVec.toNat_and, show (BitVec.ofInt 64 1).toNat = 2 ^ 1 - 1 from rfl, Nat.and_two_pow_sub_one_eq_mod, BitVec.toNat_ofInt]
    omega
  rw [this]
  exact wrap_nat (by omega)
theorem shl_fl {r : Reg} {i : Nat} (h : i < 3) : IntKind.i64.wrap ((((r.val % 2).toNat : Nat) : Int) * 2 ^ min (Int.toNat (i : Int)) IntKind.i64.bits) = ((flB r * 2 ^ i : Nat) : Int) := by
  have h2 := flB_lt r
  have h3 : ((r.val % 2).toNat) = flB r := rfl
  rw [h3]
  rcases (show i = 0 ∨ i = 1 ∨ i = 2 by omega) with rfl | rfl | rfl
  · show IntKind.i64.wrap ((flB r : Int) * 1) = ((flB r * 1 : Nat) : Int); rw [IntKind.wrap_i64]; omega
  · show IntKind.i64.wrap ((flB r : Int) * 2) = ((flB r * 2 : Nat) : Int); rw [IntKind.wrap_i64]; omega
  · show IntKind.i64.wrap ((flB r : Int) * 4) = ((flB r * 4 : Nat) : Int); rw [IntKind.wrap_i64]; omega
theorem fl_one {r : Reg} {i : Nat} (h : i < 3) (h2 : ¬ r.val.tmod 2 = 0) : IntKind.i64.wrap (1 * 2 ^ min (Int.toNat (i : Int)) IntKind.i64.bits) = ((flB r * 2 ^ i : Nat) : Int) := by
  have h3 : flB r = 1 := by
    unfold flB
    rcases Int.le_total 0 r.val with hv | hv
    · rw [Int.tmod_eq_emod_of_nonneg hv] at h2; omega
    · rw [show r.val = -(-r.val) by omega, Int.neg_tmod, Int.tmod_eq_emod_of_nonneg (by omega)] at h2; omega
  rw [h3]
  rcases (show i = 0 ∨ i = 1 ∨ i = 2 by omega) with rfl | rfl | rfl <;> rfl
theorem fl_none {r : Reg} {i : Nat} (h2 : r.val.tmod 2 = 0) : flB r * 2 ^ i = 0 := by
  have h3 : flB r = 0 := by
    unfold flB
    rcases Int.le_total 0 r.val with hv | hv
    · rw [Int.tmod_eq_emod_of_nonneg hv] at h2; omega
    · rw [show r.val = -(-r.val) by omega, Int.neg_tmod, Int.tmod_eq_emod_of_nonneg (by omega)] at h2; omega
  rw [h3, Nat.zero_mul]
theorem flat_len {α : Type} {f : α → Str} {k : Nat} : ∀ {l : List α}, (∀ a ∈ l, (f a).length ≤ k) → (l.flatMap f).length ≤ l.length * k
  | [], _ => by simp
  | a :: l, h => by
    have h1 := h a (List.mem_cons_self ..)
    have h2 := flat_len (l := l) fun b hb => h b (List.mem_cons_of_mem _ hb)
    rw [List.flatMap_cons, List.length_append, List.length_cons, Nat.succ_mul]
    omega
def mailS (m : Mail) : Str := [32] ++ numS m.uid ++ [32] ++ decimal (flN 0 (m.flags.take 3) : Int) ++ [32] ++ hexS m.text ++ [10]
theorem mailS_len (m : Mail) : (mailS m).length ≤ 40046 := by
  have h1 := numS_len m.uid
  have h2 := decimal_len (flN 0 (m.flags.take 3) : Int)
  have h3 := hexS_len m.text
  simp only [mailS, List.length_append, List.length_cons, List.length_nil]
  omega
def boxH (b : Box) : Str := b.name ++ [32] ++ numS b.next ++ [10]
def boxS (b : Box) : Str := boxH b ++ b.mails.flatMap mailS
theorem mails_len {l : List Mail} (h : l.length ≤ 1048576) : (l.flatMap mailS).length ≤ 41991274496 := by
  have h1 := flat_len (f := mailS) (l := l) fun m _ => mailS_len m
  have h2 : l.length * 40046 ≤ 1048576 * 40046 := Nat.mul_le_mul_right _ h
  omega
theorem boxH_len {b : Box} (h : b.name.length ≤ 1048576) : (boxH b).length ≤ 1048599 := by
  have h1 := numS_len b.next
  simp only [boxH, List.length_append, List.length_cons, List.length_nil]
  omega
theorem boxS_len {b : Box} (h : b.name.length ≤ 1048576) (h2 : b.mails.length ≤ 1048576) : (boxS b).length ≤ 50000000000 := by
  have h3 := boxH_len h
  have h4 := mails_len h2
  simp only [boxS, List.length_append]
  omega
def saidS (s : Store) : Str := s.boxes.flatMap boxS
theorem boxes_len {l : List Box} (h : l.length ≤ 1048576) (h2 : ∀ b ∈ l, b.name.length ≤ 1048576 ∧ b.mails.length ≤ 1048576) : (l.flatMap boxS).length ≤ 52428800000000000 := by
  have h1 := flat_len (f := boxS) (l := l) fun b hb => boxS_len (h2 b hb).1 (h2 b hb).2
  have h3 : l.length * 50000000000 ≤ 1048576 * 50000000000 := Nat.mul_le_mul_right _ h
  omega
theorem saidS_len {s : Store} (h : smStore s) : (saidS s).length ≤ 52428800000000000 := boxes_len h.1.1 fun b hb => ⟨(h.1.2 b hb).1, (h.1.2 b hb).2.1.1⟩
def serverS (v : Server) : Str := [115,101,114,118,101,114,32] ++ numS v.kept.store.by_ ++ [32] ++ (if v.up then [117,112] else [100,111,119,110]) ++ [10] ++ saidS v.kept.store
theorem serverS_len {v : Server} (h : smStore v.kept.store) : (serverS v).length ≤ 52428800000000100 := by
  have h1 := saidS_len h
  have h2 := numS_len v.kept.store.by_
  unfold serverS
  split <;> simp only [List.length_append, List.length_cons, List.length_nil] <;> omega
theorem servers_len {l : List Server} (h : l.length ≤ 2) (h2 : ∀ v ∈ l, smStore v.kept.store) : (l.flatMap serverS).length ≤ 104857600000000200 := by
  have h1 := flat_len (f := serverS) (l := l) fun v hv => serverS_len (h2 v hv)
  have h3 : l.length * 52428800000000100 ≤ 2 * 52428800000000100 := Nat.mul_le_mul_right _ h
  omega
theorem min2 {n : Nat} : (if (n : Int) < 2 then (n : Int) else 2) = ((min 2 n : Nat) : Int) := by split <;> omega
theorem take_min2 {α : Type} {l : List α} : l.take (min 2 l.length) = l.take 2 := by
  rcases Nat.lt_or_ge l.length 2 with h | h
  · rw [List.take_of_length_le (by omega), List.take_of_length_le (by omega)]
  · rw [show min 2 l.length = 2 by omega]
def pairS (p : Pair) (b : Bool) : Str := (p.servers.take 2).flatMap serverS ++ (if b then [97,103,114,101,101,10] else [97,112,97,114,116,10])
end Go.Proofs.Ytjhfabimacljhaa.K
