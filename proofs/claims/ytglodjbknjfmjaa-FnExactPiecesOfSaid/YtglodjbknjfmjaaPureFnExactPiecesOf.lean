/- The law FnExactPiecesOf holds at every text: the program cuts it into the same pieces as the reference, the marks and what is held agree. No condition. -/
import Derived.Test.YtglodjbknjfmjaaPFnExactPiecesOfx2
namespace Go.Proofs.Ytglodjbknjfmjaa.Pure
open Go.RowKit Go.Proofs.Ytglodjbknjfmjaa.PFnExactPiecesOf Go.Proofs.YtglodjbknjfmjaaW.PrintWords Go.Proofs.YtglodjbknjfmjaaW.PrintLast Go.Proofs.YtglodjbknjfmjaaW.PrintMore

theorem strOf_size (xs : List Int) : (strOfNums xs).size = xs.length := by
  show (strOfNums xs).data.size = xs.length
  simp [strOfNums]

theorem mt_l0 (d : Nat) : ∀ (x0 : Int) (x3 : ByteArray), 0 ≤ x0 → x0 < 10 ^ d → x0 ≤ 9223372036854775807 → x3.size + d ≤ 1000 →
    ∃ s, ∀ k, d < k → laws_markText.l0 k x0 x3 = some s := by
  induction d with
  | zero =>
    intro x0 x3 h0 h1 _ h2
    refine ⟨(⟨#[109]⟩ : ByteArray) ++ x3, fun k hk => ?_⟩
    obtain ⟨k, rfl⟩ : ∃ m, k = m + 1 := ⟨k - 1, by omega⟩
    simp only [laws_markText.l0]
    rw [if_neg (by omega), if_pos (by omega)]
  | succ d ih =>
    intro x0 x3 h0 h1 hM h2
    by_cases hp : x0 > 0
    · have hd : Int.tdiv x0 10 = x0 / 10 := Int.tdiv_eq_ediv_of_nonneg h0
      have hw : wrap64 (x0 / 10) = x0 / 10 := by unfold wrap64; omega
      have hsz := strOf_size [(wrap64 (48 + (Int.tmod x0 10))) % 256]
      have hlt : x0 / 10 < 10 ^ d := by
        have : x0 < 10 * 10 ^ d := by rw [← Int.pow_succ']; exact h1
        omega
      obtain ⟨s, hs⟩ := ih (x0 / 10) (strOfNums [(wrap64 (48 + (Int.tmod x0 10))) % 256] ++ x3) (by omega) hlt (by omega)
        (by rw [ByteArray.size_append, hsz]; simp; omega)
      refine ⟨s, fun k hk => ?_⟩
      obtain ⟨k, rfl⟩ : ∃ m, k = m + 1 := ⟨k - 1, by omega⟩
      simp only [laws_markText.l0, Option.bind_some]
      rw [if_pos hp, if_pos (by rw [hsz]; simp; omega), hd, hw]
      exact hs k (by omega)
    · refine ⟨(⟨#[109]⟩ : ByteArray) ++ x3, fun k hk => ?_⟩
      obtain ⟨k, rfl⟩ : ∃ m, k = m + 1 := ⟨k - 1, by omega⟩
      simp only [laws_markText.l0]
      rw [if_neg hp, if_pos (by omega)]

theorem mt_some (a : Int) : ∃ s, a ≤ 9223372036854775807 → ∀ k, 20 < k → laws_markText.f k a = some s := by
  by_cases h : a ≤ 0
  · exact ⟨(⟨#[109, 48]⟩ : ByteArray), fun _ k _ => by unfold laws_markText.f; rw [if_pos h]⟩
  · by_cases hb : a ≤ 9223372036854775807
    · obtain ⟨s, hs⟩ := mt_l0 20 a ⟨#[]⟩ (by omega) (by omega) hb (by show 0 + 20 ≤ 1000; omega)
      exact ⟨s, fun _ k hk => by unfold laws_markText.f; rw [if_neg h]; exact hs k hk⟩
    · exact ⟨ByteArray.empty, fun hb' => absurd hb' hb⟩

theorem mt_all : ∃ g : Int → ByteArray, ∀ a, a ≤ 9223372036854775807 → ∀ k, 20 < k → laws_markText.f k a = some (g a) :=
  ⟨fun a => (mt_some a).choose, fun a ha k hk => (mt_some a).choose_spec ha k hk⟩

/-- The marks from a number on. -/
def marks (g : Int → ByteArray) : Int → Nat → List ByteArray
  | _, 0 => []
  | m, n + 1 => g m :: marks g (m + 1) n
theorem marks_length (g : Int → ByteArray) (n : Nat) : ∀ m, (marks g m n).length = n := by
  induction n with
  | zero => intro m; rfl
  | succ n ih => intro m; simp [marks, ih]

theorem wrap_in {i : Int} (h0 : -9223372036854775808 ≤ i) (h1 : i ≤ 9223372036854775807) : wrap64 i = i := by unfold wrap64; omega

theorem mark_l0 {g : Int → ByteArray} (hg : ∀ a, a ≤ 9223372036854775807 → ∀ k, 20 < k → laws_markText.f k a = some (g a)) :
    ∀ (suf pre : List ByteArray) (x1 : Int) (k : Nat), 0 ≤ x1 → x1 + suf.length ≤ 9223372036854775807 → pre.length + suf.length ≤ 9223372036854775807 → suf.length + 21 < k →
    laws_markStringS.l0 k (pre ++ suf) x1 pre.length = some (x1 + suf.length, pre ++ marks g x1 suf.length) := by
  intro suf
  induction suf with
  | nil =>
    intro pre x1 k h0 h1 h2 hk
    obtain ⟨k, rfl⟩ : ∃ m, k = m + 1 := ⟨k - 1, by omega⟩
    simp only [laws_markStringS.l0, List.append_nil]
    rw [if_neg (by omega)]
    simp [marks]
  | cons y suf ih =>
    intro pre x1 k h0 h1 h2 hk
    simp only [List.length_cons] at h1 h2 hk
    obtain ⟨k, rfl⟩ : ∃ m, k = m + 1 := ⟨k - 1, by omega⟩
    simp only [laws_markStringS.l0]
    rw [if_pos (by simp; omega), hg x1 (by omega) k (by omega)]
    simp only [Option.bind_some]
    rw [if_pos (by omega), wrap_in (by omega) (by omega), wrap_in (by omega) (by omega)]
    have hset : (pre ++ y :: suf).set (Int.toNat (pre.length : Int)) (g x1) = (pre ++ [g x1]) ++ suf := by simp
    rw [hset]
    have := ih (pre ++ [g x1]) (x1 + 1) k (by omega) (by omega) (by simp; omega) (by omega)
    rw [show ((pre.length : Int) + 1) = ((pre ++ [g x1]).length : Int) by simp, this]
    simp [marks]
    omega

theorem held_l0 {g : Int → ByteArray} (hg : ∀ a, a ≤ 9223372036854775807 → ∀ k, 20 < k → laws_markText.f k a = some (g a)) (n : Nat) :
    ∀ (pre : List ByteArray) (x1 : Int) (k : Nat), 0 ≤ x1 → x1 + n ≤ 9223372036854775807 → pre.length + n ≤ 9223372036854775807 → n + 21 < k →
    laws_heldStringS.l0 k (pre ++ marks g x1 n) x1 pre.length = some (x1 + n) := by
  induction n with
  | zero =>
    intro pre x1 k h0 h1 h2 hk
    obtain ⟨k, rfl⟩ : ∃ m, k = m + 1 := ⟨k - 1, by omega⟩
    simp only [laws_heldStringS.l0, marks, List.append_nil]
    rw [if_neg (by omega)]
    simp
  | succ n ih =>
    intro pre x1 k h0 h1 h2 hk
    obtain ⟨k, rfl⟩ : ∃ m, k = m + 1 := ⟨k - 1, by omega⟩
    rw [show marks g x1 (n + 1) = g x1 :: marks g (x1 + 1) n from rfl]
    simp only [laws_heldStringS.l0]
    have hrd : rdOf ByteArray.empty (pre ++ g x1 :: marks g (x1 + 1) n) (pre.length : Int) = g x1 := by simp [rdOf]
    rw [if_pos (by simp; omega), if_pos (by omega), hg x1 (by omega) k (by omega)]
    simp only [Option.bind_some]
    rw [hrd, if_pos rfl, wrap_in (by omega) (by omega), wrap_in (by omega) (by omega)]
    have := ih (pre ++ [g x1]) (x1 + 1) k (by omega) (by omega) (by simp; omega) (by omega)
    rw [List.append_assoc, List.singleton_append] at this
    rw [show ((pre.length : Int) + 1) = ((pre ++ [g x1]).length : Int) by simp, this]
    simp; omega

theorem eq_l0 (xs : List ByteArray) (d : Nat) : ∀ (i : Int) (k : Nat), 0 ≤ i → i ≤ xs.length → (xs.length : Int) - i = d → xs.length ≤ 9223372036854775806 → d < k →
    laws_eqStringS.l0 k xs xs i = some true := by
  induction d with
  | zero =>
    intro i k h0 h1 h2 h3 hk
    obtain ⟨k, rfl⟩ : ∃ m, k = m + 1 := ⟨k - 1, by omega⟩
    simp only [laws_eqStringS.l0]
    rw [if_neg (by omega)]
  | succ d ih =>
    intro i k h0 h1 h2 h3 hk
    obtain ⟨k, rfl⟩ : ∃ m, k = m + 1 := ⟨k - 1, by omega⟩
    simp only [laws_eqStringS.l0]
    rw [if_pos (by omega), if_pos h0, if_pos (by omega), if_pos trivial, wrap_in (by omega) (by omega)]
    exact ih (i + 1) k (by omega) (by omega) (by omega) h3 (by omega)

theorem eq_f (xs : List ByteArray) (k : Nat) (h : xs.length ≤ 9223372036854775806) (hk : xs.length < k) : laws_eqStringS.f k xs xs = some true := by
  unfold laws_eqStringS.f
  rw [if_pos rfl]
  exact eq_l0 xs xs.length 0 k (by omega) (by omega) (by omega) h hk

/-- Both cut alike. -/
theorem cut_l0 (t : ByteArray) (ht : t.size ≤ 1048576) (d : Nat) : ∀ (acc : List ByteArray) (i : Int), 0 ≤ i → (t.size : Int) - i ≤ 120 * d → acc.length + d ≤ 100000 →
    ∃ r : List ByteArray, r.length ≤ acc.length + d ∧ ∀ k, d < k → spec_PiecesOf.l0 k t acc i = some r ∧ impl_PiecesOf.l0 k t acc i = some r := by
  induction d with
  | zero =>
    intro acc i h0 h1 h2
    refine ⟨acc, by omega, fun k hk => ?_⟩
    obtain ⟨k, rfl⟩ : ∃ m, k = m + 1 := ⟨k - 1, by omega⟩
    simp only [spec_PiecesOf.l0, impl_PiecesOf.l0]
    rw [if_neg (by omega), if_neg (by omega)]
    exact ⟨rfl, rfl⟩
  | succ d ih =>
    intro acc i h0 h1 h2
    by_cases hi : i < (t.size : Int)
    · have hw : wrap64 (i + 120) = i + 120 := wrap_in (by omega) (by omega)
      by_cases hb : (i + 120) > (t.size : Int)
      · have hm : mn (i + 120) (t.size : Int) = t.size := by unfold mn; rw [if_pos hb]
        obtain ⟨r, hr, h⟩ := ih (acc ++ [t.extract i.toNat (t.size : Int).toNat]) (i + 120) (by omega) (by omega) (by simp; omega)
        refine ⟨r, by simp at hr; omega, fun k hk => ?_⟩
        obtain ⟨k, rfl⟩ : ∃ m, k = m + 1 := ⟨k - 1, by omega⟩
        obtain ⟨ha, hc⟩ := h k (by omega)
        simp only [spec_PiecesOf.l0, impl_PiecesOf.l0]
        rw [hw, hm, if_pos hi, if_pos hb, if_pos h0, if_pos (by omega), if_pos (by omega), if_pos (by omega), if_pos hi, if_pos h0, if_pos (by omega), if_pos (by omega), if_pos (by omega)]
        exact ⟨ha, hc⟩
      · have hm : mn (i + 120) (t.size : Int) = i + 120 := by unfold mn; rw [if_neg hb]
        obtain ⟨r, hr, h⟩ := ih (acc ++ [t.extract i.toNat (i + 120).toNat]) (i + 120) (by omega) (by omega) (by simp; omega)
        refine ⟨r, by simp at hr; omega, fun k hk => ?_⟩
        obtain ⟨k, rfl⟩ : ∃ m, k = m + 1 := ⟨k - 1, by omega⟩
        obtain ⟨ha, hc⟩ := h k (by omega)
        simp only [spec_PiecesOf.l0, impl_PiecesOf.l0]
        rw [hw, hm, if_pos hi, if_neg hb, if_pos h0, if_pos (by omega), if_pos (by omega), if_pos (by omega), if_pos hi, if_pos h0, if_pos (by omega), if_pos (by omega), if_pos (by omega)]
        exact ⟨ha, hc⟩
    · refine ⟨acc, by omega, fun k hk => ?_⟩
      obtain ⟨k, rfl⟩ : ∃ m, k = m + 1 := ⟨k - 1, by omega⟩
      simp only [spec_PiecesOf.l0, impl_PiecesOf.l0]
      rw [if_neg hi, if_neg hi]
      exact ⟨rfl, rfl⟩

theorem FnExactPiecesOf : laws_FnExactPiecesOf.Pure := by
  intro t _
  by_cases hb : (t.size : Int) > 1048576
  · exact ⟨1, by unfold laws_FnExactPiecesOf.f; rw [if_pos hb]⟩
  · obtain ⟨r, hr, hc⟩ := cut_l0 t (by omega) 9000 [] 0 (by omega) (by omega) (by simp)
    simp only [List.length_nil, Nat.zero_add] at hr
    obtain ⟨g, hg⟩ := mt_all
    refine ⟨10000, ?_⟩
    obtain ⟨ha, hi⟩ := hc 10000 (by omega)
    have he := eq_f r 10000 (by omega) (by omega)
    have hm : laws_markStringS.f 10000 r 1 = some (1 + (r.length : Int), marks g 1 r.length) := by
      unfold laws_markStringS.f
      exact mark_l0 hg r [] 1 10000 (by omega) (by omega) (by simp; omega) (by omega)
    have hh : laws_heldStringS.f 10000 (marks g 1 r.length) 1 = some (1 + (r.length : Int)) := by
      unfold laws_heldStringS.f
      exact held_l0 hg r.length [] 1 10000 (by omega) (by omega) (by simp; omega) (by omega)
    have ha' : spec_PiecesOf.f 10000 t = some r := ha
    have hi' : impl_PiecesOf.f 10000 t = some r := hi
    unfold laws_FnExactPiecesOf.f
    rw [if_neg hb, ha', hi']
    have hn : ¬ (1 + (r.length : Int) < 0) := by omega
    simp only [Option.bind_some, he, if_true, hm, hh, if_neg hn]

end Go.Proofs.Ytglodjbknjfmjaa.Pure
