/- Walks: what is found in lists. Printed by w2.py. -/
import Derived.Test.YtiipkeendfpddaaGreatPM
import Derived.Test.YtiipkeendfpddaaGreatG6
import Derived.Test.YtiipkeendfpddaaGreatG4
namespace Go.Proofs.YtiipkeendfpddaaGreat.K
open Go Go.RowKit
set_option linter.unusedVariables false
set_option linter.unusedSimpArgs false
def eqI (x y : Int) : Bool := decide (x = y)
theorem idx_mem (x : Int) (a : List Int) : decide (idxI (a.findIdx? (eqI x)) ≥ 0) = decide (x ∈ a) := by
  cases h : a.findIdx? (eqI x) with
  | some i =>
    obtain ⟨h1, h2⟩ := find_some h
    have : x = a[i] := by simpa [eqI] using h2
    rw [decide_eq_true (show x ∈ a by rw [this]; exact List.getElem_mem h1)]
    exact decide_eq_true (by show ((i : Nat) : Int) ≥ 0; omega)
  | none =>
    have : ¬ x ∈ a := fun hm => by
      obtain ⟨i, hi, rfl⟩ := List.mem_iff_getElem.1 hm
      have := List.findIdx?_eq_none_iff.1 h _ (List.getElem_mem hi)
      simp [eqI] at this
    rw [decide_eq_false this]
    rfl
theorem any_here {α : Type} {l : List α} {p : α → Bool} {i : Nat} (h : i < l.length) (hp : p l[i] = true) : l.any p = true := List.any_eq_true.2 ⟨_, List.getElem_mem h, hp⟩
theorem any_none {α : Type} {l : List α} {p : α → Bool} (h : ∀ k (hk : k < l.length), p l[k] = false) : l.any p = false := by
  rw [List.any_eq_false]
  intro x hx
  obtain ⟨i, hi, rfl⟩ := List.mem_iff_getElem.1 hx
  rw [h i hi]; simp
set_option maxHeartbeats 4000000
set_option maxRecDepth 20000
theorem w_impl_MailAt_1 (m : Mail) (g : Int) : Weak Tryz.prog 127 [.agg (cMail m), .ptr 0 0 0 [.int .i64 g]] (.bool (hasGid g m)) := by
 refine Weak.enter tab_ok Tryz.func127 rfl (.inr M33) (ht := ANYS 6) ?_
 refine S10 ?_
 refine OQ ?_
 refine S24 ?_
 refine S3 ?_
 rfl
theorem w_impl_BoxNamed_1 (b : Box) (g : Str) : Weak Tryz.prog 106 [.agg (cBox b), .ptr 0 0 0 [.str g]] (.bool (isNamed g b)) := by
 refine Weak.enter tab_ok Tryz.func106 rfl (.inr M33) (ht := ANYS 6) ?_
 refine S10 ?_
 refine OQ ?_
 refine S24 ?_
 refine S3 ?_
 rfl
theorem w_idx_impl_MailAt_1 (a : List Mail) (g : Int) (ha : a.length ≤ 4611686018427387904) : Weak Tryz.prog 126 [.sl 0 4 0 (a.map cMail), .fn 127 [.ptr 0 0 0 [.int .i64 g]]] (.int .i64 (idxI (a.findIdx? (hasGid g)))) := by
 refine Weak.enter tab_ok Tryz.func126 rfl (.inr M33) (ht := ANYS 17) ?_
 refine S8 ?_
 refine S5 ?_
 refine S4 ?_
 refine Ok.block ?_
 refine Ok.loopW (τ := Nat) (fun x => [(8, .int .i64 (x : Int))]) [4, 5, 9, 10, 11, 12, 13, 14, 15, 16, 17, 18] (fun x => by simp only [kover] <;> rfl) (fun x => x ≤ a.length ∧ ∀ k (hk : k < a.length), k < x → hasGid g a[k] = false) (fun x => a.length - x) 0 (by (repeat (first | exact trivial | refine leC ?_ | refine leK ?_ ?_)) <;> first | (exact le_rfl' _) | exact le_rfl' _) (⟨Nat.zero_le _, fun k hk h => by omega⟩) ?_
 rintro i ⟨h1, h2⟩
 refine S45 ?_
 refine OC (fun hb2 => ?_) (fun hb2 => ?_)
 ·
  try simp only [bsimp] at hb2
  have hi : i < a.length := by omega
  refine S14 ?_
  refine S10 ?_
  refine S19 ?_
  refine OkOps.ev tab_ok rfl (ev_idx_map M48 M48 M58 M48) M52 ?_
  refine EV ?_
  refine OW cl127 (w_impl_MailAt_1 a[i] g) ?_
  refine ON ?_
  refine OC (fun hb4 => ?_) (fun hb4 => ?_)
  ·
   try simp only [bsimp] at hb4
   rw [find_here hi h2 hb4]
   refine S46 ?_
   rfl
  try simp only [bsimp] at hb4
  have hf : hasGid g a[i] = false := by first | exact hb4 | (simpa [eqI] using hb4)
  refine Ok.skip ?_
  refine S27 ?_
  refine ⟨i + 1, ?_, rfl, rfl, ⟨by omega, no_next h2 hi hf⟩, by omega⟩
  (repeat (first | exact trivial | refine leC ?_ | refine leK ?_ ?_)) <;> first | ((rw [wrap_add_one (by omega)]; exact le_rfl' _)) | exact le_rfl' _
 try simp only [bsimp] at hb2
 have hall : ∀ k (hk : k < a.length), hasGid g a[k] = false := fun k hk => h2 k hk M58
 rw [find_none hall]
 refine Ok.exit ?_
 refine S37 ?_
 rfl
theorem w_idx_impl_BoxNamed_1 (a : List Box) (g : Str) (ha : a.length ≤ 4611686018427387904) : Weak Tryz.prog 105 [.sl 0 7 0 (a.map cBox), .fn 106 [.ptr 0 0 0 [.str g]]] (.int .i64 (idxI (a.findIdx? (isNamed g)))) := by
 refine Weak.enter tab_ok Tryz.func105 rfl (.inr M33) (ht := ANYS 17) ?_
 refine S8 ?_
 refine S5 ?_
 refine S4 ?_
 refine Ok.block ?_
 refine Ok.loopW (τ := Nat) (fun x => [(8, .int .i64 (x : Int))]) [4, 5, 9, 10, 11, 12, 13, 14, 15, 16, 17, 18] (fun x => by simp only [kover] <;> rfl) (fun x => x ≤ a.length ∧ ∀ k (hk : k < a.length), k < x → isNamed g a[k] = false) (fun x => a.length - x) 0 (by (repeat (first | exact trivial | refine leC ?_ | refine leK ?_ ?_)) <;> first | (exact le_rfl' _) | exact le_rfl' _) (⟨Nat.zero_le _, fun k hk h => by omega⟩) ?_
 rintro i ⟨h1, h2⟩
 refine S45 ?_
 refine OC (fun hb2 => ?_) (fun hb2 => ?_)
 ·
  try simp only [bsimp] at hb2
  have hi : i < a.length := by omega
  refine S14 ?_
  refine S10 ?_
  refine S19 ?_
  refine OkOps.ev tab_ok rfl (ev_idx_map M48 M48 M58 M48) M52 ?_
  refine EV ?_
  refine OW cl106 (w_impl_BoxNamed_1 a[i] g) ?_
  refine ON ?_
  refine OC (fun hb4 => ?_) (fun hb4 => ?_)
  ·
   try simp only [bsimp] at hb4
   rw [find_here hi h2 hb4]
   refine S46 ?_
   rfl
  try simp only [bsimp] at hb4
  have hf : isNamed g a[i] = false := by first | exact hb4 | (simpa [eqI] using hb4)
  refine Ok.skip ?_
  refine S27 ?_
  refine ⟨i + 1, ?_, rfl, rfl, ⟨by omega, no_next h2 hi hf⟩, by omega⟩
  (repeat (first | exact trivial | refine leC ?_ | refine leK ?_ ?_)) <;> first | ((rw [wrap_add_one (by omega)]; exact le_rfl' _)) | exact le_rfl' _
 try simp only [bsimp] at hb2
 have hall : ∀ k (hk : k < a.length), isNamed g a[k] = false := fun k hk => h2 k hk M58
 rw [find_none hall]
 refine Ok.exit ?_
 refine S37 ?_
 rfl
theorem w_impl_MailAt (b : Box) (g : Int) (ha : b.mails.length ≤ 4611686018427387904) : Weak Tryz.prog 104 [.agg (cBox b), .int .i64 g] (.int .i64 (idxI (mailAt b g))) := by
 refine Weak.enter tab_ok Tryz.func104 rfl (.inr M33) (ht := ANYS 7) ?_
 refine S34 ?_
 refine S19 ?_
 refine OkOps.S0 rfl (OpS.weakE rfl M48 M27 cl126 M42 (w_idx_impl_MailAt_1 b.mails g ha)) M52 ?_
 refine S22 ?_
 rfl
theorem w_impl_BoxNamed (s : Store) (g : Str) (ha : s.boxes.length ≤ 4611686018427387904) : Weak Tryz.prog 71 [.agg (cStore s), .str g] (.int .i64 (idxI (boxNamed s g))) := by
 refine Weak.enter tab_ok Tryz.func71 rfl (.inr M33) (ht := ANYS 7) ?_
 refine S34 ?_
 refine S19 ?_
 refine OkOps.S0 rfl (OpS.weakE rfl M48 M27 cl105 M42 (w_idx_impl_BoxNamed_1 s.boxes g ha)) M52 ?_
 refine S22 ?_
 rfl
theorem w_spec_MailAt (x0 : Box) (g : Int) (ha : x0.mails.length ≤ 4611686018427387904) : Weak Tryz.prog 113 [.agg (cBox x0), .int .i64 g] (.int .i64 (idxI (mailAt x0 g))) := by
 refine Weak.enter tab_ok Tryz.func113 rfl (.inr M33) (ht := ANYS 20) ?_
 refine S10 ?_
 refine S28 ?_
 refine Ok.loopW (τ := Nat) (fun x => [(5, .int .i64 (x : Int))]) [4, 6, 7, 8, 9, 10, 11, 12, 13, 14, 15, 16, 17, 18, 19, 20, 21] (fun x => by simp only [kover] <;> rfl) (fun x => x ≤ x0.mails.length ∧ ∀ k (hk : k < x0.mails.length), k < x → hasGid g x0.mails[k] = false) (fun x => x0.mails.length - x) 0 (by (repeat (first | exact trivial | refine leC ?_ | refine leK ?_ ?_)) <;> first | (exact le_rfl' _) | exact le_rfl' _) (⟨Nat.zero_le _, fun k hk h => by omega⟩) ?_
 rintro i ⟨h1, h2⟩
 refine S51 ?_
 refine OC (fun hb2 => ?_) (fun hb2 => ?_)
 ·
  try simp only [bsimp] at hb2
  have hi : i < x0.mails.length := by omega
  refine S14 ?_
  refine S19 ?_
  refine OkOps.ev tab_ok rfl (ev_idx_map M48 M48 M58 M48) M52 ?_
  refine S16 ?_
  refine OC (fun hb4 => ?_) (fun hb4 => ?_)
  ·
   try simp only [bsimp] at hb4
   have hh : hasGid g x0.mails[i] = true := by simpa [hasGid] using hb4
   rw [show mailAt x0 g = some i from find_here hi h2 hh]
   refine S46 ?_
   rfl
  try simp only [bsimp] at hb4
  have hf : hasGid g x0.mails[i] = false := by first | exact hb4 | (simpa [hasGid] using hb4)
  refine S42 ?_
  refine ⟨i + 1, ?_, rfl, rfl, ⟨by omega, no_next h2 hi hf⟩, by omega⟩
  (repeat (first | exact trivial | refine leC ?_ | refine leK ?_ ?_)) <;> first | ((rw [wrap_add_one (by omega)]; exact le_rfl' _)) | exact le_rfl' _
 try simp only [bsimp] at hb2
 have hall : ∀ k (hk : k < x0.mails.length), hasGid g x0.mails[k] = false := fun k hk => h2 k hk M58
 rw [show mailAt x0 g = none from find_none hall]
 refine Ok.exit ?_
 refine S37 ?_
 rfl
theorem w_spec_BoxNamed (x0 : Store) (g : Str) (ha : x0.boxes.length ≤ 4611686018427387904) : Weak Tryz.prog 80 [.agg (cStore x0), .str g] (.int .i64 (idxI (boxNamed x0 g))) := by
 refine Weak.enter tab_ok Tryz.func80 rfl (.inr M33) (ht := ANYS 20) ?_
 refine S10 ?_
 refine S28 ?_
 refine Ok.loopW (τ := Nat) (fun x => [(5, .int .i64 (x : Int))]) [4, 6, 7, 8, 9, 10, 11, 12, 13, 14, 15, 16, 17, 18, 19, 20, 21] (fun x => by simp only [kover] <;> rfl) (fun x => x ≤ x0.boxes.length ∧ ∀ k (hk : k < x0.boxes.length), k < x → isNamed g x0.boxes[k] = false) (fun x => x0.boxes.length - x) 0 (by (repeat (first | exact trivial | refine leC ?_ | refine leK ?_ ?_)) <;> first | (exact le_rfl' _) | exact le_rfl' _) (⟨Nat.zero_le _, fun k hk h => by omega⟩) ?_
 rintro i ⟨h1, h2⟩
 refine S51 ?_
 refine OC (fun hb2 => ?_) (fun hb2 => ?_)
 ·
  try simp only [bsimp] at hb2
  have hi : i < x0.boxes.length := by omega
  refine S14 ?_
  refine S19 ?_
  refine OkOps.ev tab_ok rfl (ev_idx_map M48 M48 M58 M48) M52 ?_
  refine S16 ?_
  refine OC (fun hb4 => ?_) (fun hb4 => ?_)
  ·
   try simp only [bsimp] at hb4
   have hh : isNamed g x0.boxes[i] = true := by simpa [isNamed] using hb4
   rw [show boxNamed x0 g = some i from find_here hi h2 hh]
   refine S46 ?_
   rfl
  try simp only [bsimp] at hb4
  have hf : isNamed g x0.boxes[i] = false := by first | exact hb4 | (simpa [isNamed] using hb4)
  refine S42 ?_
  refine ⟨i + 1, ?_, rfl, rfl, ⟨by omega, no_next h2 hi hf⟩, by omega⟩
  (repeat (first | exact trivial | refine leC ?_ | refine leK ?_ ?_)) <;> first | ((rw [wrap_add_one (by omega)]; exact le_rfl' _)) | exact le_rfl' _
 try simp only [bsimp] at hb2
 have hall : ∀ k (hk : k < x0.boxes.length), isNamed g x0.boxes[k] = false := fun k hk => h2 k hk M58
 rw [show boxNamed x0 g = none from find_none hall]
 refine Ok.exit ?_
 refine S37 ?_
 rfl
theorem w_spec_BoxAt (x0 : Store) (g : Int) (ha : x0.boxes.length ≤ 4611686018427387904) : Weak Tryz.prog 117 [.agg (cStore x0), .int .i64 g] (.int .i64 (idxI (boxAt x0 g))) := by
 refine Weak.enter tab_ok Tryz.func117 rfl (.inr M33) (ht := ANYS 20) ?_
 refine S10 ?_
 refine S28 ?_
 refine Ok.loopW (τ := Nat) (fun x => [(5, .int .i64 (x : Int))]) [4, 6, 7, 8, 9, 10, 11, 12, 13, 14, 15, 16, 17, 18, 19, 20, 21] (fun x => by simp only [kover] <;> rfl) (fun x => x ≤ x0.boxes.length ∧ ∀ k (hk : k < x0.boxes.length), k < x → boxIs g x0.boxes[k] = false) (fun x => x0.boxes.length - x) 0 (by (repeat (first | exact trivial | refine leC ?_ | refine leK ?_ ?_)) <;> first | (exact le_rfl' _) | exact le_rfl' _) (⟨Nat.zero_le _, fun k hk h => by omega⟩) ?_
 rintro i ⟨h1, h2⟩
 refine S51 ?_
 refine OC (fun hb2 => ?_) (fun hb2 => ?_)
 ·
  try simp only [bsimp] at hb2
  have hi : i < x0.boxes.length := by omega
  refine S14 ?_
  refine S19 ?_
  refine OkOps.ev tab_ok rfl (ev_idx_map M48 M48 M58 M48) M52 ?_
  refine S16 ?_
  refine OC (fun hb4 => ?_) (fun hb4 => ?_)
  ·
   try simp only [bsimp] at hb4
   have hh : boxIs g x0.boxes[i] = true := by simpa [boxIs] using hb4
   rw [show boxAt x0 g = some i from find_here hi h2 hh]
   refine S46 ?_
   rfl
  try simp only [bsimp] at hb4
  have hf : boxIs g x0.boxes[i] = false := by first | exact hb4 | (simpa [boxIs] using hb4)
  refine S42 ?_
  refine ⟨i + 1, ?_, rfl, rfl, ⟨by omega, no_next h2 hi hf⟩, by omega⟩
  (repeat (first | exact trivial | refine leC ?_ | refine leK ?_ ?_)) <;> first | ((rw [wrap_add_one (by omega)]; exact le_rfl' _)) | exact le_rfl' _
 try simp only [bsimp] at hb2
 have hall : ∀ k (hk : k < x0.boxes.length), boxIs g x0.boxes[k] = false := fun k hk => h2 k hk M58
 rw [show boxAt x0 g = none from find_none hall]
 refine Ok.exit ?_
 refine S37 ?_
 rfl
theorem w_slices_Index___int_int_ (a : List Int) (g : Int) (ha : a.length ≤ 4611686018427387904) : Weak Tryz.prog 107 [.sl 0 1 0 (a.map cZ), .int .i64 g] (.int .i64 (idxI (a.findIdx? (eqI g)))) := by
 refine Weak.enter tab_ok Tryz.func107 rfl (.inr M33) (ht := ANYS 17) ?_
 refine S8 ?_
 refine S5 ?_
 refine S4 ?_
 refine Ok.block ?_
 refine Ok.loopW (τ := Nat) (fun x => [(8, .int .i64 (x : Int))]) [4, 5, 9, 10, 11, 12, 13, 14, 15, 16, 17, 18] (fun x => by simp only [kover] <;> rfl) (fun x => x ≤ a.length ∧ ∀ k (hk : k < a.length), k < x → eqI g a[k] = false) (fun x => a.length - x) 0 (by (repeat (first | exact trivial | refine leC ?_ | refine leK ?_ ?_)) <;> first | (exact le_rfl' _) | exact le_rfl' _) (⟨Nat.zero_le _, fun k hk h => by omega⟩) ?_
 rintro i ⟨h1, h2⟩
 refine S45 ?_
 refine OC (fun hb2 => ?_) (fun hb2 => ?_)
 ·
  try simp only [bsimp] at hb2
  have hi : i < a.length := by omega
  refine S14 ?_
  refine S10 ?_
  refine S19 ?_
  refine OkOps.ev tab_ok rfl (ev_idx_map M48 M48 M58 M48) M52 ?_
  refine S1 ?_
  refine OC (fun hb4 => ?_) (fun hb4 => ?_)
  ·
   try simp only [bsimp] at hb4
   have hh : eqI g a[i] = true := by simpa [eqI] using hb4
   rw [find_here hi h2 hh]
   refine S46 ?_
   rfl
  try simp only [bsimp] at hb4
  have hf : eqI g a[i] = false := by first | exact hb4 | (simpa [eqI] using hb4)
  refine Ok.skip ?_
  refine S27 ?_
  refine ⟨i + 1, ?_, rfl, rfl, ⟨by omega, no_next h2 hi hf⟩, by omega⟩
  (repeat (first | exact trivial | refine leC ?_ | refine leK ?_ ?_)) <;> first | ((rw [wrap_add_one (by omega)]; exact le_rfl' _)) | exact le_rfl' _
 try simp only [bsimp] at hb2
 have hall : ∀ k (hk : k < a.length), eqI g a[k] = false := fun k hk => h2 k hk M58
 rw [find_none hall]
 refine Ok.exit ?_
 refine S37 ?_
 rfl
theorem w_slices_Contains___int_int_ (a : List Int) (g : Int) (ha : a.length ≤ 4611686018427387904) : Weak Tryz.prog 72 [.sl 0 1 0 (a.map cZ), .int .i64 g] (.bool (decide (g ∈ a))) := by
 rw [← idx_mem]
 refine Weak.enter tab_ok Tryz.func72 rfl (.inr M33) (ht := ANYS 7) ?_
 refine S8 ?_
 refine S11 ?_
 refine OW cl107 (w_slices_Index___int_int_ a g ha) ?_
 refine S41 ?_
 rfl
theorem w_spec_l06In (a : List Int) (g : Int) (ha : a.length ≤ 4611686018427387904) : Weak Tryz.prog 81 [.sl 0 1 0 (a.map cZ), .int .i64 g] (.bool (decide (g ∈ a))) := by
 refine Weak.enter tab_ok Tryz.func81 rfl (.inr M33) (ht := ANYS 16) ?_
 refine S8 ?_
 refine S28 ?_
 refine Ok.loopW (τ := Nat) (fun x => [(5, .int .i64 (x : Int))]) [4, 6, 7, 8, 9, 10, 11, 12, 13, 14, 15, 16, 17] (fun x => by simp only [kover] <;> rfl) (fun x => x ≤ a.length ∧ ∀ k (hk : k < a.length), k < x → eqI g a[k] = false) (fun x => a.length - x) 0 (by (repeat (first | exact trivial | refine leC ?_ | refine leK ?_ ?_)) <;> first | (exact le_rfl' _) | exact le_rfl' _) (⟨Nat.zero_le _, fun k hk h => by omega⟩) ?_
 rintro i ⟨h1, h2⟩
 refine S50 ?_
 refine OC (fun hb2 => ?_) (fun hb2 => ?_)
 ·
  try simp only [bsimp] at hb2
  have hi : i < a.length := by omega
  refine S14 ?_
  refine S11 ?_
  refine OkOps.ev tab_ok rfl (ev_idx_map M48 M48 M58 M48) M52 ?_
  refine S4 ?_
  refine OC (fun hb4 => ?_) (fun hb4 => ?_)
  ·
   try simp only [bsimp] at hb4
   have hh : a[i] = g := by simpa using hb4
   rw [decide_eq_true (show g ∈ a by rw [← hh]; exact List.getElem_mem hi)]
   refine S37 ?_
   rfl
  try simp only [bsimp] at hb4
  have hf : eqI g a[i] = false := by (have hq : ¬ a[i] = g := by simpa using hb4); simp only [eqI, decide_eq_false_iff_not]; exact fun h => hq h.symm
  refine S42 ?_
  refine ⟨i + 1, ?_, rfl, rfl, ⟨by omega, no_next h2 hi hf⟩, by omega⟩
  (repeat (first | exact trivial | refine leC ?_ | refine leK ?_ ?_)) <;> first | ((rw [wrap_add_one (by omega)]; exact le_rfl' _)) | exact le_rfl' _
 try simp only [bsimp] at hb2
 have hall : ∀ k (hk : k < a.length), eqI g a[k] = false := fun k hk => h2 k hk M58
 rw [decide_eq_false (show ¬ g ∈ a from fun hm => by obtain ⟨k, hk, rfl⟩ := List.mem_iff_getElem.1 hm; have := hall k hk; simp [eqI] at this)]
 refine Ok.exit ?_
 refine S37 ?_
 rfl
theorem w_impl_isLate (b : Box) (t : Int) (ha : b.mails.length ≤ 4611686018427387904) (hb : ∀ m ∈ b.mails, m.flags.length ≤ 4611686018427387904) : Weak Tryz.prog 73 [.agg (cBox b), .int .i64 t] (.bool (lateB b t)) := by
 refine Weak.enter tab_ok Tryz.func73 rfl (.inr M33) (ht := ANYS 33) ?_
 refine S10 ?_
 refine S50 ?_
 refine Ok.block ?_
 refine Ok.loopWZ (τ := Nat) (fun x => [(12, .int .i64 (x : Int))]) [4, 6, 8, 13, 14, 15, 16, 17, 18, 19, 20, 21, 22, 23, 24, 25, 26, 27, 28, 29] (fun x => by simp only [kover] <;> rfl) (fun x => x ≤ b.mails.length ∧ ∀ k (hk : k < b.mails.length), k < x → lateM t b.mails[k] = false) (fun x => b.mails.length - x) 0 M58 (by (repeat (first | exact trivial | refine leC ?_ | refine leK ?_ ?_)) <;> first | (exact le_rfl' _) | exact le_rfl' _) (⟨Nat.zero_le _, fun k hk h => by omega⟩) ?_
 rintro i ⟨h1, h2⟩
 refine S45 ?_
 refine OC (fun hb2 => ?_) (fun hb2 => ?_)
 ·
  try simp only [bsimp] at hb2
  have hil : i < b.mails.length := by omega
  have hfl := hb _ (List.getElem_mem hil)
  refine S14 ?_
  refine OQ ?_
  refine OkOps.ev tab_ok rfl (ev_idx_map M48 M48 M58 M48) M52 ?_
  refine S58 ?_
  refine S64 ?_
  refine Ok.block ?_
  refine Ok.loopWZ (τ := Nat) (fun x => [(19, .int .i64 (x : Int))]) [4, 8, 20, 21, 22, 23, 24, 25, 26, 27, 28] (fun x => by simp only [kover] <;> rfl) (fun x => x ≤ b.mails[i].flags.length ∧ ∀ k (hk : k < b.mails[i].flags.length), k < x → lateR t b.mails[i].flags[k] = false) (fun x => b.mails[i].flags.length - x) 0 M58 (by (repeat (first | exact trivial | refine leC ?_ | refine leK ?_ ?_)) <;> first | (exact le_rfl' _) | exact le_rfl' _) (⟨Nat.zero_le _, fun k hk h => by omega⟩) ?_
  rintro j ⟨g1, g2⟩
  refine S45 ?_
  refine OC (fun hb5 => ?_) (fun hb5 => ?_)
  ·
   try simp only [bsimp] at hb5
   have hjl : j < b.mails[i].flags.length := by omega
   refine S14 ?_
   refine OQ ?_
   refine OkOps.ev tab_ok rfl (ev_idx_map M48 M48 M58 M48) M52 ?_
   refine S58 ?_
   refine OQ ?_
   refine S24 ?_
   refine OC (fun hb7 => ?_) (fun hb7 => ?_)
   ·
    try simp only [bsimp] at hb7
    have hr : lateR t b.mails[i].flags[j] = true := by simpa [lateR] using hb7
    rw [show lateB b t = true by unfold lateB; rw [any_here hil (show lateM t b.mails[i] = true from any_here hjl hr), Bool.true_or]]
    refine S37 ?_
    rfl
   try simp only [bsimp] at hb7
   have hr : lateR t b.mails[i].flags[j] = false := by simpa [lateR] using hb7
   refine Ok.skip ?_
   refine S27 ?_
   refine ⟨j + 1, ?_, rfl, ⟨by omega, no_next g2 hjl hr⟩, by omega⟩
   simp only [V.renL, V.travL, V.travLL, V.trav, frz, zz, zf, zy, Nat.reduceLeDiff, ↓reduceIte]
   (repeat (first | exact trivial | refine leC ?_ | refine leK ?_ ?_)) <;> first | ((rw [wrap_add_one (by omega)]; exact le_rfl' _)) | exact le_rfl' _
  try simp only [bsimp] at hb5
  have hm : lateM t b.mails[i] = false := any_none (fun k hk => g2 k hk M58)
  refine Ok.exit ?_
  refine S27 ?_
  refine ⟨i + 1, ?_, rfl, ⟨by omega, no_next h2 hil hm⟩, by omega⟩
  simp only [V.renL, V.travL, V.travLL, V.trav, frz, zz, zf, zy, Nat.reduceLeDiff, ↓reduceIte]
  (repeat (first | exact trivial | refine leC ?_ | refine leK ?_ ?_)) <;> first | ((rw [wrap_add_one (by omega)]; exact le_rfl' _)) | exact le_rfl' _
 try simp only [bsimp] at hb2
 rw [show lateB b t = decide (b.named.time > t) by unfold lateB; rw [any_none (fun k hk => h2 k hk M58), Bool.false_or]]
 refine Ok.exit ?_
 refine OQ ?_
 iterate 6 (refine EV ?_)
 refine S36 ?_
 rfl
theorem w_spec_l07Times (b : Box) (t : Int) (ha : b.mails.length ≤ 4611686018427387904) (hb : ∀ m ∈ b.mails, m.flags.length ≤ 4611686018427387904) : Weak Tryz.prog 82 [.agg (cBox b), .int .i64 t] (.bool (!lateB b t)) := by
 refine Weak.enter tab_ok Tryz.func82 rfl (.inr M33) (ht := ANYS 41) ?_
 refine S10 ?_
 refine S51 ?_
 refine OC (fun hb1 => ?_) (fun hb1 => ?_)
 ·
  try simp only [bsimp] at hb1
  rw [show lateB b t = true by unfold lateB; rw [decide_eq_true (show b.named.time > t by omega), Bool.or_true]]
  refine S37 ?_
  rfl
 try simp only [bsimp] at hb1
 have hn : decide (b.named.time > t) = false := decide_eq_false M58
 refine Ok.skip ?_
 refine S28 ?_
 refine Ok.loopW (τ := Nat) (fun x => [(5, .int .i64 (x : Int))]) [4, 6, 12, 13, 14, 15, 16, 17, 18, 19, 20, 21, 22, 23, 24, 25, 26, 27, 28, 29, 30, 31, 32, 33, 34, 35, 36, 37, 38, 39, 40, 41, 42] (fun x => by simp only [kover] <;> rfl) (fun x => x ≤ b.mails.length ∧ ∀ k (hk : k < b.mails.length), k < x → lateM t b.mails[k] = false) (fun x => b.mails.length - x) 0 (by (repeat (first | exact trivial | refine leC ?_ | refine leK ?_ ?_)) <;> first | (exact le_rfl' _) | exact le_rfl' _) (⟨Nat.zero_le _, fun k hk h => by omega⟩) ?_
 rintro i ⟨h1, h2⟩
 refine S51 ?_
 refine OC (fun hb4 => ?_) (fun hb4 => ?_)
 ·
  try simp only [bsimp] at hb4
  have hil : i < b.mails.length := by omega
  have hfl := hb _ (List.getElem_mem hil)
  refine S14 ?_
  refine S8 ?_
  refine Ok.block ?_
  refine Ok.loopW (τ := Nat) (fun x => [(6, .int .i64 (x : Int))]) [4, 19, 20, 21, 22, 23, 24, 25, 26, 27, 28, 29, 30, 31, 32, 33, 34, 35, 36, 37, 38, 39, 40, 41, 42] (fun x => by simp only [kover] <;> rfl) (fun x => x ≤ b.mails[i].flags.length ∧ ∀ k (hk : k < b.mails[i].flags.length), k < x → lateR t b.mails[i].flags[k] = false) (fun x => b.mails[i].flags.length - x) 0 (by (repeat (first | exact trivial | refine leC ?_ | refine leK ?_ ?_)) <;> first | (exact le_rfl' _) | exact le_rfl' _) (⟨Nat.zero_le _, fun k hk h => by omega⟩) ?_
  rintro j ⟨g1, g2⟩
  refine S5 ?_
  iterate 4 (refine EV ?_)
  refine OkOps.ev tab_ok rfl (ev_idx_map M48 M48 M58 M48) M52 ?_
  refine S16 ?_
  refine OC (fun hb7 => ?_) (fun hb7 => ?_)
  ·
   try simp only [bsimp] at hb7
   have hjl : j < b.mails[i].flags.length := by omega
   refine S14 ?_
   refine S19 ?_
   refine OkOps.ev tab_ok rfl (ev_idx_map M48 M48 M58 M48) M52 ?_
   iterate 3 (refine EV ?_)
   refine OkOps.ev tab_ok rfl (ev_idx_map M48 M48 M58 M48) M52 ?_
   refine S24 ?_
   refine OC (fun hb9 => ?_) (fun hb9 => ?_)
   ·
    try simp only [bsimp] at hb9
    have hr : lateR t b.mails[i].flags[j] = true := by simpa [lateR] using hb9
    rw [show lateB b t = true by unfold lateB; rw [any_here hil (show lateM t b.mails[i] = true from any_here hjl hr), Bool.true_or]]
    refine S37 ?_
    rfl
   try simp only [bsimp] at hb9
   have hr : lateR t b.mails[i].flags[j] = false := by simpa [lateR] using hb9
   refine S42 ?_
   refine ⟨j + 1, ?_, rfl, rfl, ⟨by omega, no_next g2 hjl hr⟩, by omega⟩
   (repeat (first | exact trivial | refine leC ?_ | refine leK ?_ ?_)) <;> first | ((rw [wrap_add_one (by omega)]; exact le_rfl' _)) | exact le_rfl' _
  try simp only [bsimp] at hb7
  have hm : lateM t b.mails[i] = false := any_none (fun k hk => g2 k hk M58)
  refine Ok.exit ?_
  refine S12 ?_
  refine ⟨i + 1, ?_, rfl, rfl, ⟨by omega, no_next h2 hil hm⟩, by omega⟩
  (repeat (first | exact trivial | refine leC ?_ | refine leK ?_ ?_)) <;> first | ((rw [wrap_add_one (by omega)]; exact le_rfl' _)) | exact le_rfl' _
 try simp only [bsimp] at hb4
 rw [show lateB b t = false by unfold lateB; rw [any_none (fun k hk => h2 k hk M58), hn]; rfl]
 refine Ok.exit ?_
 refine S37 ?_
 rfl
end Go.Proofs.YtiipkeendfpddaaGreat.K

/- Walks: right boxes, right stores. Printed by w2.py. -/
namespace Go.Proofs.YtiipkeendfpddaaGreat.K
open Go Go.RowKit
set_option linter.unusedVariables false
set_option linter.unusedSimpArgs false
set_option maxHeartbeats 4000000
set_option maxRecDepth 20000
theorem w_impl_BoxOk (b : Box) (h : smBox b) : Weak Tryz.prog 70 [.agg (cBox b)] (.bool (boxOk b)) := by
 refine Weak.enter tab_ok Tryz.func70 rfl (.inr M33) (ht := ANYS 88) ?_
 refine S10 ?_
 refine Ok.seq ?_
 refine Ok.seqC [(38, .bool (!boxHead b))] [5, 6, 7, 8, 9, 10, 11, 12, 13, 14, 15, 16, 17, 18, 19, 20, 21, 22, 23, 24, 25, 26, 27, 28, 29, 30, 31, 32, 33, 34, 35, 36, 37] M51 ?_ ?_
 ·
  refine S20 ?_
  refine OW cl100 (w_impl_isGid b.gid) ?_
  iterate 2 (refine EV ?_)
  refine OP (d := 9) (fun hg1_4 => ?_) (fun hg1_4 => ?_)
  ·
   try simp only [bsimp] at hg1_4
   refine S43 ?_
   refine S13 ?_
   refine S13 ?_
   refine S13 ?_
   refine S2 ?_
   refine ⟨rfl, ?_, rfl, rfl⟩
   (repeat (first | exact trivial | refine leC ?_ | refine leK ?_ ?_)) <;> first | (refine .inl (congrArg V.bool ?_); (first | (simp [boxHead, *]; done) | (simp [boxHead, *] <;> omega) | (rw [Bool.eq_iff_iff]; simp [boxHead, *] <;> omega) | (simp_all [boxHead]; done) | (simp_all [boxHead]; omega))) | exact le_rfl' _
  try simp only [bsimp] at hg1_4
  refine S25 ?_
  refine OW cl101 (w_impl_NameOk b.name (by have := h.1; omega)) ?_
  refine S31 ?_
  refine OP (d := 15) (fun hg1_10 => ?_) (fun hg1_10 => ?_)
  ·
   try simp only [bsimp] at hg1_10
   refine S43 ?_
   refine S13 ?_
   refine S13 ?_
   refine S2 ?_
   refine ⟨rfl, ?_, rfl, rfl⟩
   (repeat (first | exact trivial | refine leC ?_ | refine leK ?_ ?_)) <;> first | (refine .inl (congrArg V.bool ?_); (first | (simp [boxHead, *]; done) | (simp [boxHead, *] <;> omega) | (rw [Bool.eq_iff_iff]; simp [boxHead, *] <;> omega) | (simp_all [boxHead]; done) | (simp_all [boxHead]; omega))) | exact le_rfl' _
  try simp only [bsimp] at hg1_10
  refine S25 ?_
  refine OW cl102 (w_impl_StampOk b.named) ?_
  refine S31 ?_
  refine OP (d := 21) (fun hg1_16 => ?_) (fun hg1_16 => ?_)
  ·
   try simp only [bsimp] at hg1_16
   refine S43 ?_
   refine S13 ?_
   refine S2 ?_
   refine ⟨rfl, ?_, rfl, rfl⟩
   (repeat (first | exact trivial | refine leC ?_ | refine leK ?_ ?_)) <;> first | (refine .inl (congrArg V.bool ?_); (first | (simp [boxHead, *]; done) | (simp [boxHead, *] <;> omega) | (rw [Bool.eq_iff_iff]; simp [boxHead, *] <;> omega) | (simp_all [boxHead]; done) | (simp_all [boxHead]; omega))) | exact le_rfl' _
  try simp only [bsimp] at hg1_16
  refine S25 ?_
  refine OW cl49 (w_impl_within b.next 1 10000) ?_
  refine S31 ?_
  refine OP (d := 27) (fun hg1_22 => ?_) (fun hg1_22 => ?_)
  ·
   try simp only [bsimp] at hg1_22
   refine S43 ?_
   refine S2 ?_
   refine ⟨rfl, ?_, rfl, rfl⟩
   (repeat (first | exact trivial | refine leC ?_ | refine leK ?_ ?_)) <;> first | (refine .inl (congrArg V.bool ?_); (first | (simp [boxHead, *]; done) | (simp [boxHead, *] <;> omega) | (rw [Bool.eq_iff_iff]; simp [boxHead, *] <;> omega) | (simp_all [boxHead]; done) | (simp_all [boxHead]; omega))) | exact le_rfl' _
  try simp only [bsimp] at hg1_22
  iterate 3 (refine OX ?_)
  refine S31 ?_
  refine OP (d := 33) (fun hg1_28 => ?_) (fun hg1_28 => ?_)
  ·
   try simp only [bsimp] at hg1_28
   refine S44 ?_
   refine ⟨rfl, ?_, rfl, rfl⟩
   (repeat (first | exact trivial | refine leC ?_ | refine leK ?_ ?_)) <;> first | (refine .inl (congrArg V.bool ?_); (first | (simp [boxHead, *]; done) | (simp [boxHead, *] <;> omega) | (rw [Bool.eq_iff_iff]; simp [boxHead, *] <;> omega) | (simp_all [boxHead]; done) | (simp_all [boxHead]; omega))) | exact le_rfl' _
  try simp only [bsimp] at hg1_28
  refine S25 ?_
  refine OW cl69 (w_impl_areGids b.gone 40 M115) ?_
  refine S39 ?_
  refine ⟨rfl, ?_, rfl, rfl⟩
  (repeat (first | exact trivial | refine leC ?_ | refine leK ?_ ?_)) <;> first | (refine .inl (congrArg V.bool ?_); (first | (simp [boxHead, *]; done) | (simp [boxHead, *] <;> omega) | (rw [Bool.eq_iff_iff]; simp [boxHead, *] <;> omega) | (simp_all [boxHead]; done) | (simp_all [boxHead]; omega))) | exact le_rfl' _
 refine OC (fun hb1 => ?_) (fun hb1 => ?_)
 ·
  try simp only [bsimp] at hb1
  rw [show boxOk b = false by unfold boxOk; rw [show boxHead b = false from hb1, Bool.false_and]]
  refine S37 ?_
  rfl
 try simp only [bsimp] at hb1
 have hh : boxHead b = true := hb1
 refine Ok.skip ?_
 refine S50 ?_
 refine Ok.block ?_
 refine Ok.loopWZ (τ := Nat) (fun x => [(42, .int .i64 (x : Int))]) [2, 3, 4, 43, 44, 45, 46, 47, 48, 49, 50, 51, 52, 53, 54, 55, 56, 57, 58, 59, 60, 61, 62, 63, 64, 65, 66, 67, 68, 69, 70, 71, 72, 73, 74, 75, 76, 77, 78, 79, 80, 81, 82, 83, 84, 85, 86, 87, 88] (fun x => by simp only [kover] <;> rfl) (fun x => x ≤ b.mails.length ∧ ∀ k, k < x → mailFine b k = true) (fun x => b.mails.length - x) 0 M58 (by (repeat (first | exact trivial | refine leC ?_ | refine leK ?_ ?_)) <;> first | (exact le_rfl' _) | exact le_rfl' _) (⟨Nat.zero_le _, fun k h => by omega⟩) ?_
 rintro i ⟨h1, h2⟩
 refine S45 ?_
 refine OC (fun hb4 => ?_) (fun hb4 => ?_)
 ·
  try simp only [bsimp] at hb4
  have hi : i < b.mails.length := by omega
  have hmf := mailFine_at hi
  have hcap := h.2.1.1
  refine S14 ?_
  refine S6 ?_
  refine OkOps.ev tab_ok rfl (ev_idx_map M48 M48 M58 M48) M52 ?_
  iterate 3 (refine EV ?_)
  refine S17 ?_
  refine Ok.seqC [(87, .bool (!mailFine b i))] [47, 48, 49, 50, 51, 52, 53, 54, 55, 56, 57, 58, 59, 60, 61, 62, 63, 64, 65, 66, 67, 68, 69, 70, 71, 72, 73, 74, 75, 76, 77, 78, 79, 80, 81, 82, 83, 84, 85, 86] M51 ?_ ?_
  ·
   refine Ok.drawn 41 89 [] M56 M56 rfl ?_
   refine SV ?_
   refine SOps.S0 rfl (OpS.weakM rfl M48 M48 cl103 (w_impl_MailOk b.mails[i] (by have := (h.2.1.2 _ (List.getElem_mem hi)).1; omega))) M52 ?_
   iterate 2 (refine SV ?_)
   refine SOps.split (d := 50) M48 M52 M52 (fun hg6_3 => ?_) (fun hg6_3 => ?_)
   ·
    try simp only [bsimp] at hg6_3
    refine S32 ?_
    refine S56 ?_
    refine S49 ?_
    refine S47 ?_
    refine ⟨rfl, ?_, rfl, rfl⟩
    (repeat (first | exact trivial | refine leC ?_ | refine leK ?_ ?_)) <;> first | (refine .inl (congrArg V.bool ?_); (first | (simp [hmf, *]; done) | (simp [hmf, *] <;> omega) | (rw [Bool.eq_iff_iff]; simp [hmf, *] <;> omega) | (simp_all [hmf]; done) | (simp_all [hmf]; omega))) | exact le_rfl' _
   try simp only [bsimp] at hg6_3
   iterate 5 (refine SN ?_)
   iterate 2 (refine SV ?_)
   refine SOps.split (d := 57) M48 M52 M52 (fun hg6_10 => ?_) (fun hg6_10 => ?_)
   ·
    try simp only [bsimp] at hg6_10
    refine S56 ?_
    refine S49 ?_
    refine S47 ?_
    refine ⟨rfl, ?_, rfl, rfl⟩
    (repeat (first | exact trivial | refine leC ?_ | refine leK ?_ ?_)) <;> first | (refine .inl (congrArg V.bool ?_); (first | (simp [hmf, *]; done) | (simp [hmf, *] <;> omega) | (rw [Bool.eq_iff_iff]; simp [hmf, *] <;> omega) | (simp_all [hmf]; done) | (simp_all [hmf]; omega))) | exact le_rfl' _
   try simp only [bsimp] at hg6_10
   iterate 3 (refine SN ?_)
   refine SOps.split (d := 60) M48 M52 M52 (fun hg6_13 => ?_) (fun hg6_13 => ?_)
   ·
    try simp only [bsimp] at hg6_13
    have hpos : 0 < i := by omega
    have hbf := beforeB_get (p := fun (x y : Mail) => decide (x.uid < y.uid)) hi hpos
    iterate 3 (refine SN ?_)
    refine SOps.onEv tab_ok rfl rfl M50 M91 M52 ?_
    refine SOps.onEv tab_ok rfl rfl M50 (ev_idx_map M48 M48 M58 M48) M52 ?_
    iterate 6 (refine SN ?_)
    iterate 2 (refine SV ?_)
    refine SOps.split (d := 73) M48 M52 M52 (fun hg6_26 => ?_) (fun hg6_26 => ?_)
    ·
     try simp only [bsimp] at hg6_26
     refine S49 ?_
     refine S47 ?_
     refine ⟨rfl, ?_, rfl, rfl⟩
     (repeat (first | exact trivial | refine leC ?_ | refine leK ?_ ?_)) <;> first | (refine .inl (congrArg V.bool ?_); (first | (simp [hmf, *]; done) | (simp [hmf, *] <;> omega) | (rw [Bool.eq_iff_iff]; simp [hmf, *] <;> omega) | (simp_all [hmf]; done) | (simp_all [hmf]; omega))) | exact le_rfl' _
    try simp only [bsimp] at hg6_26
    iterate 3 (refine SN ?_)
    refine SOps.onS0 rfl rfl M50 (OpS.weakM rfl M48 M48 cl104 (w_impl_MailAt b b.mails[i].gid M113)) M52 ?_
    refine SN ?_
    refine S48 ?_
    refine SOps.split (d := 81) M48 M52 M52 (fun hg6_34 => ?_) (fun hg6_34 => ?_)
    ·
     try simp only [bsimp] at hg6_34
     refine S47 ?_
     refine ⟨rfl, ?_, rfl, rfl⟩
     (repeat (first | exact trivial | refine leC ?_ | refine leK ?_ ?_)) <;> first | (refine .inl (congrArg V.bool ?_); (first | (simp [hmf, *]; done) | (simp [hmf, *] <;> omega) | (rw [Bool.eq_iff_iff]; simp [hmf, *] <;> omega) | (simp_all [hmf]; done) | (simp_all [hmf]; omega))) | exact le_rfl' _
    try simp only [bsimp] at hg6_34
    iterate 4 (refine SN ?_)
    refine SOps.onS0 rfl rfl M50 (OpS.weakM rfl M48 M48 cl72 (w_slices_Contains___int_int_ b.gone b.mails[i].gid M115)) M52 ?_
    refine S23 ?_
    refine ⟨rfl, ?_, rfl, rfl⟩
    (repeat (first | exact trivial | refine leC ?_ | refine leK ?_ ?_)) <;> first | (refine .inl (congrArg V.bool ?_); (first | (simp [hmf, *]; done) | (simp [hmf, *] <;> omega) | (rw [Bool.eq_iff_iff]; simp [hmf, *] <;> omega) | (simp_all [hmf]; done) | (simp_all [hmf]; omega))) | exact le_rfl' _
   try simp only [bsimp] at hg6_13
   have hbf : beforeB b.mails (fun x y => decide (x.uid < y.uid)) i = true := by rw [show i = 0 by omega]; rfl
   iterate 10 (refine SU ?_)
   refine S48 ?_
   iterate 3 (refine SN ?_)
   refine SOps.onS0 rfl rfl M50 (OpS.weakM rfl M48 M48 cl104 (w_impl_MailAt b b.mails[i].gid M113)) M52 ?_
   refine SN ?_
   refine S48 ?_
   refine SOps.split (d := 81) M48 M52 M52 (fun hg6_34 => ?_) (fun hg6_34 => ?_)
   ·
    try simp only [bsimp] at hg6_34
    refine S47 ?_
    refine ⟨rfl, ?_, rfl, rfl⟩
    (repeat (first | exact trivial | refine leC ?_ | refine leK ?_ ?_)) <;> first | (refine .inl (congrArg V.bool ?_); (first | (simp [hmf, *]; done) | (simp [hmf, *] <;> omega) | (rw [Bool.eq_iff_iff]; simp [hmf, *] <;> omega) | (simp_all [hmf]; done) | (simp_all [hmf]; omega))) | exact le_rfl' _
   try simp only [bsimp] at hg6_34
   iterate 4 (refine SN ?_)
   refine SOps.onS0 rfl rfl M50 (OpS.weakM rfl M48 M48 cl72 (w_slices_Contains___int_int_ b.gone b.mails[i].gid M115)) M52 ?_
   refine S23 ?_
   refine ⟨rfl, ?_, rfl, rfl⟩
   (repeat (first | exact trivial | refine leC ?_ | refine leK ?_ ?_)) <;> first | (refine .inl (congrArg V.bool ?_); (first | (simp [hmf, *]; done) | (simp [hmf, *] <;> omega) | (rw [Bool.eq_iff_iff]; simp [hmf, *] <;> omega) | (simp_all [hmf]; done) | (simp_all [hmf]; omega))) | exact le_rfl' _
  refine OC (fun hb6 => ?_) (fun hb6 => ?_)
  ·
   try simp only [bsimp] at hb6
   rw [show boxOk b = false by unfold boxOk; rw [allUp_no hi hb6, Bool.and_false]]
   refine S37 ?_
   rfl
  try simp only [bsimp] at hb6
  refine Ok.skip ?_
  refine S27 ?_
  refine ⟨i + 1, ?_, rfl, ⟨by omega, up_next h2 hb6⟩, by omega⟩
  simp only [V.renL, V.travL, V.travLL, V.trav, frz, zz, zf, zy, Nat.reduceLeDiff, ↓reduceIte]
  (repeat (first | exact trivial | refine leC ?_ | refine leK ?_ ?_)) <;> first | ((rw [wrap_add_one (by have := h.2.1.1; omega)]; exact le_rfl' _)) | exact le_rfl' _
 try simp only [bsimp] at hb4
 obtain rfl : i = b.mails.length := by omega
 rw [show boxOk b = true by unfold boxOk; rw [hh, allUp_yes h2]; rfl]
 refine Ok.exit ?_
 refine S37 ?_
 rfl
theorem w_impl_StoreOk (s : Store) (h : smStore s) : Weak Tryz.prog 56 [.agg (cStore s)] (.bool (storeOk s)) := by
 refine Weak.enter tab_ok Tryz.func56 rfl (.inr M33) (ht := ANYS 96) ?_
 refine S10 ?_
 refine Ok.seq ?_
 refine Ok.seqC [(29, .bool (!storeHead s))] [8, 9, 10, 11, 12, 13, 14, 15, 16, 17, 18, 19, 20, 21, 22, 23, 24, 25, 26, 27, 28] M51 ?_ ?_
 ·
  refine S20 ?_
  refine OW cl49 (w_impl_within s.by_ 1 2) ?_
  iterate 2 (refine EV ?_)
  refine OP (d := 12) (fun hg1_4 => ?_) (fun hg1_4 => ?_)
  ·
   try simp only [bsimp] at hg1_4
   refine S43 ?_
   refine S13 ?_
   refine S2 ?_
   refine ⟨rfl, ?_, rfl, rfl⟩
   (repeat (first | exact trivial | refine leC ?_ | refine leK ?_ ?_)) <;> first | (refine .inl (congrArg V.bool ?_); (first | (simp [storeHead, *]; done) | (simp [storeHead, *] <;> omega) | (rw [Bool.eq_iff_iff]; simp [storeHead, *] <;> omega) | (simp_all [storeHead]; done) | (simp_all [storeHead]; omega))) | exact le_rfl' _
  try simp only [bsimp] at hg1_4
  refine S25 ?_
  refine OW cl49 (w_impl_within s.time 0 100000) ?_
  refine S31 ?_
  refine OP (d := 18) (fun hg1_10 => ?_) (fun hg1_10 => ?_)
  ·
   try simp only [bsimp] at hg1_10
   refine S43 ?_
   refine S2 ?_
   refine ⟨rfl, ?_, rfl, rfl⟩
   (repeat (first | exact trivial | refine leC ?_ | refine leK ?_ ?_)) <;> first | (refine .inl (congrArg V.bool ?_); (first | (simp [storeHead, *]; done) | (simp [storeHead, *] <;> omega) | (rw [Bool.eq_iff_iff]; simp [storeHead, *] <;> omega) | (simp_all [storeHead]; done) | (simp_all [storeHead]; omega))) | exact le_rfl' _
  try simp only [bsimp] at hg1_10
  iterate 3 (refine OX ?_)
  refine S31 ?_
  refine OP (d := 24) (fun hg1_16 => ?_) (fun hg1_16 => ?_)
  ·
   try simp only [bsimp] at hg1_16
   refine S44 ?_
   refine ⟨rfl, ?_, rfl, rfl⟩
   (repeat (first | exact trivial | refine leC ?_ | refine leK ?_ ?_)) <;> first | (refine .inl (congrArg V.bool ?_); (first | (simp [storeHead, *]; done) | (simp [storeHead, *] <;> omega) | (rw [Bool.eq_iff_iff]; simp [storeHead, *] <;> omega) | (simp_all [storeHead]; done) | (simp_all [storeHead]; omega))) | exact le_rfl' _
  try simp only [bsimp] at hg1_16
  refine S25 ?_
  refine OW cl69 (w_impl_areGids s.gone 20 M116) ?_
  refine S39 ?_
  refine ⟨rfl, ?_, rfl, rfl⟩
  (repeat (first | exact trivial | refine leC ?_ | refine leK ?_ ?_)) <;> first | (refine .inl (congrArg V.bool ?_); (first | (simp [storeHead, *]; done) | (simp [storeHead, *] <;> omega) | (rw [Bool.eq_iff_iff]; simp [storeHead, *] <;> omega) | (simp_all [storeHead]; done) | (simp_all [storeHead]; omega))) | exact le_rfl' _
 refine OC (fun hb1 => ?_) (fun hb1 => ?_)
 ·
  try simp only [bsimp] at hb1
  rw [show storeOk s = false by unfold storeOk; rw [show storeHead s = false from hb1, Bool.false_and]]
  refine S37 ?_
  rfl
 try simp only [bsimp] at hb1
 have hh : storeHead s = true := hb1
 have hcap := h.1.1
 refine Ok.skip ?_
 refine S10 ?_
 refine S50 ?_
 refine Ok.block ?_
 refine Ok.bump (n' := 3) M58 ?_
 refine Ok.loopWZ (τ := Nat) (fun x => [(3, .sl 2 1 0 ((seenG s x 0).map cZ)), (34, .int .i64 (x : Int))]) [2, 4, 5, 7, 35, 36, 37, 38, 39, 40, 41, 42, 43, 44, 45, 46, 47, 48, 49, 50, 51, 52, 53, 54, 55, 56, 57, 58, 59, 60, 61, 62, 63, 64, 65, 66, 67, 68, 69, 70, 71, 72, 73, 74, 75, 76, 77, 78, 79, 80, 81, 82, 83, 84, 85, 86, 87, 88, 89, 90, 91, 92, 93, 94, 95, 96] (fun x => by simp only [kover] <;> rfl) (fun x => x ≤ s.boxes.length ∧ ∀ k, k < x → boxGood s k = true) (fun x => s.boxes.length - x) 0 M58 (by (repeat (first | exact trivial | refine leC ?_ | refine leK ?_ ?_)) <;> first | (first | exact le_rfl' _ | (rw [seen_zero]; exact le_nil 2 1)) | exact le_rfl' _) (⟨Nat.zero_le _, fun k h => by omega⟩) ?_
 rintro i ⟨h1, h2⟩
 refine S45 ?_
 refine OC (fun hb5 => ?_) (fun hb5 => ?_)
 ·
  try simp only [bsimp] at hb5
  have hi : i < s.boxes.length := by omega
  have hmf := boxFine_at hi
  have hmc := (h.1.2 _ (List.getElem_mem hi)).2.1.1
  refine S14 ?_
  refine S6 ?_
  refine OkOps.ev tab_ok rfl (ev_idx_map M48 M48 M58 M48) M52 ?_
  iterate 3 (refine EV ?_)
  refine S17 ?_
  refine Ok.seq ?_
  refine Ok.seqC [(78, .bool (!boxFine s i))] [39, 40, 41, 42, 43, 44, 45, 46, 47, 48, 49, 50, 51, 52, 53, 54, 55, 56, 57, 58, 59, 60, 61, 62, 63, 64, 65, 66, 67, 68, 69, 70, 71, 72, 73, 74, 75, 76, 77] M51 ?_ ?_
  ·
   refine Ok.drawn 40 97 [] M56 M56 rfl ?_
   refine SV ?_
   refine SOps.S0 rfl (OpS.weakM rfl M48 M48 cl70 (w_impl_BoxOk s.boxes[i] (h.1.2 _ (List.getElem_mem hi)))) M52 ?_
   iterate 2 (refine SV ?_)
   refine SOps.split (d := 42) M48 M52 M52 (fun hg7_3 => ?_) (fun hg7_3 => ?_)
   ·
    try simp only [bsimp] at hg7_3
    refine S56 ?_
    refine S49 ?_
    refine S32 ?_
    iterate 4 (refine SU ?_)
    refine S23 ?_
    refine ⟨rfl, ?_, rfl, rfl⟩
    (repeat (first | exact trivial | refine leC ?_ | refine leK ?_ ?_)) <;> first | (refine .inl (congrArg V.bool ?_); (first | (simp [hmf, *]; done) | (simp [hmf, *] <;> omega) | (rw [Bool.eq_iff_iff]; simp [hmf, *] <;> omega) | (simp_all [hmf]; done) | (simp_all [hmf]; omega))) | exact le_rfl' _
   try simp only [bsimp] at hg7_3
   iterate 3 (refine SN ?_)
   refine SOps.split (d := 45) M48 M52 M52 (fun hg7_6 => ?_) (fun hg7_6 => ?_)
   ·
    try simp only [bsimp] at hg7_6
    have hpos : 0 < i := by omega
    have hbf := beforeB_get (p := fun (x y : Box) => decide (x.gid < y.gid)) hi hpos
    iterate 3 (refine SN ?_)
    refine SOps.onEv tab_ok rfl rfl M50 M91 M52 ?_
    refine SOps.onEv tab_ok rfl rfl M50 (ev_idx_map M48 M48 M58 M48) M52 ?_
    iterate 6 (refine SN ?_)
    iterate 2 (refine SV ?_)
    refine SOps.split (d := 58) M48 M52 M52 (fun hg7_19 => ?_) (fun hg7_19 => ?_)
    ·
     try simp only [bsimp] at hg7_19
     refine S49 ?_
     refine S32 ?_
     iterate 4 (refine SU ?_)
     refine S23 ?_
     refine ⟨rfl, ?_, rfl, rfl⟩
     (repeat (first | exact trivial | refine leC ?_ | refine leK ?_ ?_)) <;> first | (refine .inl (congrArg V.bool ?_); (first | (simp [hmf, *]; done) | (simp [hmf, *] <;> omega) | (rw [Bool.eq_iff_iff]; simp [hmf, *] <;> omega) | (simp_all [hmf]; done) | (simp_all [hmf]; omega))) | exact le_rfl' _
    try simp only [bsimp] at hg7_19
    iterate 3 (refine SN ?_)
    refine SOps.onS0 rfl rfl M50 (OpS.weakM rfl M48 M48 cl71 (w_impl_BoxNamed s s.boxes[i].name M114)) M52 ?_
    refine SN ?_
    refine S48 ?_
    refine SOps.split (d := 66) M48 M52 M52 (fun hg7_27 => ?_) (fun hg7_27 => ?_)
    ·
     try simp only [bsimp] at hg7_27
     refine S32 ?_
     iterate 4 (refine SU ?_)
     refine S23 ?_
     refine ⟨rfl, ?_, rfl, rfl⟩
     (repeat (first | exact trivial | refine leC ?_ | refine leK ?_ ?_)) <;> first | (refine .inl (congrArg V.bool ?_); (first | (simp [hmf, *]; done) | (simp [hmf, *] <;> omega) | (rw [Bool.eq_iff_iff]; simp [hmf, *] <;> omega) | (simp_all [hmf]; done) | (simp_all [hmf]; omega))) | exact le_rfl' _
    try simp only [bsimp] at hg7_27
    iterate 4 (refine SN ?_)
    refine SOps.onS0 rfl rfl M50 (OpS.weakM rfl M48 M48 cl72 (w_slices_Contains___int_int_ s.gone s.boxes[i].gid M116)) M52 ?_
    iterate 2 (refine SV ?_)
    refine SOps.split (d := 73) M48 M52 M52 (fun hg7_34 => ?_) (fun hg7_34 => ?_)
    ·
     try simp only [bsimp] at hg7_34
     iterate 4 (refine SU ?_)
     refine S23 ?_
     refine ⟨rfl, ?_, rfl, rfl⟩
     (repeat (first | exact trivial | refine leC ?_ | refine leK ?_ ?_)) <;> first | (refine .inl (congrArg V.bool ?_); (first | (simp [hmf, *]; done) | (simp [hmf, *] <;> omega) | (rw [Bool.eq_iff_iff]; simp [hmf, *] <;> omega) | (simp_all [hmf]; done) | (simp_all [hmf]; omega))) | exact le_rfl' _
    try simp only [bsimp] at hg7_34
    iterate 3 (refine SN ?_)
    refine SOps.onS0 rfl rfl M50 (OpS.weakM rfl M48 M48 cl73 (w_impl_isLate s.boxes[i] s.time M99 (fun m hm => by have := ((h.1.2 _ (List.getElem_mem hi)).2.1.2 m hm).1; omega))) M52 ?_
    refine S23 ?_
    refine ⟨rfl, ?_, rfl, rfl⟩
    (repeat (first | exact trivial | refine leC ?_ | refine leK ?_ ?_)) <;> first | (refine .inl (congrArg V.bool ?_); (first | (simp [hmf, *]; done) | (simp [hmf, *] <;> omega) | (rw [Bool.eq_iff_iff]; simp [hmf, *] <;> omega) | (simp_all [hmf]; done) | (simp_all [hmf]; omega))) | exact le_rfl' _
   try simp only [bsimp] at hg7_6
   have hbf : beforeB s.boxes (fun x y => decide (x.gid < y.gid)) i = true := by rw [show i = 0 by omega]; rfl
   iterate 10 (refine SU ?_)
   refine S48 ?_
   iterate 3 (refine SN ?_)
   refine SOps.onS0 rfl rfl M50 (OpS.weakM rfl M48 M48 cl71 (w_impl_BoxNamed s s.boxes[i].name M114)) M52 ?_
   refine SN ?_
   refine S48 ?_
   refine SOps.split (d := 66) M48 M52 M52 (fun hg7_27 => ?_) (fun hg7_27 => ?_)
   ·
    try simp only [bsimp] at hg7_27
    refine S32 ?_
    iterate 4 (refine SU ?_)
    refine S23 ?_
    refine ⟨rfl, ?_, rfl, rfl⟩
    (repeat (first | exact trivial | refine leC ?_ | refine leK ?_ ?_)) <;> first | (refine .inl (congrArg V.bool ?_); (first | (simp [hmf, *]; done) | (simp [hmf, *] <;> omega) | (rw [Bool.eq_iff_iff]; simp [hmf, *] <;> omega) | (simp_all [hmf]; done) | (simp_all [hmf]; omega))) | exact le_rfl' _
   try simp only [bsimp] at hg7_27
   iterate 4 (refine SN ?_)
   refine SOps.onS0 rfl rfl M50 (OpS.weakM rfl M48 M48 cl72 (w_slices_Contains___int_int_ s.gone s.boxes[i].gid M116)) M52 ?_
   iterate 2 (refine SV ?_)
   refine SOps.split (d := 73) M48 M52 M52 (fun hg7_34 => ?_) (fun hg7_34 => ?_)
   ·
    try simp only [bsimp] at hg7_34
    iterate 4 (refine SU ?_)
    refine S23 ?_
    refine ⟨rfl, ?_, rfl, rfl⟩
    (repeat (first | exact trivial | refine leC ?_ | refine leK ?_ ?_)) <;> first | (refine .inl (congrArg V.bool ?_); (first | (simp [hmf, *]; done) | (simp [hmf, *] <;> omega) | (rw [Bool.eq_iff_iff]; simp [hmf, *] <;> omega) | (simp_all [hmf]; done) | (simp_all [hmf]; omega))) | exact le_rfl' _
   try simp only [bsimp] at hg7_34
   iterate 3 (refine SN ?_)
   refine SOps.onS0 rfl rfl M50 (OpS.weakM rfl M48 M48 cl73 (w_impl_isLate s.boxes[i] s.time M99 (fun m hm => by have := ((h.1.2 _ (List.getElem_mem hi)).2.1.2 m hm).1; omega))) M52 ?_
   refine S23 ?_
   refine ⟨rfl, ?_, rfl, rfl⟩
   (repeat (first | exact trivial | refine leC ?_ | refine leK ?_ ?_)) <;> first | (refine .inl (congrArg V.bool ?_); (first | (simp [hmf, *]; done) | (simp [hmf, *] <;> omega) | (rw [Bool.eq_iff_iff]; simp [hmf, *] <;> omega) | (simp_all [hmf]; done) | (simp_all [hmf]; omega))) | exact le_rfl' _
  refine OC (fun hb7 => ?_) (fun hb7 => ?_)
  ·
   try simp only [bsimp] at hb7
   rw [show storeOk s = false by unfold storeOk; rw [allUp_no hi (show boxGood s i = false by unfold boxGood; rw [hb7, Bool.false_and]), Bool.and_false]]
   refine S37 ?_
   rfl
  try simp only [bsimp] at hb7
  refine Ok.skip ?_
  refine S64 ?_
  refine Ok.block ?_
  refine Ok.loopWZ (τ := Nat) (fun x => [(3, .sl 2 1 0 ((seenG s i x).map cZ)), (82, .int .i64 (x : Int))]) [2, 7, 83, 84, 85, 86, 87, 88, 89, 90, 91, 92, 93, 94, 95] (fun x => by simp only [kover] <;> rfl) (fun x => x ≤ s.boxes[i].mails.length ∧ ∀ k, k < x → newAt s i k = true) (fun x => s.boxes[i].mails.length - x) 0 M58 (by (repeat (first | exact trivial | refine leC ?_ | refine leK ?_ ?_)) <;> first | (exact le_rfl' _) | exact le_rfl' _) (⟨Nat.zero_le _, fun k h => by omega⟩) ?_
  rintro j ⟨g1, g2⟩
  refine S45 ?_
  refine OC (fun hb10 => ?_) (fun hb10 => ?_)
  ·
   try simp only [bsimp] at hb10
   have hj : j < s.boxes[i].mails.length := by omega
   have hna := newAt_get hi hj
   have hsl := seen_len h hi hj
   refine S14 ?_
   refine OQ ?_
   refine OkOps.ev tab_ok rfl (ev_idx_map M48 M48 M58 M48) M52 ?_
   refine S58 ?_
   refine S5 ?_
   iterate 3 (refine EV ?_)
   refine OkOps.S0 rfl (OpS.weakE rfl M48 M27 cl72 M42 (w_slices_Contains___int_int_ (seenG s i j) s.boxes[i].mails[j].gid M58)) M52 ?_
   refine ON ?_
   refine OC (fun hb12 => ?_) (fun hb12 => ?_)
   ·
    try simp only [bsimp] at hb12
    have hnw : newAt s i j = false := by rw [hna]; simpa using hb12
    rw [show storeOk s = false by unfold storeOk; rw [allUp_no hi (show boxGood s i = false by unfold boxGood; rw [boxNew_get hi, allUp_no hj hnw, Bool.and_false]), Bool.and_false]]
    refine S37 ?_
    rfl
   try simp only [bsimp] at hb12
   have hnw : newAt s i j = true := by rw [hna]; simpa using hb12
   refine Ok.skip ?_
   refine S26 ?_
   refine OkOps.ev tab_ok rfl (ev_bs M53 M53 M57 M57 M37 M16) M52 ?_
   refine OkOps.append tab_ok rfl rfl M53 M53 M57 rfl M48 (.inl ⟨_, _, by simp only [kE, kT, kL, kC] <;> rfl⟩) M58 M58 M34 M34 M55 M13 M10 (rfl) ?_
   refine S2 ?_
   refine S27 ?_
   refine ⟨j + 1, ?_, rfl, ⟨by omega, up_next g2 hnw⟩, by omega⟩
   simp only [V.renL, V.travL, V.travLL, V.trav, frz, zz, zf, zy, Nat.reduceLeDiff, ↓reduceIte]
   (repeat (first | exact trivial | refine leC ?_ | refine leK ?_ ?_)) <;> first | ((first | (rw [wrap_add_one (by omega)]; exact le_rfl' _) | (rw [seen_mail hi hj, List.map_append]; exact le_rfl' _) | (refine le_eqm ?_; rw [seen_mail hi hj, List.map_append]; rfl))) | exact le_rfl' _
  try simp only [bsimp] at hb10
  obtain rfl : j = s.boxes[i].mails.length := by omega
  have hgd : boxGood s i = true := by unfold boxGood; rw [hb7, boxNew_get hi, allUp_yes g2]; rfl
  refine Ok.exit ?_
  refine S27 ?_
  refine ⟨i + 1, ?_, rfl, ⟨by omega, up_next h2 hgd⟩, by omega⟩
  simp only [V.renL, V.travL, V.travLL, V.trav, frz, zz, zf, zy, Nat.reduceLeDiff, ↓reduceIte]
  (repeat (first | exact trivial | refine leC ?_ | refine leK ?_ ?_)) <;> first | ((first | (rw [wrap_add_one (by omega)]; exact le_rfl' _) | (rw [seen_box hi]; exact le_rfl' _))) | exact le_rfl' _
 try simp only [bsimp] at hb5
 obtain rfl : i = s.boxes.length := by omega
 rw [show storeOk s = true by unfold storeOk; rw [hh, allUp_yes h2]; rfl]
 refine Ok.exit ?_
 refine S37 ?_
 rfl
theorem w_spec_BoxOk (b : Box) (h : smBox b) : Weak Tryz.prog 79 [.agg (cBox b)] (.bool (boxOk b)) := by
 refine Weak.enter tab_ok Tryz.func79 rfl (.inr M33) (ht := ANYS 91) ?_
 refine S10 ?_
 refine Ok.seq ?_
 refine Ok.seqC [(38, .bool (!boxHead b))] [5, 6, 7, 8, 9, 10, 11, 12, 13, 14, 15, 16, 17, 18, 19, 20, 21, 22, 23, 24, 25, 26, 27, 28, 29, 30, 31, 32, 33, 34, 35, 36, 37] M51 ?_ ?_
 ·
  refine S20 ?_
  refine OW cl62 (w_spec_l01In b.gid 1 9999) ?_
  iterate 2 (refine EV ?_)
  refine OP (d := 9) (fun hg1_4 => ?_) (fun hg1_4 => ?_)
  ·
   try simp only [bsimp] at hg1_4
   refine S43 ?_
   refine S13 ?_
   refine S13 ?_
   refine S13 ?_
   refine S2 ?_
   refine ⟨rfl, ?_, rfl, rfl⟩
   (repeat (first | exact trivial | refine leC ?_ | refine leK ?_ ?_)) <;> first | (refine .inl (congrArg V.bool ?_); (first | (simp [boxHead, gidOk, *]; done) | (simp [boxHead, gidOk, *] <;> omega) | (rw [Bool.eq_iff_iff]; simp [boxHead, gidOk, *] <;> omega) | (simp_all [boxHead, gidOk]; done) | (simp_all [boxHead, gidOk]; omega))) | exact le_rfl' _
  try simp only [bsimp] at hg1_4
  refine S25 ?_
  refine OW cl110 (w_spec_NameOk b.name (by have := h.1; omega)) ?_
  refine S31 ?_
  refine OP (d := 15) (fun hg1_10 => ?_) (fun hg1_10 => ?_)
  ·
   try simp only [bsimp] at hg1_10
   refine S43 ?_
   refine S13 ?_
   refine S13 ?_
   refine S2 ?_
   refine ⟨rfl, ?_, rfl, rfl⟩
   (repeat (first | exact trivial | refine leC ?_ | refine leK ?_ ?_)) <;> first | (refine .inl (congrArg V.bool ?_); (first | (simp [boxHead, gidOk, *]; done) | (simp [boxHead, gidOk, *] <;> omega) | (rw [Bool.eq_iff_iff]; simp [boxHead, gidOk, *] <;> omega) | (simp_all [boxHead, gidOk]; done) | (simp_all [boxHead, gidOk]; omega))) | exact le_rfl' _
  try simp only [bsimp] at hg1_10
  refine S25 ?_
  refine OW cl111 (w_spec_StampOk b.named) ?_
  refine S31 ?_
  refine OP (d := 21) (fun hg1_16 => ?_) (fun hg1_16 => ?_)
  ·
   try simp only [bsimp] at hg1_16
   refine S43 ?_
   refine S13 ?_
   refine S2 ?_
   refine ⟨rfl, ?_, rfl, rfl⟩
   (repeat (first | exact trivial | refine leC ?_ | refine leK ?_ ?_)) <;> first | (refine .inl (congrArg V.bool ?_); (first | (simp [boxHead, gidOk, *]; done) | (simp [boxHead, gidOk, *] <;> omega) | (rw [Bool.eq_iff_iff]; simp [boxHead, gidOk, *] <;> omega) | (simp_all [boxHead, gidOk]; done) | (simp_all [boxHead, gidOk]; omega))) | exact le_rfl' _
  try simp only [bsimp] at hg1_16
  refine S25 ?_
  refine OW cl62 (w_spec_l01In b.next 1 10000) ?_
  refine S31 ?_
  refine OP (d := 27) (fun hg1_22 => ?_) (fun hg1_22 => ?_)
  ·
   try simp only [bsimp] at hg1_22
   refine S43 ?_
   refine S2 ?_
   refine ⟨rfl, ?_, rfl, rfl⟩
   (repeat (first | exact trivial | refine leC ?_ | refine leK ?_ ?_)) <;> first | (refine .inl (congrArg V.bool ?_); (first | (simp [boxHead, gidOk, *]; done) | (simp [boxHead, gidOk, *] <;> omega) | (rw [Bool.eq_iff_iff]; simp [boxHead, gidOk, *] <;> omega) | (simp_all [boxHead, gidOk]; done) | (simp_all [boxHead, gidOk]; omega))) | exact le_rfl' _
  try simp only [bsimp] at hg1_22
  iterate 3 (refine OX ?_)
  refine S31 ?_
  refine OP (d := 33) (fun hg1_28 => ?_) (fun hg1_28 => ?_)
  ·
   try simp only [bsimp] at hg1_28
   refine S44 ?_
   refine ⟨rfl, ?_, rfl, rfl⟩
   (repeat (first | exact trivial | refine leC ?_ | refine leK ?_ ?_)) <;> first | (refine .inl (congrArg V.bool ?_); (first | (simp [boxHead, gidOk, *]; done) | (simp [boxHead, gidOk, *] <;> omega) | (rw [Bool.eq_iff_iff]; simp [boxHead, gidOk, *] <;> omega) | (simp_all [boxHead, gidOk]; done) | (simp_all [boxHead, gidOk]; omega))) | exact le_rfl' _
  try simp only [bsimp] at hg1_28
  refine S25 ?_
  refine OW cl78 (w_spec_l06Sorted b.gone 40 M115) ?_
  refine S39 ?_
  refine ⟨rfl, ?_, rfl, rfl⟩
  (repeat (first | exact trivial | refine leC ?_ | refine leK ?_ ?_)) <;> first | (refine .inl (congrArg V.bool ?_); (first | (simp [boxHead, gidOk, *]; done) | (simp [boxHead, gidOk, *] <;> omega) | (rw [Bool.eq_iff_iff]; simp [boxHead, gidOk, *] <;> omega) | (simp_all [boxHead, gidOk]; done) | (simp_all [boxHead, gidOk]; omega))) | exact le_rfl' _
 refine OC (fun hb1 => ?_) (fun hb1 => ?_)
 ·
  try simp only [bsimp] at hb1
  rw [show boxOk b = false by unfold boxOk; rw [show boxHead b = false from hb1, Bool.false_and]]
  refine S37 ?_
  rfl
 try simp only [bsimp] at hb1
 have hh : boxHead b = true := hb1
 refine Ok.skip ?_
 refine S28 ?_
 refine Ok.loopWZ (τ := Nat) (fun x => [(3, .int .i64 (x : Int))]) [2, 4, 39, 40, 41, 42, 43, 44, 45, 46, 47, 48, 49, 50, 51, 52, 53, 54, 55, 56, 57, 58, 59, 60, 61, 62, 63, 64, 65, 66, 67, 68, 69, 70, 71, 72, 73, 74, 75, 76, 77, 78, 79, 80, 81, 82, 83, 84, 85, 86, 87, 88, 89, 90, 91] (fun x => by simp only [kover] <;> rfl) (fun x => x ≤ b.mails.length ∧ ∀ k, k < x → mailFine b k = true) (fun x => b.mails.length - x) 0 M58 (by (repeat (first | exact trivial | refine leC ?_ | refine leK ?_ ?_)) <;> first | (exact le_rfl' _) | exact le_rfl' _) (⟨Nat.zero_le _, fun k h => by omega⟩) ?_
 rintro i ⟨h1, h2⟩
 refine S51 ?_
 refine OC (fun hb4 => ?_) (fun hb4 => ?_)
 ·
  try simp only [bsimp] at hb4
  have hi : i < b.mails.length := by omega
  have hmf := mailFine_at hi
  have hcap := h.2.1.1
  refine S14 ?_
  refine S19 ?_
  refine OkOps.ev tab_ok rfl (ev_idx_map M48 M48 M58 M48) M52 ?_
  refine S58 ?_
  refine Ok.seqC [(91, .bool (!mailFine b i))] [51, 52, 53, 54, 55, 56, 57, 58, 59, 60, 61, 62, 63, 64, 65, 66, 67, 68, 69, 70, 71, 72, 73, 74, 75, 76, 77, 78, 79, 80, 81, 82, 83, 84, 85, 86, 87, 88, 89, 90] M51 ?_ ?_
  ·
   refine Ok.drawn 41 92 [] M56 M56 rfl ?_
   refine SV ?_
   refine SOps.S0 rfl (OpS.weakM rfl M48 M48 cl112 (w_spec_MailOk b.mails[i] (by have := (h.2.1.2 _ (List.getElem_mem hi)).1; omega))) M52 ?_
   iterate 2 (refine SV ?_)
   refine SOps.split (d := 54) M48 M52 M52 (fun hg7_3 => ?_) (fun hg7_3 => ?_)
   ·
    try simp only [bsimp] at hg7_3
    refine S32 ?_
    refine S56 ?_
    refine S32 ?_
    iterate 6 (refine SU ?_)
    refine S23 ?_
    refine ⟨rfl, ?_, rfl, rfl⟩
    (repeat (first | exact trivial | refine leC ?_ | refine leK ?_ ?_)) <;> first | (refine .inl (congrArg V.bool ?_); (first | (simp [hmf, *]; done) | (simp [hmf, *] <;> omega) | (rw [Bool.eq_iff_iff]; simp [hmf, *] <;> omega) | (simp_all [hmf]; done) | (simp_all [hmf]; omega))) | exact le_rfl' _
   try simp only [bsimp] at hg7_3
   iterate 5 (refine SN ?_)
   iterate 2 (refine SV ?_)
   refine SOps.split (d := 61) M48 M52 M52 (fun hg7_10 => ?_) (fun hg7_10 => ?_)
   ·
    try simp only [bsimp] at hg7_10
    refine S56 ?_
    refine S32 ?_
    iterate 6 (refine SU ?_)
    refine S23 ?_
    refine ⟨rfl, ?_, rfl, rfl⟩
    (repeat (first | exact trivial | refine leC ?_ | refine leK ?_ ?_)) <;> first | (refine .inl (congrArg V.bool ?_); (first | (simp [hmf, *]; done) | (simp [hmf, *] <;> omega) | (rw [Bool.eq_iff_iff]; simp [hmf, *] <;> omega) | (simp_all [hmf]; done) | (simp_all [hmf]; omega))) | exact le_rfl' _
   try simp only [bsimp] at hg7_10
   iterate 3 (refine SN ?_)
   refine SOps.split (d := 64) M48 M52 M52 (fun hg7_13 => ?_) (fun hg7_13 => ?_)
   ·
    try simp only [bsimp] at hg7_13
    have hpos : 0 < i := by omega
    have hbf := beforeB_get (p := fun (x y : Mail) => decide (x.uid < y.uid)) hi hpos
    iterate 3 (refine SN ?_)
    refine SOps.onEv tab_ok rfl rfl M50 M91 M52 ?_
    refine SOps.onEv tab_ok rfl rfl M50 (ev_idx_map M48 M48 M58 M48) M52 ?_
    iterate 6 (refine SN ?_)
    iterate 2 (refine SV ?_)
    refine SOps.split (d := 77) M48 M52 M52 (fun hg7_26 => ?_) (fun hg7_26 => ?_)
    ·
     try simp only [bsimp] at hg7_26
     refine S32 ?_
     iterate 6 (refine SU ?_)
     refine S23 ?_
     refine ⟨rfl, ?_, rfl, rfl⟩
     (repeat (first | exact trivial | refine leC ?_ | refine leK ?_ ?_)) <;> first | (refine .inl (congrArg V.bool ?_); (first | (simp [hmf, *]; done) | (simp [hmf, *] <;> omega) | (rw [Bool.eq_iff_iff]; simp [hmf, *] <;> omega) | (simp_all [hmf]; done) | (simp_all [hmf]; omega))) | exact le_rfl' _
    try simp only [bsimp] at hg7_26
    iterate 4 (refine SN ?_)
    refine SOps.onS0 rfl rfl M50 (OpS.weakM rfl M48 M48 cl81 (w_spec_l06In b.gone b.mails[i].gid M115)) M52 ?_
    iterate 2 (refine SV ?_)
    refine SOps.split (d := 84) M48 M52 M52 (fun hg7_33 => ?_) (fun hg7_33 => ?_)
    ·
     try simp only [bsimp] at hg7_33
     iterate 6 (refine SU ?_)
     refine S23 ?_
     refine ⟨rfl, ?_, rfl, rfl⟩
     (repeat (first | exact trivial | refine leC ?_ | refine leK ?_ ?_)) <;> first | (refine .inl (congrArg V.bool ?_); (first | (simp [hmf, *]; done) | (simp [hmf, *] <;> omega) | (rw [Bool.eq_iff_iff]; simp [hmf, *] <;> omega) | (simp_all [hmf]; done) | (simp_all [hmf]; omega))) | exact le_rfl' _
    try simp only [bsimp] at hg7_33
    iterate 3 (refine SN ?_)
    refine SOps.onS0 rfl rfl M50 (OpS.weakM rfl M48 M48 cl113 (w_spec_MailAt b b.mails[i].gid M113)) M52 ?_
    refine SN ?_
    refine SN ?_
    refine S23 ?_
    refine ⟨rfl, ?_, rfl, rfl⟩
    (repeat (first | exact trivial | refine leC ?_ | refine leK ?_ ?_)) <;> first | (refine .inl (congrArg V.bool ?_); (first | (simp [hmf, *]; done) | (simp [hmf, *] <;> omega) | (rw [Bool.eq_iff_iff]; simp [hmf, *] <;> omega) | (simp_all [hmf]; done) | (simp_all [hmf]; omega))) | exact le_rfl' _
   try simp only [bsimp] at hg7_13
   have hbf : beforeB b.mails (fun x y => decide (x.uid < y.uid)) i = true := by rw [show i = 0 by omega]; rfl
   iterate 10 (refine SU ?_)
   refine S48 ?_
   iterate 4 (refine SN ?_)
   refine SOps.onS0 rfl rfl M50 (OpS.weakM rfl M48 M48 cl81 (w_spec_l06In b.gone b.mails[i].gid M115)) M52 ?_
   iterate 2 (refine SV ?_)
   refine SOps.split (d := 84) M48 M52 M52 (fun hg7_33 => ?_) (fun hg7_33 => ?_)
   ·
    try simp only [bsimp] at hg7_33
    iterate 6 (refine SU ?_)
    refine S23 ?_
    refine ⟨rfl, ?_, rfl, rfl⟩
    (repeat (first | exact trivial | refine leC ?_ | refine leK ?_ ?_)) <;> first | (refine .inl (congrArg V.bool ?_); (first | (simp [hmf, *]; done) | (simp [hmf, *] <;> omega) | (rw [Bool.eq_iff_iff]; simp [hmf, *] <;> omega) | (simp_all [hmf]; done) | (simp_all [hmf]; omega))) | exact le_rfl' _
   try simp only [bsimp] at hg7_33
   iterate 3 (refine SN ?_)
   refine SOps.onS0 rfl rfl M50 (OpS.weakM rfl M48 M48 cl113 (w_spec_MailAt b b.mails[i].gid M113)) M52 ?_
   refine SN ?_
   refine SN ?_
   refine S23 ?_
   refine ⟨rfl, ?_, rfl, rfl⟩
   (repeat (first | exact trivial | refine leC ?_ | refine leK ?_ ?_)) <;> first | (refine .inl (congrArg V.bool ?_); (first | (simp [hmf, *]; done) | (simp [hmf, *] <;> omega) | (rw [Bool.eq_iff_iff]; simp [hmf, *] <;> omega) | (simp_all [hmf]; done) | (simp_all [hmf]; omega))) | exact le_rfl' _
  refine OC (fun hb7 => ?_) (fun hb7 => ?_)
  ·
   try simp only [bsimp] at hb7
   rw [show boxOk b = false by unfold boxOk; rw [allUp_no hi hb7, Bool.and_false]]
   refine S37 ?_
   rfl
  try simp only [bsimp] at hb7
  refine S42 ?_
  refine ⟨i + 1, ?_, rfl, ⟨by omega, up_next h2 hb7⟩, by omega⟩
  simp only [V.renL, V.travL, V.travLL, V.trav, frz, zz, zf, zy, Nat.reduceLeDiff, ↓reduceIte]
  (repeat (first | exact trivial | refine leC ?_ | refine leK ?_ ?_)) <;> first | ((rw [wrap_add_one (by have := h.2.1.1; omega)]; exact le_rfl' _)) | exact le_rfl' _
 try simp only [bsimp] at hb4
 obtain rfl : i = b.mails.length := by omega
 rw [show boxOk b = true by unfold boxOk; rw [hh, allUp_yes h2]; rfl]
 refine Ok.exit ?_
 refine S37 ?_
 rfl
theorem w_spec_StoreOk (s : Store) (h : smStore s) : Weak Tryz.prog 59 [.agg (cStore s)] (.bool (storeOk s)) := by
 refine Weak.enter tab_ok Tryz.func59 rfl (.inr M33) (ht := ANYS 106) ?_
 refine S10 ?_
 refine Ok.seq ?_
 refine Ok.seqC [(28, .bool (!storeHead s))] [7, 8, 9, 10, 11, 12, 13, 14, 15, 16, 17, 18, 19, 20, 21, 22, 23, 24, 25, 26, 27] M51 ?_ ?_
 ·
  refine S20 ?_
  refine OW cl62 (w_spec_l01In s.by_ 1 2) ?_
  iterate 2 (refine EV ?_)
  refine OP (d := 11) (fun hg1_4 => ?_) (fun hg1_4 => ?_)
  ·
   try simp only [bsimp] at hg1_4
   refine S43 ?_
   refine S13 ?_
   refine S2 ?_
   refine ⟨rfl, ?_, rfl, rfl⟩
   (repeat (first | exact trivial | refine leC ?_ | refine leK ?_ ?_)) <;> first | (refine .inl (congrArg V.bool ?_); (first | (simp [storeHead, *]; done) | (simp [storeHead, *] <;> omega) | (rw [Bool.eq_iff_iff]; simp [storeHead, *] <;> omega) | (simp_all [storeHead]; done) | (simp_all [storeHead]; omega))) | exact le_rfl' _
  try simp only [bsimp] at hg1_4
  refine S25 ?_
  refine OW cl62 (w_spec_l01In s.time 0 100000) ?_
  refine S31 ?_
  refine OP (d := 17) (fun hg1_10 => ?_) (fun hg1_10 => ?_)
  ·
   try simp only [bsimp] at hg1_10
   refine S43 ?_
   refine S2 ?_
   refine ⟨rfl, ?_, rfl, rfl⟩
   (repeat (first | exact trivial | refine leC ?_ | refine leK ?_ ?_)) <;> first | (refine .inl (congrArg V.bool ?_); (first | (simp [storeHead, *]; done) | (simp [storeHead, *] <;> omega) | (rw [Bool.eq_iff_iff]; simp [storeHead, *] <;> omega) | (simp_all [storeHead]; done) | (simp_all [storeHead]; omega))) | exact le_rfl' _
  try simp only [bsimp] at hg1_10
  iterate 3 (refine OX ?_)
  refine S31 ?_
  refine OP (d := 23) (fun hg1_16 => ?_) (fun hg1_16 => ?_)
  ·
   try simp only [bsimp] at hg1_16
   refine S44 ?_
   refine ⟨rfl, ?_, rfl, rfl⟩
   (repeat (first | exact trivial | refine leC ?_ | refine leK ?_ ?_)) <;> first | (refine .inl (congrArg V.bool ?_); (first | (simp [storeHead, *]; done) | (simp [storeHead, *] <;> omega) | (rw [Bool.eq_iff_iff]; simp [storeHead, *] <;> omega) | (simp_all [storeHead]; done) | (simp_all [storeHead]; omega))) | exact le_rfl' _
  try simp only [bsimp] at hg1_16
  refine S25 ?_
  refine OW cl78 (w_spec_l06Sorted s.gone 20 M116) ?_
  refine S39 ?_
  refine ⟨rfl, ?_, rfl, rfl⟩
  (repeat (first | exact trivial | refine leC ?_ | refine leK ?_ ?_)) <;> first | (refine .inl (congrArg V.bool ?_); (first | (simp [storeHead, *]; done) | (simp [storeHead, *] <;> omega) | (rw [Bool.eq_iff_iff]; simp [storeHead, *] <;> omega) | (simp_all [storeHead]; done) | (simp_all [storeHead]; omega))) | exact le_rfl' _
 refine OC (fun hb1 => ?_) (fun hb1 => ?_)
 ·
  try simp only [bsimp] at hb1
  rw [show storeOk s = false by unfold storeOk; rw [show storeHead s = false from hb1, Bool.false_and]]
  refine S37 ?_
  rfl
 try simp only [bsimp] at hb1
 have hh : storeHead s = true := hb1
 have hcap := h.1.1
 refine Ok.skip ?_
 refine S10 ?_
 refine S28 ?_
 refine Ok.bump (n' := 3) M58 ?_
 refine Ok.loopWZ (τ := Nat) (fun x => [(3, .sl 2 1 0 ((seenG s x 0).map cZ)), (4, .int .i64 (x : Int))]) [2, 5, 6, 30, 31, 32, 33, 34, 35, 36, 37, 38, 39, 40, 41, 42, 43, 44, 45, 46, 47, 48, 49, 50, 51, 52, 53, 54, 55, 56, 57, 58, 59, 60, 61, 62, 63, 64, 65, 66, 67, 68, 69, 70, 71, 72, 73, 74, 75, 76, 77, 78, 79, 80, 81, 82, 83, 84, 85, 86, 87, 88, 89, 90, 91, 92, 93, 94, 95, 96, 97, 98, 99, 100, 101, 102, 103, 104, 105, 106] (fun x => by simp only [kover] <;> rfl) (fun x => x ≤ s.boxes.length ∧ ∀ k, k < x → boxGood s k = true) (fun x => s.boxes.length - x) 0 M58 (by (repeat (first | exact trivial | refine leC ?_ | refine leK ?_ ?_)) <;> first | (first | exact le_rfl' _ | (rw [seen_zero]; exact le_nil 2 1)) | exact le_rfl' _) (⟨Nat.zero_le _, fun k h => by omega⟩) ?_
 rintro i ⟨h1, h2⟩
 refine S51 ?_
 refine OC (fun hb5 => ?_) (fun hb5 => ?_)
 ·
  try simp only [bsimp] at hb5
  have hi : i < s.boxes.length := by omega
  have hmf := boxFine_at hi
  have hmc := (h.1.2 _ (List.getElem_mem hi)).2.1.1
  refine S14 ?_
  refine S19 ?_
  refine OkOps.ev tab_ok rfl (ev_idx_map M48 M48 M58 M48) M52 ?_
  refine S58 ?_
  refine Ok.seq ?_
  refine Ok.seqC [(82, .bool (!boxFine s i))] [42, 43, 44, 45, 46, 47, 48, 49, 50, 51, 52, 53, 54, 55, 56, 57, 58, 59, 60, 61, 62, 63, 64, 65, 66, 67, 68, 69, 70, 71, 72, 73, 74, 75, 76, 77, 78, 79, 80, 81] M51 ?_ ?_
  ·
   refine Ok.drawn 41 107 [] M56 M56 rfl ?_
   refine SV ?_
   refine SOps.S0 rfl (OpS.weakM rfl M48 M48 cl79 (w_spec_BoxOk s.boxes[i] (h.1.2 _ (List.getElem_mem hi)))) M52 ?_
   iterate 2 (refine SV ?_)
   refine SOps.split (d := 45) M48 M52 M52 (fun hg8_3 => ?_) (fun hg8_3 => ?_)
   ·
    try simp only [bsimp] at hg8_3
    refine S56 ?_
    refine S49 ?_
    refine S32 ?_
    refine S47 ?_
    refine ⟨rfl, ?_, rfl, rfl⟩
    (repeat (first | exact trivial | refine leC ?_ | refine leK ?_ ?_)) <;> first | (refine .inl (congrArg V.bool ?_); (first | (simp [hmf, *]; done) | (simp [hmf, *] <;> omega) | (rw [Bool.eq_iff_iff]; simp [hmf, *] <;> omega) | (simp_all [hmf]; done) | (simp_all [hmf]; omega))) | exact le_rfl' _
   try simp only [bsimp] at hg8_3
   iterate 3 (refine SN ?_)
   refine SOps.split (d := 48) M48 M52 M52 (fun hg8_6 => ?_) (fun hg8_6 => ?_)
   ·
    try simp only [bsimp] at hg8_6
    have hpos : 0 < i := by omega
    have hbf := beforeB_get (p := fun (x y : Box) => decide (x.gid < y.gid)) hi hpos
    iterate 3 (refine SN ?_)
    refine SOps.onEv tab_ok rfl rfl M50 M91 M52 ?_
    refine SOps.onEv tab_ok rfl rfl M50 (ev_idx_map M48 M48 M58 M48) M52 ?_
    iterate 6 (refine SN ?_)
    iterate 2 (refine SV ?_)
    refine SOps.split (d := 61) M48 M52 M52 (fun hg8_19 => ?_) (fun hg8_19 => ?_)
    ·
     try simp only [bsimp] at hg8_19
     refine S49 ?_
     refine S32 ?_
     refine S47 ?_
     refine ⟨rfl, ?_, rfl, rfl⟩
     (repeat (first | exact trivial | refine leC ?_ | refine leK ?_ ?_)) <;> first | (refine .inl (congrArg V.bool ?_); (first | (simp [hmf, *]; done) | (simp [hmf, *] <;> omega) | (rw [Bool.eq_iff_iff]; simp [hmf, *] <;> omega) | (simp_all [hmf]; done) | (simp_all [hmf]; omega))) | exact le_rfl' _
    try simp only [bsimp] at hg8_19
    iterate 3 (refine SN ?_)
    refine SOps.onS0 rfl rfl M50 (OpS.weakM rfl M48 M48 cl80 (w_spec_BoxNamed s s.boxes[i].name M114)) M52 ?_
    refine SN ?_
    refine S48 ?_
    refine SOps.split (d := 69) M48 M52 M52 (fun hg8_27 => ?_) (fun hg8_27 => ?_)
    ·
     try simp only [bsimp] at hg8_27
     refine S32 ?_
     refine S47 ?_
     refine ⟨rfl, ?_, rfl, rfl⟩
     (repeat (first | exact trivial | refine leC ?_ | refine leK ?_ ?_)) <;> first | (refine .inl (congrArg V.bool ?_); (first | (simp [hmf, *]; done) | (simp [hmf, *] <;> omega) | (rw [Bool.eq_iff_iff]; simp [hmf, *] <;> omega) | (simp_all [hmf]; done) | (simp_all [hmf]; omega))) | exact le_rfl' _
    try simp only [bsimp] at hg8_27
    iterate 4 (refine SN ?_)
    refine SOps.onS0 rfl rfl M50 (OpS.weakM rfl M48 M48 cl81 (w_spec_l06In s.gone s.boxes[i].gid M116)) M52 ?_
    iterate 2 (refine SV ?_)
    refine SOps.split (d := 76) M48 M52 M52 (fun hg8_34 => ?_) (fun hg8_34 => ?_)
    ·
     try simp only [bsimp] at hg8_34
     refine S47 ?_
     refine ⟨rfl, ?_, rfl, rfl⟩
     (repeat (first | exact trivial | refine leC ?_ | refine leK ?_ ?_)) <;> first | (refine .inl (congrArg V.bool ?_); (first | (simp [hmf, *]; done) | (simp [hmf, *] <;> omega) | (rw [Bool.eq_iff_iff]; simp [hmf, *] <;> omega) | (simp_all [hmf]; done) | (simp_all [hmf]; omega))) | exact le_rfl' _
    try simp only [bsimp] at hg8_34
    iterate 3 (refine SN ?_)
    refine SOps.onS0 rfl rfl M50 (OpS.weakM rfl M48 M48 cl82 (w_spec_l07Times s.boxes[i] s.time M99 (fun m hm => by have := ((h.1.2 _ (List.getElem_mem hi)).2.1.2 m hm).1; omega))) M52 ?_
    refine SN ?_
    refine S23 ?_
    refine ⟨rfl, ?_, rfl, rfl⟩
    (repeat (first | exact trivial | refine leC ?_ | refine leK ?_ ?_)) <;> first | (refine .inl (congrArg V.bool ?_); (first | (simp [hmf, *]; done) | (simp [hmf, *] <;> omega) | (rw [Bool.eq_iff_iff]; simp [hmf, *] <;> omega) | (simp_all [hmf]; done) | (simp_all [hmf]; omega))) | exact le_rfl' _
   try simp only [bsimp] at hg8_6
   have hbf : beforeB s.boxes (fun x y => decide (x.gid < y.gid)) i = true := by rw [show i = 0 by omega]; rfl
   iterate 10 (refine SU ?_)
   refine S48 ?_
   iterate 3 (refine SN ?_)
   refine SOps.onS0 rfl rfl M50 (OpS.weakM rfl M48 M48 cl80 (w_spec_BoxNamed s s.boxes[i].name M114)) M52 ?_
   refine SN ?_
   refine S48 ?_
   refine SOps.split (d := 69) M48 M52 M52 (fun hg8_27 => ?_) (fun hg8_27 => ?_)
   ·
    try simp only [bsimp] at hg8_27
    refine S32 ?_
    refine S47 ?_
    refine ⟨rfl, ?_, rfl, rfl⟩
    (repeat (first | exact trivial | refine leC ?_ | refine leK ?_ ?_)) <;> first | (refine .inl (congrArg V.bool ?_); (first | (simp [hmf, *]; done) | (simp [hmf, *] <;> omega) | (rw [Bool.eq_iff_iff]; simp [hmf, *] <;> omega) | (simp_all [hmf]; done) | (simp_all [hmf]; omega))) | exact le_rfl' _
   try simp only [bsimp] at hg8_27
   iterate 4 (refine SN ?_)
   refine SOps.onS0 rfl rfl M50 (OpS.weakM rfl M48 M48 cl81 (w_spec_l06In s.gone s.boxes[i].gid M116)) M52 ?_
   iterate 2 (refine SV ?_)
   refine SOps.split (d := 76) M48 M52 M52 (fun hg8_34 => ?_) (fun hg8_34 => ?_)
   ·
    try simp only [bsimp] at hg8_34
    refine S47 ?_
    refine ⟨rfl, ?_, rfl, rfl⟩
    (repeat (first | exact trivial | refine leC ?_ | refine leK ?_ ?_)) <;> first | (refine .inl (congrArg V.bool ?_); (first | (simp [hmf, *]; done) | (simp [hmf, *] <;> omega) | (rw [Bool.eq_iff_iff]; simp [hmf, *] <;> omega) | (simp_all [hmf]; done) | (simp_all [hmf]; omega))) | exact le_rfl' _
   try simp only [bsimp] at hg8_34
   iterate 3 (refine SN ?_)
   refine SOps.onS0 rfl rfl M50 (OpS.weakM rfl M48 M48 cl82 (w_spec_l07Times s.boxes[i] s.time M99 (fun m hm => by have := ((h.1.2 _ (List.getElem_mem hi)).2.1.2 m hm).1; omega))) M52 ?_
   refine SN ?_
   refine S23 ?_
   refine ⟨rfl, ?_, rfl, rfl⟩
   (repeat (first | exact trivial | refine leC ?_ | refine leK ?_ ?_)) <;> first | (refine .inl (congrArg V.bool ?_); (first | (simp [hmf, *]; done) | (simp [hmf, *] <;> omega) | (rw [Bool.eq_iff_iff]; simp [hmf, *] <;> omega) | (simp_all [hmf]; done) | (simp_all [hmf]; omega))) | exact le_rfl' _
  refine OC (fun hb8 => ?_) (fun hb8 => ?_)
  ·
   try simp only [bsimp] at hb8
   rw [show storeOk s = false by unfold storeOk; rw [allUp_no hi (show boxGood s i = false by unfold boxGood; rw [hb8, Bool.false_and]), Bool.and_false]]
   refine S37 ?_
   rfl
  try simp only [bsimp] at hb8
  refine Ok.skip ?_
  refine S8 ?_
  refine Ok.block ?_
  refine Ok.loopWZ (τ := Nat) (fun x => [(3, .sl 2 1 0 ((seenG s i x).map cZ)), (6, .int .i64 (x : Int))]) [2, 83, 84, 85, 86, 87, 88, 89, 90, 91, 92, 93, 94, 95, 96, 97, 98, 99, 100, 101, 102, 103, 104, 105, 106] (fun x => by simp only [kover] <;> rfl) (fun x => x ≤ s.boxes[i].mails.length ∧ ∀ k, k < x → newAt s i k = true) (fun x => s.boxes[i].mails.length - x) 0 M58 (by (repeat (first | exact trivial | refine leC ?_ | refine leK ?_ ?_)) <;> first | (exact le_rfl' _) | exact le_rfl' _) (⟨Nat.zero_le _, fun k h => by omega⟩) ?_
  rintro j ⟨g1, g2⟩
  refine S51 ?_
  refine OC (fun hb11 => ?_) (fun hb11 => ?_)
  ·
   try simp only [bsimp] at hb11
   have hj : j < s.boxes[i].mails.length := by omega
   have hna := newAt_get hi hj
   have hsl := seen_len h hi hj
   refine S14 ?_
   refine S5 ?_
   iterate 4 (refine EV ?_)
   refine OkOps.ev tab_ok rfl (ev_idx_map M48 M48 M58 M48) M52 ?_
   iterate 2 (refine EV ?_)
   refine OkOps.S0 rfl (OpS.weakE rfl M48 M27 cl81 M42 (w_spec_l06In (seenG s i j) s.boxes[i].mails[j].gid M58)) M52 ?_
   refine ON ?_
   refine OC (fun hb13 => ?_) (fun hb13 => ?_)
   ·
    try simp only [bsimp] at hb13
    have hnw : newAt s i j = false := by rw [hna]; simpa using hb13
    rw [show storeOk s = false by unfold storeOk; rw [allUp_no hi (show boxGood s i = false by unfold boxGood; rw [boxNew_get hi, allUp_no hj hnw, Bool.and_false]), Bool.and_false]]
    refine S37 ?_
    rfl
   try simp only [bsimp] at hb13
   have hnw : newAt s i j = true := by rw [hna]; simpa using hb13
   refine Ok.skip ?_
   refine S35 ?_
   refine OkOps.ev tab_ok rfl (ev_idx_map M48 M48 M58 M48) M52 ?_
   iterate 2 (refine EV ?_)
   refine OkOps.ev tab_ok rfl (ev_bs M53 M53 M57 M57 M37 M16) M52 ?_
   refine OkOps.append tab_ok rfl rfl M53 M53 M57 rfl M48 (.inl ⟨_, _, by simp only [kE, kT, kL, kC] <;> rfl⟩) M58 M58 M34 M34 M55 M13 M10 (rfl) ?_
   refine S63 ?_
   refine ⟨j + 1, ?_, rfl, ⟨by omega, up_next g2 hnw⟩, by omega⟩
   simp only [V.renL, V.travL, V.travLL, V.trav, frz, zz, zf, zy, Nat.reduceLeDiff, ↓reduceIte]
   (repeat (first | exact trivial | refine leC ?_ | refine leK ?_ ?_)) <;> first | ((first | (rw [wrap_add_one (by omega)]; exact le_rfl' _) | (rw [seen_mail hi hj, List.map_append]; exact le_rfl' _) | (refine le_eqm ?_; rw [seen_mail hi hj, List.map_append]; rfl))) | exact le_rfl' _
  try simp only [bsimp] at hb11
  obtain rfl : j = s.boxes[i].mails.length := by omega
  have hgd : boxGood s i = true := by unfold boxGood; rw [hb8, boxNew_get hi, allUp_yes g2]; rfl
  refine Ok.exit ?_
  refine S12 ?_
  refine ⟨i + 1, ?_, rfl, ⟨by omega, up_next h2 hgd⟩, by omega⟩
  simp only [V.renL, V.travL, V.travLL, V.trav, frz, zz, zf, zy, Nat.reduceLeDiff, ↓reduceIte]
  (repeat (first | exact trivial | refine leC ?_ | refine leK ?_ ?_)) <;> first | ((first | (rw [wrap_add_one (by omega)]; exact le_rfl' _) | (rw [seen_box hi]; exact le_rfl' _))) | exact le_rfl' _
 try simp only [bsimp] at hb5
 obtain rfl : i = s.boxes.length := by omega
 rw [show storeOk s = true by unfold storeOk; rw [hh, allUp_yes h2]; rfl]
 refine Ok.exit ?_
 refine S37 ?_
 rfl
end Go.Proofs.YtiipkeendfpddaaGreat.K

/- Walks: texts of stores. Printed by w2.py. -/
namespace Go.Proofs.YtiipkeendfpddaaGreat.K
open Go Go.RowKit
set_option linter.unusedVariables false
set_option linter.unusedSimpArgs false
set_option maxHeartbeats 4000000
set_option maxRecDepth 20000
theorem w_impl_MailText (m : Mail) (h : smMail m) : Weak Tryz.prog 75 [.agg (cMail m)] (vO (mailText m)) := by
 refine Weak.enter tab_ok Tryz.func75 rfl (.inr M33) (ht := ANYS 40) ?_
 refine S34 ?_
 refine S59 ?_
 refine OW cl103 (w_impl_MailOk m (by have := h.1; omega)) ?_
 refine S2 ?_
 refine OC (fun hb1 => ?_) (fun hb1 => ?_)
 ·
  try simp only [bsimp] at hb1
  have hk : mailOk m = false := by simpa using hb1
  rw [mailText_no hk]
  refine S46 ?_
  first | rfl | (simp [packV, mailT, V.erase, V.trav, V.travL, varsZ]; done)
 try simp only [bsimp] at hb1
 have hk : mailOk m = true := by simpa using hb1
 rw [mailText_yes hk]
 obtain ⟨k1, k2, k3, k4, k5⟩ := mailOk_is hk
 have v1 := varI_len (z := m.gid) M58
 have v2 := varI_len (z := m.uid) M58
 refine Ok.skip ?_
 refine S38 ?_
 refine OkOps.ev tab_ok rfl (ev_bs M53 M53 M57 M57 M37 M16) M52 ?_
 refine OkOps.S0 rfl (OpS.weakE rfl M48 M27 cl36 M42 (w_impl_vars [m.gid, m.uid] (by intro z hz; simp only [List.mem_cons, List.not_mem_nil, or_false] at hz; rcases hz with rfl | rfl <;> exact in9 M58) M119)) M52 ?_
 refine S2 ?_
 refine S50 ?_
 refine Ok.block ?_
 refine Ok.loopWZ (τ := Nat) (fun x => [(4, .str (varsZ [m.gid, m.uid] ++ (m.flags.take x).flatMap regT)), (19, .int .i64 (x : Int))]) [6, 20, 21, 22, 23, 24, 25, 26, 27, 28, 29, 30, 31, 32, 33, 34, 35] (fun x => by simp only [kover] <;> rfl) (fun x => x ≤ m.flags.length) (fun x => m.flags.length - x) 0 M58 (by (repeat (first | exact trivial | refine leC ?_ | refine leK ?_ ?_)) <;> first | (first | exact le_rfl' _ | exact le_eqm (by rw [List.take_zero, List.flatMap_nil, List.append_nil]) | exact le_eqm (congrArg V.str (by simp))) | exact le_rfl' _) (Nat.zero_le _) ?_
 rintro i h1
 refine S45 ?_
 refine OC (fun hb5 => ?_) (fun hb5 => ?_)
 ·
  try simp only [bsimp] at hb5
  have hi : i < m.flags.length := by omega
  have hn := flat_next (f := regT) hi
  have q0 := regs_len (l := m.flags.take i) (fun r hr => k3 r (List.mem_of_mem_take hr))
  have q1 : (m.flags.take i).length ≤ 3 := by rw [List.length_take]; omega
  have hr := regOk_is (flagOk_is (k3 _ (List.getElem_mem hi))).1
  have v3 := varI_len (z := m.flags[i].val) M58
  have v4 := varI_len (z := m.flags[i].stamp.time) M58
  have v5 := varI_len (z := m.flags[i].stamp.by_) M58
  refine S14 ?_
  refine OQ ?_
  refine OkOps.ev tab_ok rfl (ev_idx_map M48 M48 M58 M48) M52 ?_
  refine S58 ?_
  refine Ok.region ?_
  iterate 9 (refine EV ?_)
  refine OkOps.ev tab_ok rfl (ev_bs M53 M53 M57 M57 M37 M16) M52 ?_
  refine OkOps.S0 rfl (OpS.weakE rfl M48 M27 cl36 M42 (w_impl_vars [m.flags[i].val, m.flags[i].stamp.time, m.flags[i].stamp.by_] M74 M119)) M52 ?_
  refine OkOps.ev tab_ok rfl (ev_cat M48 M48 M1) M112 ?_
  refine S2 ?_
  refine S27 ?_
  refine ⟨i + 1, ?_, rfl, by omega, by omega⟩
  simp only [V.renL, V.travL, V.travLL, V.trav, frz, zz, zf, zy, Nat.reduceLeDiff, ↓reduceIte]
  (repeat (first | exact trivial | refine leC ?_ | refine leK ?_ ?_)) <;> first | (first | (rw [wrap_add_one (by omega)]; exact le_rfl' _) | exact le_eqm (congrArg V.str (by rw [hn]; simp only [regT, varsZ, gT, List.append_assoc, List.append_nil])) | exact le_eqm (congrArg V.str (by rw [hn]; simp [regT, varsZ, gT]))) | exact le_rfl' _
 try simp only [bsimp] at hb5
 rw [show i = m.flags.length by omega, List.take_length]
 have q0 := regs_len k3
 have v3 := varT_len5 (n := m.text.length) M58
 refine Ok.exit ?_
 refine S19 ?_
 refine OW cl74 (w_impl_short m.text M58) ?_
 refine OkOps.ev tab_ok rfl (ev_cat M48 M48 M1) M112 ?_
 refine S41 ?_
 first | rfl | (simp [packV, mailT, V.erase, V.trav, V.travL, varsZ]; done)
theorem w_spec_MailText (m : Mail) (h : smMail m) : Weak Tryz.prog 83 [.agg (cMail m)] (vO (mailText m)) := by
 refine Weak.enter tab_ok Tryz.func83 rfl (.inr M33) (ht := ANYS 58) ?_
 refine S34 ?_
 refine S59 ?_
 refine OW cl112 (w_spec_MailOk m (by have := h.1; omega)) ?_
 refine S2 ?_
 refine OC (fun hb1 => ?_) (fun hb1 => ?_)
 ·
  try simp only [bsimp] at hb1
  have hk : mailOk m = false := by simpa using hb1
  rw [mailText_no hk]
  refine S46 ?_
  first | rfl | (simp [packV, mailT, V.erase, V.trav, V.travL, varsZ]; done)
 try simp only [bsimp] at hb1
 have hk : mailOk m = true := by simpa using hb1
 rw [mailText_yes hk]
 obtain ⟨k1, k2, k3, k4, k5⟩ := mailOk_is hk
 have v1 := varI_len (z := m.gid) M58
 have v2 := varI_len (z := m.uid) M58
 refine S7 ?_
 refine Ok.drawn 8 59 [] M56 M56 rfl ?_
 iterate 2 (refine SV ?_)
 refine SOps.S0 rfl (OpS.weakM rfl M48 M48 cl40 (w_spec_l01Var m.gid M58)) M52 ?_
 iterate 2 (refine SV ?_)
 refine SOps.S0 rfl (OpS.weakM rfl M48 M48 cl40 (w_spec_l01Var m.uid M58)) M52 ?_
 refine SOps.ev tab_ok rfl (ev_cat M48 M48 M1) M112 ?_
 refine S23 ?_
 refine S28 ?_
 refine Ok.loopW (τ := Nat) (fun x => [(4, .str (varT m.gid.toNat ++ varT m.uid.toNat ++ (m.flags.take x).flatMap regT)), (5, .int .i64 (x : Int))]) [16, 17, 18, 19, 20, 21, 22, 23, 24, 25, 26, 27, 28, 29, 30, 31, 32, 33, 34, 35, 36, 37, 38, 39, 40, 41, 42, 43, 44, 45, 46, 47, 48, 49] (fun x => by simp only [kover] <;> rfl) (fun x => x ≤ m.flags.length) (fun x => m.flags.length - x) 0 (by (repeat (first | exact trivial | refine leC ?_ | refine leK ?_ ?_)) <;> first | (first | exact le_rfl' _ | exact le_eqm (by rw [List.take_zero, List.flatMap_nil, List.append_nil]) | exact le_eqm (congrArg V.str (by simp))) | exact le_rfl' _) (Nat.zero_le _) ?_
 rintro i h1
 refine S51 ?_
 refine OC (fun hb5 => ?_) (fun hb5 => ?_)
 ·
  try simp only [bsimp] at hb5
  have hi : i < m.flags.length := by omega
  have hn := flat_next (f := regT) hi
  have q0 := regs_len (l := m.flags.take i) (fun r hr => k3 r (List.mem_of_mem_take hr))
  have q1 : (m.flags.take i).length ≤ 3 := by rw [List.length_take]; omega
  have hr := regOk_is (flagOk_is (k3 _ (List.getElem_mem hi))).1
  have v3 := varI_len (z := m.flags[i].val) M58
  have v4 := varI_len (z := m.flags[i].stamp.time) M58
  have v5 := varI_len (z := m.flags[i].stamp.by_) M58
  refine S14 ?_
  refine Ok.drawn 27 59 [] M56 M56 rfl ?_
  iterate 4 (refine SV ?_)
  refine SOps.ev tab_ok rfl (ev_idx_map M48 M48 M58 M48) M52 ?_
  iterate 2 (refine SV ?_)
  refine SOps.S0 rfl (OpS.weakM rfl M48 M48 cl40 (w_spec_l01Var m.flags[i].val M58)) M52 ?_
  refine SOps.ev tab_ok rfl (ev_cat M48 M48 M1) M112 ?_
  iterate 3 (refine SV ?_)
  refine SOps.ev tab_ok rfl (ev_idx_map M48 M48 M58 M48) M52 ?_
  iterate 3 (refine SV ?_)
  refine SOps.S0 rfl (OpS.weakM rfl M48 M48 cl40 (w_spec_l01Var m.flags[i].stamp.time M58)) M52 ?_
  refine SOps.ev tab_ok rfl (ev_cat M48 M48 M1) M112 ?_
  iterate 3 (refine SV ?_)
  refine SOps.ev tab_ok rfl (ev_idx_map M48 M48 M58 M48) M52 ?_
  iterate 3 (refine SV ?_)
  refine SOps.S0 rfl (OpS.weakM rfl M48 M48 cl40 (w_spec_l01Var m.flags[i].stamp.by_ M58)) M52 ?_
  refine SOps.ev tab_ok rfl (ev_cat M48 M48 M1) M112 ?_
  refine SOps.nil ?_
  refine TV ?_
  refine TOps.nil ?_
  refine S12 ?_
  refine ⟨i + 1, ?_, rfl, rfl, by omega, by omega⟩
  (repeat (first | exact trivial | refine leC ?_ | refine leK ?_ ?_)) <;> first | (first | (rw [wrap_add_one (by omega)]; exact le_rfl' _) | exact le_eqm (congrArg V.str (by rw [hn]; simp only [regT, varsZ, gT, List.append_assoc, List.append_nil])) | exact le_eqm (congrArg V.str (by rw [hn]; simp [regT, varsZ, gT]))) | exact le_rfl' _
 try simp only [bsimp] at hb5
 rw [show i = m.flags.length by omega, List.take_length]
 have q0 := regs_len k3
 have v3 := varT_len5 (n := m.text.length) M58
 refine S54 ?_
 refine Ok.drawn 11 59 [] M56 M56 rfl ?_
 iterate 4 (refine SV ?_)
 refine SOps.S0 rfl (OpS.weakM rfl M48 M48 cl40 (w_spec_l01Var (m.text.length : Int) M58)) M52 ?_
 refine SOps.ev tab_ok rfl (ev_cat M39 M39 M1) M112 ?_
 iterate 2 (refine SV ?_)
 refine SOps.ev tab_ok rfl (ev_cat M48 M48 M1) M112 ?_
 iterate 2 (refine SV ?_)
 refine S9 ?_
 refine S3 ?_
 first | rfl | (simp [packV, mailT, V.erase, V.trav, V.travL, varsZ]; done)
theorem w_impl_boxText (b : Box) (h : smBox b) (hk : boxOk b = true) : Weak Tryz.prog 57 [.agg (cBox b)] (.str (boxT b)) := by
 obtain ⟨k1, k2, k3, k4, k5, k6, k7, k8⟩ := boxOk_is hk
 have v1 := varI_len (z := b.gid) M58
 have v2 := varT_len5 (n := b.name.length) M58
 have v3 := varI_len (z := b.named.time) M58
 have v4 := varI_len (z := b.named.by_) M58
 have v5 := varI_len (z := b.next) M58
 have v6 := varT_len5 (n := b.mails.length) M58
 have v7 := varT_len5 (n := b.gone.length) M58
 refine Weak.enter tab_ok Tryz.func57 rfl (.inr M33) (ht := ANYS 56) ?_
 refine S10 ?_
 refine Ok.seq ?_
 refine Ok.drawn 23 57 [] M56 M56 rfl ?_
 iterate 2 (refine SV ?_)
 refine SOps.ev tab_ok rfl (ev_bs M53 M53 M57 M57 M37 M16) M52 ?_
 refine SOps.S0 rfl (OpS.weakEM rfl M48 M27 cl36 M42 (w_impl_vars [b.gid] M76 M119)) M52 ?_
 iterate 2 (refine SV ?_)
 refine SOps.S0 rfl (OpS.weakM rfl M48 M48 cl74 (w_impl_short b.name M58)) M52 ?_
 refine SOps.ev tab_ok rfl (ev_cat M48 M48 M1) M112 ?_
 iterate 11 (refine SV ?_)
 refine SOps.ev tab_ok rfl (ev_bs M53 M53 M57 M57 M37 M16) M52 ?_
 refine SOps.S0 rfl (OpS.weakEM rfl M48 M27 cl36 M42 (w_impl_vars [b.named.time, b.named.by_, b.next, (b.mails.length : Int)] (by intro z hz; simp only [List.mem_cons, List.not_mem_nil, or_false] at hz; rcases hz with rfl | rfl | rfl | rfl <;> exact in9 M58) M119)) M52 ?_
 refine SOps.ev tab_ok rfl (ev_cat M48 M48 M1) M112 ?_
 refine S23 ?_
 refine S50 ?_
 refine Ok.block ?_
 refine Ok.loopWZ (τ := Nat) (fun x => [(3, .str ((varsZ [b.gid] ++ (varT b.name.length ++ b.name) ++ varsZ [b.named.time, b.named.by_, b.next, (b.mails.length : Int)]) ++ (b.mails.take x).flatMap mailT)), (33, .int .i64 (x : Int))]) [5, 6, 7, 34, 35, 36, 37, 38, 39, 40, 41, 42, 43, 44, 45] (fun x => by simp only [kover] <;> rfl) (fun x => x ≤ b.mails.length) (fun x => b.mails.length - x) 0 M58 (by (repeat (first | exact trivial | refine leC ?_ | refine leK ?_ ?_)) <;> first | (first | exact le_rfl' _ | exact le_eqm (by rw [List.take_zero, List.flatMap_nil, List.append_nil]) | exact le_eqm (congrArg V.str (by simp))) | exact le_rfl' _) (Nat.zero_le _) ?_
 rintro i h1
 refine S45 ?_
 refine OC (fun hb3 => ?_) (fun hb3 => ?_)
 ·
  try simp only [bsimp] at hb3
  have hi : i < b.mails.length := by omega
  have hn := flat_next (f := mailT) hi
  have q0 := mails_le (l := b.mails.take i) (fun r hr => k6 r (List.mem_of_mem_take hr))
  have q1 : (b.mails.take i).length ≤ 10 := by rw [List.length_take]; omega
  have hmk := k6 _ (List.getElem_mem hi)
  have q2 := mailT_len hmk
  have hmt := mailText_yes hmk
  have hsm := h.2.1.2 _ (List.getElem_mem hi)
  refine S14 ?_
  refine OQ ?_
  refine OkOps.ev tab_ok rfl (ev_idx_map M48 M48 M58 M48) M52 ?_
  refine S58 ?_
  refine S6 ?_
  refine OW cl75 (w_impl_MailText b.mails[i] hsm) ?_
  iterate 3 (refine OkOps.ev tab_ok rfl (by simp only [kE, kT, kL, kC, hmt, Option.getD_some, Option.isSome_some] <;> rfl) M52 ?_)
  refine S1 ?_
  refine S20 ?_
  refine OkOps.ev tab_ok rfl (ev_cat M48 M48 M1) M112 ?_
  refine S2 ?_
  refine S27 ?_
  refine ⟨i + 1, ?_, rfl, by omega, by omega⟩
  simp only [V.renL, V.travL, V.travLL, V.trav, frz, zz, zf, zy, Nat.reduceLeDiff, ↓reduceIte]
  (repeat (first | exact trivial | refine leC ?_ | refine leK ?_ ?_)) <;> first | (first | (rw [wrap_add_one (by omega)]; exact le_rfl' _) | exact le_eqm (congrArg V.str (by rw [hn]; simp only [regT, varsZ, gT, List.append_assoc, List.append_nil])) | exact le_eqm (congrArg V.str (by rw [hn]; simp [regT, varsZ, gT]))) | exact le_rfl' _
 try simp only [bsimp] at hb3
 obtain rfl : i = b.mails.length := by omega
 rw [List.take_length]
 have q0 := mails_le k6
 have q9 := gone_len k7
 refine S54 ?_
 refine Ok.drawn 12 57 [] M56 M56 rfl ?_
 iterate 4 (refine SV ?_)
 refine SOps.ev tab_ok rfl (ev_bs M53 M53 M57 M57 M37 M16) M52 ?_
 refine SOps.S0 rfl (OpS.weakEM rfl M48 M27 cl36 M42 (w_impl_vars [(b.gone.length : Int)] M76 M119)) M52 ?_
 refine SOps.ev tab_ok rfl (ev_cat M48 M48 M1) M112 ?_
 iterate 2 (refine SV ?_)
 refine SOps.S0 rfl (OpS.weakM rfl (by simp only [kE, kT, kL, kC, varsZ_flat b.gone] <;> rfl) (by simp only [kE, kT, kL, kC, varsZ_flat b.gone] <;> rfl) cl36 (w_impl_vars b.gone (fun z hz => in9 (by have := k7 z hz; omega)) M58)) M52 ?_
 refine SOps.ev tab_ok rfl (ev_cat M48 M48 M1) M112 ?_
 refine S23 ?_
 refine S3 ?_
 simp [packV, boxT, goneT_eq, V.erase, V.trav, V.travL, varsZ, varsZ_flat]
theorem w_spec_BoxText (b : Box) (h : smBox b) : Weak Tryz.prog 60 [.agg (cBox b)] (vO (boxText b)) := by
 refine Weak.enter tab_ok Tryz.func60 rfl (.inr M33) (ht := ANYS 82) ?_
 refine S34 ?_
 refine S59 ?_
 refine OW cl79 (w_spec_BoxOk b h) ?_
 refine S2 ?_
 refine OC (fun hb1 => ?_) (fun hb1 => ?_)
 ·
  try simp only [bsimp] at hb1
  have hk : boxOk b = false := by simpa using hb1
  rw [boxText_no hk]
  refine S46 ?_
  first | rfl | (simp [packV, boxT, goneT_eq, V.erase, V.trav, V.travL]; done)
 try simp only [bsimp] at hb1
 have hk : boxOk b = true := by simpa using hb1
 rw [boxText_yes hk]
 obtain ⟨k1, k2, k3, k4, k5, k6, k7, k8⟩ := boxOk_is hk
 have v1 := varI_len (z := b.gid) M58
 have v2 := varT_len5 (n := b.name.length) M58
 have v3 := varI_len (z := b.named.time) M58
 have v4 := varI_len (z := b.named.by_) M58
 have v5 := varI_len (z := b.next) M58
 have v6 := varT_len5 (n := b.mails.length) M58
 have v7 := varT_len5 (n := b.gone.length) M58
 refine S7 ?_
 refine Ok.drawn 31 83 [] M56 M56 rfl ?_
 iterate 2 (refine SV ?_)
 refine SOps.S0 rfl (OpS.weakM rfl M48 M48 cl40 (w_spec_l01Var b.gid M58)) M52 ?_
 iterate 3 (refine SV ?_)
 refine SOps.S0 rfl (OpS.weakM rfl M48 M48 cl40 (w_spec_l01Var (b.name.length : Int) M58)) M52 ?_
 refine SOps.ev tab_ok rfl (ev_cat M39 M39 M1) M112 ?_
 iterate 2 (refine SV ?_)
 refine SOps.ev tab_ok rfl (ev_cat M48 M48 M1) M112 ?_
 iterate 3 (refine SV ?_)
 refine SOps.S0 rfl (OpS.weakM rfl M48 M48 cl40 (w_spec_l01Var b.named.time M58)) M52 ?_
 refine SOps.ev tab_ok rfl (ev_cat M48 M48 M1) M112 ?_
 iterate 3 (refine SV ?_)
 refine SOps.S0 rfl (OpS.weakM rfl M48 M48 cl40 (w_spec_l01Var b.named.by_ M58)) M52 ?_
 refine SOps.ev tab_ok rfl (ev_cat M48 M48 M1) M112 ?_
 iterate 2 (refine SV ?_)
 refine SOps.S0 rfl (OpS.weakM rfl M48 M48 cl40 (w_spec_l01Var b.next M58)) M52 ?_
 refine SOps.ev tab_ok rfl (ev_cat M48 M48 M1) M112 ?_
 iterate 3 (refine SV ?_)
 refine SOps.S0 rfl (OpS.weakM rfl M48 M48 cl40 (w_spec_l01Var (b.mails.length : Int) M58)) M52 ?_
 refine SOps.ev tab_ok rfl (ev_cat M39 M39 M1) M112 ?_
 refine S23 ?_
 refine S28 ?_
 refine Ok.loopW (τ := Nat) (fun x => [(4, .str ((varT b.gid.toNat ++ varT b.name.length ++ b.name ++ varT b.named.time.toNat ++ varT b.named.by_.toNat ++ varT b.next.toNat ++ varT b.mails.length) ++ (b.mails.take x).flatMap mailT)), (5, .int .i64 (x : Int))]) [6, 7, 42, 43, 44, 45, 46, 47, 48, 49, 50, 51, 52, 53, 54, 55, 56, 57, 58, 59, 60] (fun x => by simp only [kover] <;> rfl) (fun x => x ≤ b.mails.length) (fun x => b.mails.length - x) 0 (by (repeat (first | exact trivial | refine leC ?_ | refine leK ?_ ?_)) <;> first | (first | exact le_rfl' _ | exact le_eqm (by rw [List.take_zero, List.flatMap_nil, List.append_nil]) | exact le_eqm (congrArg V.str (by simp))) | exact le_rfl' _) (Nat.zero_le _) ?_
 rintro i h1
 refine S51 ?_
 refine OC (fun hb5 => ?_) (fun hb5 => ?_)
 ·
  try simp only [bsimp] at hb5
  have hi : i < b.mails.length := by omega
  have hn := flat_next (f := mailT) hi
  have q0 := mails_le (l := b.mails.take i) (fun r hr => k6 r (List.mem_of_mem_take hr))
  have q1 : (b.mails.take i).length ≤ 10 := by rw [List.length_take]; omega
  have hmk := k6 _ (List.getElem_mem hi)
  have q2 := mailT_len hmk
  have hmt := mailText_yes hmk
  have hsm := h.2.1.2 _ (List.getElem_mem hi)
  refine S14 ?_
  refine S19 ?_
  refine OkOps.ev tab_ok rfl (ev_idx_map M48 M48 M58 M48) M52 ?_
  refine EV ?_
  refine OW cl83 (w_spec_MailText b.mails[i] hsm) ?_
  iterate 3 (refine OkOps.ev tab_ok rfl (by simp only [kE, kT, kL, kC, hmt, Option.getD_some, Option.isSome_some] <;> rfl) M52 ?_)
  refine S1 ?_
  refine S20 ?_
  refine OkOps.ev tab_ok rfl (ev_cat M48 M48 M1) M112 ?_
  refine S63 ?_
  refine ⟨i + 1, ?_, rfl, rfl, by omega, by omega⟩
  (repeat (first | exact trivial | refine leC ?_ | refine leK ?_ ?_)) <;> first | (first | (rw [wrap_add_one (by omega)]; exact le_rfl' _) | exact le_eqm (congrArg V.str (by rw [hn]; simp only [regT, varsZ, gT, List.append_assoc, List.append_nil])) | exact le_eqm (congrArg V.str (by rw [hn]; simp [regT, varsZ, gT]))) | exact le_rfl' _
 try simp only [bsimp] at hb5
 obtain rfl : i = b.mails.length := by omega
 rw [List.take_length]
 have q0 := mails_le k6
 have q9 := gone_len k7
 refine Ok.exit ?_
 refine S38 ?_
 refine OW cl40 (w_spec_l01Var (b.gone.length : Int) M58) ?_
 refine OkOps.ev tab_ok rfl (ev_cat M39 M39 M1) M112 ?_
 refine S2 ?_
 refine S28 ?_
 refine Ok.loopW (τ := Nat) (fun x => [(4, .str (((varT b.gid.toNat ++ varT b.name.length ++ b.name ++ varT b.named.time.toNat ++ varT b.named.by_.toNat ++ varT b.next.toNat ++ varT b.mails.length) ++ b.mails.flatMap mailT ++ varT b.gone.length) ++ (b.gone.take x).flatMap gT)), (8, .int .i64 (x : Int))]) [67, 68, 69, 70, 71, 72, 73, 74, 75, 76, 77, 78, 79, 80, 81] (fun x => by simp only [kover] <;> rfl) (fun x => x ≤ b.gone.length) (fun x => b.gone.length - x) 0 (by (repeat (first | exact trivial | refine leC ?_ | refine leK ?_ ?_)) <;> first | (first | exact le_rfl' _ | exact le_eqm (by rw [List.take_zero, List.flatMap_nil, List.append_nil]) | exact le_eqm (congrArg V.str (by simp))) | exact le_rfl' _) (Nat.zero_le _) ?_
 rintro j g1
 refine S51 ?_
 refine OC (fun hb11 => ?_) (fun hb11 => ?_)
 ·
  try simp only [bsimp] at hb11
  have hj : j < b.gone.length := by omega
  have gn := flat_next (f := gT) hj
  have p0 := gone_len (l := b.gone.take j) (fun r hr => k7 r (List.mem_of_mem_take hr))
  have p1 : (b.gone.take j).length ≤ 40 := by rw [List.length_take]; omega
  have p2 := k7 _ (List.getElem_mem hj)
  have p3 := varI_len (z := b.gone[j]) M58
  refine S14 ?_
  refine S35 ?_
  refine OkOps.ev tab_ok rfl (ev_idx_map M48 M48 M58 M48) M52 ?_
  refine EV ?_
  refine OW cl40 (w_spec_l01Var b.gone[j] M58) ?_
  refine OkOps.ev tab_ok rfl (ev_cat M48 M48 M1) M112 ?_
  refine S63 ?_
  refine ⟨j + 1, ?_, rfl, rfl, by omega, by omega⟩
  (repeat (first | exact trivial | refine leC ?_ | refine leK ?_ ?_)) <;> first | (first | (rw [wrap_add_one (by omega)]; exact le_rfl' _) | exact le_eqm (congrArg V.str (by rw [gn]; simp only [regT, varsZ, gT, List.append_assoc, List.append_nil])) | exact le_eqm (congrArg V.str (by rw [gn]; simp [regT, varsZ, gT]))) | exact le_rfl' _
 try simp only [bsimp] at hb11
 rw [show j = b.gone.length by omega, List.take_length]
 refine Ok.exit ?_
 refine S34 ?_
 refine S3 ?_
 first | rfl | (simp [packV, boxT, goneT_eq, V.erase, V.trav, V.travL]; done)
theorem w_impl_StoreText (s : Store) (h : smStore s) : Weak Tryz.prog 33 [.agg (cStore s)] (vO (storeText s)) := by
 refine Weak.enter tab_ok Tryz.func33 rfl (.inr M33) (ht := ANYS 44) ?_
 refine S34 ?_
 refine S59 ?_
 refine OW cl56 (w_impl_StoreOk s h) ?_
 refine S2 ?_
 refine OC (fun hb1 => ?_) (fun hb1 => ?_)
 ·
  try simp only [bsimp] at hb1
  have hk : storeOk s = false := by simpa using hb1
  rw [storeText_no hk]
  refine S46 ?_
  first | rfl | (simp [packV, storeB, goneT_eq, V.erase, V.trav, V.travL, varsZ, varsZ_flat]; done)
 try simp only [bsimp] at hb1
 have hk : storeOk s = true := by simpa using hb1
 obtain ⟨k1, k2, k3, k4, k7, k8⟩ := storeOk_is hk
 rw [storeText_ok hk]
 have v3 := varI_len (z := s.time) M58
 have v4 := varI_len (z := s.by_) M58
 have v6 := varT_len5 (n := s.boxes.length) M58
 have v7 := varT_len5 (n := s.gone.length) M58
 refine Ok.skip ?_
 refine OQ ?_
 iterate 7 (refine EV ?_)
 refine OkOps.ev tab_ok rfl (ev_bs M53 M53 M57 M57 M37 M16) M52 ?_
 refine OkOps.S0 rfl (OpS.weakE rfl M48 M27 cl36 M42 (w_impl_vars [s.by_, s.time, (s.boxes.length : Int)] M74 M119)) M52 ?_
 refine S2 ?_
 refine S50 ?_
 refine Ok.block ?_
 refine Ok.loopWZ (τ := Nat) (fun x => [(4, .str (varsZ [s.by_, s.time, (s.boxes.length : Int)] ++ (s.boxes.take x).flatMap boxT)), (22, .int .i64 (x : Int))]) [6, 23, 24, 25, 26, 27, 28, 29, 30] (fun x => by simp only [kover] <;> rfl) (fun x => x ≤ s.boxes.length) (fun x => s.boxes.length - x) 0 M58 (by (repeat (first | exact trivial | refine leC ?_ | refine leK ?_ ?_)) <;> first | (first | exact le_rfl' _ | exact le_eqm (by rw [List.take_zero, List.flatMap_nil, List.append_nil]) | exact le_eqm (congrArg V.str (by simp))) | exact le_rfl' _) (Nat.zero_le _) ?_
 rintro i h1
 refine S45 ?_
 refine OC (fun hb5 => ?_) (fun hb5 => ?_)
 ·
  try simp only [bsimp] at hb5
  have hi : i < s.boxes.length := by omega
  have hn := flat_next (f := boxT) hi
  have q0 := boxes_le (l := s.boxes.take i) (fun r hr => k4 r (List.mem_of_mem_take hr))
  have q1 : (s.boxes.take i).length ≤ 5 := by rw [List.length_take]; omega
  have hbk := k4 _ (List.getElem_mem hi)
  have q2 := boxT_len hbk
  have hbt := boxText_yes hbk
  have hsb := h.1.2 _ (List.getElem_mem hi)
  refine S14 ?_
  refine OQ ?_
  refine OkOps.ev tab_ok rfl (ev_idx_map M48 M48 M58 M48) M52 ?_
  refine S58 ?_
  refine S20 ?_
  refine OW cl57 (w_impl_boxText s.boxes[i] hsb hbk) ?_
  refine OkOps.ev tab_ok rfl (ev_cat M48 M48 M1) M112 ?_
  refine S2 ?_
  refine S27 ?_
  refine ⟨i + 1, ?_, rfl, by omega, by omega⟩
  simp only [V.renL, V.travL, V.travLL, V.trav, frz, zz, zf, zy, Nat.reduceLeDiff, ↓reduceIte]
  (repeat (first | exact trivial | refine leC ?_ | refine leK ?_ ?_)) <;> first | (first | (rw [wrap_add_one (by omega)]; exact le_rfl' _) | exact le_eqm (congrArg V.str (by rw [hn]; simp only [regT, varsZ, gT, List.append_assoc, List.append_nil])) | exact le_eqm (congrArg V.str (by rw [hn]; simp [regT, varsZ, gT]))) | exact le_rfl' _
 try simp only [bsimp] at hb5
 obtain rfl : i = s.boxes.length := by omega
 rw [List.take_length]
 have q0 := boxes_le k4
 have q9 := gone_len k7
 refine S54 ?_
 refine Ok.drawn 16 45 [] M56 M56 rfl ?_
 iterate 4 (refine SV ?_)
 refine SOps.ev tab_ok rfl (ev_bs M53 M53 M57 M57 M37 M16) M52 ?_
 refine SOps.S0 rfl (OpS.weakEM rfl M48 M27 cl36 M42 (w_impl_vars [(s.gone.length : Int)] M76 M119)) M52 ?_
 refine SOps.ev tab_ok rfl (ev_cat M48 M48 M1) M112 ?_
 iterate 2 (refine SV ?_)
 refine SOps.S0 rfl (OpS.weakM rfl (by simp only [kE, kT, kL, kC, varsZ_flat s.gone] <;> rfl) (by simp only [kE, kT, kL, kC, varsZ_flat s.gone] <;> rfl) cl36 (w_impl_vars s.gone (fun z hz => in9 (by have := k7 z hz; omega)) M58)) M52 ?_
 refine SOps.ev tab_ok rfl (ev_cat M48 M48 M1) M112 ?_
 refine SOps.S0 rfl (OpS.weakM rfl M48 M48 cl58 (w_impl_Sealed _)) M52 ?_
 iterate 4 (refine SV ?_)
 refine S9 ?_
 refine S3 ?_
 first | rfl | (simp [packV, storeB, goneT_eq, V.erase, V.trav, V.travL, varsZ, varsZ_flat]; done)
theorem w_spec_StoreText (s : Store) (h : smStore s) : Weak Tryz.prog 37 [.agg (cStore s)] (vO (storeText s)) := by
 refine Weak.enter tab_ok Tryz.func37 rfl (.inr M33) (ht := ANYS 67) ?_
 refine S34 ?_
 refine S59 ?_
 refine OW cl59 (w_spec_StoreOk s h) ?_
 refine S2 ?_
 refine OC (fun hb1 => ?_) (fun hb1 => ?_)
 ·
  try simp only [bsimp] at hb1
  have hk : storeOk s = false := by simpa using hb1
  rw [storeText_no hk]
  refine S46 ?_
  first | rfl | (simp [packV, storeB, goneT_eq, V.erase, V.trav, V.travL, varsZ, varsZ_flat]; done)
 try simp only [bsimp] at hb1
 have hk : storeOk s = true := by simpa using hb1
 obtain ⟨k1, k2, k3, k4, k7, k8⟩ := storeOk_is hk
 rw [storeText_ok hk]
 have v3 := varI_len (z := s.time) M58
 have v4 := varI_len (z := s.by_) M58
 have v6 := varT_len5 (n := s.boxes.length) M58
 have v7 := varT_len5 (n := s.gone.length) M58
 refine S7 ?_
 refine Ok.drawn 13 68 [] M56 M56 rfl ?_
 iterate 2 (refine SV ?_)
 refine SOps.S0 rfl (OpS.weakM rfl M48 M48 cl40 (w_spec_l01Var s.by_ M58)) M52 ?_
 iterate 2 (refine SV ?_)
 refine SOps.S0 rfl (OpS.weakM rfl M48 M48 cl40 (w_spec_l01Var s.time M58)) M52 ?_
 refine SOps.ev tab_ok rfl (ev_cat M48 M48 M1) M112 ?_
 iterate 3 (refine SV ?_)
 refine SOps.S0 rfl (OpS.weakM rfl M48 M48 cl40 (w_spec_l01Var (s.boxes.length : Int) M58)) M52 ?_
 refine SOps.ev tab_ok rfl (ev_cat M39 M39 M1) M112 ?_
 refine S23 ?_
 refine S28 ?_
 refine Ok.loopW (τ := Nat) (fun x => [(4, .str ((varT s.by_.toNat ++ varT s.time.toNat ++ varT s.boxes.length) ++ (s.boxes.take x).flatMap boxT)), (5, .int .i64 (x : Int))]) [6, 7, 24, 25, 26, 27, 28, 29, 30, 31, 32, 33, 34, 35, 36, 37, 38, 39, 40, 41, 42] (fun x => by simp only [kover] <;> rfl) (fun x => x ≤ s.boxes.length) (fun x => s.boxes.length - x) 0 (by (repeat (first | exact trivial | refine leC ?_ | refine leK ?_ ?_)) <;> first | (first | exact le_rfl' _ | exact le_eqm (by rw [List.take_zero, List.flatMap_nil, List.append_nil]) | exact le_eqm (congrArg V.str (by simp))) | exact le_rfl' _) (Nat.zero_le _) ?_
 rintro i h1
 refine S51 ?_
 refine OC (fun hb5 => ?_) (fun hb5 => ?_)
 ·
  try simp only [bsimp] at hb5
  have hi : i < s.boxes.length := by omega
  have hn := flat_next (f := boxT) hi
  have q0 := boxes_le (l := s.boxes.take i) (fun r hr => k4 r (List.mem_of_mem_take hr))
  have q1 : (s.boxes.take i).length ≤ 5 := by rw [List.length_take]; omega
  have hbk := k4 _ (List.getElem_mem hi)
  have q2 := boxT_len hbk
  have hbt := boxText_yes hbk
  have hsb := h.1.2 _ (List.getElem_mem hi)
  refine S14 ?_
  refine S19 ?_
  refine OkOps.ev tab_ok rfl (ev_idx_map M48 M48 M58 M48) M52 ?_
  refine EV ?_
  refine OW cl60 (w_spec_BoxText s.boxes[i] hsb) ?_
  iterate 3 (refine OkOps.ev tab_ok rfl (by simp only [kE, kT, kL, kC, hbt, Option.getD_some, Option.isSome_some] <;> rfl) M52 ?_)
  refine S1 ?_
  refine S20 ?_
  refine OkOps.ev tab_ok rfl (ev_cat M48 M48 M1) M112 ?_
  refine S63 ?_
  refine ⟨i + 1, ?_, rfl, rfl, by omega, by omega⟩
  (repeat (first | exact trivial | refine leC ?_ | refine leK ?_ ?_)) <;> first | (first | (rw [wrap_add_one (by omega)]; exact le_rfl' _) | exact le_eqm (congrArg V.str (by rw [hn]; simp only [regT, varsZ, gT, List.append_assoc, List.append_nil])) | exact le_eqm (congrArg V.str (by rw [hn]; simp [regT, varsZ, gT]))) | exact le_rfl' _
 try simp only [bsimp] at hb5
 obtain rfl : i = s.boxes.length := by omega
 rw [List.take_length]
 have q0 := boxes_le k4
 have q9 := gone_len k7
 refine Ok.exit ?_
 refine S38 ?_
 refine OW cl40 (w_spec_l01Var (s.gone.length : Int) M58) ?_
 refine OkOps.ev tab_ok rfl (ev_cat M39 M39 M1) M112 ?_
 refine S2 ?_
 refine S28 ?_
 refine Ok.loopW (τ := Nat) (fun x => [(4, .str (((varT s.by_.toNat ++ varT s.time.toNat ++ varT s.boxes.length) ++ s.boxes.flatMap boxT ++ varT s.gone.length) ++ (s.gone.take x).flatMap gT)), (8, .int .i64 (x : Int))]) [49, 50, 51, 52, 53, 54, 55, 56, 57, 58, 59, 60, 61, 62, 63] (fun x => by simp only [kover] <;> rfl) (fun x => x ≤ s.gone.length) (fun x => s.gone.length - x) 0 (by (repeat (first | exact trivial | refine leC ?_ | refine leK ?_ ?_)) <;> first | (first | exact le_rfl' _ | exact le_eqm (by rw [List.take_zero, List.flatMap_nil, List.append_nil]) | exact le_eqm (congrArg V.str (by simp))) | exact le_rfl' _) (Nat.zero_le _) ?_
 rintro j g1
 refine S51 ?_
 refine OC (fun hb11 => ?_) (fun hb11 => ?_)
 ·
  try simp only [bsimp] at hb11
  have hj : j < s.gone.length := by omega
  have gn := flat_next (f := gT) hj
  have p0 := gone_len (l := s.gone.take j) (fun r hr => k7 r (List.mem_of_mem_take hr))
  have p1 : (s.gone.take j).length ≤ 20 := by rw [List.length_take]; omega
  have p2 := k7 _ (List.getElem_mem hj)
  have p3 := varI_len (z := s.gone[j]) M58
  refine S14 ?_
  refine S35 ?_
  refine OkOps.ev tab_ok rfl (ev_idx_map M48 M48 M58 M48) M52 ?_
  refine EV ?_
  refine OW cl40 (w_spec_l01Var s.gone[j] M58) ?_
  refine OkOps.ev tab_ok rfl (ev_cat M48 M48 M1) M112 ?_
  refine S63 ?_
  refine ⟨j + 1, ?_, rfl, rfl, by omega, by omega⟩
  (repeat (first | exact trivial | refine leC ?_ | refine leK ?_ ?_)) <;> first | (first | (rw [wrap_add_one (by omega)]; exact le_rfl' _) | exact le_eqm (congrArg V.str (by rw [gn]; simp only [regT, varsZ, gT, List.append_assoc, List.append_nil])) | exact le_eqm (congrArg V.str (by rw [gn]; simp [regT, varsZ, gT]))) | exact le_rfl' _
 try simp only [bsimp] at hb11
 rw [show j = s.gone.length by omega, List.take_length]
 refine Ok.exit ?_
 refine S6 ?_
 refine OW cl61 (w_spec_Sealed _) ?_
 refine S16 ?_
 refine S3 ?_
 first | rfl | (simp [packV, storeB, goneT_eq, V.erase, V.trav, V.travL, varsZ, varsZ_flat]; done)
end Go.Proofs.YtiipkeendfpddaaGreat.K

/- Rows of data of the call's own. Printed by genis.py. -/
namespace Go.Proofs.YtiipkeendfpddaaGreat.K
open Go Go.RowKit
set_option linter.unusedVariables false
set_option linter.unusedSimpArgs false
def isInt (c : List V) : Prop := ∃ n : Int, c = [.int .i64 n]
def isText (c : List V) : Prop := ∃ s : Str, c = [.str s]
def isReg (c : List V) : Prop := ∃ (v0 : Int) (v1 : Int) (v2 : Int), c = [.int .i64 v0, .int .i64 v1, .int .i64 v2]
def isMail (c : List V) : Prop := ∃ (v0 : Int) (v1 : Int) (L2 : Nat) (e2 : List (List V)) (v3 : Str), c = [.int .i64 v0, .int .i64 v1, .sl (L2 + 1) 3 0 e2, .str v3] ∧ (∀ r ∈ e2, isReg r)
def isBox (c : List V) : Prop := ∃ (v0 : Int) (v1 : Str) (v2 : Int) (v3 : Int) (v4 : Int) (L5 : Nat) (e5 : List (List V)) (L6 : Nat) (e6 : List (List V)), c = [.int .i64 v0, .str v1, .int .i64 v2, .int .i64 v3, .int .i64 v4, .sl (L5 + 1) 4 0 e5, .sl (L6 + 1) 1 0 e6] ∧ (∀ r ∈ e5, isMail r) ∧ (∀ r ∈ e6, isInt r)
def isServer (c : List V) : Prop := ∃ (v0 : Int) (v1 : Int) (L2 : Nat) (e2 : List (List V)) (L3 : Nat) (e3 : List (List V)) (v4 : Str) (v5 : Int) (v6 : Str) (v7 : Str) (v8 : Bool) (v9 : Bool) (v10 : Int) (L11 : Nat) (e11 : List (List V)) (v12 : Bool), c = [.int .i64 v0, .int .i64 v1, .sl (L2 + 1) 7 0 e2, .sl (L3 + 1) 1 0 e3, .str v4, .int .i64 v5, .str v6, .str v7, .bool v8, .bool v9, .int .i64 v10, .sl (L11 + 1) 1 0 e11, .bool v12] ∧ (∀ r ∈ e2, isBox r) ∧ (∀ r ∈ e3, isInt r) ∧ (∀ r ∈ e11, isInt r)
def isSync (c : List V) : Prop := ∃ (v0 : Int) (v1 : Int) (L2 : Nat) (e2 : List (List V)) (v3 : Int) (v4 : Int) (v5 : Int) (L6 : Nat) (e6 : List (List V)) (v7 : Bool) (v8 : Bool), c = [.int .i64 v0, .int .i64 v1, .sl (L2 + 1) 1 0 e2, .int .i64 v3, .int .i64 v4, .int .i64 v5, .sl (L6 + 1) 1 0 e6, .bool v7, .bool v8] ∧ (∀ r ∈ e2, isText r) ∧ (∀ r ∈ e6, isText r)
def isLetter (c : List V) : Prop := ∃ (v0 : Int) (v1 : Str), c = [.int .i64 v0, .str v1]
end Go.Proofs.YtiipkeendfpddaaGreat.K
