/- Data of the call's own. Printed by genown.py. -/
import Derived.Test.YtiipkeendfpddaaGreatPM
import Derived.Test.YtiipkeendfpddaaGreatG7
import Derived.Test.YtiipkeendfpddaaGreatG4
import Derived.Test.YtiipkeendfpddaaGreatG6
namespace Go.Proofs.YtiipkeendfpddaaGreat.K
open Go Go.RowKit
set_option linter.unusedVariables false
set_option linter.unusedSimpArgs false
theorem Hom.nilV {f : V → V} {A : Nat → Prop} (hf : Hom f A) (s : Nat) : f (.nil s) = .nil s := hf.far _ fun L h => by cases h
theorem plLL_of : ∀ (es : List (List V)), (∀ r ∈ es, V.plL r = true) → V.plLL es = true
  | [], _ => rfl
  | x :: es, h => by
    simp only [V.plLL, h x (List.mem_cons_self ..), plLL_of es fun r hr => h r (List.mem_cons_of_mem _ hr), Bool.and_self]
theorem erase_tagd {es d : List (List V)} {n : Nat} (hd : V.datLL d = true) (he : V.eraseLL d = d) (h : es = V.tagLL n d) (hp : ∀ r ∈ es, V.plL r = true) : V.travLL (fun sz => V.sl 0 sz 0 []) (fun _ sz _ es => V.sl 0 sz 0 es) (fun _ _ o e => V.ptr 0 0 o e) es = d ∧ ∀ K, V.travLL (fun sz => V.sl 0 sz 0 []) (fun _ sz _ es => V.sl 0 sz 0 es) (fun _ _ o e => V.ptr 0 0 o e) (V.mkLL K es) = V.mkLL K d := by
  have e1 : V.eraseLL es = d := by rw [h, tagLL_erase _ _ hd, he]
  exact ⟨e1, fun K => by show V.eraseLL _ = _; rw [mkLL_erase es K (plLL_of es hp), e1]⟩
section
variable {P : Program} {ti : Tab} {t t' : List V} {n n' : Nat} {Q : Exit → List V → List V → Nat → Prop} {ops : Array Oper} {o : Oper} {l : List Oper}
theorem OkOps.storeN {T : TypeId} {p q : Operand} {L j : Nat} {e' : List V} (hti : TabOk P ti) (hg : o.guard = none) (ho : o.op = .store T p q) (hs : Go.Proofs.YtiipkeendfpddaaGreat.K.storeE (ti T) (opnd t p) (opnd t q) = some (L, j, e')) (hc : ∃ y l, cellsV (opnd t q) = y :: l) (hfree : L ∉ V.labelsL e')
    (ht : ∀ W, Hom W (· = L) → StoreF W L j e' → putV (t.map W) o.dst .any = t') (hk : OkOps P ops l t' [] n Q) : OkOps P ops (o :: l) t [] n Q :=
  OkOps.storeU (h0 := []) (U0 := id) (v0 := .any) (x := .any) (x' := .any) (B := (· = L)) hti hg ho hs hc hfree (Hom.id' _) rfl rfl (fun W hW _ => hW.any) ht (fun _ _ _ => hk)
end
theorem pl_int {c : List V} (h : isInt c) : V.plL c = true := by
  obtain ⟨v0, rfl⟩ := h
  simp only [V.plL, V.pl, Bool.and_true, Bool.true_and, beq_self_eq_true]
theorem own_int : ∀ (xs : List Int) (n : Nat), ∀ r ∈ V.tagLL (n + 1) (xs.map cZ), isInt r
  | [], n, r, hr => by cases hr
  | x :: xs, n, r, hr => by
    rw [List.map_cons] at hr
    rcases List.mem_cons.1 (show r ∈ V.tagL (n + 1) (cZ x) :: V.tagLL (n + 1 + V.cntL (cZ x)) (xs.map cZ) from hr) with rfl | hr
    · refine ⟨x, ?_⟩
      simp only [cZ, V.tagL, V.tag, V.cnt, Nat.add_zero]
    · rw [show n + 1 + V.cntL (cZ x) = (n + V.cntL (cZ x)) + 1 by omega] at hr; exact own_int xs _ r hr
theorem pl_Reg {c : List V} (h : isReg c) : V.plL c = true := by
  obtain ⟨v0, v1, v2, rfl⟩ := h
  simp only [V.plL, V.pl, Bool.and_true, Bool.true_and, beq_self_eq_true]
theorem own_Reg : ∀ (xs : List Reg) (n : Nat), ∀ r ∈ V.tagLL (n + 1) (xs.map cReg), isReg r
  | [], n, r, hr => by cases hr
  | x :: xs, n, r, hr => by
    rw [List.map_cons] at hr
    rcases List.mem_cons.1 (show r ∈ V.tagL (n + 1) (cReg x) :: V.tagLL (n + 1 + V.cntL (cReg x)) (xs.map cReg) from hr) with rfl | hr
    · refine ⟨x.val, x.stamp.time, x.stamp.by_, ?_⟩
      simp only [cReg, V.tagL, V.tag, V.cnt, Nat.add_zero]
    · rw [show n + 1 + V.cntL (cReg x) = (n + V.cntL (cReg x)) + 1 by omega] at hr; exact own_Reg xs _ r hr
theorem pl_Mail {c : List V} (h : isMail c) : V.plL c = true := by
  obtain ⟨v0, v1, L2, e2, v3, rfl, q2⟩ := h
  have h2 := plLL_of e2 fun r hr => pl_Reg (q2 r hr)
  simp only [V.plL, V.pl, Bool.and_true, Bool.true_and, beq_self_eq_true, h2]
theorem own_Mail : ∀ (xs : List Mail) (n : Nat), ∀ r ∈ V.tagLL (n + 1) (xs.map cMail), isMail r
  | [], n, r, hr => by cases hr
  | x :: xs, n, r, hr => by
    rw [List.map_cons] at hr
    rcases List.mem_cons.1 (show r ∈ V.tagL (n + 1) (cMail x) :: V.tagLL (n + 1 + V.cntL (cMail x)) (xs.map cMail) from hr) with rfl | hr
    · refine ⟨x.gid, x.uid, n, V.tagLL (n + 1 + 1) (x.flags.map cReg), x.text, ?_, fun r hr => own_Reg x.flags (n + 1) r hr⟩
      simp only [cMail, V.tagL, V.tag, V.cnt, Nat.add_zero]
    · rw [show n + 1 + V.cntL (cMail x) = (n + V.cntL (cMail x)) + 1 by omega] at hr; exact own_Mail xs _ r hr
theorem ownMail (n : Nat) (x : Mail) : ∃ (L2 : Nat) (e2 : List (List V)), V.tag (n + 1) (.agg (cMail x)) = .agg [.int .i64 x.gid, .int .i64 x.uid, .sl (L2 + 1) 3 0 e2, .str x.text] ∧ (∀ r ∈ e2, isReg r) ∧ V.travLL (fun sz => V.sl 0 sz 0 []) (fun _ sz _ es => V.sl 0 sz 0 es) (fun _ _ o e => V.ptr 0 0 o e) e2 = x.flags.map cReg ∧ (∀ K, V.travLL (fun sz => V.sl 0 sz 0 []) (fun _ sz _ es => V.sl 0 sz 0 es) (fun _ _ o e => V.ptr 0 0 o e) (V.mkLL K e2) = V.mkLL K (x.flags.map cReg)) ∧ V.mnLL e2 = V.mnLL (x.flags.map cReg) ∧ (V.labelsL [.int .i64 x.gid, .int .i64 x.uid, .sl (L2 + 1) 3 0 e2, .str x.text]).Nodup ∧ (∀ z ∈ V.labelsL [.int .i64 x.gid, .int .i64 x.uid, .sl (L2 + 1) 3 0 e2, .str x.text], n + 1 ≤ z ∧ z < n + 1 + V.cnt (.agg (cMail x))) := by
  have hX : V.tagL (n + 1) (cMail x) = [.int .i64 x.gid, .int .i64 x.uid, .sl (n + 1) 3 0 (V.tagLL (n + 1 + 1) (x.flags.map cReg)), .str x.text] := by
    simp only [cMail, V.tagL, V.tag, V.cnt, Nat.add_zero]
  have hl := tagL_labels (cMail x) (n + 1)
  rw [hX] at hl
  have q2 := fun r hr => own_Reg x.flags (n + 1) r hr
  have d2 := erase_tagd (es := V.tagLL (n + 1 + 1) (x.flags.map cReg)) (n := n + 1 + 1) (by simp [zz, zf, zy]) (by simp [V.eraseLL, zz, zf, zy]) rfl (fun r hr => pl_Reg (q2 r hr))
  have m2 := mnLL_erase (V.tagLL (n + 1 + 1) (x.flags.map cReg))
  rw [show V.eraseLL (V.tagLL (n + 1 + 1) (x.flags.map cReg)) = x.flags.map cReg from d2.1] at m2
  refine ⟨n, _, congrArg V.agg hX, q2, d2.1, d2.2, m2.symm, ?_, ?_⟩
  · rw [hl]; exact List.nodup_range'
  · intro z hz; rw [hl, List.mem_range'_1] at hz; exact hz
theorem ownBox (n : Nat) (x : Box) : ∃ (L5 : Nat) (e5 : List (List V)) (L6 : Nat) (e6 : List (List V)), V.tag (n + 1) (.agg (cBox x)) = .agg [.int .i64 x.gid, .str x.name, .int .i64 x.named.time, .int .i64 x.named.by_, .int .i64 x.next, .sl (L5 + 1) 4 0 e5, .sl (L6 + 1) 1 0 e6] ∧ (∀ r ∈ e5, isMail r) ∧ V.travLL (fun sz => V.sl 0 sz 0 []) (fun _ sz _ es => V.sl 0 sz 0 es) (fun _ _ o e => V.ptr 0 0 o e) e5 = x.mails.map cMail ∧ (∀ K, V.travLL (fun sz => V.sl 0 sz 0 []) (fun _ sz _ es => V.sl 0 sz 0 es) (fun _ _ o e => V.ptr 0 0 o e) (V.mkLL K e5) = V.mkLL K (x.mails.map cMail)) ∧ V.mnLL e5 = V.mnLL (x.mails.map cMail) ∧ (∀ r ∈ e6, isInt r) ∧ V.travLL (fun sz => V.sl 0 sz 0 []) (fun _ sz _ es => V.sl 0 sz 0 es) (fun _ _ o e => V.ptr 0 0 o e) e6 = x.gone.map cZ ∧ (∀ K, V.travLL (fun sz => V.sl 0 sz 0 []) (fun _ sz _ es => V.sl 0 sz 0 es) (fun _ _ o e => V.ptr 0 0 o e) (V.mkLL K e6) = V.mkLL K (x.gone.map cZ)) ∧ V.mnLL e6 = V.mnLL (x.gone.map cZ) ∧ (V.labelsL [.int .i64 x.gid, .str x.name, .int .i64 x.named.time, .int .i64 x.named.by_, .int .i64 x.next, .sl (L5 + 1) 4 0 e5, .sl (L6 + 1) 1 0 e6]).Nodup ∧ (∀ z ∈ V.labelsL [.int .i64 x.gid, .str x.name, .int .i64 x.named.time, .int .i64 x.named.by_, .int .i64 x.next, .sl (L5 + 1) 4 0 e5, .sl (L6 + 1) 1 0 e6], n + 1 ≤ z ∧ z < n + 1 + V.cnt (.agg (cBox x))) := by
  have hX : V.tagL (n + 1) (cBox x) = [.int .i64 x.gid, .str x.name, .int .i64 x.named.time, .int .i64 x.named.by_, .int .i64 x.next, .sl (n + 1) 4 0 (V.tagLL (n + 1 + 1) (x.mails.map cMail)), .sl (n + (1 + V.cntLL (x.mails.map cMail)) + 1) 1 0 (V.tagLL (n + (1 + V.cntLL (x.mails.map cMail)) + 1 + 1) (x.gone.map cZ))] := by
    simp only [cBox, V.tagL, V.tag, V.cnt, Nat.add_zero, (show n + 1 + (1 + V.cntLL (x.mails.map cMail)) = n + (1 + V.cntLL (x.mails.map cMail)) + 1 by omega)]
  have hl := tagL_labels (cBox x) (n + 1)
  rw [hX] at hl
  have q5 := fun r hr => own_Mail x.mails (n + 1) r hr
  have d5 := erase_tagd (es := V.tagLL (n + 1 + 1) (x.mails.map cMail)) (n := n + 1 + 1) (by simp [zz, zf, zy]) (by simp [V.eraseLL, zz, zf, zy]) rfl (fun r hr => pl_Mail (q5 r hr))
  have m5 := mnLL_erase (V.tagLL (n + 1 + 1) (x.mails.map cMail))
  rw [show V.eraseLL (V.tagLL (n + 1 + 1) (x.mails.map cMail)) = x.mails.map cMail from d5.1] at m5
  have q6 := fun r hr => own_int x.gone (n + (1 + V.cntLL (x.mails.map cMail)) + 1) r hr
  have d6 := erase_tagd (es := V.tagLL (n + (1 + V.cntLL (x.mails.map cMail)) + 1 + 1) (x.gone.map cZ)) (n := n + (1 + V.cntLL (x.mails.map cMail)) + 1 + 1) (by simp [zz, zf, zy]) (by simp [V.eraseLL, zz, zf, zy]) rfl (fun r hr => pl_int (q6 r hr))
  have m6 := mnLL_erase (V.tagLL (n + (1 + V.cntLL (x.mails.map cMail)) + 1 + 1) (x.gone.map cZ))
  rw [show V.eraseLL (V.tagLL (n + (1 + V.cntLL (x.mails.map cMail)) + 1 + 1) (x.gone.map cZ)) = x.gone.map cZ from d6.1] at m6
  refine ⟨n, _, n + (1 + V.cntLL (x.mails.map cMail)), _, congrArg V.agg hX, q5, d5.1, d5.2, m5.symm, q6, d6.1, d6.2, m6.symm, ?_, ?_⟩
  · rw [hl]; exact List.nodup_range'
  · intro z hz; rw [hl, List.mem_range'_1] at hz; exact hz
theorem ownSReg (n : Nat) (xs : List Reg) : ∃ (L0 : Nat) (e0 : List (List V)), V.tag (n + 1) (.sl 0 3 0 (xs.map cReg)) = .sl (L0 + 1) 3 0 e0 ∧ (∀ r ∈ e0, isReg r) ∧ V.travLL (fun sz => V.sl 0 sz 0 []) (fun _ sz _ es => V.sl 0 sz 0 es) (fun _ _ o e => V.ptr 0 0 o e) e0 = xs.map cReg ∧ (∀ K, V.travLL (fun sz => V.sl 0 sz 0 []) (fun _ sz _ es => V.sl 0 sz 0 es) (fun _ _ o e => V.ptr 0 0 o e) (V.mkLL K e0) = V.mkLL K (xs.map cReg)) ∧ V.mnLL e0 = V.mnLL (xs.map cReg) ∧ (V.labels (.sl (L0 + 1) 3 0 e0)).Nodup ∧ (∀ z ∈ V.labels (.sl (L0 + 1) 3 0 e0), n + 1 ≤ z ∧ z < n + 1 + V.cnt (.sl 0 3 0 (xs.map cReg))) := by
  have hl := tag_labels (.sl 0 3 0 (xs.map cReg)) (n + 1)
  have q0 := fun r hr => own_Reg xs (n + 1) r hr
  have d0 := erase_tagd (es := V.tagLL (n + 1 + 1) (xs.map cReg)) (n := n + 1 + 1) (by simp [zz, zf, zy]) (by simp [V.eraseLL, zz, zf, zy]) rfl (fun r hr => pl_Reg (q0 r hr))
  have m0 := mnLL_erase (V.tagLL (n + 1 + 1) (xs.map cReg))
  rw [show V.eraseLL (V.tagLL (n + 1 + 1) (xs.map cReg)) = xs.map cReg from d0.1] at m0
  refine ⟨n, _, rfl, q0, d0.1, d0.2, m0.symm, ?_, ?_⟩
  · exact (show (V.labels (V.tag (n + 1) (.sl 0 3 0 (xs.map cReg)))).Nodup by rw [hl]; exact List.nodup_range')
  · intro z hz; have hz2 : z ∈ V.labels (V.tag (n + 1) (.sl 0 3 0 (xs.map cReg))) := hz; rw [hl, List.mem_range'_1] at hz2; exact hz2
end Go.Proofs.YtiipkeendfpddaaGreat.K

/- What is far is kept: for short texts. -/
namespace Go.Proofs.YtiipkeendfpddaaGreat.K
open Go Go.RowKit
set_option linter.unusedVariables false
set_option linter.unusedSimpArgs false
section
variable {P : Program} {ti : Tab} {t t' h h' : List V} {n n' : Nat} {Q : Exit → List V → List V → Nat → Prop} {ops : Array Oper} {o : Oper} {l : List Oper} {late : List Nat}
theorem maskP_putK {f : Nat → Bool} {L : Nat} {x : V} (hd : ∀ d, o.dst = some d → f d = true) : maskP f 0 (putV (V.killL L t) o.dst x) = putV (V.killL L (maskP f 0 t)) o.dst x := by
  have e3 : maskP f 0 (V.killL L t) = V.killL L (maskP f 0 t) := by
    unfold V.killL
    rw [travL_eq, travL_eq]
    exact maskP_map f _ rfl t 0
  rw [← e3]
  exact (maskP_put hd).symm
theorem TOps.appendL {T e : TypeId} {i : TInfo} {s x : Operand} {L off : Nat} {es es2 es3 : List (List V)} {s1 b1 : Nat} {z1 : List V} (hti : TabOk P ti) (hg : o.guard = none) (ho : o.op = .call ⟨.builtin .append, #[s, x], #[T, T]⟩) (hT : ti T = some ⟨.slice e, s1, b1, z1⟩) (he : ti e = some i)
    (hi : 0 < i.size) (hz : i.zero.length = i.size) (hs : opnd t s = .sl L i.size off es) (hx : (∃ L2 off2, opnd t x = .sl L2 i.size off2 es2) ∨ (es2 = [] ∧ ∃ q, opnd t x = .nil q)) (hL : L ≠ 0) (hLn : L < n)
    (hb : (es.length + es2.length) * i.bytes ≤ 140737488355328) (hb2 : es.length + es2.length ≤ 9223372036854775807) (hone : ∀ e ∈ es2, ∀ y ∈ e, V.one y = true) (he3 : V.killLL L (es ++ es2) = es3) (ht : putV (V.killL L t) o.dst (.sl L i.size 0 es3) = t') (hh : V.killL L h = h')
    (hl : LateOk P ops t' late) (hk : TOps P ops late Q l t' h' n) : TOps P ops late Q (o :: l) t h n := by
  refine ⟨t', h', n, hg, .inr fun f hf hd => ?_, hl, hk⟩
  have e1 : opnd (maskP f 0 t) s = opnd t s := opnd_maskP M102 hf
  have e2 : opnd (maskP f 0 t) x = opnd t x := opnd_maskP M102 hf
  subst he3 ht hh
  rw [maskP_putK hd]
  exact ok_append (h := h) (n := n) (t := maskP f 0 t) hti hT he hi hz ho (by rw [e1]; exact hs) (by rw [e2]; exact hx) hL hLn hb hb2 hone
end
theorem farA {W : V → V} {A : Nat → Prop} (hW : Hom W A) {L sz : Nat} {e : List (List V)} {lo hi : Nat} (r : ∀ z ∈ V.labels (.sl (L + 1) sz 0 e), lo ≤ z ∧ z < hi) (h : ∀ y, lo ≤ y → y < hi → ¬ A y) :
    W (.sl (L + 1) sz 0 e) = .sl (L + 1) sz 0 e ∧ ∀ K, W (.sl (L + 1) sz 0 (V.mkLL K e)) = .sl (L + 1) sz 0 (V.mkLL K e) :=
  ⟨hW.far _ fun y hy ha => h y (r y hy).1 (r y hy).2 ha, fun K => hW.far _ fun y hy ha => by
    have hy' : y ∈ V.labels (.sl (L + 1) sz 0 e) := by simp only [V.labels, mkLL_labels] at hy ⊢; exact hy
    exact h y (r y hy').1 (r y hy').2 ha⟩
theorem far00 {W : V → V} {A : Nat → Prop} (hW : Hom W A) (h0 : ¬ A 0) {α : Type} {f : α → List V} (hf : ∀ xs : List α, ∀ L ∈ V.labelsLL (xs.map f), L = 0) (sz : Nat) (xs : List α) : W (.sl 0 sz 0 (xs.map f)) = .sl 0 sz 0 (xs.map f) :=
  hW.far _ fun y hy ha => by
    rcases List.mem_cons.1 hy with rfl | hy
    · exact h0 ha
    · exact h0 (hf xs y hy ▸ ha)
theorem far0 {W : V → V} {A : Nat → Prop} (hW : Hom W A) (h0 : ¬ A 0) : (∀ (sz : Nat) (xs : List Str), W (.sl 0 sz 0 (xs.map cS)) = .sl 0 sz 0 (xs.map cS)) ∧ (∀ (sz : Nat) (xs : List Int), W (.sl 0 sz 0 (xs.map cZ)) = .sl 0 sz 0 (xs.map cZ)) ∧ (∀ (sz : Nat) (xs : List Reg), W (.sl 0 sz 0 (xs.map cReg)) = .sl 0 sz 0 (xs.map cReg)) ∧ (∀ (sz : Nat) (xs : List Mail), W (.sl 0 sz 0 (xs.map cMail)) = .sl 0 sz 0 (xs.map cMail)) ∧ (∀ (sz : Nat) (xs : List Box), W (.sl 0 sz 0 (xs.map cBox)) = .sl 0 sz 0 (xs.map cBox)) ∧ (∀ (sz : Nat) (xs : List Server), W (.sl 0 sz 0 (xs.map cServer)) = .sl 0 sz 0 (xs.map cServer)) ∧ (∀ (sz : Nat) (xs : List Sync), W (.sl 0 sz 0 (xs.map cSync)) = .sl 0 sz 0 (xs.map cSync)) ∧ (∀ (sz : Nat) (xs : List Letter), W (.sl 0 sz 0 (xs.map cLetter)) = .sl 0 sz 0 (xs.map cLetter)) ∧ (∀ (sz : Nat) (xs : List UInt8), W (.sl 0 sz 0 (xs.map cB)) = .sl 0 sz 0 (xs.map cB)) :=
  ⟨far00 hW h0 (fun xs => by simp [zz, zf, zy]), far00 hW h0 (fun xs => by simp [zz, zf, zy]), far00 hW h0 (fun xs => by simp [zz, zf, zy]), far00 hW h0 (fun xs => by simp [zz, zf, zy]), far00 hW h0 (fun xs => by simp [zz, zf, zy]), far00 hW h0 (fun xs => by simp [zz, zf, zy]), far00 hW h0 (fun xs => by simp [zz, zf, zy]), far00 hW h0 (fun xs => by simp [zz, zf, zy]), far00 hW h0 (fun xs => by simp [zz, zf, zy])⟩
end Go.Proofs.YtiipkeendfpddaaGreat.K

/- Loops in which new memory is named in every round; what is appended and stored in a region that draws its order. -/
namespace Go.Proofs.YtiipkeendfpddaaGreat.K
open Go Go.RowKit
set_option linter.unusedVariables false
set_option linter.unusedSimpArgs false
section
variable {P : Program} {ti : Tab} {t t' h : List V} {n n' : Nat} {Q : Exit → List V → List V → Nat → Prop} {ops : Array Oper} {o : Oper} {l : List Oper}
theorem M.le' {base : Base} {σ : Sig} {w : World} {x y : V} {v : Value} (h : V.le x y) (hm : M base σ w x v) : M base σ w y v := by
  rcases h with rfl | rfl | ⟨L, sz, rfl, rfl⟩
  · exact hm
  · exact .any _
  · cases hm with
    | nil _ A => exact .sl L sz 0 [] A 0 (fun _ _ => undef) (Nat.le_refl _) (Nat.zero_le _) (by simp) (.inr (.inl rfl)) (by simp) (by simp)
theorem Ok.cell {c : Code} {d L i o : Nat} {e : List V} (e' : List V) (hd : t[d]? = some (.ptr L i o e)) (hle : leL e e') (ht : t.set d (.ptr L i o e') = t') (hk : Ok P c t' h n Q) : Ok P c t h n Q := by
  subst ht
  intro base w0 hv σ a w g
  refine hk base w0 hv σ a w ⟨⟨by rw [List.length_set]; exact g.ts.1, fun j y u hy hu => ?_⟩, g.hs, g.dfr, g.bel, g.inv⟩
  by_cases hj : d = j
  · subst hj
    rw [List.getElem?_set_self (List.getElem?_eq_some_iff.1 hd).1] at hy
    obtain rfl := Option.some.inj hy
    have hm := g.ts.2 d _ u hd hu
    cases hm with
    | ptr _ _ _ _ ad u4 h4 h5 h6 =>
      have hl := (leL_spec hle).1
      have get : ∀ (c : Nat) y, e'[c]? = some y → ∃ x, e[c]? = some x ∧ V.le x y := by
        intro c y hy
        have hc : c < e.length := by have := (List.getElem?_eq_some_iff.1 hy).1; omega
        exact ⟨e[c], List.getElem?_eq_getElem hc, (leL_spec hle).2 c _ y (List.getElem?_eq_getElem hc) hy⟩
      refine .ptr L i o e' ad u4 (by rw [← hl]; exact h4) (fun c y hy => ?_) (fun c y hy => ?_)
      · obtain ⟨x, hx, _⟩ := get c y hy; exact h5 c x hx
      · obtain ⟨x, hx, hxy⟩ := get c y hy; exact M.le' hxy (h6 c x hx)
  · rw [List.getElem?_set_ne hj] at hy
    exact g.ts.2 j y u hy hu
theorem Ok.loopN {τ : Type} {c : Code} {F : τ → List V} (W : τ → List (Nat × V)) (dead : List Nat) (hF : ∀ x, overW (W x) (overD dead t) = F x) (N : τ → Nat) (p : τ → Prop) (m : τ → Nat) (x : τ) (hle : leL t (F x)) (hn : n ≤ N x) (hp : p x)
    (round : ∀ x, p x → Ok P c (F x) h (N x) (thenQ (fun t' h' n' => ∃ y, leL t' (F y) ∧ h' = h ∧ n' ≤ N y ∧ p y ∧ m y < m x) Q)) : Ok P (.loop c) t h n Q := by
  refine Ok.loop (fun x t' h' n' => leL t' (F x) ∧ h' = h ∧ n' ≤ N x ∧ p x) m x ⟨hle, rfl, hn, hp⟩ ?_
  rintro x t' h' n' ⟨h1, rfl, h3, h4⟩
  refine Ok.bump h3 (Ok.forget (leL_spec h1).1 (leL_spec h1).2 ((round x h4).mono ?_))
  intro e t2 h2 n2 hq
  cases e with
  | normal => obtain ⟨y, a, b, c, d, e⟩ := hq; exact ⟨y, ⟨a, b, c, d⟩, e⟩
  | exit id => exact hq
  | goto l => exact hq
  | ret => exact hq
  | panic ch => exact hq
  | outgrown => exact hq
structure KillF (W : V → V) (L : Nat) : Prop where
  sl : ∀ sz off es, W (.sl L sz off es) = .any
  ptr : ∀ i o e, W (.ptr L i o e) = .any
theorem kill_hom (L : Nat) : Hom (V.kill L) (· = L) :=
  ⟨fun v h => trav_far (fun M sz off es hM => if_neg hM) (fun M i o e hM => if_neg hM) v fun hL => h L hL rfl,
   fun cs => by show V.agg (V.travL _ _ _ cs) = _; rw [travL_eq]; rfl,
   fun M i o e hM => by show killP L M i o (V.travL _ _ _ e) = _; rw [killP, if_neg hM, travL_eq]; rfl,
   fun M sz off es hM => by
    show killS L M sz off (V.travLL _ _ _ es) = _
    rw [killS, if_neg hM, travLL_eq]
    congr 1
    refine List.map_congr_left fun e _ => ?_
    rw [travL_eq]; rfl⟩
theorem kill_killF (L : Nat) : KillF (V.kill L) L :=
  ⟨fun sz off es => by show killS L L sz off _ = _; rw [killS, if_pos rfl], fun i o e => by show killP L L i o _ = _; rw [killP, if_pos rfl]⟩
theorem killLL_far {L : Nat} {es : List (List V)} (h : L ∉ V.labelsLL es) : V.killLL L es = es := travLL_far (L := L) (fun M sz off es hM => if_neg hM) (fun M i o e hM => if_neg hM) es h
theorem OkOps.appendN {T e : TypeId} {i : TInfo} {s x : Operand} {L off : Nat} {es es2 : List (List V)} {s1 b1 : Nat} {z1 : List V} (hti : TabOk P ti) (hg : o.guard = none) (ho : o.op = .call ⟨.builtin .append, #[s, x], #[T, T]⟩) (hT : ti T = some ⟨.slice e, s1, b1, z1⟩) (he : ti e = some i)
    (hi : 0 < i.size) (hz : i.zero.length = i.size) (hs : opnd t s = .sl L i.size off es) (hx : (∃ L2 off2, opnd t x = .sl L2 i.size off2 es2) ∨ (es2 = [] ∧ ∃ q, opnd t x = .nil q)) (hL : L ≠ 0) (hLn : L < n)
    (hb : (es.length + es2.length) * i.bytes ≤ 140737488355328) (hb2 : es.length + es2.length ≤ 9223372036854775807) (hone : ∀ e ∈ es2, ∀ y ∈ e, V.one y = true) (hfar : L ∉ V.labelsLL (es ++ es2)) (ht : ∀ W, Hom W (· = L) → KillF W L → putV (t.map W) o.dst (.sl L i.size 0 (es ++ es2)) = t')
    (hk : OkOps P ops l t' [] n Q) : OkOps P ops (o :: l) t [] n Q :=
  OkOps.append hti hg ho hT he hi hz hs hx hL hLn hb hb2 hone (killLL_far hfar) (by unfold V.killL; rw [travL_eq]; exact ht _ (kill_hom L) (kill_killF L)) rfl hk
theorem TOps.appendN {T e : TypeId} {i : TInfo} {s x : Operand} {L off : Nat} {es es2 : List (List V)} {s1 b1 : Nat} {z1 : List V} (hti : TabOk P ti) (hg : o.guard = none) (ho : o.op = .call ⟨.builtin .append, #[s, x], #[T, T]⟩) (hT : ti T = some ⟨.slice e, s1, b1, z1⟩) (he : ti e = some i)
    (hi : 0 < i.size) (hz : i.zero.length = i.size) (hs : opnd t s = .sl L i.size off es) (hx : (∃ L2 off2, opnd t x = .sl L2 i.size off2 es2) ∨ (es2 = [] ∧ ∃ q, opnd t x = .nil q)) (hL : L ≠ 0) (hLn : L < n)
    (hb : (es.length + es2.length) * i.bytes ≤ 140737488355328) (hb2 : es.length + es2.length ≤ 9223372036854775807) (hone : ∀ e ∈ es2, ∀ y ∈ e, V.one y = true) (hfar : L ∉ V.labelsLL (es ++ es2)) (ht : ∀ W, Hom W (· = L) → KillF W L → putV (t.map W) o.dst (.sl L i.size 0 (es ++ es2)) = t')
    (hk : TOps P ops [] Q l t' [] n) : TOps P ops [] Q (o :: l) t [] n :=
  TOps.append hti hg ho hT he hi hz hs hx hL hLn hb hb2 hone (killLL_far hfar) (by unfold V.killL; rw [travL_eq]; exact ht _ (kill_hom L) (kill_killF L)) rfl hk
theorem TOps.storeN {T : TypeId} {p q : Operand} {L j : Nat} {e' : List V} (hti : TabOk P ti) (hg : o.guard = none) (ho : o.op = .store T p q) (hs : Go.Proofs.YtiipkeendfpddaaGreat.K.storeE (ti T) (opnd t p) (opnd t q) = some (L, j, e')) (hc : ∃ y l, cellsV (opnd t q) = y :: l) (hfree : L ∉ V.labelsL e')
    (ht : ∀ W, Hom W (· = L) → StoreF W L j e' → putV (t.map W) o.dst .any = t') (hk : TOps P ops [] Q l t' [] n) : TOps P ops [] Q (o :: l) t [] n :=
  TOps.storeE hti hg ho hs hc hfree (by unfold V.updL; rw [travL_eq]; exact ht _ (upd_hom L j e') (upd_storeF L j e')) rfl hk
end
theorem rows_snocL {lo : Nat} {α : Type} {f : α → List V} {a : List α} {d : List (List V)} {c : List V} {k m : Nat} (hlo : lo ≤ k + 1) (hi : d.length < a.length) (h1 : V.travLL (fun sz => V.sl 0 sz 0 []) (fun _ sz _ es => V.sl 0 sz 0 es) (fun _ _ o e => V.ptr 0 0 o e) d = (a.take d.length).map f) (h2 : (V.labelsLL d).Nodup) (h3 : ∀ z ∈ V.labelsLL d, lo ≤ z ∧ z < k + 1)
    (hk : 1 ≤ k) (hkm : k ≤ m) (hc1 : V.travL (fun sz => V.sl 0 sz 0 []) (fun _ sz _ es => V.sl 0 sz 0 es) (fun _ _ o e => V.ptr 0 0 o e) c = f a[d.length]) (hc2 : (V.labelsL c).Nodup) (hc3 : ∀ z ∈ V.labelsL c, k + 1 ≤ z ∧ z < m + 1) :
    (d ++ [c]).length ≤ a.length ∧ V.travLL (fun sz => V.sl 0 sz 0 []) (fun _ sz _ es => V.sl 0 sz 0 es) (fun _ _ o e => V.ptr 0 0 o e) (d ++ [c]) = (a.take (d ++ [c]).length).map f ∧ (V.labelsLL (d ++ [c])).Nodup ∧ (∀ z ∈ V.labelsLL (d ++ [c]), lo ≤ z ∧ z < m + 1) ∧ 1 ≤ m := by
  have hl : (d ++ [c]).length = d.length + 1 := by simp
  have hlab : V.labelsLL (d ++ [c]) = V.labelsLL d ++ V.labelsL c := by rw [labelsLL_app]; show V.labelsLL d ++ (V.labelsL c ++ []) = _; rw [List.append_nil]
  refine ⟨by omega, ?_, ?_, ?_, by omega⟩
  · rw [hl, List.take_succ_eq_append_getElem hi, List.map_append, ← h1, travLL_eq, List.map_append, ← travLL_eq]
    show _ ++ [V.travL _ _ _ c] = _
    rw [hc1]; rfl
  · rw [hlab, List.nodup_append]
    exact ⟨h2, hc2, fun y hy z hz h => by have := h3 y hy; have := hc3 z hz; omega⟩
  · intro z hz
    rw [hlab, List.mem_append] at hz
    rcases hz with hz | hz
    · have := h3 z hz; omega
    · have := hc3 z hz; omega
end Go.Proofs.YtiipkeendfpddaaGreat.K

/- Walks: the copies of the program as data of the call's own. Printed by w2.py. -/
namespace Go.Proofs.YtiipkeendfpddaaGreat.K
open Go Go.RowKit
set_option linter.unusedVariables false
set_option linter.unusedSimpArgs false
set_option maxHeartbeats 4000000
set_option maxRecDepth 20000
theorem p_spec_l04Copy (a : List Reg) (ha : a.length ≤ 1048576) : Pure Tryz.prog 120 [.sl 0 3 0 (a.map cReg)] (.sl 0 3 0 (a.map cReg)) := by
 refine Pure.of M44 (OkCall.enter' tab_ok Tryz.func120 rfl (t := [.sl 0 3 0 (a.map cReg), .any, .any, .any, .any, .any]) rfl ?_)
 refine S8 ?_
 refine S11 ?_
 refine OkOps.S rfl (ok_append_nil tab_ok M53 M53 M57 rfl rfl M48 (.inl ⟨_, _, by simp only [kE, kT, kL, kC] <;> rfl⟩) M107 M107) M110 ?_
 refine S22 ?_
 exact ⟨by simp [V.erase, V.trav, V.travL, V.travLL, packV, zz, zf], by simp [V.labels, V.labelsL, V.labelsLL, packV, zz, zf], by simp [V.labels, V.labelsL, V.labelsLL, packV, zz, zf]⟩
theorem p_spec_l05Copy (x : Mail) (h : smMail x) : Pure Tryz.prog 93 [.agg (cMail x)] (.agg (cMail x)) := by
 refine Pure.of M44 (OkCall.enter' tab_ok Tryz.func93 rfl (t := [.agg (cMail x), .any, .any, .any, .any, .any, .any, .any]) rfl ?_)
 refine S10 ?_
 refine S11 ?_
 obtain ⟨L0a, e0a, hXa, q0a, E0a, M0a, N0a, nda, rga⟩ := ownSReg (2) (x.flags)
 obtain ⟨ma, hma⟩ : ∃ m, 2 + 1 + V.cnt (.sl 0 3 0 ((x.flags).map cReg)) = m + 1 := ⟨2 + V.cnt (.sl 0 3 0 ((x.flags).map cReg)), by omega⟩
 have r0a : ∀ z ∈ V.labels (.sl (L0a + 1) 3 0 e0a), 2 + 1 ≤ z ∧ z < ma + 1 := fun z hz => by have := rga z M75; omega
 refine OkOps.S' rfl (OpS.pure' rfl M48 M27 cl120 M44 (p_spec_l04Copy x.flags h.1)) hma (by simp only [kP, hXa] <;> rfl) ?_
 refine EV ?_
 refine OkOps.storeN tab_ok rfl rfl M48 ⟨_, _, by simp only [kE]; rfl⟩ M63 (fun W hW hF => by obtain ⟨z0a, zz0a⟩ := farA hW r0a (fun y h1 h2 h => by omega); have f0 := far0 hW (fun h => by omega); have p1 := fun i o e => hW.ptr (2) i o e M125; simp only [List.map_cons, List.map_nil, hW.int, hW.str, hW.bool, hW.any, hW.tup0, hW.agg, hW.nilV, hF.ptr, z0a, zz0a, f0, p1, kP] <;> rfl) ?_
 refine S29 ?_
 refine Ok.drop [4, 5, 6] M51 ?_
 refine S15 ?_
 refine OkOps.storeN tab_ok rfl rfl M48 ⟨_, _, by simp only [kE]; rfl⟩ M63 (fun W hW hF => by obtain ⟨z0a, zz0a⟩ := farA hW r0a (fun y h1 h2 h => by omega); have f0 := far0 hW (fun h => by omega); have p0 := fun i o e => hW.ptr (1) i o e M125; simp only [List.map_cons, List.map_nil, hW.int, hW.str, hW.bool, hW.any, hW.tup0, hW.agg, hW.nilV, hF.ptr, z0a, zz0a, f0, p0, kP] <;> rfl) ?_
 refine S36 ?_
 exact ⟨(by simp only [packV, V.erase, V.trav, V.travL, V.travLL, zz, zf, zy, E0a] <;> rfl), (by intro L hL; simp only [packV, V.labels, V.labelsL, List.append_nil, List.nil_append] at hL;  first | (have := r0a L hL; omega)), (by simp only [packV, V.labels, V.labelsL, List.append_nil, List.nil_append] at nda ⊢; exact nda)⟩
end Go.Proofs.YtiipkeendfpddaaGreat.K

/- Walks: the copies of the program as data of the call's own, 2. Printed by w2.py. -/
namespace Go.Proofs.YtiipkeendfpddaaGreat.K
open Go Go.RowKit
set_option linter.unusedVariables false
set_option linter.unusedSimpArgs false
set_option maxHeartbeats 4000000
set_option maxRecDepth 20000
theorem p_spec_l06Copy (x : Box) (h : smBox x) : Pure Tryz.prog 65 [.agg (cBox x)] (.agg (cBox x)) := by
 refine Pure.of M44 (OkCall.enter' tab_ok Tryz.func65 rfl (t := [.agg (cBox x), .any, .any, .any, .any, .any, .any, .any, .any, .any, .any, .any, .any, .any, .any, .any, .any, .any, .any, .any, .any, .any, .any, .any, .any, .any, .any, .any, .any, .any, .any, .any]) rfl ?_)
 refine S10 ?_
 refine S11 ?_
 refine OkOps.storeN tab_ok rfl rfl M48 ⟨_, _, by simp only [kE]; rfl⟩ M73 (fun W hW hF => by have f0 := far0 hW (fun h => by omega); have p0 := fun i o e => hW.ptr (1) i o e M125;  have p1 := fun i o e => hW.ptr (2) i o e M125; simp only [List.map_cons, List.map_nil, hW.int, hW.str, hW.bool, hW.any, hW.tup0, hW.agg, hW.nilV, hF.ptr, f0, p0, p1, kP] <;> rfl) ?_
 refine S29 ?_
 refine Ok.drop [5] M51 ?_
 refine S20 ?_
 refine OkOps.storeN tab_ok rfl rfl M48 ⟨_, _, by simp only [kE]; rfl⟩ M70 (fun W hW hF => by have f0 := far0 hW (fun h => by omega); have p0 := fun i o e => hW.ptr (1) i o e M125;  have p1 := fun i o e => hW.ptr (2) i o e M125; simp only [List.map_cons, List.map_nil, hW.int, hW.str, hW.bool, hW.any, hW.tup0, hW.agg, hW.nilV, hF.ptr, f0, p0, p1, kP] <;> rfl) ?_
 refine S29 ?_
 refine Ok.seq ?_
 refine Ok.drop [6, 7] M51 ?_
 refine Ok.cell (d := 3) [.int .i64 x.gid, .str x.name, .int .i64 x.named.time, .int .i64 x.named.by_, .int .i64 x.next, .sl 4 4 0 [], .sl 0 1 0 (x.gone.map cZ)] rfl ⟨le_rfl' _, le_rfl' _, le_rfl' _, le_rfl' _, le_rfl' _, le_nil 4 _, le_rfl' _, trivial⟩ M89 ?_
 refine Ok.region ?_
 refine S21 ?_
 refine Ok.loopN (τ := List (List V) × Nat) (fun r => [(3, .ptr 3 0 0 [.int .i64 x.gid, .str x.name, .int .i64 x.named.time, .int .i64 x.named.by_, .int .i64 x.next, .sl 4 4 0 r.1, .sl 0 1 0 (x.gone.map cZ)]), (4, .int .i64 (r.1.length : Int))]) [8, 9, 10, 11, 12, 13, 14, 15, 16, 17, 18, 19, 20, 21, 22, 23, 24, 25] (fun r => by simp only [kover] <;> rfl) (fun r => r.2 + 1) (fun r => r.1.length ≤ x.mails.length ∧ V.travLL (fun sz => V.sl 0 sz 0 []) (fun _ sz _ es => V.sl 0 sz 0 es) (fun _ _ o e => V.ptr 0 0 o e) r.1 = (x.mails.take r.1.length).map cMail ∧ (V.labelsLL r.1).Nodup ∧ (∀ z ∈ V.labelsLL r.1, 5 ≤ z ∧ z < r.2 + 1) ∧ 4 ≤ r.2) (fun r => x.mails.length - r.1.length) ([], 4) (by (repeat (first | exact trivial | refine leC ?_ | refine leK ?_ ?_)) <;> first | (first | exact le_rfl' _ | exact le_nil 1 4) | exact le_rfl' _) (by decide) (⟨Nat.zero_le _, rfl, List.nodup_nil, (fun z hz => by cases hz), Nat.le_refl _⟩) ?_
 rintro ⟨d, k⟩ ⟨h1, h2, h3, h4, h5⟩
 have h1 : d.length ≤ x.mails.length := h1
 have h2 : V.travLL (fun sz => V.sl 0 sz 0 []) (fun _ sz _ es => V.sl 0 sz 0 es) (fun _ _ o e => V.ptr 0 0 o e) d = (x.mails.take d.length).map cMail := h2
 have h3 : (V.labelsLL d).Nodup := h3
 have h4 : ∀ z ∈ V.labelsLL d, 5 ≤ z ∧ z < k + 1 := h4
 have h5 : 4 ≤ k := h5
 refine S51 ?_
 refine OC (fun hb4 => ?_) (fun hb4 => ?_)
 ·
  try simp only [bsimp] at hb4
  have hi : d.length < x.mails.length := by omega
  refine S14 ?_
  refine Ok.drop [8, 9, 10, 11, 12] M51 ?_
  refine Ok.drawn 9 32 [] M56 M56 rfl ?_
  iterate 5 (refine SV ?_)
  refine SOps.ev tab_ok rfl (ev_idx_map M48 M48 M58 M48) M52 ?_
  refine SV ?_
  obtain ⟨L2a, e2a, hXa, q2a, E2a, M2a, N2a, nda, rga⟩ := ownMail (k) (x.mails[d.length])
  obtain ⟨ma, hma⟩ : ∃ m, k + 1 + V.cnt (.agg (cMail (x.mails[d.length]))) = m + 1 := ⟨k + V.cnt (.agg (cMail (x.mails[d.length]))), by omega⟩
  have r2a : ∀ z ∈ V.labels (.sl (L2a + 1) 3 0 e2a), k + 1 ≤ z ∧ z < ma + 1 := fun z hz => by have := rga z M75; omega
  refine SOps.S' rfl (OpS.pureM rfl M48 M27 cl93 M44 (p_spec_l05Copy x.mails[d.length] (h.2.1.2 _ (List.getElem_mem hi)))) hma (by simp only [kP, hXa] <;> rfl) ?_
  refine SOps.ev tab_ok rfl (ev_bs M53 M53 M57 M57 M37 M16) M52 ?_
  refine SOps.nil ?_
  refine TOps.appendN tab_ok rfl rfl M53 M53 M57 rfl M48 (.inl ⟨_, _, by simp only [kE, kT, kL, kC] <;> rfl⟩) M58 M58 (by simp only [List.length_cons, List.length_nil]; have := h.2.1.1; omega) (by simp only [List.length_cons, List.length_nil]; have := h.2.1.1; omega) M55 (by intro h; have u2a : ¬ (4 = L2a + 1) := (fun h => (by (have := r2a _ (List.mem_cons_self ..)); omega)); have v2a : ¬ (4 ∈ V.labelsLL e2a) := (fun h => (by (have := r2a _ (List.mem_cons_of_mem _ h)); omega)); have ud : ¬ (4 ∈ V.labelsLL d) := (fun h => (by (have := h4 _ h); omega)); (revert h; show ¬ _; simp [labelsLL_app, V.labelsLL, V.labelsL, V.labels, zz, zf, zy, u2a, v2a, ud] <;> omega)) (fun W hW hF => by obtain ⟨z2a, zz2a⟩ := farA hW r2a (fun y h1 h2 h => by omega); have f0 := far0 hW (fun h => by omega); have p9 := fun i o e => hW.ptr 0 i o e M58; have p8 := fun sz o e => hW.sl (ma + 1) sz o e M58; have w8_2 := hW.far (.sl 0 3 0 ((x.mails[d.length]).flags.map cReg)) (fun z hz h => by have h0 : z = 0 := (show ∀ z ∈ V.labels (.sl 0 3 0 ((x.mails[d.length]).flags.map cReg)), z = 0 by simp [V.labels, zz, zf, zy]) z hz; omega); have p0 := fun i o e => hW.ptr (1) i o e M58;  have p1 := fun i o e => hW.ptr (2) i o e M58;  have p2 := fun i o e => hW.ptr (3) i o e M58; simp only [List.map_cons, List.map_nil, hW.int, hW.str, hW.bool, hW.any, hW.tup0, hW.agg, hW.nilV, hF.sl, hF.ptr, z2a, zz2a, f0, p9, p8, cMail, w8_2, p0, p1, p2, kP] <;> rfl) ?_
  refine TV ?_
  refine TOps.storeN tab_ok rfl rfl M48 ⟨_, _, by simp only [kE]; rfl⟩ (by first | (simp [V.labelsL, V.labelsLL, V.labels, zz, zf, zy]; done) | (intro h; have u2a : ¬ (3 = L2a + 1) := (fun h => (by (have := r2a _ (List.mem_cons_self ..)); omega)); have v2a : ¬ (3 ∈ V.labelsLL e2a) := (fun h => (by (have := r2a _ (List.mem_cons_of_mem _ h)); omega)); have ud : ¬ (3 ∈ V.labelsLL d) := (fun h => (by (have := h4 _ h); omega)); (revert h; show ¬ _; simp [labelsLL_app, V.labelsLL, V.labelsL, V.labels, zz, zf, zy, u2a, v2a, ud] <;> omega))) (fun W hW hF => by obtain ⟨z2a, zz2a⟩ := farA hW r2a (fun y h1 h2 h => by omega); have f0 := far0 hW (fun h => by omega); have p9 := fun i o e => hW.ptr 0 i o e (by omega); have p8 := fun sz o e => hW.sl (ma + 1) sz o e (by omega); have p7 := fun sz o e => hW.sl 4 sz o e (by omega); have wl := hW.farLL d (fun y hy h => by have := h4 y hy; omega); have w8_2 := hW.far (.sl 0 3 0 ((x.mails[d.length]).flags.map cReg)) (fun z hz h => by have h0 : z = 0 := (show ∀ z ∈ V.labels (.sl 0 3 0 ((x.mails[d.length]).flags.map cReg)), z = 0 by simp [V.labels, zz, zf, zy]) z hz; omega); have p0 := fun i o e => hW.ptr (1) i o e (by omega);  have p1 := fun i o e => hW.ptr (2) i o e (by omega); simp only [List.map_cons, List.map_nil, hW.int, hW.str, hW.bool, hW.any, hW.tup0, hW.agg, hW.nilV, hF.ptr, z2a, zz2a, f0, List.map_append, p9, p8, p7, wl, cMail, w8_2, p0, p1, kP] <;> rfl) ?_
  refine TOps.nil ?_
  refine Ok.drop [15, 16, 17, 18, 19, 20, 21, 22, 23, 24, 25] M51 ?_
  refine S12 ?_
  refine ⟨(d ++ [[.int .i64 (x.mails[d.length]).gid, .int .i64 (x.mails[d.length]).uid, .sl (L2a + 1) 3 0 e2a, .str (x.mails[d.length]).text]], ma + 1), ?_, rfl, M54, (by obtain ⟨z1, z2, z3, z4, z5⟩ := rows_snocL (k := k) (m := ma + 1) (c := [.int .i64 (x.mails[d.length]).gid, .int .i64 (x.mails[d.length]).uid, .sl (L2a + 1) 3 0 e2a, .str (x.mails[d.length]).text]) (show 5 ≤ k + 1 by omega) hi h2 h3 h4 M58 M58 (by simp only [V.travL, V.trav, E2a] <;> rfl) nda (fun z hz => by have := rga z hz; omega); exact ⟨z1, z2, z3, z4, by dsimp only; omega⟩), by show x.mails.length - (d ++ [_]).length < x.mails.length - d.length; rw [List.length_append]; simp only [List.length_cons, List.length_nil]; omega⟩
  (repeat (first | exact trivial | refine leC ?_ | refine leK ?_ ?_)) <;> first | (dsimp only; first | exact le_rfl' _ | (rw [wrap_add_one (by have := h.2.1.1; omega)]; refine le_eqm ?_; simp only [List.length_append, List.length_cons, List.length_nil]; done) | (refine le_eqm ?_; simp only [List.length_append, List.length_cons, List.length_nil, Nat.zero_add]; done)) | exact le_rfl' _
 try simp only [bsimp] at hb4
 have hi : d.length = x.mails.length := by omega
 rw [hi, List.take_length] at h2
 refine S54 ?_
 refine Ok.drop [8, 9, 10, 11, 12] M51 ?_
 refine S26 ?_
 refine OkOps.S rfl (ok_append_nil tab_ok M53 M53 M57 rfl rfl M48 (.inl ⟨_, _, by simp only [kE, kT, kL, kC] <;> rfl⟩) (by simp only [List.length_map]; have := h.2.2; omega) (by simp only [List.length_map]; have := h.2.2; omega)) M110 ?_
 refine EV ?_
 refine OkOps.storeN tab_ok rfl rfl M48 ⟨_, _, by simp only [kE]; rfl⟩ M60 (fun W hW hF => by have f0 := far0 hW (fun h => by omega); have p9 := fun i o e => hW.ptr 0 i o e M125; have wd := hW.far (.sl 4 4 0 d) (fun y hy h => by simp only [V.labels, List.mem_cons] at hy; rcases hy with hy | hy <;> first | omega | (have := h4 y hy; omega)); have p6 := hW.far (.sl (k + 1) 1 0 (x.gone.map cZ)) (fun y hy h => by simp [V.labels, zz, zf] at hy; omega); have p0 := fun i o e => hW.ptr (1) i o e (by omega);  have p1 := fun i o e => hW.ptr (2) i o e (by omega); simp only [List.map_cons, List.map_nil, hW.int, hW.str, hW.bool, hW.any, hW.tup0, hW.agg, hW.nilV, hF.ptr, f0, p9, wd, p6, cMail, p0, p1, kP] <;> rfl) ?_
 refine S29 ?_
 refine Ok.drop [26, 27, 28, 29, 30] M51 ?_
 refine S15 ?_
 refine OkOps.storeN tab_ok rfl rfl M48 ⟨_, _, by simp only [kE]; rfl⟩ M61 (fun W hW hF => by have f0 := far0 hW (fun h => by omega); have p9 := fun i o e => hW.ptr 0 i o e M125; have wd := hW.far (.sl 4 4 0 d) (fun y hy h => by simp only [V.labels, List.mem_cons] at hy; rcases hy with hy | hy <;> first | omega | (have := h4 y hy; omega)); have p6 := hW.far (.sl (k + 1) 1 0 (x.gone.map cZ)) (fun y hy h => by simp [V.labels, zz, zf] at hy; omega); have p0 := fun i o e => hW.ptr (1) i o e (by omega);  have p2 := fun i o e => hW.ptr (3) i o e (by omega); simp only [List.map_cons, List.map_nil, hW.int, hW.str, hW.bool, hW.any, hW.tup0, hW.agg, hW.nilV, hF.ptr, f0, p9, wd, p6, cMail, p0, p2, kP] <;> rfl) ?_
 refine S36 ?_
 exact ⟨(by simp only [packV, V.erase, V.trav, V.travL, V.travLL, zz, zf, zy, h2] <;> rfl), M72, M120⟩
end Go.Proofs.YtiipkeendfpddaaGreat.K

/- Walks: the copies of the program as data of the call's own, 3. Printed by w2.py. -/
namespace Go.Proofs.YtiipkeendfpddaaGreat.K
open Go Go.RowKit
set_option linter.unusedVariables false
set_option linter.unusedSimpArgs false
set_option maxHeartbeats 4000000
set_option maxRecDepth 20000
theorem p_spec_l07Copy (x : Store) (h : smStore x) : Pure Tryz.prog 54 [.agg (cStore x)] (.agg (cStore x)) := by
 refine Pure.of M44 (OkCall.enter' tab_ok Tryz.func54 rfl (t := [.agg (cStore x), .any, .any, .any, .any, .any, .any, .any, .any, .any, .any, .any, .any, .any, .any, .any, .any, .any, .any, .any, .any, .any, .any, .any, .any, .any, .any, .any, .any, .any, .any, .any]) rfl ?_)
 refine S10 ?_
 refine S11 ?_
 refine OkOps.storeN tab_ok rfl rfl M48 ⟨_, _, by simp only [kE]; rfl⟩ M73 (fun W hW hF => by have f0 := far0 hW (fun h => by omega); have p0 := fun i o e => hW.ptr (1) i o e M125;  have p1 := fun i o e => hW.ptr (2) i o e M125; simp only [List.map_cons, List.map_nil, hW.int, hW.str, hW.bool, hW.any, hW.tup0, hW.agg, hW.nilV, hF.ptr, f0, p0, p1, kP] <;> rfl) ?_
 refine S29 ?_
 refine Ok.drop [5] M51 ?_
 refine S20 ?_
 refine OkOps.storeN tab_ok rfl rfl M48 ⟨_, _, by simp only [kE]; rfl⟩ M70 (fun W hW hF => by have f0 := far0 hW (fun h => by omega); have p0 := fun i o e => hW.ptr (1) i o e M125;  have p1 := fun i o e => hW.ptr (2) i o e M125; simp only [List.map_cons, List.map_nil, hW.int, hW.str, hW.bool, hW.any, hW.tup0, hW.agg, hW.nilV, hF.ptr, f0, p0, p1, kP] <;> rfl) ?_
 refine S29 ?_
 refine Ok.seq ?_
 refine Ok.drop [6, 7] M51 ?_
 refine Ok.cell (d := 3) [.int .i64 x.by_, .int .i64 x.time, .sl 4 7 0 [], .sl 0 1 0 (x.gone.map cZ)] rfl ⟨le_rfl' _, le_rfl' _, le_nil 4 _, le_rfl' _, trivial⟩ M89 ?_
 refine Ok.region ?_
 refine S21 ?_
 refine Ok.loopN (τ := List (List V) × Nat) (fun r => [(3, .ptr 3 0 0 [.int .i64 x.by_, .int .i64 x.time, .sl 4 7 0 r.1, .sl 0 1 0 (x.gone.map cZ)]), (4, .int .i64 (r.1.length : Int))]) [8, 9, 10, 11, 12, 13, 14, 15, 16, 17, 18, 19, 20, 21, 22, 23, 24, 25] (fun r => by simp only [kover] <;> rfl) (fun r => r.2 + 1) (fun r => r.1.length ≤ x.boxes.length ∧ V.travLL (fun sz => V.sl 0 sz 0 []) (fun _ sz _ es => V.sl 0 sz 0 es) (fun _ _ o e => V.ptr 0 0 o e) r.1 = (x.boxes.take r.1.length).map cBox ∧ (V.labelsLL r.1).Nodup ∧ (∀ z ∈ V.labelsLL r.1, 5 ≤ z ∧ z < r.2 + 1) ∧ 4 ≤ r.2) (fun r => x.boxes.length - r.1.length) ([], 4) (by (repeat (first | exact trivial | refine leC ?_ | refine leK ?_ ?_)) <;> first | (first | exact le_rfl' _ | exact le_nil 1 7) | exact le_rfl' _) (by decide) (⟨Nat.zero_le _, rfl, List.nodup_nil, (fun z hz => by cases hz), Nat.le_refl _⟩) ?_
 rintro ⟨d, k⟩ ⟨h1, h2, h3, h4, h5⟩
 have h1 : d.length ≤ x.boxes.length := h1
 have h2 : V.travLL (fun sz => V.sl 0 sz 0 []) (fun _ sz _ es => V.sl 0 sz 0 es) (fun _ _ o e => V.ptr 0 0 o e) d = (x.boxes.take d.length).map cBox := h2
 have h3 : (V.labelsLL d).Nodup := h3
 have h4 : ∀ z ∈ V.labelsLL d, 5 ≤ z ∧ z < k + 1 := h4
 have h5 : 4 ≤ k := h5
 refine S51 ?_
 refine OC (fun hb4 => ?_) (fun hb4 => ?_)
 ·
  try simp only [bsimp] at hb4
  have hi : d.length < x.boxes.length := by omega
  refine S14 ?_
  refine Ok.drop [8, 9, 10, 11, 12] M51 ?_
  refine Ok.drawn 9 32 [] M56 M56 rfl ?_
  iterate 5 (refine SV ?_)
  refine SOps.ev tab_ok rfl (ev_idx_map M48 M48 M58 M48) M52 ?_
  refine SV ?_
  obtain ⟨L5a, e5a, L6a, e6a, hXa, q5a, E5a, M5a, N5a, q6a, E6a, M6a, N6a, nda, rga⟩ := ownBox (k) (x.boxes[d.length])
  obtain ⟨ma, hma⟩ : ∃ m, k + 1 + V.cnt (.agg (cBox (x.boxes[d.length]))) = m + 1 := ⟨k + V.cnt (.agg (cBox (x.boxes[d.length]))), by omega⟩
  have r5a : ∀ z ∈ V.labels (.sl (L5a + 1) 4 0 e5a), k + 1 ≤ z ∧ z < ma + 1 := fun z hz => by have := rga z M75; omega
  have r6a : ∀ z ∈ V.labels (.sl (L6a + 1) 1 0 e6a), k + 1 ≤ z ∧ z < ma + 1 := fun z hz => by have := rga z M75; omega
  refine SOps.S' rfl (OpS.pureM rfl M48 M27 cl65 M44 (p_spec_l06Copy x.boxes[d.length] (h.1.2 _ (List.getElem_mem hi)))) hma (by simp only [kP, hXa] <;> rfl) ?_
  refine SOps.ev tab_ok rfl (ev_bs M53 M53 M57 M57 M37 M16) M52 ?_
  refine SOps.nil ?_
  refine TOps.appendN tab_ok rfl rfl M53 M53 M57 rfl M48 (.inl ⟨_, _, by simp only [kE, kT, kL, kC] <;> rfl⟩) M58 M58 (by simp only [List.length_cons, List.length_nil]; have := h.1.1; omega) (by simp only [List.length_cons, List.length_nil]; have := h.1.1; omega) M55 (by intro h; have u5a : ¬ (4 = L5a + 1) := (fun h => (by (have := r5a _ (List.mem_cons_self ..)); omega)); have v5a : ¬ (4 ∈ V.labelsLL e5a) := (fun h => (by (have := r5a _ (List.mem_cons_of_mem _ h)); omega)); have u6a : ¬ (4 = L6a + 1) := (fun h => (by (have := r6a _ (List.mem_cons_self ..)); omega)); have v6a : ¬ (4 ∈ V.labelsLL e6a) := (fun h => (by (have := r6a _ (List.mem_cons_of_mem _ h)); omega)); have ud : ¬ (4 ∈ V.labelsLL d) := (fun h => (by (have := h4 _ h); omega)); (revert h; show ¬ _; simp [labelsLL_app, V.labelsLL, V.labelsL, V.labels, zz, zf, zy, u5a, v5a, u6a, v6a, ud] <;> omega)) (fun W hW hF => by obtain ⟨z5a, zz5a⟩ := farA hW r5a (fun y h1 h2 h => by omega); obtain ⟨z6a, zz6a⟩ := farA hW r6a (fun y h1 h2 h => by omega); have f0 := far0 hW (fun h => by omega); have p9 := fun i o e => hW.ptr 0 i o e M58; have p8 := fun sz o e => hW.sl (ma + 1) sz o e M58; have w8_5 := hW.far (.sl 0 4 0 ((x.boxes[d.length]).mails.map cMail)) (fun z hz h => by have h0 : z = 0 := (show ∀ z ∈ V.labels (.sl 0 4 0 ((x.boxes[d.length]).mails.map cMail)), z = 0 by simp [V.labels, zz, zf, zy]) z hz; omega); have w8_6 := hW.far (.sl 0 1 0 ((x.boxes[d.length]).gone.map cZ)) (fun z hz h => by have h0 : z = 0 := (show ∀ z ∈ V.labels (.sl 0 1 0 ((x.boxes[d.length]).gone.map cZ)), z = 0 by simp [V.labels, zz, zf, zy]) z hz; omega); have p0 := fun i o e => hW.ptr (1) i o e M58;  have p1 := fun i o e => hW.ptr (2) i o e M58;  have p2 := fun i o e => hW.ptr (3) i o e M58; simp only [List.map_cons, List.map_nil, hW.int, hW.str, hW.bool, hW.any, hW.tup0, hW.agg, hW.nilV, hF.sl, hF.ptr, z5a, zz5a, z6a, zz6a, f0, p9, p8, cBox, w8_5, w8_6, p0, p1, p2, kP] <;> rfl) ?_
  refine TV ?_
  refine TOps.storeN tab_ok rfl rfl M48 ⟨_, _, by simp only [kE]; rfl⟩ (by first | (simp [V.labelsL, V.labelsLL, V.labels, zz, zf, zy]; done) | (intro h; have u5a : ¬ (3 = L5a + 1) := (fun h => (by (have := r5a _ (List.mem_cons_self ..)); omega)); have v5a : ¬ (3 ∈ V.labelsLL e5a) := (fun h => (by (have := r5a _ (List.mem_cons_of_mem _ h)); omega)); have u6a : ¬ (3 = L6a + 1) := (fun h => (by (have := r6a _ (List.mem_cons_self ..)); omega)); have v6a : ¬ (3 ∈ V.labelsLL e6a) := (fun h => (by (have := r6a _ (List.mem_cons_of_mem _ h)); omega)); have ud : ¬ (3 ∈ V.labelsLL d) := (fun h => (by (have := h4 _ h); omega)); (revert h; show ¬ _; simp [labelsLL_app, V.labelsLL, V.labelsL, V.labels, zz, zf, zy, u5a, v5a, u6a, v6a, ud] <;> omega))) (fun W hW hF => by obtain ⟨z5a, zz5a⟩ := farA hW r5a (fun y h1 h2 h => by omega); obtain ⟨z6a, zz6a⟩ := farA hW r6a (fun y h1 h2 h => by omega); have f0 := far0 hW (fun h => by omega); have p9 := fun i o e => hW.ptr 0 i o e (by omega); have p8 := fun sz o e => hW.sl (ma + 1) sz o e (by omega); have p7 := fun sz o e => hW.sl 4 sz o e (by omega); have wl := hW.farLL d (fun y hy h => by have := h4 y hy; omega); have w8_5 := hW.far (.sl 0 4 0 ((x.boxes[d.length]).mails.map cMail)) (fun z hz h => by have h0 : z = 0 := (show ∀ z ∈ V.labels (.sl 0 4 0 ((x.boxes[d.length]).mails.map cMail)), z = 0 by simp [V.labels, zz, zf, zy]) z hz; omega); have w8_6 := hW.far (.sl 0 1 0 ((x.boxes[d.length]).gone.map cZ)) (fun z hz h => by have h0 : z = 0 := (show ∀ z ∈ V.labels (.sl 0 1 0 ((x.boxes[d.length]).gone.map cZ)), z = 0 by simp [V.labels, zz, zf, zy]) z hz; omega); have p0 := fun i o e => hW.ptr (1) i o e (by omega);  have p1 := fun i o e => hW.ptr (2) i o e (by omega); simp only [List.map_cons, List.map_nil, hW.int, hW.str, hW.bool, hW.any, hW.tup0, hW.agg, hW.nilV, hF.ptr, z5a, zz5a, z6a, zz6a, f0, List.map_append, p9, p8, p7, wl, cBox, w8_5, w8_6, p0, p1, kP] <;> rfl) ?_
  refine TOps.nil ?_
  refine Ok.drop [15, 16, 17, 18, 19, 20, 21, 22, 23, 24, 25] M51 ?_
  refine S12 ?_
  refine ⟨(d ++ [[.int .i64 (x.boxes[d.length]).gid, .str (x.boxes[d.length]).name, .int .i64 (x.boxes[d.length]).named.time, .int .i64 (x.boxes[d.length]).named.by_, .int .i64 (x.boxes[d.length]).next, .sl (L5a + 1) 4 0 e5a, .sl (L6a + 1) 1 0 e6a]], ma + 1), ?_, rfl, M54, (by obtain ⟨z1, z2, z3, z4, z5⟩ := rows_snocL (k := k) (m := ma + 1) (c := [.int .i64 (x.boxes[d.length]).gid, .str (x.boxes[d.length]).name, .int .i64 (x.boxes[d.length]).named.time, .int .i64 (x.boxes[d.length]).named.by_, .int .i64 (x.boxes[d.length]).next, .sl (L5a + 1) 4 0 e5a, .sl (L6a + 1) 1 0 e6a]) (show 5 ≤ k + 1 by omega) hi h2 h3 h4 M58 M58 (by simp only [V.travL, V.trav, E5a, E6a] <;> rfl) nda (fun z hz => by have := rga z hz; omega); exact ⟨z1, z2, z3, z4, by dsimp only; omega⟩), by show x.boxes.length - (d ++ [_]).length < x.boxes.length - d.length; rw [List.length_append]; simp only [List.length_cons, List.length_nil]; omega⟩
  (repeat (first | exact trivial | refine leC ?_ | refine leK ?_ ?_)) <;> first | (dsimp only; first | exact le_rfl' _ | (rw [wrap_add_one (by have := h.1.1; omega)]; refine le_eqm ?_; simp only [List.length_append, List.length_cons, List.length_nil]; done) | (refine le_eqm ?_; simp only [List.length_append, List.length_cons, List.length_nil, Nat.zero_add]; done)) | exact le_rfl' _
 try simp only [bsimp] at hb4
 have hi : d.length = x.boxes.length := by omega
 rw [hi, List.take_length] at h2
 refine S54 ?_
 refine Ok.drop [8, 9, 10, 11, 12] M51 ?_
 refine S26 ?_
 refine OkOps.S rfl (ok_append_nil tab_ok M53 M53 M57 rfl rfl M48 (.inl ⟨_, _, by simp only [kE, kT, kL, kC] <;> rfl⟩) (by simp only [List.length_map]; have := h.2; omega) (by simp only [List.length_map]; have := h.2; omega)) M110 ?_
 refine EV ?_
 refine OkOps.storeN tab_ok rfl rfl M48 ⟨_, _, by simp only [kE]; rfl⟩ M60 (fun W hW hF => by have f0 := far0 hW (fun h => by omega); have p9 := fun i o e => hW.ptr 0 i o e M125; have wd := hW.far (.sl 4 7 0 d) (fun y hy h => by simp only [V.labels, List.mem_cons] at hy; rcases hy with hy | hy <;> first | omega | (have := h4 y hy; omega)); have p6 := hW.far (.sl (k + 1) 1 0 (x.gone.map cZ)) (fun y hy h => by simp [V.labels, zz, zf] at hy; omega); have p0 := fun i o e => hW.ptr (1) i o e (by omega);  have p1 := fun i o e => hW.ptr (2) i o e (by omega); simp only [List.map_cons, List.map_nil, hW.int, hW.str, hW.bool, hW.any, hW.tup0, hW.agg, hW.nilV, hF.ptr, f0, p9, wd, p6, cBox, p0, p1, kP] <;> rfl) ?_
 refine S29 ?_
 refine Ok.drop [26, 27, 28, 29, 30] M51 ?_
 refine S15 ?_
 refine OkOps.storeN tab_ok rfl rfl M48 ⟨_, _, by simp only [kE]; rfl⟩ M61 (fun W hW hF => by have f0 := far0 hW (fun h => by omega); have p9 := fun i o e => hW.ptr 0 i o e M125; have wd := hW.far (.sl 4 7 0 d) (fun y hy h => by simp only [V.labels, List.mem_cons] at hy; rcases hy with hy | hy <;> first | omega | (have := h4 y hy; omega)); have p6 := hW.far (.sl (k + 1) 1 0 (x.gone.map cZ)) (fun y hy h => by simp [V.labels, zz, zf] at hy; omega); have p0 := fun i o e => hW.ptr (1) i o e (by omega);  have p2 := fun i o e => hW.ptr (3) i o e (by omega); simp only [List.map_cons, List.map_nil, hW.int, hW.str, hW.bool, hW.any, hW.tup0, hW.agg, hW.nilV, hF.ptr, f0, p9, wd, p6, cBox, p0, p2, kP] <;> rfl) ?_
 refine S36 ?_
 exact ⟨(by simp only [packV, V.erase, V.trav, V.travL, V.travLL, zz, zf, zy, h2] <;> rfl), M72, M120⟩
end Go.Proofs.YtiipkeendfpddaaGreat.K

/- Slots forgotten within a region; a record and a bool as data of the call's own; what is fed. -/
namespace Go.Proofs.YtiipkeendfpddaaGreat.K
open Go Go.RowKit
set_option linter.unusedVariables false
set_option linter.unusedSimpArgs false
section
variable {P : Program} {ti : Tab} {t t' h : List V} {n n' : Nat} {Q : Exit → List V → List V → Nat → Prop} {ops : Array Oper} {o : Oper} {l : List Oper}
theorem over_le : ∀ (dead : List Nat) (t : List V), (overD dead t).length = t.length ∧ ∀ (i : Nat) (x y : V), t[i]? = some x → (overD dead t)[i]? = some y → y = x ∨ y = .any
  | [], t => ⟨rfl, fun i x y hx hy => .inl (Option.some.inj (hy.symm.trans hx))⟩
  | d :: dead, t => by
    have ih := over_le dead (setN t d .any)
    refine ⟨by show (overD dead (setN t d .any)).length = _; rw [ih.1, setN_set, List.length_set], fun i x y hx hy => ?_⟩
    have hy' : (overD dead (setN t d .any))[i]? = some y := hy
    by_cases hdi : d = i
    · subst hdi
      have hs : (setN t d .any)[d]? = some .any := by
        have hi := (List.getElem?_eq_some_iff.1 hx).1
        rw [setN_set, List.getElem?_set_self hi]
      rcases ih.2 _ _ _ hs hy' with h | h <;> exact .inr h
    · exact ih.2 _ _ _ (by rw [setN_set, List.getElem?_set_ne hdi, hx]) hy'
theorem OkOps.drop (dead : List Nat) (ht : overD dead t = t') (hk : OkOps P ops l t' h n Q) : OkOps P ops l t h n Q := by
  subst ht
  intro base w0 hv σ a w g
  refine hk base w0 hv σ a w ⟨⟨by rw [(over_le dead t).1]; exact g.ts.1, fun i y u hy hu => ?_⟩, g.hs, g.dfr, g.bel, g.inv⟩
  have hi : i < t.length := by have := (List.getElem?_eq_some_iff.1 hy).1; rw [(over_le dead t).1] at this; exact this
  have h1 : t[i]? = some t[i] := List.getElem?_eq_getElem hi
  rcases (over_le dead t).2 i _ y h1 hy with rfl | rfl
  · exact g.ts.2 i _ u h1 hu
  · exact .any _
end
def fits (x : Session) (t : Str) : Bool := !x.over && decide (x.inn.length + t.length ≤ 400)
def feedS (x : Session) (t : Str) : Session := if fits x t = true then { x with inn := x.inn ++ t } else x
def feedB (v : Server) (t : Str) : Bool := v.up && fits v.session t
def feedV (v : Server) (t : Str) : Server := if feedB v t = true then { v with session := feedS v.session t } else v
end Go.Proofs.YtiipkeendfpddaaGreat.K

/- A pure call's record looked at as the call's own only in its outer arrays: what is inside them is nobody's. -/
namespace Go.Proofs.YtiipkeendfpddaaGreat.K
open Go Go.RowKit
set_option linter.unusedVariables false
set_option linter.unusedSimpArgs false
mutual
def V.tops : V → Nat
  | .sl .. => 1
  | .agg cs => V.topsL cs
  | .tup vs => V.topsL vs
  | .ptr .. => 0
  | .fn .. => 0
  | .any => 0
  | .bool _ => 0
  | .int _ _ => 0
  | .str _ => 0
  | .nil _ => 0
  | .nilP => 0
def V.topsL : List V → Nat
  | [] => 0
  | x :: xs => V.tops x + V.topsL xs
end
mutual
def V.sem (r : Nat) : V → V
  | .sl _ sz off es => .sl r sz off es
  | .agg cs => .agg (V.semL r cs)
  | .tup vs => .tup (V.semL r vs)
  | .ptr L i o e => .ptr L i o e
  | .fn f cs => .fn f cs
  | .any => .any
  | .bool b => .bool b
  | .int k n => .int k n
  | .str s => .str s
  | .nil sz => .nil sz
  | .nilP => .nilP
def V.semL (r : Nat) : List V → List V
  | [] => []
  | x :: xs => V.sem r x :: V.semL (r + V.tops x) xs
end
mutual
def V.tg (r m : Nat) : V → V
  | .sl _ sz _ es => .sl r sz 0 (V.tagLL m es)
  | .agg cs => .agg (V.tgL r m cs)
  | .tup vs => .tup (V.tgL r m vs)
  | .ptr L i o e => .ptr L i o e
  | .fn f cs => .fn f cs
  | .any => .any
  | .bool b => .bool b
  | .int k n => .int k n
  | .str s => .str s
  | .nil sz => .nil sz
  | .nilP => .nilP
def V.tgL (r m : Nat) : List V → List V
  | [] => []
  | x :: xs => V.tg r m x :: V.tgL (r + V.tops x) (m + V.cnt x) xs
end
mutual
theorem tg_erase : ∀ (x : V) (r m : Nat), V.dat x = true → V.erase (V.tg r m x) = V.erase x
  | .sl _ sz _ es, r, m, h => by
    simp only [V.dat, Bool.and_eq_true] at h
    show V.sl 0 sz 0 (V.eraseLL (V.tagLL m es)) = .sl 0 sz 0 (V.eraseLL es)
    rw [tagLL_erase es _ h.2]
  | .agg cs, r, m, h => by
    simp only [V.dat] at h
    show V.agg (V.eraseL (V.tgL r m cs)) = .agg (V.eraseL cs)
    rw [tgL_erase cs r m h]
  | .tup cs, r, m, h => by
    simp only [V.dat] at h
    show V.tup (V.eraseL (V.tgL r m cs)) = .tup (V.eraseL cs)
    rw [tgL_erase cs r m h]
  | .ptr .., r, m, h => rfl
  | .fn .., r, m, h => rfl
  | .any, r, m, h => rfl
  | .bool _, r, m, h => rfl
  | .int _ _, r, m, h => rfl
  | .str _, r, m, h => rfl
  | .nil _, r, m, h => rfl
  | .nilP, r, m, h => rfl
theorem tgL_erase : ∀ (l : List V) (r m : Nat), V.datL l = true → V.eraseL (V.tgL r m l) = V.eraseL l
  | [], r, m, h => rfl
  | x :: xs, r, m, h => by
    simp only [V.datL, Bool.and_eq_true] at h
    show V.erase (V.tg r m x) :: V.eraseL (V.tgL (r + V.tops x) (m + V.cnt x) xs) = V.erase x :: V.eraseL xs
    rw [tg_erase x r m h.1, tgL_erase xs _ _ h.2]
end
mutual
theorem tg_dat : ∀ (x : V) (r m : Nat), V.dat x = true → V.dat (V.tg r m x) = true
  | .sl _ sz off es, r, m, h => by
    simp only [V.dat, Bool.and_eq_true] at h
    simp only [V.tg, V.dat, Bool.and_eq_true]
    exact ⟨rfl, tagLL_dat es _ h.2⟩
  | .agg cs, r, m, h => tgL_dat cs r m h
  | .tup cs, r, m, h => tgL_dat cs r m h
  | .ptr .., r, m, h => by simp [V.dat] at h
  | .fn .., r, m, h => by simp [V.dat] at h
  | .any, r, m, h => by simp [V.dat] at h
  | .bool _, r, m, h => rfl
  | .int _ _, r, m, h => rfl
  | .str _, r, m, h => rfl
  | .nil _, r, m, h => by simp [V.dat] at h
  | .nilP, r, m, h => by simp [V.dat] at h
theorem tgL_dat : ∀ (l : List V) (r m : Nat), V.datL l = true → V.datL (V.tgL r m l) = true
  | [], r, m, h => rfl
  | x :: xs, r, m, h => by
    simp only [V.datL, Bool.and_eq_true] at h
    simp only [V.tgL, V.datL, Bool.and_eq_true]
    exact ⟨tg_dat x r m h.1, tgL_dat xs _ _ h.2⟩
end
mutual
theorem tg_labels : ∀ (x : V) (r m : Nat), V.dat x = true → r + V.tops x ≤ m → (V.labels (V.tg r m x)).Nodup ∧ ∀ L ∈ V.labels (V.tg r m x), (r ≤ L ∧ L < r + V.tops x) ∨ (m ≤ L ∧ L < m + V.cnt x)
  | .sl _ sz off es, r, m, h, hm => by
    have ht : V.tops (.sl r sz off es) = 1 := rfl
    have hl : V.labels (V.tg r m (.sl r sz off es)) = r :: List.range' m (V.cntLL es) := by show r :: V.labelsLL (V.tagLL m es) = _; rw [tagLL_labels]
    have hc : V.cnt (.sl r sz off es) = 1 + V.cntLL es := rfl
    have hm' : r + 1 ≤ m := hm
    refine ⟨?_, fun L hL => ?_⟩
    · show (V.labels (V.tg r m (.sl r sz off es))).Nodup
      rw [hl, List.nodup_cons, List.mem_range'_1]
      exact ⟨by omega, List.nodup_range'⟩
    · have hL' : L ∈ V.labels (V.tg r m (.sl r sz off es)) := hL
      rw [hl, List.mem_cons, List.mem_range'_1] at hL'
      show (r ≤ L ∧ L < r + 1) ∨ (m ≤ L ∧ L < m + (1 + V.cntLL es))
      omega
  | .agg cs, r, m, h, hm => tgL_labels cs r m h hm
  | .tup cs, r, m, h, hm => tgL_labels cs r m h hm
  | .ptr .., r, m, h, hm => by simp [V.dat] at h
  | .fn .., r, m, h, hm => by simp [V.dat] at h
  | .any, r, m, h, hm => by simp [V.dat] at h
  | .bool _, r, m, h, hm => ⟨List.nodup_nil, fun L hL => by cases hL⟩
  | .int _ _, r, m, h, hm => ⟨List.nodup_nil, fun L hL => by cases hL⟩
  | .str _, r, m, h, hm => ⟨List.nodup_nil, fun L hL => by cases hL⟩
  | .nil _, r, m, h, hm => by simp [V.dat] at h
  | .nilP, r, m, h, hm => by simp [V.dat] at h
theorem tgL_labels : ∀ (l : List V) (r m : Nat), V.datL l = true → r + V.topsL l ≤ m → (V.labelsL (V.tgL r m l)).Nodup ∧ ∀ L ∈ V.labelsL (V.tgL r m l), (r ≤ L ∧ L < r + V.topsL l) ∨ (m ≤ L ∧ L < m + V.cntL l)
  | [], r, m, h, hm => ⟨List.nodup_nil, fun L hL => by cases hL⟩
  | x :: xs, r, m, h, hm => by
    simp only [V.datL, Bool.and_eq_true] at h
    simp only [V.topsL] at hm
    obtain ⟨n1, l1⟩ := tg_labels x r m h.1 M58
    obtain ⟨n2, l2⟩ := tgL_labels xs (r + V.tops x) (m + V.cnt x) h.2 M58
    simp only [V.tgL, V.labelsL, V.topsL, V.cntL]
    refine ⟨?_, fun L hL => ?_⟩
    · rw [List.nodup_append]
      refine ⟨n1, n2, fun y hy z hz e => ?_⟩
      have := l1 y hy
      have := l2 z hz
      omega
    · rcases List.mem_append.1 hL with hL | hL
      · have := l1 L hL; omega
      · have := l2 L hL; omega
end
mutual
theorem tag_ren : ∀ (x : V) (m : Nat) (g : Nat → Nat), V.dat x = true → (∀ L, m ≤ L → g L = 0) → V.ren g (V.tag m x) = V.erase x
  | .sl _ sz off es, m, g, h, hg => by
    simp only [V.dat, Bool.and_eq_true] at h
    show V.sl (g m) sz 0 (V.renLL g (V.tagLL (m + 1) es)) = .sl 0 sz 0 (V.eraseLL es)
    rw [hg m (Nat.le_refl _), tagLL_ren es (m + 1) g h.2 (fun L hL => hg L M58)]
  | .agg cs, m, g, h, hg => by
    show V.agg (V.renL g (V.tagL m cs)) = .agg (V.eraseL cs)
    rw [tagL_ren cs m g h hg]
  | .tup cs, m, g, h, hg => by
    show V.tup (V.renL g (V.tagL m cs)) = .tup (V.eraseL cs)
    rw [tagL_ren cs m g h hg]
  | .ptr .., m, g, h, hg => by simp [V.dat] at h
  | .fn .., m, g, h, hg => by simp [V.dat] at h
  | .any, m, g, h, hg => by simp [V.dat] at h
  | .bool _, m, g, h, hg => rfl
  | .int _ _, m, g, h, hg => rfl
  | .str _, m, g, h, hg => rfl
  | .nil _, m, g, h, hg => by simp [V.dat] at h
  | .nilP, m, g, h, hg => by simp [V.dat] at h
theorem tagL_ren : ∀ (l : List V) (m : Nat) (g : Nat → Nat), V.datL l = true → (∀ L, m ≤ L → g L = 0) → V.renL g (V.tagL m l) = V.eraseL l
  | [], m, g, h, hg => rfl
  | x :: xs, m, g, h, hg => by
    simp only [V.datL, Bool.and_eq_true] at h
    show V.ren g (V.tag m x) :: V.renL g (V.tagL (m + V.cnt x) xs) = V.erase x :: V.eraseL xs
    rw [tag_ren x m g h.1 hg, tagL_ren xs _ g h.2 (fun L hL => hg L M58)]
theorem tagLL_ren : ∀ (l : List (List V)) (m : Nat) (g : Nat → Nat), V.datLL l = true → (∀ L, m ≤ L → g L = 0) → V.renLL g (V.tagLL m l) = V.eraseLL l
  | [], m, g, h, hg => rfl
  | x :: xs, m, g, h, hg => by
    simp only [V.datLL, Bool.and_eq_true] at h
    show V.renL g (V.tagL m x) :: V.renLL g (V.tagLL (m + V.cntL x) xs) = V.eraseL x :: V.eraseLL xs
    rw [tagL_ren x m g h.1 hg, tagLL_ren xs _ g h.2 (fun L hL => hg L M58)]
end
mutual
theorem tg_ren : ∀ (x : V) (r m : Nat) (g : Nat → Nat), V.dat x = true → V.erase x = x → (∀ L, r ≤ L → L < r + V.tops x → g L = L) → (∀ L, m ≤ L → g L = 0) → V.ren g (V.tg r m x) = V.sem r x
  | .sl L0 sz off es, r, m, g, h, he, h1, h2 => by
    simp only [V.dat, Bool.and_eq_true] at h
    have he' : V.sl 0 sz 0 (V.eraseLL es) = .sl L0 sz off es := he
    simp only [V.sl.injEq, true_and] at he'
    show V.sl (g r) sz 0 (V.renLL g (V.tagLL m es)) = .sl r sz off es
    rw [h1 r (Nat.le_refl _) (by show r < r + 1; omega), tagLL_ren es m g h.2 h2, he'.2.2, ← he'.2.1]
  | .agg cs, r, m, g, h, he, h1, h2 => by
    show V.agg (V.renL g (V.tgL r m cs)) = .agg (V.semL r cs)
    rw [tgL_ren cs r m g h (V.agg.inj he) h1 h2]
  | .tup cs, r, m, g, h, he, h1, h2 => by
    show V.tup (V.renL g (V.tgL r m cs)) = .tup (V.semL r cs)
    rw [tgL_ren cs r m g h (V.tup.inj he) h1 h2]
  | .ptr .., r, m, g, h, he, h1, h2 => by simp [V.dat] at h
  | .fn .., r, m, g, h, he, h1, h2 => by simp [V.dat] at h
  | .any, r, m, g, h, he, h1, h2 => rfl
  | .bool _, r, m, g, h, he, h1, h2 => rfl
  | .int _ _, r, m, g, h, he, h1, h2 => rfl
  | .str _, r, m, g, h, he, h1, h2 => rfl
  | .nil _, r, m, g, h, he, h1, h2 => rfl
  | .nilP, r, m, g, h, he, h1, h2 => rfl
theorem tgL_ren : ∀ (l : List V) (r m : Nat) (g : Nat → Nat), V.datL l = true → V.eraseL l = l → (∀ L, r ≤ L → L < r + V.topsL l → g L = L) → (∀ L, m ≤ L → g L = 0) → V.renL g (V.tgL r m l) = V.semL r l
  | [], r, m, g, h, he, h1, h2 => rfl
  | x :: xs, r, m, g, h, he, h1, h2 => by
    simp only [V.datL, Bool.and_eq_true] at h
    have he' : V.erase x :: V.eraseL xs = x :: xs := he
    simp only [List.cons.injEq] at he'
    show V.ren g (V.tg r m x) :: V.renL g (V.tgL (r + V.tops x) (m + V.cnt x) xs) = V.sem r x :: V.semL (r + V.tops x) xs
    rw [tg_ren x r m g h.1 he'.1 (fun L ha hb => h1 L ha (by simp only [V.topsL]; omega)) h2,
      tgL_ren xs _ _ g h.2 he'.2 (fun L ha hb => h1 L M58 (by simp only [V.topsL]; omega)) (fun L hL => h2 L M58)]
end
section
variable {P : Program} {t : List V} {o : Oper}
theorem Pure.newS {f : FuncId} {args : List V} {x : V} (hd : V.dat x = true) (he : V.erase x = x) (hp : Pure P f (V.eraseL args) x) {base : Base} {σ : Sig} {w : World} {vs : List Value} {r : Nat} (hb : base.lim ≤ w.heap.size)
    (hσ : ∀ L b o s, σ L = some (b, o, s) → b < w.heap.size) (hr : 1 ≤ r) (hargs : Ms base σ w args vs) :
    Calls P f vs.toArray w fun e w' => ∃ u, e = .returned u ∧ New base σ w r (V.tops x) (V.sem r x) u w' := by
  refine (hp w vs (hargs.erase fun _ h => h)).mono ?_
  rintro e w' ⟨σ1, v, n1, rfl, hm, inv1, bel1⟩
  obtain ⟨nd, lab⟩ := tg_labels x r (r + V.tops x) hd (Nat.le_refl _)
  obtain ⟨σ2, hsub, hm2⟩ := relabel inv1.inj (V.tg r (r + V.tops x) x) (V.tag 1 x) v hm (by rw [tag_erase x 1 hd, tg_erase x _ _ hd]) (tg_dat x _ _ hd)
    M103 (fun h => by have := lab 0 h; omega) M104 nd
  have hown : ∀ L b o s, σ2 L = some (b, o, s) → w.heap.size ≤ b ∧ b < w'.heap.size := by
    intro L b o s hL
    obtain ⟨_, L1, _, o1, s1, h1⟩ := hsub.dom L b o s hL
    exact inv1.own L1 b o1 s1 h1
  let σ' : Sig := fun L => if r ≤ L ∧ L < r + V.tops x then σ2 L else σ L
  have hin : ∀ L, r ≤ L → L < r + V.tops x → σ' L = σ2 L := fun L h1 h2 => if_pos ⟨h1, h2⟩
  refine ⟨v, rfl, σ', bel1, fun L h => if_neg h, ?_, ?_, ?_⟩
  · intro L b o s h1 h2 hL
    rw [hin L h1 h2] at hL
    exact hown L b o s hL
  · intro L L' b o s o' s' h1 h2 h3 h4 hL hL'
    rw [hin L h1 h2] at hL
    rw [hin L' h3 h4] at hL'
    exact hsub.inj L L' b o s o' s' hL hL'
  · rw [← tg_ren x r (r + V.tops x) (fun L => if r ≤ L ∧ L < r + V.tops x then L else 0) hd he (fun L h1 h2 => if_pos ⟨h1, h2⟩) (fun L h1 => if_neg M58)]
    refine hm2.ren _ (fun L hL sz pos room ad hat => ?_) (if_neg M58)
    rcases hat with ⟨rfl, _⟩ | ⟨b, o, cur, e, fr, hs, rfl, hh, rest⟩
    · have := lab 0 hL; omega
    · by_cases hc : r ≤ L ∧ L < r + V.tops x
      · rw [show (if r ≤ L ∧ L < r + V.tops x then L else 0) = L from if_pos hc]
        exact .inr ⟨b, o, cur, e, fr, (hin L hc.1 hc.2).trans hs, rfl, hh, rest⟩
      · rw [show (if r ≤ L ∧ L < r + V.tops x then L else 0) = 0 from if_neg hc]
        have hb2 := hown L b o sz hs
        refine .inl ⟨rfl, hb2.2, fun L2 b2 o2 s2 hs2 hbb => ?_, fun hbad => ?_⟩
        · have hbb' : b2 = b := hbb
          subst hbb'
          by_cases hc2 : r ≤ L2 ∧ L2 < r + V.tops x
          · have hs3 : σ2 L2 = some (b2, o2, s2) := (hin L2 hc2.1 hc2.2).symm.trans hs2
            exact hc (hsub.inj L2 L b2 _ _ _ _ hs3 hs ▸ hc2)
          · have hs3 : σ L2 = some (b2, o2, s2) := (show σ' L2 = σ L2 from if_neg hc2).symm.trans hs2
            have := hσ L2 b2 o2 s2 hs3
            omega
        · have hlt : b < base.lim := base.lt b hbad
          omega
theorem OpS.semi {fx : Operand} {args : Array Operand} {ts : Array TypeId} {f : FuncId} {caps ag : List V} {x : V} {r : Nat} (ho : o.op = .call ⟨.value fx, args, ts⟩) (hf : opnd t fx = .fn f caps) (ha : V.eraseL (args.toList.map (opnd t) ++ caps) = ag) (hcl : Callable P f) (hd : V.dat x = true)
    (he : V.erase x = x) (hp : Pure P f ag x) : OpS P o t r (V.sem r x) (V.tops x) := by
  subst ha
  intro base σ w ρ hb h0 hσ hρ hr _
  obtain ⟨fn, hfn, hbody, hname⟩ := hcl
  have hm := hρ fx
  rw [hf] at hm
  obtain ⟨cs, hcs, hfv⟩ : ∃ cs : List Value, Ms base σ w caps cs ∧ ρ fx = .func (.func f) #[] cs.toArray := by
    generalize ρ fx = fv at hm
    cases hm with
    | fn _ _ vs h1 h6 => exact ⟨vs, ⟨h1, h6⟩, rfl⟩
  have hargs : Ms base σ w (args.toList.map (opnd t)) (args.toList.map ρ) := by
    refine ⟨by simp, fun i x u hx hu => ?_⟩
    rw [List.getElem?_map] at hx hu
    obtain ⟨q, hq, rfl⟩ := Option.map_eq_some_iff.1 hx
    rw [hq] at hu
    obtain rfl := Option.some.inj hu
    exact hρ q
  refine .inr ⟨f, (args.toList.map ρ ++ cs).toArray, ?_, hp.newS hd he hb hσ hr (hargs.append hcs)⟩
  have hargs' : (#[] ++ args.map ρ ++ cs.toArray : Array Value) = (args.toList.map ρ ++ cs).toArray := by
    apply Array.ext'
    simp
  simp only [execOp, ho, resolve, hfv, Deferred.ofValue, Sem.run_bind, Sem.run_pure, Result.andThen_ok, invoke, callFunc, run_program, hfn, hname, hbody, Bool.false_eq_true, if_false, hargs']
end
theorem ksem : (∀ (r L sz off : Nat) (es : List (List V)), V.sem r (.sl L sz off es) = .sl r sz off es) ∧ (∀ (r : Nat) (cs : List V), V.sem r (.agg cs) = .agg (V.semL r cs)) ∧ (∀ (r : Nat) (cs : List V), V.sem r (.tup cs) = .tup (V.semL r cs)) ∧ (∀ (r : Nat) (b : Bool), V.sem r (.bool b) = .bool b) ∧ (∀ (r : Nat) (k : IntKind) (n : Int), V.sem r (.int k n) = .int k n) ∧ (∀ (r : Nat) (s : List UInt8), V.sem r (.str s) = .str s) ∧
    (∀ (r : Nat), V.semL r [] = []) ∧ (∀ (r : Nat) (x : V) (xs : List V), V.semL r (x :: xs) = V.sem r x :: V.semL (r + V.tops x) xs) ∧ (∀ (L sz off : Nat) (es : List (List V)), V.tops (.sl L sz off es) = 1) ∧ (∀ (cs : List V), V.tops (.agg cs) = V.topsL cs) ∧ (∀ (cs : List V), V.tops (.tup cs) = V.topsL cs) ∧ (∀ (b : Bool), V.tops (.bool b) = 0) ∧ (∀ (k : IntKind) (n : Int), V.tops (.int k n) = 0) ∧ (∀ (s : List UInt8), V.tops (.str s) = 0) ∧
    V.topsL [] = 0 ∧ (∀ (x : V) (xs : List V), V.topsL (x :: xs) = V.tops x + V.topsL xs) :=
  ⟨fun _ _ _ _ _ => rfl, fun _ _ => rfl, fun _ _ => rfl, fun _ _ => rfl, fun _ _ _ => rfl, fun _ _ => rfl, fun _ => rfl, fun _ _ _ => rfl, fun _ _ _ _ => rfl, fun _ => rfl, fun _ => rfl, fun _ => rfl, fun _ _ => rfl, fun _ => rfl, rfl, fun _ _ => rfl⟩
end Go.Proofs.YtiipkeendfpddaaGreat.K

/- Walks: what is done in boxes, as the reference has it. Printed by w2.py. -/
namespace Go.Proofs.YtiipkeendfpddaaGreat.K
open Go Go.RowKit
set_option linter.unusedVariables false
set_option linter.unusedSimpArgs false
theorem bit_val {n i : Nat} (h : n ≤ 7) (hi : i ≤ 2) : (IntKind.i64.wrap ((n : Int).fdiv (2 ^ min (Int.toNat (i : Int)) IntKind.i64.bits))).tmod 2 = (bitN n i : Int) ∧ ((n : Int).fdiv (2 ^ min (Int.toNat (i : Int)) IntKind.i64.bits)).tmod 2 = (bitN n i : Int) := by
  obtain rfl | rfl | rfl : i = 0 ∨ i = 1 ∨ i = 2 := by omega
  all_goals (obtain rfl | rfl | rfl | rfl | rfl | rfl | rfl | rfl : n = 0 ∨ n = 1 ∨ n = 2 ∨ n = 3 ∨ n = 4 ∨ n = 5 ∨ n = 6 ∨ n = 7 := by omega) <;> decide
theorem u64_small {i : Nat} (h : i ≤ 1000) : IntKind.u64.wrap (i : Int) = (i : Int) := by simp only [IntKind.wrap, IntKind.bits, IntKind.signed, Bool.false_and, Bool.false_eq_true, if_false]; omega
theorem idx_get {α : Type} {l : List α} {p : α → Bool} {i : Nat} (h : l.findIdx? p = some i) : i < l.length := (find_some h).1
theorem mailAt_lt {b : Box} {g : Int} {j : Nat} (h : idxI (mailAt b g) = (j : Int)) : j < b.mails.length := by
  cases e : mailAt b g with
  | some i => rw [e] at h; have : i < b.mails.length := idx_get e; have h2 : ((i : Nat) : Int) = j := h; omega
  | none => rw [e] at h; have h2 : (-1 : Int) = j := h; omega
theorem Pure.weak' {P : Program} {f : FuncId} {args : List V} {r : V} (hp : Pure P f args r) (hd : V.dat r = true) (ha : V.eraseL args = args) (hr : V.erase r = r) : Weak P f args r := hr ▸ Pure.weak hd hp ha
theorem flt_len {α : Type} (l : List α) (p : α → Bool) (i : Nat) : ((l.take i).filter p).length ≤ l.length := Nat.le_trans (List.length_filter_le _ _) (by rw [List.length_take]; omega)
theorem flt_t {α : Type} {l : List α} {p : α → Bool} {i : Nat} (h : i < l.length) (hp : p l[i] = true) : (l.take (i + 1)).filter p = (l.take i).filter p ++ [l[i]] := by
  rw [List.take_succ_eq_append_getElem h, List.filter_append]; simp [hp]
theorem flt_f {α : Type} {l : List α} {p : α → Bool} {i : Nat} (h : i < l.length) (hp : p l[i] = false) : (l.take (i + 1)).filter p = (l.take i).filter p := by
  rw [List.take_succ_eq_append_getElem h, List.filter_append]; simp [hp]
theorem one_mails {l : List Mail} : ∀ e ∈ l.map cMail, ∀ y ∈ e, V.one y = true := by
  intro e he y hy
  obtain ⟨m, _, rfl⟩ := List.mem_map.1 he
  simp only [cMail, List.mem_cons, List.not_mem_nil, or_false] at hy
  rcases hy with rfl | rfl | rfl | rfl <;> rfl
theorem one_boxes {l : List Box} : ∀ e ∈ l.map cBox, ∀ y ∈ e, V.one y = true := by
  intro e he y hy
  obtain ⟨m, _, rfl⟩ := List.mem_map.1 he
  simp only [cBox, List.mem_cons, List.not_mem_nil, or_false] at hy
  rcases hy with rfl | rfl | rfl | rfl | rfl | rfl | rfl <;> rfl
theorem bit_le {n i : Nat} : bitN n i = 0 ∨ bitN n i = 1 := by unfold bitN; omega
set_option maxHeartbeats 4000000
set_option maxRecDepth 20000
theorem w_spec_Later (a b : Stamp) : Weak Tryz.prog 132 [.agg (cStamp a), .agg (cStamp b)] (.bool (laterS a b)) := by
 refine Weak.enter tab_ok Tryz.func132 rfl (.inr M46) (ht := ANYS 18) ?_
 refine S34 ?_
 refine S51 ?_
 refine OC (fun hb1 => ?_) (fun hb1 => ?_)
 ·
  try simp only [bsimp] at hb1
  refine OQ ?_
  iterate 6 (refine EV ?_)
  refine S36 ?_
  first | (simp_all [laterS, V.erase, V.trav, packV]; done) | (simp_all [laterS, V.erase, V.trav, packV] <;> omega)
 try simp only [bsimp] at hb1
 refine Ok.skip ?_
 refine OQ ?_
 iterate 6 (refine EV ?_)
 refine S36 ?_
 first | (simp_all [laterS, V.erase, V.trav, packV]; done) | (simp_all [laterS, V.erase, V.trav, packV] <;> omega)
theorem w_spec_PutReg (r : Reg) (n : Int) (s : Stamp) : Weak Tryz.prog 129 [.agg (cReg r), .int .i64 n, .agg (cStamp s)] (.agg (cReg (putReg r n s))) := by
 refine Weak.enter tab_ok Tryz.func129 rfl (.inr M46) (ht := ANYS 20) ?_
 refine S34 ?_
 refine S11 ?_
 refine OkOps.ev tab_ok rfl M36 M112 ?_
 refine S33 ?_
 refine Ok.seq ?_
 refine Ok.seqC [(20, .bool (!(laterS s r.stamp && regOk ⟨n, s⟩)))] [11, 12, 13, 14, 15, 16, 17, 18, 19] M51 ?_ ?_
 ·
  refine S26 ?_
  refine OW cl132 (w_spec_Later s r.stamp) ?_
  iterate 2 (refine EV ?_)
  refine OP (d := 16) (fun hg2_5 => ?_) (fun hg2_5 => ?_)
  ·
   try simp only [bsimp] at hg2_5
   iterate 3 (refine OU ?_)
   refine S2 ?_
   refine ⟨rfl, ?_, rfl, rfl⟩
   (repeat (first | exact trivial | refine leC ?_ | refine leK ?_ ?_)) <;> first | (refine .inl (congrArg V.bool ?_); (first | (simp [laterS, *]; done) | (simp [laterS, *] <;> omega) | (rw [Bool.eq_iff_iff]; simp [laterS, *] <;> omega) | (simp_all [laterS]; done) | (simp_all [laterS]; omega))) | exact le_rfl' _
  try simp only [bsimp] at hg2_5
  refine S18 ?_
  refine OW cl131 (w_spec_RegOk ⟨n, s⟩) ?_
  refine S39 ?_
  refine ⟨rfl, ?_, rfl, rfl⟩
  (repeat (first | exact trivial | refine leC ?_ | refine leK ?_ ?_)) <;> first | (refine .inl (congrArg V.bool ?_); (first | (simp [laterS, *]; done) | (simp [laterS, *] <;> omega) | (rw [Bool.eq_iff_iff]; simp [laterS, *] <;> omega) | (simp_all [laterS]; done) | (simp_all [laterS]; omega))) | exact le_rfl' _
 refine OC (fun hb2 => ?_) (fun hb2 => ?_)
 ·
  try simp only [bsimp] at hb2
  have e : putReg r n s = r := if_neg (by simpa using hb2)
  rw [e]
  refine S6 ?_
  refine S17 ?_
  refine S3 ?_
  first | rfl | (simp [V.erase, V.trav, V.travL, packV, zz, zf, zy, *]; done)
 try simp only [bsimp] at hb2
 have e : putReg r n s = ⟨n, s⟩ := if_pos (by simpa using hb2)
 rw [e]
 refine S60 ?_
 refine S17 ?_
 refine S3 ?_
 first | rfl | (simp [V.erase, V.trav, V.travL, packV, zz, zf, zy, *]; done)
theorem w_spec_FlagsNew (n : Nat) (hn : n ≤ 7) (s : Stamp) : Weak Tryz.prog 121 [.int .i64 (n : Int), .agg (cStamp s)] (.sl 0 3 0 ((flagsNew n s).map cReg)) := by
 refine Weak.enter tab_ok Tryz.func121 rfl (.inr M33) (ht := ANYS 24) ?_
 refine S10 ?_
 refine S10 ?_
 refine S28 ?_
 refine Ok.bump (n' := 4) M58 ?_
 refine Ok.loopWZ (τ := Nat) (fun x => [(5, .sl 2 3 0 ((flagsGo n s x).map cReg)), (6, .int .i64 (x : Int))]) [7, 9, 10, 11, 12, 13, 14, 15, 16, 17, 18, 19, 20, 21, 22, 23, 24] (fun x => by simp only [kover] <;> rfl) (fun x => x ≤ 3) (fun x => 3 - x) 0 M58 (by (repeat (first | exact trivial | refine leC ?_ | refine leK ?_ ?_)) <;> first | (first | exact le_rfl' _ | exact le_nil 2 3 | exact le_eqm rfl) | exact le_rfl' _) (Nat.zero_le _) ?_
 rintro i h1
 refine S65 ?_
 refine OC (fun hb3 => ?_) (fun hb3 => ?_)
 ·
  try simp only [bsimp] at hb3
  have hi : i < 3 := by omega
  have hu : IntKind.u64.wrap (i : Int) = (i : Int) := u64_small M58
  have hbv := bit_val hn (show i ≤ 2 by omega)
  have hfl := flagsGo_len n s i
  refine S14 ?_
  refine S8 ?_
  refine S5 ?_
  iterate 2 (refine EV ?_)
  refine OkOps.ev tab_ok rfl (by simp only [kE, kT, kL, kC, hu] <;> rfl) M52 ?_
  iterate 2 (refine OkOps.ev tab_ok rfl (by simp only [kE, kT, kL, kC, hbv] <;> rfl) M52 ?_)
  refine S2 ?_
  refine OC (fun hb6 => ?_) (fun hb6 => ?_)
  ·
   try simp only [bsimp] at hb6
   have hbb : bitN n i = 1 := by have := bit_le (n := n) (i := i); omega
   refine Ok.region ?_
   refine S2 ?_
   refine S26 ?_
   refine OkOps.ev tab_ok rfl M36 M112 ?_
   refine OkOps.ev tab_ok rfl (ev_bs M53 M53 M57 M57 M37 M16) M52 ?_
   refine OkOps.append tab_ok rfl rfl M53 M53 M57 rfl (by simp only [kE, kT, kL, kC, hfl] <;> rfl) (.inl ⟨_, _, by simp only [kE, kT, kL, kC, hfl] <;> rfl⟩) M58 M58 M85 M85 M55 M13 M10 (rfl) ?_
   refine S63 ?_
   refine ⟨i + 1, ?_, rfl, by omega, by omega⟩
   simp only [V.renL, V.travL, V.travLL, V.trav, frz, zz, zf, zy, Nat.reduceLeDiff, ↓reduceIte]
   (repeat (first | exact trivial | refine leC ?_ | refine leK ?_ ?_)) <;> first | (first | exact le_rfl' _ | (rw [wrap_add_one (by omega)]; exact le_rfl' _) | (rw [flagsGo_next, List.map_append, hbb]; exact le_rfl' _)) | exact le_rfl' _
  try simp only [bsimp] at hb6
  have hbb : bitN n i = 0 := by have := bit_le (n := n) (i := i); omega
  refine Ok.skip ?_
  refine S26 ?_
  refine OkOps.ev tab_ok rfl M36 M112 ?_
  refine OkOps.ev tab_ok rfl (ev_bs M53 M53 M57 M57 M37 M16) M52 ?_
  refine OkOps.append tab_ok rfl rfl M53 M53 M57 rfl (by simp only [kE, kT, kL, kC, hfl] <;> rfl) (.inl ⟨_, _, by simp only [kE, kT, kL, kC, hfl] <;> rfl⟩) M58 M58 M85 M85 M55 M13 M10 (rfl) ?_
  refine S63 ?_
  refine ⟨i + 1, ?_, rfl, by omega, by omega⟩
  simp only [V.renL, V.travL, V.travLL, V.trav, frz, zz, zf, zy, Nat.reduceLeDiff, ↓reduceIte]
  (repeat (first | exact trivial | refine leC ?_ | refine leK ?_ ?_)) <;> first | (first | exact le_rfl' _ | (rw [wrap_add_one (by omega)]; exact le_rfl' _) | (rw [flagsGo_next, List.map_append, hbb]; exact le_rfl' _)) | exact le_rfl' _
 try simp only [bsimp] at hb3
 obtain rfl : i = 3 := by omega
 refine Ok.exit ?_
 refine S46 ?_
 first | rfl | (simp [V.erase, V.trav, V.travL, V.travLL, packV, zz, zf, zy]; done)
theorem w_spec_SetFlags (l : List Reg) (n : Int) (s : Stamp) (hl : l.length ≤ 1048576) : Weak Tryz.prog 122 [.sl 0 3 0 (l.map cReg), .int .i64 n, .agg (cStamp s)] (.sl 0 3 0 ((setFlags l n s).map cReg)) := by
 refine Weak.enter tab_ok Tryz.func122 rfl (.inr M33) (ht := ANYS 47) ?_
 refine S10 ?_
 refine S6 ?_
 refine OkOps.S' rfl (OpS.pure' rfl M48 M27 cl120 M44 (p_spec_l04Copy l hl)) M30 M23 ?_
 refine S55 ?_
 refine Ok.seqC [(19, .bool (setCond l n))] [12, 13, 14, 15, 16, 17, 18] M51 ?_ ?_
 ·
  refine S15 ?_
  refine OW cl128 (w_spec_FlagsOk l M58) ?_
  iterate 2 (refine EV ?_)
  refine OP (d := 15) (fun hg2_3 => ?_) (fun hg2_3 => ?_)
  ·
   try simp only [bsimp] at hg2_3
   iterate 3 (refine OU ?_)
   refine S2 ?_
   refine ⟨rfl, ?_, rfl, rfl⟩
   (repeat (first | exact trivial | refine leC ?_ | refine leK ?_ ?_)) <;> first | (refine .inl (congrArg V.bool ?_); (first | (simp [setCond, *]; done) | (simp [setCond, *] <;> omega) | (rw [Bool.eq_iff_iff]; simp [setCond, *] <;> omega) | (simp_all [setCond]; done) | (simp_all [setCond]; omega))) | exact le_rfl' _
  try simp only [bsimp] at hg2_3
  refine S18 ?_
  refine OW cl62 (w_spec_l01In _ _ _) ?_
  refine S39 ?_
  refine ⟨rfl, ?_, rfl, rfl⟩
  (repeat (first | exact trivial | refine leC ?_ | refine leK ?_ ?_)) <;> first | (refine .inl (congrArg V.bool ?_); (first | (simp [setCond, *]; done) | (simp [setCond, *] <;> omega) | (rw [Bool.eq_iff_iff]; simp [setCond, *] <;> omega) | (simp_all [setCond]; done) | (simp_all [setCond]; omega))) | exact le_rfl' _
 refine OC (fun hb2 => ?_) (fun hb2 => ?_)
 ·
  try simp only [bsimp] at hb2
  have e : setFlags l n s = l := if_pos hb2
  rw [e]
  refine S46 ?_
  first | rfl | (simp [V.erase, V.trav, V.travL, V.travLL, packV, zz, zf, zy]; done)
 try simp only [bsimp] at hb2
 have e : setFlags l n s = setGo l n.toNat s l.length := if_neg (by simp [hb2])
 rw [e]
 have hc : flagsOk l = true ∧ inR n 0 7 = true := by simpa [setCond] using hb2
 have hl3 := flags_small hc.1
 have hn7 := inR_t.1 hc.2
 obtain ⟨m, rfl⟩ : ∃ m : Nat, n = (m : Int) := ⟨n.toNat, by omega⟩
 rw [Int.toNat_natCast]
 refine Ok.skip ?_
 refine S28 ?_
 refine Ok.loopW (τ := Nat) (fun x => [(7, .sl 2 3 0 ((setGo l m s x).map cReg)), (8, .int .i64 (x : Int)), (9, .any)]) [11, 21, 22, 23, 24, 25, 26, 27, 28, 29, 30, 31, 32, 33, 34, 35, 36, 37, 38, 39, 40, 41, 42, 43, 44, 45, 46, 47, 48] (fun x => by simp only [kover] <;> rfl) (fun x => x ≤ l.length) (fun x => l.length - x) 0 (by (repeat (first | exact trivial | refine leC ?_ | refine leK ?_ ?_)) <;> first | (first | exact le_rfl' _ | exact le_eqm rfl) | exact le_rfl' _) (Nat.zero_le _) ?_
 rintro i h1
 have hlen0 := setGo_len l m s i
 refine S5 ?_
 iterate 2 (refine EV ?_)
 refine OkOps.ev tab_ok rfl (by simp only [kE, kT, kL, kC, hlen0] <;> rfl) M52 ?_
 refine S2 ?_
 refine OC (fun hb5 => ?_) (fun hb5 => ?_)
 ·
  try simp only [bsimp] at hb5
  have hi : i < l.length := by first | omega | (rw [setGo_len] at hb5; omega)
  have hu : IntKind.u64.wrap (i : Int) = (i : Int) := u64_small M58
  have hbv := bit_val (n := m) (i := i) M58 M58
  have hg := setGo_get (n := m) (s := s) hi
  have hlen := setGo_len l m s i
  refine S14 ?_
  refine S11 ?_
  refine OkOps.ev tab_ok rfl (by simp only [kE, kT, kL, kC, hu] <;> rfl) M52 ?_
  iterate 2 (refine OkOps.ev tab_ok rfl (by simp only [kE, kT, kL, kC, hbv] <;> rfl) M52 ?_)
  refine S2 ?_
  refine S11 ?_
  refine OkOps.ev tab_ok rfl (ev_idx M48 M48 (by rw [List.getElem?_map, hg]; rfl) M48) M52 ?_
  refine S16 ?_
  refine OC (fun hb8 => ?_) (fun hb8 => ?_)
  ·
   try simp only [bsimp] at hb8
   have hne : ¬ l[i].val = (bitN m i : Int) := by simpa using hb8
   have hs : setReg m s i l[i] = putReg l[i] (bitN m i : Int) s := if_neg hne
   have hnx := setGo_next (n := m) (s := s) hi
   rw [hs] at hnx
   refine Ok.drawn 10 50 [] M56 M56 rfl ?_
   iterate 4 (refine SV ?_)
   refine SOps.ev tab_ok rfl (ev_idx M48 M48 (by rw [List.getElem?_map, hg]; rfl) M48) M52 ?_
   iterate 3 (refine SV ?_)
   refine SOps.S0 rfl (OpS.weakM rfl M48 M48 cl129 (w_spec_PutReg l[i] (bitN m i : Int) s)) M52 ?_
   refine SOps.ev tab_ok rfl (ev_idx M48 M48 (by rw [List.getElem?_map, hg]; rfl) M48) M52 ?_
   refine SOps.nil ?_
   refine TOps.storeE tab_ok rfl rfl M48 ⟨_, _, by simp only [kE]; rfl⟩ M7 M65 (rfl) ?_
   refine TOps.nil ?_
   refine S12 ?_
   refine ⟨i + 1, ?_, rfl, rfl, by omega, by omega⟩
   (repeat (first | exact trivial | refine leC ?_ | refine leK ?_ ?_)) <;> first | (first | exact le_rfl' _ | (rw [wrap_add_one (by omega)]; exact le_rfl' _) | (rw [hsm]; exact le_rfl' _) | (rw [hnx, ← set_map cReg]; exact le_rfl' _) | (refine le_eqm ?_; rw [hnx]; rw [set_map cReg]; rfl)) | exact le_rfl' _
  try simp only [bsimp] at hb8
  have hsm := setGo_same (n := m) (s := s) hi (by simpa using hb8)
  refine S42 ?_
  refine ⟨i + 1, ?_, rfl, rfl, by omega, by omega⟩
  (repeat (first | exact trivial | refine leC ?_ | refine leK ?_ ?_)) <;> first | (first | exact le_rfl' _ | (rw [wrap_add_one (by omega)]; exact le_rfl' _) | (rw [hsm]; exact le_rfl' _) | (rw [hnx, ← set_map cReg]; exact le_rfl' _) | (refine le_eqm ?_; rw [hnx]; rw [set_map cReg]; rfl)) | exact le_rfl' _
 try simp only [bsimp] at hb5
 obtain rfl : i = l.length := by first | omega | (rw [setGo_len] at hb5; omega)
 refine Ok.exit ?_
 refine S46 ?_
 first | rfl | (simp [V.erase, V.trav, V.travL, V.travLL, packV, zz, zf, zy]; done)
theorem w_spec_AddMail (b : Box) (g flags : Int) (t : Str) (s : Stamp) (h : smBox b) (ht : t.length ≤ 1048576) : Weak Tryz.prog 95 [.agg (cBox b), .int .i64 g, .int .i64 flags, .str t, .agg (cStamp s)] (vBB (addMail b g flags t s)) := by
 refine Weak.enter tab_ok Tryz.func95 rfl (.inr M33) (ht := ANYS 54) ?_
 refine S64 ?_
 refine S6 ?_
 refine OkOps.S' rfl (OpS.semi rfl M48 M27 cl65 M44 M41 (p_spec_l06Copy b h)) M35 M32 ?_
 refine S33 ?_
 refine Ok.seq ?_
 refine Ok.seqC [(34, .bool (addCond b g flags))] [15, 16, 17, 18, 19, 20, 21, 22, 23, 24, 25, 26, 27, 28, 29, 30, 31, 32, 33] M51 ?_ ?_
 ·
  refine S15 ?_
  refine OW cl79 (w_spec_BoxOk b h) ?_
  iterate 2 (refine EV ?_)
  refine OP (d := 18) (fun hg2_3 => ?_) (fun hg2_3 => ?_)
  ·
   try simp only [bsimp] at hg2_3
   refine S43 ?_
   refine S52 ?_
   refine S2 ?_
   refine ⟨rfl, ?_, rfl, rfl⟩
   (repeat (first | exact trivial | refine leC ?_ | refine leK ?_ ?_)) <;> first | (refine .inl (congrArg V.bool ?_); (first | (simp [addCond, *]; done) | (simp [addCond, *] <;> omega) | (rw [Bool.eq_iff_iff]; simp [addCond, *] <;> omega) | (simp_all [addCond]; done) | (simp_all [addCond]; omega))) | exact le_rfl' _
  try simp only [bsimp] at hg2_3
  refine S25 ?_
  refine OW cl113 (w_spec_MailAt b g M113) ?_
  refine S31 ?_
  refine OP (d := 24) (fun hg2_9 => ?_) (fun hg2_9 => ?_)
  ·
   try simp only [bsimp] at hg2_9
   iterate 4 (refine OU ?_)
   refine S52 ?_
   refine S2 ?_
   refine ⟨rfl, ?_, rfl, rfl⟩
   (repeat (first | exact trivial | refine leC ?_ | refine leK ?_ ?_)) <;> first | (refine .inl (congrArg V.bool ?_); (first | (simp [addCond, *]; done) | (simp [addCond, *] <;> omega) | (rw [Bool.eq_iff_iff]; simp [addCond, *] <;> omega) | (simp_all [addCond]; done) | (simp_all [addCond]; omega))) | exact le_rfl' _
  try simp only [bsimp] at hg2_9
  iterate 3 (refine OX ?_)
  refine OO ?_
  refine OW cl81 (w_spec_l06In b.gone g M115) ?_
  iterate 2 (refine EV ?_)
  refine OP (d := 30) (fun hg2_15 => ?_) (fun hg2_15 => ?_)
  ·
   try simp only [bsimp] at hg2_15
   iterate 3 (refine OU ?_)
   refine S2 ?_
   refine ⟨rfl, ?_, rfl, rfl⟩
   (repeat (first | exact trivial | refine leC ?_ | refine leK ?_ ?_)) <;> first | (refine .inl (congrArg V.bool ?_); (first | (simp [addCond, *]; done) | (simp [addCond, *] <;> omega) | (rw [Bool.eq_iff_iff]; simp [addCond, *] <;> omega) | (simp_all [addCond]; done) | (simp_all [addCond]; omega))) | exact le_rfl' _
  try simp only [bsimp] at hg2_15
  refine S18 ?_
  refine OW cl62 (w_spec_l01In _ _ _) ?_
  refine S39 ?_
  refine ⟨rfl, ?_, rfl, rfl⟩
  (repeat (first | exact trivial | refine leC ?_ | refine leK ?_ ?_)) <;> first | (refine .inl (congrArg V.bool ?_); (first | (simp [addCond, *]; done) | (simp [addCond, *] <;> omega) | (rw [Bool.eq_iff_iff]; simp [addCond, *] <;> omega) | (simp_all [addCond]; done) | (simp_all [addCond]; omega))) | exact le_rfl' _
 refine OC (fun hb2 => ?_) (fun hb2 => ?_)
 ·
  try simp only [bsimp] at hb2
  rw [show addMail b g flags t s = (b, false) from if_pos hb2]
  refine S6 ?_
  refine S30 ?_
  first | rfl | (simp [V.erase, V.trav, V.travL, V.travLL, packV, zz, zf, zy, addOut]; done)
 try simp only [bsimp] at hb2
 have hc : boxOk b = true ∧ inR flags 0 7 = true := by have h9 := hb2; simp only [addCond, Bool.or_eq_false_iff, Bool.not_eq_false'] at h9; exact ⟨h9.1.1.1, h9.2⟩
 have hbs := box_small hc.1
 have hf7 := inR_t.1 hc.2
 obtain ⟨k, rfl⟩ : ∃ m : Nat, flags = (m : Int) := ⟨flags.toNat, by omega⟩
 have hnx := box_next hc.1
 have hw1 : IntKind.i64.wrap (b.next + 1) = b.next + 1 := wrap_add_1 M58 M58
 have hmm := hbs.mails
 have hso : smBox (addOut b g (k : Int) t s) := addOut_sm hbs ht
 refine S7 ?_
 refine Ok.drawn 11 59 [] M56 M56 rfl ?_
 iterate 7 (refine SV ?_)
 refine SOps.S0 rfl (OpS.weakM rfl M48 M48 cl121 (w_spec_FlagsNew k M58 s)) M52 ?_
 refine SV ?_
 refine SOps.ev tab_ok rfl M36 M112 ?_
 refine SOps.ev tab_ok rfl (ev_bs M53 M53 M57 M57 M37 M16) M52 ?_
 refine SOps.nil ?_
 refine TOps.append tab_ok rfl rfl M53 M53 M57 rfl M48 (.inl ⟨_, _, by simp only [kE, kT, kL, kC] <;> rfl⟩) M58 M58 M19 M19 M55 M13 M10 (rfl) ?_
 refine TV ?_
 refine TOps.storeE tab_ok rfl rfl M48 ⟨_, _, by simp only [kE]; rfl⟩ M7 M65 (rfl) ?_
 refine TOps.nil ?_
 refine S11 ?_
 refine OkOps.ev tab_ok rfl M105 M52 ?_
 refine S33 ?_
 refine S59 ?_
 refine OkOps.S0 rfl (OpS.weakE rfl (by simp only [kE, kT, kL, kC, addOut, cBox, V.travLL, List.map_append, List.map_cons, List.map_nil, Int.toNat_natCast] <;> rfl) (by simp only [kE, kT, kL, kC, addOut, cBox, V.travLL, List.map_append, List.map_cons, List.map_nil, Int.toNat_natCast, V.eraseL, V.erase, V.travL, V.trav, zz, zf, zy] <;> rfl) cl79 M42 (w_spec_BoxOk (addOut b g (k : Int) t s) hso)) M52 ?_
 refine S2 ?_
 refine OC (fun hb6 => ?_) (fun hb6 => ?_)
 ·
  try simp only [bsimp] at hb6
  rw [show addMail b g (k : Int) t s = (b, false) from (if_neg (by simp [hb2])).trans (if_neg (by simpa using hb6))]
  refine S6 ?_
  refine OW cl65 ((Pure.weak' (p_spec_l06Copy b h) M44 M40 M43)) ?_
  refine S30 ?_
  first | rfl | (simp [V.erase, V.trav, V.travL, V.travLL, packV, zz, zf, zy, addOut]; done)
 try simp only [bsimp] at hb6
 rw [show addMail b g (k : Int) t s = (addOut b g (k : Int) t s, true) from (if_neg (by simp [hb2])).trans (if_pos (by simpa using hb6))]
 refine S60 ?_
 refine S30 ?_
 first | rfl | (simp [V.erase, V.trav, V.travL, V.travLL, packV, zz, zf, zy, addOut]; done)
theorem w_spec_FlagMail (b : Box) (g n : Int) (s : Stamp) (h : smBox b) : Weak Tryz.prog 96 [.agg (cBox b), .int .i64 g, .int .i64 n, .agg (cStamp s)] (vBB (flagMail b g n s)) := by
 refine Weak.enter tab_ok Tryz.func96 rfl (.inr M33) (ht := ANYS 46) ?_
 refine S64 ?_
 refine S6 ?_
 refine OkOps.S' rfl (OpS.semi rfl M48 M27 cl65 M44 M41 (p_spec_l06Copy b h)) M35 M32 ?_
 refine S33 ?_
 refine S11 ?_
 refine OW cl113 (w_spec_MailAt b g M113) ?_
 refine S55 ?_
 refine Ok.seqC [(33, .bool (flagCond b g n s))] [17, 18, 19, 20, 21, 22, 23, 24, 25, 26, 27, 28, 29, 30, 31, 32] M51 ?_ ?_
 ·
  refine S15 ?_
  refine OW cl79 (w_spec_BoxOk b h) ?_
  iterate 2 (refine EV ?_)
  refine OP (d := 20) (fun hg3_3 => ?_) (fun hg3_3 => ?_)
  ·
   try simp only [bsimp] at hg3_3
   refine S61 ?_
   refine S52 ?_
   refine S52 ?_
   refine S2 ?_
   refine ⟨rfl, ?_, rfl, rfl⟩
   (repeat (first | exact trivial | refine leC ?_ | refine leK ?_ ?_)) <;> first | (refine .inl (congrArg V.bool ?_); (first | (simp [flagCond, *]; done) | (simp [flagCond, *] <;> omega) | (rw [Bool.eq_iff_iff]; simp [flagCond, *] <;> omega) | (simp_all [flagCond]; done) | (simp_all [flagCond]; omega))) | exact le_rfl' _
  try simp only [bsimp] at hg3_3
  refine S18 ?_
  iterate 3 (refine EV ?_)
  refine OP (d := 24) (fun hg3_7 => ?_) (fun hg3_7 => ?_)
  ·
   try simp only [bsimp] at hg3_7
   iterate 3 (refine OU ?_)
   refine S52 ?_
   refine S2 ?_
   refine ⟨rfl, ?_, rfl, rfl⟩
   (repeat (first | exact trivial | refine leC ?_ | refine leK ?_ ?_)) <;> first | (refine .inl (congrArg V.bool ?_); (first | (simp [flagCond, *]; done) | (simp [flagCond, *] <;> omega) | (rw [Bool.eq_iff_iff]; simp [flagCond, *] <;> omega) | (simp_all [flagCond]; done) | (simp_all [flagCond]; omega))) | exact le_rfl' _
  try simp only [bsimp] at hg3_7
  refine S18 ?_
  refine OW cl62 (w_spec_l01In n 0 7) ?_
  refine S31 ?_
  refine OP (d := 29) (fun hg3_12 => ?_) (fun hg3_12 => ?_)
  ·
   try simp only [bsimp] at hg3_12
   iterate 3 (refine OU ?_)
   refine S2 ?_
   refine ⟨rfl, ?_, rfl, rfl⟩
   (repeat (first | exact trivial | refine leC ?_ | refine leK ?_ ?_)) <;> first | (refine .inl (congrArg V.bool ?_); (first | (simp [flagCond, *]; done) | (simp [flagCond, *] <;> omega) | (rw [Bool.eq_iff_iff]; simp [flagCond, *] <;> omega) | (simp_all [flagCond]; done) | (simp_all [flagCond]; omega))) | exact le_rfl' _
  try simp only [bsimp] at hg3_12
  refine S18 ?_
  refine OW cl111 (w_spec_StampOk s) ?_
  refine S39 ?_
  refine ⟨rfl, ?_, rfl, rfl⟩
  (repeat (first | exact trivial | refine leC ?_ | refine leK ?_ ?_)) <;> first | (refine .inl (congrArg V.bool ?_); (first | (simp [flagCond, *]; done) | (simp [flagCond, *] <;> omega) | (rw [Bool.eq_iff_iff]; simp [flagCond, *] <;> omega) | (simp_all [flagCond]; done) | (simp_all [flagCond]; omega))) | exact le_rfl' _
 refine OC (fun hb3 => ?_) (fun hb3 => ?_)
 ·
  try simp only [bsimp] at hb3
  rw [show flagMail b g n s = (b, false) from if_pos hb3]
  refine S6 ?_
  refine S30 ?_
  first | rfl | (simp [-List.map_set, V.erase, V.trav, V.travL, V.travLL, packV, zz, zf, zy]; done)
 try simp only [bsimp] at hb3
 have hc : boxOk b = true ∧ ¬ idxI (mailAt b g) < 0 := by have h9 := hb3; simp only [flagCond, Bool.or_eq_false_iff, Bool.not_eq_false', decide_eq_false_iff_not] at h9; exact ⟨h9.1.1.1, h9.1.1.2⟩
 have hbs := box_small hc.1
 obtain ⟨j, hj⟩ : ∃ j : Nat, idxI (mailAt b g) = (j : Int) := ⟨(idxI (mailAt b g)).toNat, by omega⟩
 have hjl := mailAt_lt hj
 have hfl := (hbs.mail _ (List.getElem_mem hjl)).1
 rw [show flagMail b g n s = (flagOut b (idxI (mailAt b g)).toNat n s, true) from if_neg (by simp [hb3])]
 rw [hj, Int.toNat_natCast]
 have hfo : flagOut b j n s = { b with mails := b.mails.set j { b.mails[j] with flags := setFlags b.mails[j].flags n s } } := by unfold flagOut; rw [List.getElem?_eq_getElem hjl]
 rw [hfo]
 refine S7 ?_
 refine Ok.drawn 14 50 [] M56 M56 rfl ?_
 iterate 6 (refine SV ?_)
 refine SOps.ev tab_ok rfl (ev_idx M48 M48 (by rw [List.getElem?_map, List.getElem?_eq_getElem hjl]; rfl) M48) M52 ?_
 iterate 4 (refine SV ?_)
 refine SOps.S0 rfl (OpS.weakM rfl M48 M48 cl122 (w_spec_SetFlags b.mails[j].flags n s M58)) M52 ?_
 refine SOps.ev tab_ok rfl (ev_idx M48 M48 (by rw [List.getElem?_map, List.getElem?_eq_getElem hjl]; rfl) M48) M52 ?_
 refine SV ?_
 refine SOps.nil ?_
 refine TOps.storeE tab_ok rfl rfl M48 ⟨_, _, by simp only [kE]; rfl⟩ M7 M65 (rfl) ?_
 refine TOps.nil ?_
 refine Ok.seq ?_
 rw [show (List.map cMail b.mails).set (j - 0) [V.int .i64 b.mails[j].gid, .int .i64 b.mails[j].uid, .sl 0 3 0 ((setFlags b.mails[j].flags n s).map cReg), .str b.mails[j].text] = (b.mails.set j { b.mails[j] with flags := setFlags b.mails[j].flags n s }).map cMail from set_map cMail b.mails j { b.mails[j] with flags := setFlags b.mails[j].flags n s }]
 refine S15 ?_
 refine S30 ?_
 first | rfl | (simp [-List.map_set, V.erase, V.trav, V.travL, V.travLL, packV, zz, zf, zy]; done)
theorem w_spec_l06Put (a : List Int) (g : Int) (h : a.length ≤ 1048576) : Weak Tryz.prog 119 [.sl 0 1 0 (a.map cZ), .int .i64 g] (.sl 0 1 0 ((insG a g).map cZ)) := by
 refine Weak.enter tab_ok Tryz.func119 rfl (.inr M33) (ht := ANYS 50) ?_
 refine S8 ?_
 refine S10 ?_
 refine S28 ?_
 refine Ok.bump (n' := 3) M58 ?_
 refine Ok.loopWZ (τ := Nat) (fun x => [(5, .sl 1 1 0 (((a.take x).filter (fun y => decide (y < g))).map cZ)), (6, .int .i64 (x : Int))]) [9, 10, 11, 12, 13, 14, 15, 16, 17, 18, 19, 20, 21, 22, 23, 24, 25, 26, 27] (fun x => by simp only [kover] <;> rfl) (fun x => x ≤ a.length) (fun x => a.length - x) 0 M58 (by (repeat (first | exact trivial | refine leC ?_ | refine leK ?_ ?_)) <;> first | (first | exact le_rfl' _ | exact le_nil 1 1 | exact le_eqm rfl | (refine le_eqm ?_; simp; done)) | exact le_rfl' _) (Nat.zero_le _) ?_
 rintro i h1
 refine S50 ?_
 refine OC (fun hb3 => ?_) (fun hb3 => ?_)
 ·
  try simp only [bsimp] at hb3
  have hi : i < a.length := by omega
  have hlf := flt_len a (fun y => decide (y < g)) i
  refine S14 ?_
  refine S11 ?_
  refine OkOps.ev tab_ok rfl (ev_idx_map M48 M48 M58 M48) M52 ?_
  refine S4 ?_
  refine OC (fun hb5 => ?_) (fun hb5 => ?_)
  ·
   try simp only [bsimp] at hb5
   have hq := flt_t (p := fun y => decide (y < g)) hi (by simpa using hb5)
   refine S26 ?_
   refine OkOps.ev tab_ok rfl (ev_idx_map M48 M48 M58 M48) M52 ?_
   refine EV ?_
   refine OkOps.ev tab_ok rfl (ev_bs M53 M53 M57 M57 M37 M16) M52 ?_
   refine OkOps.append tab_ok rfl rfl M53 M53 M57 rfl M48 (.inl ⟨_, _, by simp only [kE, kT, kL, kC] <;> rfl⟩) M58 M58 M19 M19 M55 M13 M10 (rfl) ?_
   refine S63 ?_
   refine ⟨i + 1, ?_, rfl, by omega, by omega⟩
   simp only [V.renL, V.travL, V.travLL, V.trav, frz, zz, zf, zy, Nat.reduceLeDiff, ↓reduceIte]
   (repeat (first | exact trivial | refine leC ?_ | refine leK ?_ ?_)) <;> first | (first | exact le_rfl' _ | (rw [wrap_add_one (by omega)]; exact le_rfl' _) | (rw [hq]; exact le_rfl' _) | (rw [hq]; refine le_eqm ?_; simp only [List.map_append, List.map_cons, List.map_nil, List.append_assoc]; done)) | exact le_rfl' _
  try simp only [bsimp] at hb5
  have hq := flt_f (p := fun y => decide (y < g)) hi (by simpa using hb5)
  refine S42 ?_
  refine ⟨i + 1, ?_, rfl, by omega, by omega⟩
  simp only [V.renL, V.travL, V.travLL, V.trav, frz, zz, zf, zy, Nat.reduceLeDiff, ↓reduceIte]
  (repeat (first | exact trivial | refine leC ?_ | refine leK ?_ ?_)) <;> first | (first | exact le_rfl' _ | (rw [wrap_add_one (by omega)]; exact le_rfl' _) | (rw [hq]; exact le_rfl' _) | (rw [hq]; refine le_eqm ?_; simp only [List.map_append, List.map_cons, List.map_nil, List.append_assoc]; done)) | exact le_rfl' _
 try simp only [bsimp] at hb3
 obtain rfl : i = a.length := by omega
 rw [List.take_length]
 have hlf := List.length_filter_le (fun y => decide (y < g)) a
 refine Ok.exit ?_
 refine S11 ?_
 refine OkOps.ev tab_ok rfl (ev_bs M53 M53 M57 M57 M37 M16) M52 ?_
 refine OkOps.append tab_ok rfl rfl M53 M53 M57 rfl M48 (.inl ⟨_, _, by simp only [kE, kT, kL, kC] <;> rfl⟩) M58 M58 M19 M19 M55 M13 M10 (rfl) ?_
 refine S2 ?_
 refine S28 ?_
 refine Ok.bump (n' := 4) M58 ?_
 refine Ok.loopWZ (τ := Nat) (fun x => [(5, .sl 1 1 0 ((a.filter (fun y => decide (y < g)) ++ [g] ++ (a.take x).filter (fun y => decide (y > g))).map cZ)), (7, .int .i64 (x : Int))]) [28, 31, 32, 33, 34, 35, 36, 37, 38, 39, 40, 41, 42, 43, 44, 45, 46, 47, 48, 49, 50] (fun x => by simp only [kover] <;> rfl) (fun x => x ≤ a.length) (fun x => a.length - x) 0 M58 (by (repeat (first | exact trivial | refine leC ?_ | refine leK ?_ ?_)) <;> first | (first | exact le_rfl' _ | exact le_nil 1 1 | exact le_eqm rfl | (refine le_eqm ?_; simp; done)) | exact le_rfl' _) (Nat.zero_le _) ?_
 rintro i h1
 refine S50 ?_
 refine OC (fun hb9 => ?_) (fun hb9 => ?_)
 ·
  try simp only [bsimp] at hb9
  have hi : i < a.length := by omega
  have hlg := flt_len a (fun y => decide (y > g)) i
  refine S14 ?_
  refine S11 ?_
  refine OkOps.ev tab_ok rfl (ev_idx_map M48 M48 M58 M48) M52 ?_
  refine S4 ?_
  refine OC (fun hb11 => ?_) (fun hb11 => ?_)
  ·
   try simp only [bsimp] at hb11
   have hq := flt_t (p := fun y => decide (y > g)) hi (by simpa using hb11)
   refine S26 ?_
   refine OkOps.ev tab_ok rfl (ev_idx_map M48 M48 M58 M48) M52 ?_
   refine EV ?_
   refine OkOps.ev tab_ok rfl (ev_bs M53 M53 M57 M57 M37 M16) M52 ?_
   refine OkOps.append tab_ok rfl rfl M53 M53 M57 rfl M48 (.inl ⟨_, _, by simp only [kE, kT, kL, kC] <;> rfl⟩) M58 M58 M19 M19 M55 M13 M10 (rfl) ?_
   refine S63 ?_
   refine ⟨i + 1, ?_, rfl, by omega, by omega⟩
   simp only [V.renL, V.travL, V.travLL, V.trav, frz, zz, zf, zy, Nat.reduceLeDiff, ↓reduceIte]
   (repeat (first | exact trivial | refine leC ?_ | refine leK ?_ ?_)) <;> first | (first | exact le_rfl' _ | (rw [wrap_add_one (by omega)]; exact le_rfl' _) | (rw [hq]; exact le_rfl' _) | (rw [hq]; refine le_eqm ?_; simp only [List.map_append, List.map_cons, List.map_nil, List.append_assoc]; done)) | exact le_rfl' _
  try simp only [bsimp] at hb11
  have hq := flt_f (p := fun y => decide (y > g)) hi (by simpa using hb11)
  refine S42 ?_
  refine ⟨i + 1, ?_, rfl, by omega, by omega⟩
  simp only [V.renL, V.travL, V.travLL, V.trav, frz, zz, zf, zy, Nat.reduceLeDiff, ↓reduceIte]
  (repeat (first | exact trivial | refine leC ?_ | refine leK ?_ ?_)) <;> first | (first | exact le_rfl' _ | (rw [wrap_add_one (by omega)]; exact le_rfl' _) | (rw [hq]; exact le_rfl' _) | (rw [hq]; refine le_eqm ?_; simp only [List.map_append, List.map_cons, List.map_nil, List.append_assoc]; done)) | exact le_rfl' _
 try simp only [bsimp] at hb9
 obtain rfl : i = a.length := by omega
 rw [List.take_length]
 refine Ok.exit ?_
 refine S46 ?_
 first | rfl | (simp [insG, V.erase, V.trav, V.travL, V.travLL, packV, zz, zf, zy]; done)
theorem w_spec_TakeOut (b : Box) (g : Int) (h : smBox b) : Weak Tryz.prog 97 [.agg (cBox b), .int .i64 g] (vBB (takeOut b g)) := by
 refine Weak.enter tab_ok Tryz.func97 rfl (.inr M33) (ht := ANYS 44) ?_
 refine S34 ?_
 refine S6 ?_
 refine OkOps.S' rfl (OpS.semi rfl M48 M27 cl65 M44 M41 (p_spec_l06Copy b h)) M35 M32 ?_
 refine S33 ?_
 refine S11 ?_
 refine OW cl113 (w_spec_MailAt b g M113) ?_
 refine S55 ?_
 refine Ok.seqC [(25, .bool (takeCond b g))] [13, 14, 15, 16, 17, 18, 19, 20, 21, 22, 23, 24] M51 ?_ ?_
 ·
  refine S15 ?_
  refine OW cl79 (w_spec_BoxOk b h) ?_
  iterate 2 (refine EV ?_)
  refine OP (d := 16) (fun hg3_3 => ?_) (fun hg3_3 => ?_)
  ·
   try simp only [bsimp] at hg3_3
   refine S61 ?_
   refine S13 ?_
   refine S2 ?_
   refine ⟨rfl, ?_, rfl, rfl⟩
   (repeat (first | exact trivial | refine leC ?_ | refine leK ?_ ?_)) <;> first | (refine .inl (congrArg V.bool ?_); (first | (simp [takeCond, *]; done) | (simp [takeCond, *] <;> omega) | (rw [Bool.eq_iff_iff]; simp [takeCond, *] <;> omega) | (simp_all [takeCond]; done) | (simp_all [takeCond]; omega))) | exact le_rfl' _
  try simp only [bsimp] at hg3_3
  refine S18 ?_
  iterate 3 (refine EV ?_)
  refine OP (d := 20) (fun hg3_7 => ?_) (fun hg3_7 => ?_)
  ·
   try simp only [bsimp] at hg3_7
   refine S44 ?_
   refine ⟨rfl, ?_, rfl, rfl⟩
   (repeat (first | exact trivial | refine leC ?_ | refine leK ?_ ?_)) <;> first | (refine .inl (congrArg V.bool ?_); (first | (simp [takeCond, *]; done) | (simp [takeCond, *] <;> omega) | (rw [Bool.eq_iff_iff]; simp [takeCond, *] <;> omega) | (simp_all [takeCond]; done) | (simp_all [takeCond]; omega))) | exact le_rfl' _
  try simp only [bsimp] at hg3_7
  iterate 3 (refine OX ?_)
  refine S39 ?_
  refine ⟨rfl, ?_, rfl, rfl⟩
  (repeat (first | exact trivial | refine leC ?_ | refine leK ?_ ?_)) <;> first | (refine .inl (congrArg V.bool ?_); (first | (simp [takeCond, *]; done) | (simp [takeCond, *] <;> omega) | (rw [Bool.eq_iff_iff]; simp [takeCond, *] <;> omega) | (simp_all [takeCond]; done) | (simp_all [takeCond]; omega))) | exact le_rfl' _
 refine OC (fun hb3 => ?_) (fun hb3 => ?_)
 ·
  try simp only [bsimp] at hb3
  rw [show takeOut b g = (b, false) from if_pos hb3]
  refine S6 ?_
  refine S30 ?_
  first | rfl | (simp [-List.map_take, -List.map_drop, takeRest, V.erase, V.trav, V.travL, V.travLL, packV, zz, zf, zy]; done)
 try simp only [bsimp] at hb3
 have hc : boxOk b = true ∧ ¬ idxI (mailAt b g) < 0 := by have h9 := hb3; simp only [takeCond, Bool.or_eq_false_iff, Bool.not_eq_false', decide_eq_false_iff_not] at h9; exact ⟨h9.1.1, h9.1.2⟩
 have hbs := box_small hc.1
 have hm10 := hbs.mails
 have hg40 := hbs.gone
 obtain ⟨j, hj⟩ : ∃ j : Nat, idxI (mailAt b g) = (j : Int) := ⟨(idxI (mailAt b g)).toNat, by omega⟩
 have hjl := mailAt_lt hj
 rw [show takeOut b g = ({ b with mails := takeRest b (idxI (mailAt b g)).toNat, gone := insG b.gone g }, true) from if_neg (by simp [hb3])]
 rw [hj, Int.toNat_natCast]
 have hw1 : IntKind.i64.wrap ((j : Int) + 1) = ((j + 1 : Nat) : Int) := wrap_add_one M58
 refine S7 ?_
 refine Ok.drawn 11 46 [] M56 M56 rfl ?_
 iterate 4 (refine SV ?_)
 refine SOps.ev tab_ok rfl (ev_partHi_map M48 M48 M53 M106 M58) M52 ?_
 refine SOps.S rfl (ok_append_nil tab_ok M53 M53 M57 rfl rfl M48 (.inl ⟨_, _, by simp only [kE, kT, kL, kC] <;> rfl⟩) M19 M19) M110 ?_
 iterate 3 (refine SV ?_)
 refine SOps.ev tab_ok rfl M105 M52 ?_
 refine SOps.ev tab_ok rfl (ev_partLo_map M48 M48 M53 M106 M58) M52 ?_
 refine SOps.nil ?_
 refine TOps.append tab_ok rfl rfl M53 M53 M57 rfl M48 (.inl ⟨_, _, by simp only [kE, kT, kL, kC] <;> rfl⟩) M58 M58 M19 M19 (one_mails) M13 M10 (rfl) ?_
 refine TV ?_
 refine TOps.storeE tab_ok rfl rfl M48 ⟨_, _, by simp only [kE]; rfl⟩ M7 M65 (rfl) ?_
 refine TOps.nil ?_
 refine S19 ?_
 refine OW cl119 (w_spec_l06Put b.gone g M58) ?_
 refine S33 ?_
 refine S6 ?_
 refine S30 ?_
 first | rfl | (simp [-List.map_take, -List.map_drop, takeRest, V.erase, V.trav, V.travL, V.travLL, packV, zz, zf, zy]; done)
theorem w_spec_Knows (s : Store) (g : Int) (h : smStore s) : Weak Tryz.prog 115 [.agg (cStore s), .int .i64 g] (.bool (knows s g)) := by
 refine Weak.enter tab_ok Tryz.func115 rfl (.inr M33) (ht := ANYS 39) ?_
 refine S10 ?_
 refine Ok.seq ?_
 refine Ok.seqC [(15, .bool (decide (idxI (boxAt s g) ≥ 0) || decide (g ∈ s.gone)))] [6, 7, 8, 9, 10, 11, 12, 13, 14] M51 ?_ ?_
 ·
  refine S20 ?_
  refine OW cl117 (w_spec_BoxAt s g M114) ?_
  iterate 2 (refine EV ?_)
  refine OP (d := 10) (fun hg1_4 => ?_) (fun hg1_4 => ?_)
  ·
   try simp only [bsimp] at hg1_4
   refine S44 ?_
   refine ⟨rfl, ?_, rfl, rfl⟩
   (repeat (first | exact trivial | refine leC ?_ | refine leK ?_ ?_)) <;> first | (refine .inl (congrArg V.bool ?_); (first | (simp [knows, *]; done) | (simp [knows, *] <;> omega) | (rw [Bool.eq_iff_iff]; simp [knows, *] <;> omega) | (simp_all [knows]; done) | (simp_all [knows]; omega))) | exact le_rfl' _
  try simp only [bsimp] at hg1_4
  iterate 3 (refine OX ?_)
  refine OO ?_
  refine OW cl81 (w_spec_l06In s.gone g M116) ?_
  refine S2 ?_
  refine ⟨rfl, ?_, rfl, rfl⟩
  (repeat (first | exact trivial | refine leC ?_ | refine leK ?_ ?_)) <;> first | (refine .inl (congrArg V.bool ?_); (first | (simp [knows, *]; done) | (simp [knows, *] <;> omega) | (rw [Bool.eq_iff_iff]; simp [knows, *] <;> omega) | (simp_all [knows]; done) | (simp_all [knows]; omega))) | exact le_rfl' _
 refine OC (fun hb1 => ?_) (fun hb1 => ?_)
 ·
  try simp only [bsimp] at hb1
  rw [show knows s g = true by unfold knows; rw [hb1]; rfl]
  refine S37 ?_
  rfl
 try simp only [bsimp] at hb1
 refine Ok.skip ?_
 refine S28 ?_
 refine Ok.loopW (τ := Nat) (fun x => [(5, .int .i64 (x : Int))]) [4, 16, 17, 18, 19, 20, 21, 22, 23, 24, 25, 26, 27, 28, 29, 30, 31, 32, 33, 34, 35, 36, 37, 38, 39, 40] (fun x => by simp only [kover] <;> rfl) (fun x => x ≤ s.boxes.length ∧ ∀ k (hk : k < s.boxes.length), k < x → knowsB g s.boxes[k] = false) (fun x => s.boxes.length - x) 0 (by (repeat (first | exact trivial | refine leC ?_ | refine leK ?_ ?_)) <;> first | (exact le_rfl' _) | exact le_rfl' _) (⟨Nat.zero_le _, fun k hk h => by omega⟩) ?_
 rintro i ⟨h1, h2⟩
 refine S51 ?_
 refine OC (fun hb4 => ?_) (fun hb4 => ?_)
 ·
  try simp only [bsimp] at hb4
  have hi : i < s.boxes.length := by omega
  refine S14 ?_
  refine Ok.seqC [(40, .bool (knowsB g s.boxes[i]))] [23, 24, 25, 26, 27, 28, 29, 30, 31, 32, 33, 34, 35, 36, 37, 38, 39] M51 ?_ ?_
  ·
   refine S26 ?_
   refine OkOps.ev tab_ok rfl (ev_idx_map M48 M48 M58 M48) M52 ?_
   iterate 2 (refine EV ?_)
   refine OW cl113 (w_spec_MailAt s.boxes[i] g M99) ?_
   iterate 2 (refine EV ?_)
   refine OP (d := 31) (fun hg6_8 => ?_) (fun hg6_8 => ?_)
   ·
    try simp only [bsimp] at hg6_8
    iterate 8 (refine OU ?_)
    refine S2 ?_
    refine ⟨rfl, ?_, rfl, rfl⟩
    (repeat (first | exact trivial | refine leC ?_ | refine leK ?_ ?_)) <;> first | (refine .inl (congrArg V.bool ?_); (first | (simp [knowsB, *]; done) | (simp [knowsB, *] <;> omega) | (rw [Bool.eq_iff_iff]; simp [knowsB, *] <;> omega) | (simp_all [knowsB]; done) | (simp_all [knowsB]; omega))) | exact le_rfl' _
   try simp only [bsimp] at hg6_8
   iterate 3 (refine OX ?_)
   refine OO ?_
   refine OkOps.ev tab_ok rfl (ev_idx_map M48 M48 M58 M48) M52 ?_
   iterate 3 (refine OX ?_)
   refine OO ?_
   refine OW cl81 (w_spec_l06In s.boxes[i].gone g (by have := (h.1.2 _ (List.getElem_mem hi)).2.2; omega)) ?_
   refine S2 ?_
   refine ⟨rfl, ?_, rfl, rfl⟩
   (repeat (first | exact trivial | refine leC ?_ | refine leK ?_ ?_)) <;> first | (refine .inl (congrArg V.bool ?_); (first | (simp [knowsB, *]; done) | (simp [knowsB, *] <;> omega) | (rw [Bool.eq_iff_iff]; simp [knowsB, *] <;> omega) | (simp_all [knowsB]; done) | (simp_all [knowsB]; omega))) | exact le_rfl' _
  refine OC (fun hb6 => ?_) (fun hb6 => ?_)
  ·
   try simp only [bsimp] at hb6
   rw [show knows s g = true by unfold knows; rw [any_here hi hb6, Bool.or_true]]
   refine S37 ?_
   rfl
  try simp only [bsimp] at hb6
  refine S42 ?_
  refine ⟨i + 1, ?_, rfl, rfl, ⟨by omega, no_next h2 hi hb6⟩, by omega⟩
  (repeat (first | exact trivial | refine leC ?_ | refine leK ?_ ?_)) <;> first | ((rw [wrap_add_one (by have := h.1.1; omega)]; exact le_rfl' _)) | exact le_rfl' _
 try simp only [bsimp] at hb4
 rw [show knows s g = false by unfold knows; rw [hb1, any_none (fun k hk => h2 k hk M58)]; rfl]
 refine Ok.exit ?_
 refine S37 ?_
 rfl
theorem w_spec_NextStamp (s : Store) : Weak Tryz.prog 116 [.agg (cStore s)] (.agg (cStamp (nextStamp s))) := by
 refine Weak.enter tab_ok Tryz.func116 rfl (.inr M33) (ht := ANYS 8) ?_
 refine S10 ?_
 refine OQ ?_
 iterate 5 (refine EV ?_)
 refine OkOps.ev tab_ok rfl M36 M112 ?_
 refine S17 ?_
 refine S3 ?_
 first | rfl | (simp [V.erase, V.trav, V.travL, packV, zz, zf, zy]; done)
end Go.Proofs.YtiipkeendfpddaaGreat.K
