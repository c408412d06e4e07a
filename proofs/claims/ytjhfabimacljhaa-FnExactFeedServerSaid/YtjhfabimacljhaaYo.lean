/- Data of the call's own. Printed by genown.py. -/
import Derived.Test.YtjhfabimacljhaaYn
namespace Go.Proofs.Ytjhfabimacljhaa.K
open Go Go.RowKit
set_option linter.unusedVariables false
set_option linter.unusedSimpArgs false
theorem Hom.nilV {f : V → V} {A : Nat → Prop} (hf : Hom f A) (s : Nat) : f (.nil s) = .nil s := hf.far _ fun L h => by cases h
theorem plLL_of : ∀ (es : List (List V)), (∀ r ∈ es, V.plL r = true) → V.plLL es = true
  | [], _ => rfl
  | x :: es, h => by
    simp only [V.plLL, h x (List.mem_cons_self ..), plLL_of es fun r hr => h r (List.mem_cons_of_mem _ hr), Bool.and_self]
theorem erase_tagd {es d : List (List V)} {n : Nat} (hd : V.datLL d = true) (he : V.eraseLL d = d) (h : es = V.tagLL n d) (hp : ∀ r ∈ es, V.plL r = true) : V.travLL (fun sz => V.sl 0 sz 0 []) (fun _ sz _ es => V.sl 0 sz 0 es) (fun _ _ o e => V.ptr 0 0 o e) es = d ∧ ∀ K, V.travLL (fun sz => V.sl 0 sz 0 []) (fun _ sz _ es => V.sl 0 sz 0 es) (fun _ _ o e => V.ptr 0 0 o e) (V.mkLL K es) = V.mkLL K d := by
  have e1 : V.eraseLL es = d := by rw [h, tagLL_erase _ _ hd, he]
  exact ⟨e1, fun K => by show V.eraseLL _ = _; rw [mkLL_erase es K (plLL_of es hp), e1]⟩
section
variable {P : Program} {ti : Tab} {t t' : List V} {n n' : Nat} {Q : Exit → List V → List V → Nat → Prop} {ops : Array Oper} {o : Oper} {l : List Oper}
theorem OkOps.turnN {fx : Operand} {args : Array Operand} {ts : Array TypeId} {f : FuncId} {caps ag : List V} {a a' R : V} {A : Nat → Prop} (c : Nat) (hg : o.guard = none) (ho : o.op = .call ⟨.value fx, args, ts⟩) (hf : opnd t fx = .fn f caps) (ha : args.toList.map (opnd t) ++ caps = ag)
    (hcl : Callable P f) (hc : ∀ h, OkCall P f ag h n (MarkQ A a a' R h (n + c))) (hn : n + c = n') (ht : ∀ W, Hom W A → W a = a' → putV (t.map W) o.dst R = t')
    (hk : OkOps P ops l t' [] n' Q) : OkOps P ops (o :: l) t [] n Q :=
  OkOps.turnU (h0 := []) (U0 := id) (v0 := .any) (x := .any) (x' := .any) c hg ho hf ha hcl hc hn (Hom.id' A) rfl (fun _ h => h) (fun W hW _ => hW.any) ht (fun _ _ _ => hk)
theorem OkOps.storeN {T : TypeId} {p q : Operand} {L j : Nat} {e' : List V} (hti : TabOk P ti) (hg : o.guard = none) (ho : o.op = .store T p q) (hs : Go.Proofs.Ytjhfabimacljhaa.K.storeE (ti T) (opnd t p) (opnd t q) = some (L, j, e')) (hc : ∃ y l, cellsV (opnd t q) = y :: l) (hfree : L ∉ V.labelsL e')
    (ht : ∀ W, Hom W (· = L) → StoreF W L j e' → putV (t.map W) o.dst .any = t') (hk : OkOps P ops l t' [] n Q) : OkOps P ops (o :: l) t [] n Q :=
  OkOps.storeU (h0 := []) (U0 := id) (v0 := .any) (x := .any) (x' := .any) (B := (· = L)) hti hg ho hs hc hfree (Hom.id' _) rfl rfl (fun W hW _ => hW.any) ht (fun _ _ _ => hk)
end
theorem pl_int {c : List V} (h : isInt c) : V.plL c = true := by
  obtain ⟨v0, rfl⟩ := h
  simp only [V.plL, V.pl, Bool.and_true, Bool.true_and, beq_self_eq_true]
theorem own_int : ∀ (xs : List Int) (n : Nat), ∀ r ∈ V.tagLL (n + 1) (xs.map cZ), isInt r
  | [], n, r, hr => by cases hr
  | x :: xs, n, r, hr => by
    rw [List.map_cons] at hr
    rcases List.mem_cons.1 (show r ∈ V.tagL (n + 1) (cZ x) :: V.tagLL (n + 1 + V.cntL (cZ x)) (xs.map cZ) from hr) with rfl | hr
    · refine ⟨x, ?_⟩
      simp only [cZ, V.tagL, V.tag, V.cnt, Nat.add_zero]
    · rw [show n + 1 + V.cntL (cZ x) = (n + V.cntL (cZ x)) + 1 by omega] at hr; exact own_int xs _ r hr
theorem pl_Reg {c : List V} (h : isReg c) : V.plL c = true := by
  obtain ⟨v0, v1, v2, rfl⟩ := h
  simp only [V.plL, V.pl, Bool.and_true, Bool.true_and, beq_self_eq_true]
theorem own_Reg : ∀ (xs : List Reg) (n : Nat), ∀ r ∈ V.tagLL (n + 1) (xs.map cReg), isReg r
  | [], n, r, hr => by cases hr
  | x :: xs, n, r, hr => by
    rw [List.map_cons] at hr
    rcases List.mem_cons.1 (show r ∈ V.tagL (n + 1) (cReg x) :: V.tagLL (n + 1 + V.cntL (cReg x)) (xs.map cReg) from hr) with rfl | hr
    · refine ⟨x.val, x.stamp.time, x.stamp.by_, ?_⟩
      simp only [cReg, V.tagL, V.tag, V.cnt, Nat.add_zero]
    · rw [show n + 1 + V.cntL (cReg x) = (n + V.cntL (cReg x)) + 1 by omega] at hr; exact own_Reg xs _ r hr
theorem pl_Mail {c : List V} (h : isMail c) : V.plL c = true := by
  obtain ⟨v0, v1, L2, e2, v3, rfl, q2⟩ := h
  have h2 := plLL_of e2 fun r hr => pl_Reg (q2 r hr)
  simp only [V.plL, V.pl, Bool.and_true, Bool.true_and, beq_self_eq_true, h2]
theorem own_Mail : ∀ (xs : List Mail) (n : Nat), ∀ r ∈ V.tagLL (n + 1) (xs.map cMail), isMail r
  | [], n, r, hr => by cases hr
  | x :: xs, n, r, hr => by
    rw [List.map_cons] at hr
    rcases List.mem_cons.1 (show r ∈ V.tagL (n + 1) (cMail x) :: V.tagLL (n + 1 + V.cntL (cMail x)) (xs.map cMail) from hr) with rfl | hr
    · refine ⟨x.gid, x.uid, n, V.tagLL (n + 1 + 1) (x.flags.map cReg), x.text, ?_, fun r hr => own_Reg x.flags (n + 1) r hr⟩
      simp only [cMail, V.tagL, V.tag, V.cnt, Nat.add_zero]
    · rw [show n + 1 + V.cntL (cMail x) = (n + V.cntL (cMail x)) + 1 by omega] at hr; exact own_Mail xs _ r hr
theorem pl_Box {c : List V} (h : isBox c) : V.plL c = true := by
  obtain ⟨v0, v1, v2, v3, v4, L5, e5, L6, e6, rfl, q5, q6⟩ := h
  have h5 := plLL_of e5 fun r hr => pl_Mail (q5 r hr)
  have h6 := plLL_of e6 fun r hr => pl_int (q6 r hr)
  simp only [V.plL, V.pl, Bool.and_true, Bool.true_and, beq_self_eq_true, h5, h6]
theorem own_Box : ∀ (xs : List Box) (n : Nat), ∀ r ∈ V.tagLL (n + 1) (xs.map cBox), isBox r
  | [], n, r, hr => by cases hr
  | x :: xs, n, r, hr => by
    rw [List.map_cons] at hr
    rcases List.mem_cons.1 (show r ∈ V.tagL (n + 1) (cBox x) :: V.tagLL (n + 1 + V.cntL (cBox x)) (xs.map cBox) from hr) with rfl | hr
    · refine ⟨x.gid, x.name, x.named.time, x.named.by_, x.next, n, V.tagLL (n + 1 + 1) (x.mails.map cMail), n + (1 + V.cntLL (x.mails.map cMail)), V.tagLL (n + (1 + V.cntLL (x.mails.map cMail)) + 1 + 1) (x.gone.map cZ), ?_, fun r hr => own_Mail x.mails (n + 1) r hr, fun r hr => own_int x.gone (n + (1 + V.cntLL (x.mails.map cMail)) + 1) r hr⟩
      simp only [cBox, V.tagL, V.tag, V.cnt, Nat.add_zero, (show n + 1 + (1 + V.cntLL (x.mails.map cMail)) = n + (1 + V.cntLL (x.mails.map cMail)) + 1 by omega)]
    · rw [show n + 1 + V.cntL (cBox x) = (n + V.cntL (cBox x)) + 1 by omega] at hr; exact own_Box xs _ r hr
theorem ownReg (n : Nat) (x : Reg) :  V.tag (n + 1) (.agg (cReg x)) = .agg [.int .i64 x.val, .int .i64 x.stamp.time, .int .i64 x.stamp.by_] ∧ (V.labelsL [.int .i64 x.val, .int .i64 x.stamp.time, .int .i64 x.stamp.by_]).Nodup ∧ (∀ z ∈ V.labelsL [.int .i64 x.val, .int .i64 x.stamp.time, .int .i64 x.stamp.by_], n + 1 ≤ z ∧ z < n + 1 + V.cnt (.agg (cReg x))) := by
  have hX : V.tagL (n + 1) (cReg x) = [.int .i64 x.val, .int .i64 x.stamp.time, .int .i64 x.stamp.by_] := by
    simp only [cReg, V.tagL, V.tag, V.cnt, Nat.add_zero]
  have hl := tagL_labels (cReg x) (n + 1)
  rw [hX] at hl
  refine ⟨congrArg V.agg hX, ?_, ?_⟩
  · rw [hl]; exact List.nodup_range'
  · intro z hz; rw [hl, List.mem_range'_1] at hz; exact hz
theorem ownMail (n : Nat) (x : Mail) : ∃ (L2 : Nat) (e2 : List (List V)), V.tag (n + 1) (.agg (cMail x)) = .agg [.int .i64 x.gid, .int .i64 x.uid, .sl (L2 + 1) 3 0 e2, .str x.text] ∧ (∀ r ∈ e2, isReg r) ∧ V.travLL (fun sz => V.sl 0 sz 0 []) (fun _ sz _ es => V.sl 0 sz 0 es) (fun _ _ o e => V.ptr 0 0 o e) e2 = x.flags.map cReg ∧ (∀ K, V.travLL (fun sz => V.sl 0 sz 0 []) (fun _ sz _ es => V.sl 0 sz 0 es) (fun _ _ o e => V.ptr 0 0 o e) (V.mkLL K e2) = V.mkLL K (x.flags.map cReg)) ∧ V.mnLL e2 = V.mnLL (x.flags.map cReg) ∧ (V.labelsL [.int .i64 x.gid, .int .i64 x.uid, .sl (L2 + 1) 3 0 e2, .str x.text]).Nodup ∧ (∀ z ∈ V.labelsL [.int .i64 x.gid, .int .i64 x.uid, .sl (L2 + 1) 3 0 e2, .str x.text], n + 1 ≤ z ∧ z < n + 1 + V.cnt (.agg (cMail x))) := by
  have hX : V.tagL (n + 1) (cMail x) = [.int .i64 x.gid, .int .i64 x.uid, .sl (n + 1) 3 0 (V.tagLL (n + 1 + 1) (x.flags.map cReg)), .str x.text] := by
    simp only [cMail, V.tagL, V.tag, V.cnt, Nat.add_zero]
  have hl := tagL_labels (cMail x) (n + 1)
  rw [hX] at hl
  have q2 := fun r hr => own_Reg x.flags (n + 1) r hr
  have d2 := erase_tagd (es := V.tagLL (n + 1 + 1) (x.flags.map cReg)) (n := n + 1 + 1) (by simp [zz, zf, zy]) (by simp [V.eraseLL, zz, zf, zy]) rfl (fun r hr => pl_Reg (q2 r hr))
  have m2 := mnLL_erase (V.tagLL (n + 1 + 1) (x.flags.map cReg))
  rw [show V.eraseLL (V.tagLL (n + 1 + 1) (x.flags.map cReg)) = x.flags.map cReg from d2.1] at m2
  refine ⟨n, _, congrArg V.agg hX, q2, d2.1, d2.2, m2.symm, ?_, ?_⟩
  · rw [hl]; exact List.nodup_range'
  · intro z hz; rw [hl, List.mem_range'_1] at hz; exact hz
theorem ownBox (n : Nat) (x : Box) : ∃ (L5 : Nat) (e5 : List (List V)) (L6 : Nat) (e6 : List (List V)), V.tag (n + 1) (.agg (cBox x)) = .agg [.int .i64 x.gid, .str x.name, .int .i64 x.named.time, .int .i64 x.named.by_, .int .i64 x.next, .sl (L5 + 1) 4 0 e5, .sl (L6 + 1) 1 0 e6] ∧ (∀ r ∈ e5, isMail r) ∧ V.travLL (fun sz => V.sl 0 sz 0 []) (fun _ sz _ es => V.sl 0 sz 0 es) (fun _ _ o e => V.ptr 0 0 o e) e5 = x.mails.map cMail ∧ (∀ K, V.travLL (fun sz => V.sl 0 sz 0 []) (fun _ sz _ es => V.sl 0 sz 0 es) (fun _ _ o e => V.ptr 0 0 o e) (V.mkLL K e5) = V.mkLL K (x.mails.map cMail)) ∧ V.mnLL e5 = V.mnLL (x.mails.map cMail) ∧ (∀ r ∈ e6, isInt r) ∧ V.travLL (fun sz => V.sl 0 sz 0 []) (fun _ sz _ es => V.sl 0 sz 0 es) (fun _ _ o e => V.ptr 0 0 o e) e6 = x.gone.map cZ ∧ (∀ K, V.travLL (fun sz => V.sl 0 sz 0 []) (fun _ sz _ es => V.sl 0 sz 0 es) (fun _ _ o e => V.ptr 0 0 o e) (V.mkLL K e6) = V.mkLL K (x.gone.map cZ)) ∧ V.mnLL e6 = V.mnLL (x.gone.map cZ) ∧ (V.labelsL [.int .i64 x.gid, .str x.name, .int .i64 x.named.time, .int .i64 x.named.by_, .int .i64 x.next, .sl (L5 + 1) 4 0 e5, .sl (L6 + 1) 1 0 e6]).Nodup ∧ (∀ z ∈ V.labelsL [.int .i64 x.gid, .str x.name, .int .i64 x.named.time, .int .i64 x.named.by_, .int .i64 x.next, .sl (L5 + 1) 4 0 e5, .sl (L6 + 1) 1 0 e6], n + 1 ≤ z ∧ z < n + 1 + V.cnt (.agg (cBox x))) := by
  have hX : V.tagL (n + 1) (cBox x) = [.int .i64 x.gid, .str x.name, .int .i64 x.named.time, .int .i64 x.named.by_, .int .i64 x.next, .sl (n + 1) 4 0 (V.tagLL (n + 1 + 1) (x.mails.map cMail)), .sl (n + (1 + V.cntLL (x.mails.map cMail)) + 1) 1 0 (V.tagLL (n + (1 + V.cntLL (x.mails.map cMail)) + 1 + 1) (x.gone.map cZ))] := by
    simp only [cBox, V.tagL, V.tag, V.cnt, Nat.add_zero, (show n + 1 + (1 + V.cntLL (x.mails.map cMail)) = n + (1 + V.cntLL (x.mails.map cMail)) + 1 by omega)]
  have hl := tagL_labels (cBox x) (n + 1)
  rw [hX] at hl
  have q5 := fun r hr => own_Mail x.mails (n + 1) r hr
  have d5 := erase_tagd (es := V.tagLL (n + 1 + 1) (x.mails.map cMail)) (n := n + 1 + 1) (by simp [zz, zf, zy]) (by simp [V.eraseLL, zz, zf, zy]) rfl (fun r hr => pl_Mail (q5 r hr))
  have m5 := mnLL_erase (V.tagLL (n + 1 + 1) (x.mails.map cMail))
  rw [show V.eraseLL (V.tagLL (n + 1 + 1) (x.mails.map cMail)) = x.mails.map cMail from d5.1] at m5
  have q6 := fun r hr => own_int x.gone (n + (1 + V.cntLL (x.mails.map cMail)) + 1) r hr
  have d6 := erase_tagd (es := V.tagLL (n + (1 + V.cntLL (x.mails.map cMail)) + 1 + 1) (x.gone.map cZ)) (n := n + (1 + V.cntLL (x.mails.map cMail)) + 1 + 1) (by simp [zz, zf, zy]) (by simp [V.eraseLL, zz, zf, zy]) rfl (fun r hr => pl_int (q6 r hr))
  have m6 := mnLL_erase (V.tagLL (n + (1 + V.cntLL (x.mails.map cMail)) + 1 + 1) (x.gone.map cZ))
  rw [show V.eraseLL (V.tagLL (n + (1 + V.cntLL (x.mails.map cMail)) + 1 + 1) (x.gone.map cZ)) = x.gone.map cZ from d6.1] at m6
  refine ⟨n, _, n + (1 + V.cntLL (x.mails.map cMail)), _, congrArg V.agg hX, q5, d5.1, d5.2, m5.symm, q6, d6.1, d6.2, m6.symm, ?_, ?_⟩
  · rw [hl]; exact List.nodup_range'
  · intro z hz; rw [hl, List.mem_range'_1] at hz; exact hz
theorem ownStore (n : Nat) (x : Store) : ∃ (L2 : Nat) (e2 : List (List V)) (L3 : Nat) (e3 : List (List V)), V.tag (n + 1) (.agg (cStore x)) = .agg [.int .i64 x.by_, .int .i64 x.time, .sl (L2 + 1) 7 0 e2, .sl (L3 + 1) 1 0 e3] ∧ (∀ r ∈ e2, isBox r) ∧ V.travLL (fun sz => V.sl 0 sz 0 []) (fun _ sz _ es => V.sl 0 sz 0 es) (fun _ _ o e => V.ptr 0 0 o e) e2 = x.boxes.map cBox ∧ (∀ K, V.travLL (fun sz => V.sl 0 sz 0 []) (fun _ sz _ es => V.sl 0 sz 0 es) (fun _ _ o e => V.ptr 0 0 o e) (V.mkLL K e2) = V.mkLL K (x.boxes.map cBox)) ∧ V.mnLL e2 = V.mnLL (x.boxes.map cBox) ∧ (∀ r ∈ e3, isInt r) ∧ V.travLL (fun sz => V.sl 0 sz 0 []) (fun _ sz _ es => V.sl 0 sz 0 es) (fun _ _ o e => V.ptr 0 0 o e) e3 = x.gone.map cZ ∧ (∀ K, V.travLL (fun sz => V.sl 0 sz 0 []) (fun _ sz _ es => V.sl 0 sz 0 es) (fun _ _ o e => V.ptr 0 0 o e) (V.mkLL K e3) = V.mkLL K (x.gone.map cZ)) ∧ V.mnLL e3 = V.mnLL (x.gone.map cZ) ∧ (V.labelsL [.int .i64 x.by_, .int .i64 x.time, .sl (L2 + 1) 7 0 e2, .sl (L3 + 1) 1 0 e3]).Nodup ∧ (∀ z ∈ V.labelsL [.int .i64 x.by_, .int .i64 x.time, .sl (L2 + 1) 7 0 e2, .sl (L3 + 1) 1 0 e3], n + 1 ≤ z ∧ z < n + 1 + V.cnt (.agg (cStore x))) := by
  have hX : V.tagL (n + 1) (cStore x) = [.int .i64 x.by_, .int .i64 x.time, .sl (n + 1) 7 0 (V.tagLL (n + 1 + 1) (x.boxes.map cBox)), .sl (n + (1 + V.cntLL (x.boxes.map cBox)) + 1) 1 0 (V.tagLL (n + (1 + V.cntLL (x.boxes.map cBox)) + 1 + 1) (x.gone.map cZ))] := by
    simp only [cStore, V.tagL, V.tag, V.cnt, Nat.add_zero, (show n + 1 + (1 + V.cntLL (x.boxes.map cBox)) = n + (1 + V.cntLL (x.boxes.map cBox)) + 1 by omega)]
  have hl := tagL_labels (cStore x) (n + 1)
  rw [hX] at hl
  have q2 := fun r hr => own_Box x.boxes (n + 1) r hr
  have d2 := erase_tagd (es := V.tagLL (n + 1 + 1) (x.boxes.map cBox)) (n := n + 1 + 1) (by simp [zz, zf, zy]) (by simp [V.eraseLL, zz, zf, zy]) rfl (fun r hr => pl_Box (q2 r hr))
  have m2 := mnLL_erase (V.tagLL (n + 1 + 1) (x.boxes.map cBox))
  rw [show V.eraseLL (V.tagLL (n + 1 + 1) (x.boxes.map cBox)) = x.boxes.map cBox from d2.1] at m2
  have q3 := fun r hr => own_int x.gone (n + (1 + V.cntLL (x.boxes.map cBox)) + 1) r hr
  have d3 := erase_tagd (es := V.tagLL (n + (1 + V.cntLL (x.boxes.map cBox)) + 1 + 1) (x.gone.map cZ)) (n := n + (1 + V.cntLL (x.boxes.map cBox)) + 1 + 1) (by simp [zz, zf, zy]) (by simp [V.eraseLL, zz, zf, zy]) rfl (fun r hr => pl_int (q3 r hr))
  have m3 := mnLL_erase (V.tagLL (n + (1 + V.cntLL (x.boxes.map cBox)) + 1 + 1) (x.gone.map cZ))
  rw [show V.eraseLL (V.tagLL (n + (1 + V.cntLL (x.boxes.map cBox)) + 1 + 1) (x.gone.map cZ)) = x.gone.map cZ from d3.1] at m3
  refine ⟨n, _, n + (1 + V.cntLL (x.boxes.map cBox)), _, congrArg V.agg hX, q2, d2.1, d2.2, m2.symm, q3, d3.1, d3.2, m3.symm, ?_, ?_⟩
  · rw [hl]; exact List.nodup_range'
  · intro z hz; rw [hl, List.mem_range'_1] at hz; exact hz
theorem ownKept (n : Nat) (x : Kept) : ∃ (L2 : Nat) (e2 : List (List V)) (L3 : Nat) (e3 : List (List V)), V.tag (n + 1) (.agg (cKept x)) = .agg [.int .i64 x.store.by_, .int .i64 x.store.time, .sl (L2 + 1) 7 0 e2, .sl (L3 + 1) 1 0 e3, .str x.journal, .int .i64 x.saved] ∧ (∀ r ∈ e2, isBox r) ∧ V.travLL (fun sz => V.sl 0 sz 0 []) (fun _ sz _ es => V.sl 0 sz 0 es) (fun _ _ o e => V.ptr 0 0 o e) e2 = x.store.boxes.map cBox ∧ (∀ K, V.travLL (fun sz => V.sl 0 sz 0 []) (fun _ sz _ es => V.sl 0 sz 0 es) (fun _ _ o e => V.ptr 0 0 o e) (V.mkLL K e2) = V.mkLL K (x.store.boxes.map cBox)) ∧ V.mnLL e2 = V.mnLL (x.store.boxes.map cBox) ∧ (∀ r ∈ e3, isInt r) ∧ V.travLL (fun sz => V.sl 0 sz 0 []) (fun _ sz _ es => V.sl 0 sz 0 es) (fun _ _ o e => V.ptr 0 0 o e) e3 = x.store.gone.map cZ ∧ (∀ K, V.travLL (fun sz => V.sl 0 sz 0 []) (fun _ sz _ es => V.sl 0 sz 0 es) (fun _ _ o e => V.ptr 0 0 o e) (V.mkLL K e3) = V.mkLL K (x.store.gone.map cZ)) ∧ V.mnLL e3 = V.mnLL (x.store.gone.map cZ) ∧ (V.labelsL [.int .i64 x.store.by_, .int .i64 x.store.time, .sl (L2 + 1) 7 0 e2, .sl (L3 + 1) 1 0 e3, .str x.journal, .int .i64 x.saved]).Nodup ∧ (∀ z ∈ V.labelsL [.int .i64 x.store.by_, .int .i64 x.store.time, .sl (L2 + 1) 7 0 e2, .sl (L3 + 1) 1 0 e3, .str x.journal, .int .i64 x.saved], n + 1 ≤ z ∧ z < n + 1 + V.cnt (.agg (cKept x))) := by
  have hX : V.tagL (n + 1) (cKept x) = [.int .i64 x.store.by_, .int .i64 x.store.time, .sl (n + 1) 7 0 (V.tagLL (n + 1 + 1) (x.store.boxes.map cBox)), .sl (n + (1 + V.cntLL (x.store.boxes.map cBox)) + 1) 1 0 (V.tagLL (n + (1 + V.cntLL (x.store.boxes.map cBox)) + 1 + 1) (x.store.gone.map cZ)), .str x.journal, .int .i64 x.saved] := by
    simp only [cKept, V.tagL, V.tag, V.cnt, Nat.add_zero, (show n + 1 + (1 + V.cntLL (x.store.boxes.map cBox)) = n + (1 + V.cntLL (x.store.boxes.map cBox)) + 1 by omega)]
  have hl := tagL_labels (cKept x) (n + 1)
  rw [hX] at hl
  have q2 := fun r hr => own_Box x.store.boxes (n + 1) r hr
  have d2 := erase_tagd (es := V.tagLL (n + 1 + 1) (x.store.boxes.map cBox)) (n := n + 1 + 1) (by simp [zz, zf, zy]) (by simp [V.eraseLL, zz, zf, zy]) rfl (fun r hr => pl_Box (q2 r hr))
  have m2 := mnLL_erase (V.tagLL (n + 1 + 1) (x.store.boxes.map cBox))
  rw [show V.eraseLL (V.tagLL (n + 1 + 1) (x.store.boxes.map cBox)) = x.store.boxes.map cBox from d2.1] at m2
  have q3 := fun r hr => own_int x.store.gone (n + (1 + V.cntLL (x.store.boxes.map cBox)) + 1) r hr
  have d3 := erase_tagd (es := V.tagLL (n + (1 + V.cntLL (x.store.boxes.map cBox)) + 1 + 1) (x.store.gone.map cZ)) (n := n + (1 + V.cntLL (x.store.boxes.map cBox)) + 1 + 1) (by simp [zz, zf, zy]) (by simp [V.eraseLL, zz, zf, zy]) rfl (fun r hr => pl_int (q3 r hr))
  have m3 := mnLL_erase (V.tagLL (n + (1 + V.cntLL (x.store.boxes.map cBox)) + 1 + 1) (x.store.gone.map cZ))
  rw [show V.eraseLL (V.tagLL (n + (1 + V.cntLL (x.store.boxes.map cBox)) + 1 + 1) (x.store.gone.map cZ)) = x.store.gone.map cZ from d3.1] at m3
  refine ⟨n, _, n + (1 + V.cntLL (x.store.boxes.map cBox)), _, congrArg V.agg hX, q2, d2.1, d2.2, m2.symm, q3, d3.1, d3.2, m3.symm, ?_, ?_⟩
  · rw [hl]; exact List.nodup_range'
  · intro z hz; rw [hl, List.mem_range'_1] at hz; exact hz
theorem ownSession (n : Nat) (x : Session) : ∃ (L5 : Nat) (e5 : List (List V)), V.tag (n + 1) (.agg (cSession x)) = .agg [.str x.inn, .str x.out, .bool x.on, .bool x.over, .int .i64 x.box, .sl (L5 + 1) 1 0 e5] ∧ (∀ r ∈ e5, isInt r) ∧ V.travLL (fun sz => V.sl 0 sz 0 []) (fun _ sz _ es => V.sl 0 sz 0 es) (fun _ _ o e => V.ptr 0 0 o e) e5 = x.view.map cZ ∧ (∀ K, V.travLL (fun sz => V.sl 0 sz 0 []) (fun _ sz _ es => V.sl 0 sz 0 es) (fun _ _ o e => V.ptr 0 0 o e) (V.mkLL K e5) = V.mkLL K (x.view.map cZ)) ∧ V.mnLL e5 = V.mnLL (x.view.map cZ) ∧ (V.labelsL [.str x.inn, .str x.out, .bool x.on, .bool x.over, .int .i64 x.box, .sl (L5 + 1) 1 0 e5]).Nodup ∧ (∀ z ∈ V.labelsL [.str x.inn, .str x.out, .bool x.on, .bool x.over, .int .i64 x.box, .sl (L5 + 1) 1 0 e5], n + 1 ≤ z ∧ z < n + 1 + V.cnt (.agg (cSession x))) := by
  have hX : V.tagL (n + 1) (cSession x) = [.str x.inn, .str x.out, .bool x.on, .bool x.over, .int .i64 x.box, .sl (n + 1) 1 0 (V.tagLL (n + 1 + 1) (x.view.map cZ))] := by
    simp only [cSession, V.tagL, V.tag, V.cnt, Nat.add_zero]
  have hl := tagL_labels (cSession x) (n + 1)
  rw [hX] at hl
  have q5 := fun r hr => own_int x.view (n + 1) r hr
  have d5 := erase_tagd (es := V.tagLL (n + 1 + 1) (x.view.map cZ)) (n := n + 1 + 1) (by simp [zz, zf, zy]) (by simp [V.eraseLL, zz, zf, zy]) rfl (fun r hr => pl_int (q5 r hr))
  have m5 := mnLL_erase (V.tagLL (n + 1 + 1) (x.view.map cZ))
  rw [show V.eraseLL (V.tagLL (n + 1 + 1) (x.view.map cZ)) = x.view.map cZ from d5.1] at m5
  refine ⟨n, _, congrArg V.agg hX, q5, d5.1, d5.2, m5.symm, ?_, ?_⟩
  · rw [hl]; exact List.nodup_range'
  · intro z hz; rw [hl, List.mem_range'_1] at hz; exact hz
theorem ownServer (n : Nat) (x : Server) : ∃ (L2 : Nat) (e2 : List (List V)) (L3 : Nat) (e3 : List (List V)) (L11 : Nat) (e11 : List (List V)), V.tag (n + 1) (.agg (cServer x)) = .agg [.int .i64 x.kept.store.by_, .int .i64 x.kept.store.time, .sl (L2 + 1) 7 0 e2, .sl (L3 + 1) 1 0 e3, .str x.kept.journal, .int .i64 x.kept.saved, .str x.session.inn, .str x.session.out, .bool x.session.on, .bool x.session.over, .int .i64 x.session.box, .sl (L11 + 1) 1 0 e11, .bool x.up] ∧ (∀ r ∈ e2, isBox r) ∧ V.travLL (fun sz => V.sl 0 sz 0 []) (fun _ sz _ es => V.sl 0 sz 0 es) (fun _ _ o e => V.ptr 0 0 o e) e2 = x.kept.store.boxes.map cBox ∧ (∀ K, V.travLL (fun sz => V.sl 0 sz 0 []) (fun _ sz _ es => V.sl 0 sz 0 es) (fun _ _ o e => V.ptr 0 0 o e) (V.mkLL K e2) = V.mkLL K (x.kept.store.boxes.map cBox)) ∧ V.mnLL e2 = V.mnLL (x.kept.store.boxes.map cBox) ∧ (∀ r ∈ e3, isInt r) ∧ V.travLL (fun sz => V.sl 0 sz 0 []) (fun _ sz _ es => V.sl 0 sz 0 es) (fun _ _ o e => V.ptr 0 0 o e) e3 = x.kept.store.gone.map cZ ∧ (∀ K, V.travLL (fun sz => V.sl 0 sz 0 []) (fun _ sz _ es => V.sl 0 sz 0 es) (fun _ _ o e => V.ptr 0 0 o e) (V.mkLL K e3) = V.mkLL K (x.kept.store.gone.map cZ)) ∧ V.mnLL e3 = V.mnLL (x.kept.store.gone.map cZ) ∧ (∀ r ∈ e11, isInt r) ∧ V.travLL (fun sz => V.sl 0 sz 0 []) (fun _ sz _ es => V.sl 0 sz 0 es) (fun _ _ o e => V.ptr 0 0 o e) e11 = x.session.view.map cZ ∧ (∀ K, V.travLL (fun sz => V.sl 0 sz 0 []) (fun _ sz _ es => V.sl 0 sz 0 es) (fun _ _ o e => V.ptr 0 0 o e) (V.mkLL K e11) = V.mkLL K (x.session.view.map cZ)) ∧ V.mnLL e11 = V.mnLL (x.session.view.map cZ) ∧ (V.labelsL [.int .i64 x.kept.store.by_, .int .i64 x.kept.store.time, .sl (L2 + 1) 7 0 e2, .sl (L3 + 1) 1 0 e3, .str x.kept.journal, .int .i64 x.kept.saved, .str x.session.inn, .str x.session.out, .bool x.session.on, .bool x.session.over, .int .i64 x.session.box, .sl (L11 + 1) 1 0 e11, .bool x.up]).Nodup ∧ (∀ z ∈ V.labelsL [.int .i64 x.kept.store.by_, .int .i64 x.kept.store.time, .sl (L2 + 1) 7 0 e2, .sl (L3 + 1) 1 0 e3, .str x.kept.journal, .int .i64 x.kept.saved, .str x.session.inn, .str x.session.out, .bool x.session.on, .bool x.session.over, .int .i64 x.session.box, .sl (L11 + 1) 1 0 e11, .bool x.up], n + 1 ≤ z ∧ z < n + 1 + V.cnt (.agg (cServer x))) := by
  have hX : V.tagL (n + 1) (cServer x) = [.int .i64 x.kept.store.by_, .int .i64 x.kept.store.time, .sl (n + 1) 7 0 (V.tagLL (n + 1 + 1) (x.kept.store.boxes.map cBox)), .sl (n + (1 + V.cntLL (x.kept.store.boxes.map cBox)) + 1) 1 0 (V.tagLL (n + (1 + V.cntLL (x.kept.store.boxes.map cBox)) + 1 + 1) (x.kept.store.gone.map cZ)), .str x.kept.journal, .int .i64 x.kept.saved, .str x.session.inn, .str x.session.out, .bool x.session.on, .bool x.session.over, .int .i64 x.session.box, .sl (n + (1 + V.cntLL (x.kept.store.boxes.map cBox)) + (1 + V.cntLL (x.kept.store.gone.map cZ)) + 1) 1 0 (V.tagLL (n + (1 + V.cntLL (x.kept.store.boxes.map cBox)) + (1 + V.cntLL (x.kept.store.gone.map cZ)) + 1 + 1) (x.session.view.map cZ)), .bool x.up] := by
    simp only [cServer, V.tagL, V.tag, V.cnt, Nat.add_zero, (show n + 1 + (1 + V.cntLL (x.kept.store.boxes.map cBox)) = n + (1 + V.cntLL (x.kept.store.boxes.map cBox)) + 1 by omega), (show n + (1 + V.cntLL (x.kept.store.boxes.map cBox)) + 1 + (1 + V.cntLL (x.kept.store.gone.map cZ)) = n + (1 + V.cntLL (x.kept.store.boxes.map cBox)) + (1 + V.cntLL (x.kept.store.gone.map cZ)) + 1 by omega)]
  have hl := tagL_labels (cServer x) (n + 1)
  rw [hX] at hl
  have q2 := fun r hr => own_Box x.kept.store.boxes (n + 1) r hr
  have d2 := erase_tagd (es := V.tagLL (n + 1 + 1) (x.kept.store.boxes.map cBox)) (n := n + 1 + 1) (by simp [zz, zf, zy]) (by simp [V.eraseLL, zz, zf, zy]) rfl (fun r hr => pl_Box (q2 r hr))
  have m2 := mnLL_erase (V.tagLL (n + 1 + 1) (x.kept.store.boxes.map cBox))
  rw [show V.eraseLL (V.tagLL (n + 1 + 1) (x.kept.store.boxes.map cBox)) = x.kept.store.boxes.map cBox from d2.1] at m2
  have q3 := fun r hr => own_int x.kept.store.gone (n + (1 + V.cntLL (x.kept.store.boxes.map cBox)) + 1) r hr
  have d3 := erase_tagd (es := V.tagLL (n + (1 + V.cntLL (x.kept.store.boxes.map cBox)) + 1 + 1) (x.kept.store.gone.map cZ)) (n := n + (1 + V.cntLL (x.kept.store.boxes.map cBox)) + 1 + 1) (by simp [zz, zf, zy]) (by simp [V.eraseLL, zz, zf, zy]) rfl (fun r hr => pl_int (q3 r hr))
  have m3 := mnLL_erase (V.tagLL (n + (1 + V.cntLL (x.kept.store.boxes.map cBox)) + 1 + 1) (x.kept.store.gone.map cZ))
  rw [show V.eraseLL (V.tagLL (n + (1 + V.cntLL (x.kept.store.boxes.map cBox)) + 1 + 1) (x.kept.store.gone.map cZ)) = x.kept.store.gone.map cZ from d3.1] at m3
  have q11 := fun r hr => own_int x.session.view (n + (1 + V.cntLL (x.kept.store.boxes.map cBox)) + (1 + V.cntLL (x.kept.store.gone.map cZ)) + 1) r hr
  have d11 := erase_tagd (es := V.tagLL (n + (1 + V.cntLL (x.kept.store.boxes.map cBox)) + (1 + V.cntLL (x.kept.store.gone.map cZ)) + 1 + 1) (x.session.view.map cZ)) (n := n + (1 + V.cntLL (x.kept.store.boxes.map cBox)) + (1 + V.cntLL (x.kept.store.gone.map cZ)) + 1 + 1) (by simp [zz, zf, zy]) (by simp [V.eraseLL, zz, zf, zy]) rfl (fun r hr => pl_int (q11 r hr))
  have m11 := mnLL_erase (V.tagLL (n + (1 + V.cntLL (x.kept.store.boxes.map cBox)) + (1 + V.cntLL (x.kept.store.gone.map cZ)) + 1 + 1) (x.session.view.map cZ))
  rw [show V.eraseLL (V.tagLL (n + (1 + V.cntLL (x.kept.store.boxes.map cBox)) + (1 + V.cntLL (x.kept.store.gone.map cZ)) + 1 + 1) (x.session.view.map cZ)) = x.session.view.map cZ from d11.1] at m11
  refine ⟨n, _, n + (1 + V.cntLL (x.kept.store.boxes.map cBox)), _, n + (1 + V.cntLL (x.kept.store.boxes.map cBox)) + (1 + V.cntLL (x.kept.store.gone.map cZ)), _, congrArg V.agg hX, q2, d2.1, d2.2, m2.symm, q3, d3.1, d3.2, m3.symm, q11, d11.1, d11.2, m11.symm, ?_, ?_⟩
  · rw [hl]; exact List.nodup_range'
  · intro z hz; rw [hl, List.mem_range'_1] at hz; exact hz
theorem ownSInt (n : Nat) (xs : List Int) : ∃ (L0 : Nat) (e0 : List (List V)), V.tag (n + 1) (.sl 0 1 0 (xs.map cZ)) = .sl (L0 + 1) 1 0 e0 ∧ (∀ r ∈ e0, isInt r) ∧ V.travLL (fun sz => V.sl 0 sz 0 []) (fun _ sz _ es => V.sl 0 sz 0 es) (fun _ _ o e => V.ptr 0 0 o e) e0 = xs.map cZ ∧ (∀ K, V.travLL (fun sz => V.sl 0 sz 0 []) (fun _ sz _ es => V.sl 0 sz 0 es) (fun _ _ o e => V.ptr 0 0 o e) (V.mkLL K e0) = V.mkLL K (xs.map cZ)) ∧ V.mnLL e0 = V.mnLL (xs.map cZ) ∧ (V.labels (.sl (L0 + 1) 1 0 e0)).Nodup ∧ (∀ z ∈ V.labels (.sl (L0 + 1) 1 0 e0), n + 1 ≤ z ∧ z < n + 1 + V.cnt (.sl 0 1 0 (xs.map cZ))) := by
  have hl := tag_labels (.sl 0 1 0 (xs.map cZ)) (n + 1)
  have q0 := fun r hr => own_int xs (n + 1) r hr
  have d0 := erase_tagd (es := V.tagLL (n + 1 + 1) (xs.map cZ)) (n := n + 1 + 1) (by simp [zz, zf, zy]) (by simp [V.eraseLL, zz, zf, zy]) rfl (fun r hr => pl_int (q0 r hr))
  have m0 := mnLL_erase (V.tagLL (n + 1 + 1) (xs.map cZ))
  rw [show V.eraseLL (V.tagLL (n + 1 + 1) (xs.map cZ)) = xs.map cZ from d0.1] at m0
  refine ⟨n, _, rfl, q0, d0.1, d0.2, m0.symm, ?_, ?_⟩
  · exact (show (V.labels (V.tag (n + 1) (.sl 0 1 0 (xs.map cZ)))).Nodup by rw [hl]; exact List.nodup_range')
  · intro z hz; have hz2 : z ∈ V.labels (V.tag (n + 1) (.sl 0 1 0 (xs.map cZ))) := hz; rw [hl, List.mem_range'_1] at hz2; exact hz2
theorem ownSReg (n : Nat) (xs : List Reg) : ∃ (L0 : Nat) (e0 : List (List V)), V.tag (n + 1) (.sl 0 3 0 (xs.map cReg)) = .sl (L0 + 1) 3 0 e0 ∧ (∀ r ∈ e0, isReg r) ∧ V.travLL (fun sz => V.sl 0 sz 0 []) (fun _ sz _ es => V.sl 0 sz 0 es) (fun _ _ o e => V.ptr 0 0 o e) e0 = xs.map cReg ∧ (∀ K, V.travLL (fun sz => V.sl 0 sz 0 []) (fun _ sz _ es => V.sl 0 sz 0 es) (fun _ _ o e => V.ptr 0 0 o e) (V.mkLL K e0) = V.mkLL K (xs.map cReg)) ∧ V.mnLL e0 = V.mnLL (xs.map cReg) ∧ (V.labels (.sl (L0 + 1) 3 0 e0)).Nodup ∧ (∀ z ∈ V.labels (.sl (L0 + 1) 3 0 e0), n + 1 ≤ z ∧ z < n + 1 + V.cnt (.sl 0 3 0 (xs.map cReg))) := by
  have hl := tag_labels (.sl 0 3 0 (xs.map cReg)) (n + 1)
  have q0 := fun r hr => own_Reg xs (n + 1) r hr
  have d0 := erase_tagd (es := V.tagLL (n + 1 + 1) (xs.map cReg)) (n := n + 1 + 1) (by simp [zz, zf, zy]) (by simp [V.eraseLL, zz, zf, zy]) rfl (fun r hr => pl_Reg (q0 r hr))
  have m0 := mnLL_erase (V.tagLL (n + 1 + 1) (xs.map cReg))
  rw [show V.eraseLL (V.tagLL (n + 1 + 1) (xs.map cReg)) = xs.map cReg from d0.1] at m0
  refine ⟨n, _, rfl, q0, d0.1, d0.2, m0.symm, ?_, ?_⟩
  · exact (show (V.labels (V.tag (n + 1) (.sl 0 3 0 (xs.map cReg)))).Nodup by rw [hl]; exact List.nodup_range')
  · intro z hz; have hz2 : z ∈ V.labels (V.tag (n + 1) (.sl 0 3 0 (xs.map cReg))) := hz; rw [hl, List.mem_range'_1] at hz2; exact hz2
theorem ownSMail (n : Nat) (xs : List Mail) : ∃ (L0 : Nat) (e0 : List (List V)), V.tag (n + 1) (.sl 0 4 0 (xs.map cMail)) = .sl (L0 + 1) 4 0 e0 ∧ (∀ r ∈ e0, isMail r) ∧ V.travLL (fun sz => V.sl 0 sz 0 []) (fun _ sz _ es => V.sl 0 sz 0 es) (fun _ _ o e => V.ptr 0 0 o e) e0 = xs.map cMail ∧ (∀ K, V.travLL (fun sz => V.sl 0 sz 0 []) (fun _ sz _ es => V.sl 0 sz 0 es) (fun _ _ o e => V.ptr 0 0 o e) (V.mkLL K e0) = V.mkLL K (xs.map cMail)) ∧ V.mnLL e0 = V.mnLL (xs.map cMail) ∧ (V.labels (.sl (L0 + 1) 4 0 e0)).Nodup ∧ (∀ z ∈ V.labels (.sl (L0 + 1) 4 0 e0), n + 1 ≤ z ∧ z < n + 1 + V.cnt (.sl 0 4 0 (xs.map cMail))) := by
  have hl := tag_labels (.sl 0 4 0 (xs.map cMail)) (n + 1)
  have q0 := fun r hr => own_Mail xs (n + 1) r hr
  have d0 := erase_tagd (es := V.tagLL (n + 1 + 1) (xs.map cMail)) (n := n + 1 + 1) (by simp [zz, zf, zy]) (by simp [V.eraseLL, zz, zf, zy]) rfl (fun r hr => pl_Mail (q0 r hr))
  have m0 := mnLL_erase (V.tagLL (n + 1 + 1) (xs.map cMail))
  rw [show V.eraseLL (V.tagLL (n + 1 + 1) (xs.map cMail)) = xs.map cMail from d0.1] at m0
  refine ⟨n, _, rfl, q0, d0.1, d0.2, m0.symm, ?_, ?_⟩
  · exact (show (V.labels (V.tag (n + 1) (.sl 0 4 0 (xs.map cMail)))).Nodup by rw [hl]; exact List.nodup_range')
  · intro z hz; have hz2 : z ∈ V.labels (V.tag (n + 1) (.sl 0 4 0 (xs.map cMail))) := hz; rw [hl, List.mem_range'_1] at hz2; exact hz2
theorem ownSBox (n : Nat) (xs : List Box) : ∃ (L0 : Nat) (e0 : List (List V)), V.tag (n + 1) (.sl 0 7 0 (xs.map cBox)) = .sl (L0 + 1) 7 0 e0 ∧ (∀ r ∈ e0, isBox r) ∧ V.travLL (fun sz => V.sl 0 sz 0 []) (fun _ sz _ es => V.sl 0 sz 0 es) (fun _ _ o e => V.ptr 0 0 o e) e0 = xs.map cBox ∧ (∀ K, V.travLL (fun sz => V.sl 0 sz 0 []) (fun _ sz _ es => V.sl 0 sz 0 es) (fun _ _ o e => V.ptr 0 0 o e) (V.mkLL K e0) = V.mkLL K (xs.map cBox)) ∧ V.mnLL e0 = V.mnLL (xs.map cBox) ∧ (V.labels (.sl (L0 + 1) 7 0 e0)).Nodup ∧ (∀ z ∈ V.labels (.sl (L0 + 1) 7 0 e0), n + 1 ≤ z ∧ z < n + 1 + V.cnt (.sl 0 7 0 (xs.map cBox))) := by
  have hl := tag_labels (.sl 0 7 0 (xs.map cBox)) (n + 1)
  have q0 := fun r hr => own_Box xs (n + 1) r hr
  have d0 := erase_tagd (es := V.tagLL (n + 1 + 1) (xs.map cBox)) (n := n + 1 + 1) (by simp [zz, zf, zy]) (by simp [V.eraseLL, zz, zf, zy]) rfl (fun r hr => pl_Box (q0 r hr))
  have m0 := mnLL_erase (V.tagLL (n + 1 + 1) (xs.map cBox))
  rw [show V.eraseLL (V.tagLL (n + 1 + 1) (xs.map cBox)) = xs.map cBox from d0.1] at m0
  refine ⟨n, _, rfl, q0, d0.1, d0.2, m0.symm, ?_, ?_⟩
  · exact (show (V.labels (V.tag (n + 1) (.sl 0 7 0 (xs.map cBox)))).Nodup by rw [hl]; exact List.nodup_range')
  · intro z hz; have hz2 : z ∈ V.labels (V.tag (n + 1) (.sl 0 7 0 (xs.map cBox))) := hz; rw [hl, List.mem_range'_1] at hz2; exact hz2
end Go.Proofs.Ytjhfabimacljhaa.K
