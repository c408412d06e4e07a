/- Data of the call's own. Printed by genown.py. -/
import Derived.Test.YtjhfabimacljhaaYn
namespace Go.Proofs.Ytjhfabimacljhaa.K
open Go Go.RowKit
set_option linter.unusedVariables false
set_option linter.unusedSimpArgs false
theorem plLL_of : ∀ (es : List (List V)), (∀ r ∈ es, V.plL r = true) → V.plLL es = true
  | [], _ => rfl
  | x :: es, h => by
    simp only [V.plLL, h x (List.mem_cons_self ..), plLL_of es fun r hr => h r (List.mem_cons_of_mem _ hr), Bool.and_self]
theorem erase_tagd {es d : List (List V)} {n : Nat} (hd : V.datLL d = true) (he : V.eraseLL d = d) (h : es = V.tagLL n d) (hp : ∀ r ∈ es, V.plL r = true) : V.travLL (fun sz => V.sl 0 sz 0 []) (fun _ sz _ es => V.sl 0 sz 0 es) (fun _ _ o e => V.ptr 0 0 o e) es = d ∧ ∀ K, V.travLL (fun sz => V.sl 0 sz 0 []) (fun _ sz _ es => V.sl 0 sz 0 es) (fun _ _ o e => V.ptr 0 0 o e) (V.mkLL K es) = V.mkLL K d := by
  have e1 : V.eraseLL es = d := by rw [h, tagLL_erase _ _ hd, he]
  exact ⟨e1, fun K => by show V.eraseLL _ = _; rw [mkLL_erase es K (plLL_of es hp), e1]⟩
section
variable {P : Program} {ti : Tab} {t t' : List V} {n n' : Nat} {Q : Exit → List V → List V → Nat → Prop} {ops : Array Oper} {o : Oper} {l : List Oper}
theorem OkOps.turnN {fx : Operand} {args : Array Operand} {ts : Array TypeId} {f : FuncId} {caps ag : List V} {a a' R : V} {A : Nat → Prop} (c : Nat) (hg : o.guard = none) (ho : o.op = .call ⟨.value fx, args, ts⟩) (hf : opnd t fx = .fn f caps) (ha : args.toList.map (opnd t) ++ caps = ag)
    (hcl : Callable P f) (hc : ∀ h, OkCall P f ag h n (MarkQ A a a' R h (n + c))) (hn : n + c = n') (ht : ∀ W, Hom W A → W a = a' → putV (t.map W) o.dst R = t')
    (hk : OkOps P ops l t' [] n' Q) : OkOps P ops (o :: l) t [] n Q :=
  OkOps.turnU (h0 := []) (U0 := id) (v0 := .any) (x := .any) (x' := .any) c hg ho hf ha hcl hc hn (Hom.id' A) rfl (fun _ h => h) (fun W hW _ => hW.any) ht (fun _ _ _ => hk)
theorem OkOps.storeN {T : TypeId} {p q : Operand} {L j : Nat} {e' : List V} (hti : TabOk P ti) (hg : o.guard = none) (ho : o.op = .store T p q) (hs : Go.Proofs.Ytjhfabimacljhaa.K.storeE (ti T) (opnd t p) (opnd t q) = some (L, j, e')) (hc : ∃ y l, cellsV (opnd t q) = y :: l) (hfree : L ∉ V.labelsL e')
    (ht : ∀ W, Hom W (· = L) → StoreF W L j e' → putV (t.map W) o.dst .any = t') (hk : OkOps P ops l t' [] n Q) : OkOps P ops (o :: l) t [] n Q :=
  OkOps.storeU (h0 := []) (U0 := id) (v0 := .any) (x := .any) (x' := .any) (B := (· = L)) hti hg ho hs hc hfree (Hom.id' _) rfl rfl (fun W hW _ => hW.any) ht (fun _ _ _ => hk)
end
theorem pl_int {c : List V} (h : isInt c) : V.plL c = true := by
  obtain ⟨v0, rfl⟩ := h
  simp only [V.plL, V.pl, Bool.and_true, Bool.true_and, beq_self_eq_true]
theorem own_int : ∀ (xs : List Int) (n : Nat), ∀ r ∈ V.tagLL (n + 1) (xs.map cZ), isInt r
  | [], n, r, hr => by cases hr
  | x :: xs, n, r, hr => by
    rw [List.map_cons] at hr
    rcases List.mem_cons.1 (show r ∈ V.tagL (n + 1) (cZ x) :: V.tagLL (n + 1 + V.cntL (cZ x)) (xs.map cZ) from hr) with rfl | hr
    · refine ⟨x, ?_⟩
      simp only [cZ, V.tagL, V.tag, V.cnt, Nat.add_zero]
    · rw [show n + 1 + V.cntL (cZ x) = (n + V.cntL (cZ x)) + 1 by omega] at hr; exact own_int xs _ r hr
theorem pl_string {c : List V} (h : isText c) : V.plL c = true := by
  obtain ⟨v0, rfl⟩ := h
  simp only [V.plL, V.pl, Bool.and_true, Bool.true_and, beq_self_eq_true]
theorem own_string : ∀ (xs : List Str) (n : Nat), ∀ r ∈ V.tagLL (n + 1) (xs.map cS), isText r
  | [], n, r, hr => by cases hr
  | x :: xs, n, r, hr => by
    rw [List.map_cons] at hr
    rcases List.mem_cons.1 (show r ∈ V.tagL (n + 1) (cS x) :: V.tagLL (n + 1 + V.cntL (cS x)) (xs.map cS) from hr) with rfl | hr
    · refine ⟨x, ?_⟩
      simp only [cS, V.tagL, V.tag, V.cnt, Nat.add_zero]
    · rw [show n + 1 + V.cntL (cS x) = (n + V.cntL (cS x)) + 1 by omega] at hr; exact own_string xs _ r hr
theorem pl_Reg {c : List V} (h : isReg c) : V.plL c = true := by
  obtain ⟨v0, v1, v2, rfl⟩ := h
  simp only [V.plL, V.pl, Bool.and_true, Bool.true_and, beq_self_eq_true]
theorem own_Reg : ∀ (xs : List Reg) (n : Nat), ∀ r ∈ V.tagLL (n + 1) (xs.map cReg), isReg r
  | [], n, r, hr => by cases hr
  | x :: xs, n, r, hr => by
    rw [List.map_cons] at hr
    rcases List.mem_cons.1 (show r ∈ V.tagL (n + 1) (cReg x) :: V.tagLL (n + 1 + V.cntL (cReg x)) (xs.map cReg) from hr) with rfl | hr
    · refine ⟨x.val, x.stamp.time, x.stamp.by_, ?_⟩
      simp only [cReg, V.tagL, V.tag, V.cnt, Nat.add_zero]
    · rw [show n + 1 + V.cntL (cReg x) = (n + V.cntL (cReg x)) + 1 by omega] at hr; exact own_Reg xs _ r hr
theorem pl_Mail {c : List V} (h : isMail c) : V.plL c = true := by
  obtain ⟨v0, v1, L2, e2, v3, rfl, q2⟩ := h
  have h2 := plLL_of e2 fun r hr => pl_Reg (q2 r hr)
  simp only [V.plL, V.pl, Bool.and_true, Bool.true_and, beq_self_eq_true, h2]
theorem own_Mail : ∀ (xs : List Mail) (n : Nat), ∀ r ∈ V.tagLL (n + 1) (xs.map cMail), isMail r
  | [], n, r, hr => by cases hr
  | x :: xs, n, r, hr => by
    rw [List.map_cons] at hr
    rcases List.mem_cons.1 (show r ∈ V.tagL (n + 1) (cMail x) :: V.tagLL (n + 1 + V.cntL (cMail x)) (xs.map cMail) from hr) with rfl | hr
    · refine ⟨x.gid, x.uid, n, V.tagLL (n + 1 + 1) (x.flags.map cReg), x.text, ?_, fun r hr => own_Reg x.flags (n + 1) r hr⟩
      simp only [cMail, V.tagL, V.tag, V.cnt, Nat.add_zero]
    · rw [show n + 1 + V.cntL (cMail x) = (n + V.cntL (cMail x)) + 1 by omega] at hr; exact own_Mail xs _ r hr
theorem pl_Box {c : List V} (h : isBox c) : V.plL c = true := by
  obtain ⟨v0, v1, v2, v3, v4, L5, e5, L6, e6, rfl, q5, q6⟩ := h
  have h5 := plLL_of e5 fun r hr => pl_Mail (q5 r hr)
  have h6 := plLL_of e6 fun r hr => pl_int (q6 r hr)
  simp only [V.plL, V.pl, Bool.and_true, Bool.true_and, beq_self_eq_true, h5, h6]
theorem own_Box : ∀ (xs : List Box) (n : Nat), ∀ r ∈ V.tagLL (n + 1) (xs.map cBox), isBox r
  | [], n, r, hr => by cases hr
  | x :: xs, n, r, hr => by
    rw [List.map_cons] at hr
    rcases List.mem_cons.1 (show r ∈ V.tagL (n + 1) (cBox x) :: V.tagLL (n + 1 + V.cntL (cBox x)) (xs.map cBox) from hr) with rfl | hr
    · refine ⟨x.gid, x.name, x.named.time, x.named.by_, x.next, n, V.tagLL (n + 1 + 1) (x.mails.map cMail), n + (1 + V.cntLL (x.mails.map cMail)), V.tagLL (n + (1 + V.cntLL (x.mails.map cMail)) + 1 + 1) (x.gone.map cZ), ?_, fun r hr => own_Mail x.mails (n + 1) r hr, fun r hr => own_int x.gone (n + (1 + V.cntLL (x.mails.map cMail)) + 1) r hr⟩
      simp only [cBox, V.tagL, V.tag, V.cnt, Nat.add_zero, (show n + 1 + (1 + V.cntLL (x.mails.map cMail)) = n + (1 + V.cntLL (x.mails.map cMail)) + 1 by omega)]
    · rw [show n + 1 + V.cntL (cBox x) = (n + V.cntL (cBox x)) + 1 by omega] at hr; exact own_Box xs _ r hr
theorem pl_Server {c : List V} (h : isServer c) : V.plL c = true := by
  obtain ⟨v0, v1, L2, e2, L3, e3, v4, v5, v6, v7, v8, v9, v10, L11, e11, v12, rfl, q2, q3, q11⟩ := h
  have h2 := plLL_of e2 fun r hr => pl_Box (q2 r hr)
  have h3 := plLL_of e3 fun r hr => pl_int (q3 r hr)
  have h11 := plLL_of e11 fun r hr => pl_int (q11 r hr)
  simp only [V.plL, V.pl, Bool.and_true, Bool.true_and, beq_self_eq_true, h2, h3, h11]
theorem own_Server : ∀ (xs : List Server) (n : Nat), ∀ r ∈ V.tagLL (n + 1) (xs.map cServer), isServer r
  | [], n, r, hr => by cases hr
  | x :: xs, n, r, hr => by
    rw [List.map_cons] at hr
    rcases List.mem_cons.1 (show r ∈ V.tagL (n + 1) (cServer x) :: V.tagLL (n + 1 + V.cntL (cServer x)) (xs.map cServer) from hr) with rfl | hr
    · refine ⟨x.kept.store.by_, x.kept.store.time, n, V.tagLL (n + 1 + 1) (x.kept.store.boxes.map cBox), n + (1 + V.cntLL (x.kept.store.boxes.map cBox)), V.tagLL (n + (1 + V.cntLL (x.kept.store.boxes.map cBox)) + 1 + 1) (x.kept.store.gone.map cZ), x.kept.journal, x.kept.saved, x.session.inn, x.session.out, x.session.on, x.session.over, x.session.box, n + (1 + V.cntLL (x.kept.store.boxes.map cBox)) + (1 + V.cntLL (x.kept.store.gone.map cZ)), V.tagLL (n + (1 + V.cntLL (x.kept.store.boxes.map cBox)) + (1 + V.cntLL (x.kept.store.gone.map cZ)) + 1 + 1) (x.session.view.map cZ), x.up, ?_, fun r hr => own_Box x.kept.store.boxes (n + 1) r hr, fun r hr => own_int x.kept.store.gone (n + (1 + V.cntLL (x.kept.store.boxes.map cBox)) + 1) r hr, fun r hr => own_int x.session.view (n + (1 + V.cntLL (x.kept.store.boxes.map cBox)) + (1 + V.cntLL (x.kept.store.gone.map cZ)) + 1) r hr⟩
      simp only [cServer, V.tagL, V.tag, V.cnt, Nat.add_zero, (show n + 1 + (1 + V.cntLL (x.kept.store.boxes.map cBox)) = n + (1 + V.cntLL (x.kept.store.boxes.map cBox)) + 1 by omega), (show n + (1 + V.cntLL (x.kept.store.boxes.map cBox)) + 1 + (1 + V.cntLL (x.kept.store.gone.map cZ)) = n + (1 + V.cntLL (x.kept.store.boxes.map cBox)) + (1 + V.cntLL (x.kept.store.gone.map cZ)) + 1 by omega)]
    · rw [show n + 1 + V.cntL (cServer x) = (n + V.cntL (cServer x)) + 1 by omega] at hr; exact own_Server xs _ r hr
theorem pl_Sync {c : List V} (h : isSync c) : V.plL c = true := by
  obtain ⟨v0, v1, L2, e2, v3, v4, v5, L6, e6, v7, v8, rfl, q2, q6⟩ := h
  have h2 := plLL_of e2 fun r hr => pl_string (q2 r hr)
  have h6 := plLL_of e6 fun r hr => pl_string (q6 r hr)
  simp only [V.plL, V.pl, Bool.and_true, Bool.true_and, beq_self_eq_true, h2, h6]
theorem own_Sync : ∀ (xs : List Sync) (n : Nat), ∀ r ∈ V.tagLL (n + 1) (xs.map cSync), isSync r
  | [], n, r, hr => by cases hr
  | x :: xs, n, r, hr => by
    rw [List.map_cons] at hr
    rcases List.mem_cons.1 (show r ∈ V.tagL (n + 1) (cSync x) :: V.tagLL (n + 1 + V.cntL (cSync x)) (xs.map cSync) from hr) with rfl | hr
    · refine ⟨x.epoch, x.link.epoch, n, V.tagLL (n + 1 + 1) (x.link.way.map cS), x.link.next, x.link.want, x.total, n + (1 + V.cntLL (x.link.way.map cS)), V.tagLL (n + (1 + V.cntLL (x.link.way.map cS)) + 1 + 1) (x.pieces.map cS), x.done, x.failed, ?_, fun r hr => own_string x.link.way (n + 1) r hr, fun r hr => own_string x.pieces (n + (1 + V.cntLL (x.link.way.map cS)) + 1) r hr⟩
      simp only [cSync, V.tagL, V.tag, V.cnt, Nat.add_zero, (show n + 1 + (1 + V.cntLL (x.link.way.map cS)) = n + (1 + V.cntLL (x.link.way.map cS)) + 1 by omega)]
    · rw [show n + 1 + V.cntL (cSync x) = (n + V.cntL (cSync x)) + 1 by omega] at hr; exact own_Sync xs _ r hr
theorem pl_Letter {c : List V} (h : isLetter c) : V.plL c = true := by
  obtain ⟨v0, v1, rfl⟩ := h
  simp only [V.plL, V.pl, Bool.and_true, Bool.true_and, beq_self_eq_true]
theorem own_Letter : ∀ (xs : List Letter) (n : Nat), ∀ r ∈ V.tagLL (n + 1) (xs.map cLetter), isLetter r
  | [], n, r, hr => by cases hr
  | x :: xs, n, r, hr => by
    rw [List.map_cons] at hr
    rcases List.mem_cons.1 (show r ∈ V.tagL (n + 1) (cLetter x) :: V.tagLL (n + 1 + V.cntL (cLetter x)) (xs.map cLetter) from hr) with rfl | hr
    · refine ⟨x.to_, x.text, ?_⟩
      simp only [cLetter, V.tagL, V.tag, V.cnt, Nat.add_zero]
    · rw [show n + 1 + V.cntL (cLetter x) = (n + V.cntL (cLetter x)) + 1 by omega] at hr; exact own_Letter xs _ r hr
theorem ownStore (n : Nat) (x : Store) : ∃ (L2 : Nat) (e2 : List (List V)) (L3 : Nat) (e3 : List (List V)), V.tag (n + 1) (.agg (cStore x)) = .agg [.int .i64 x.by_, .int .i64 x.time, .sl (L2 + 1) 7 0 e2, .sl (L3 + 1) 1 0 e3] ∧ (∀ r ∈ e2, isBox r) ∧ V.travLL (fun sz => V.sl 0 sz 0 []) (fun _ sz _ es => V.sl 0 sz 0 es) (fun _ _ o e => V.ptr 0 0 o e) e2 = x.boxes.map cBox ∧ (∀ K, V.travLL (fun sz => V.sl 0 sz 0 []) (fun _ sz _ es => V.sl 0 sz 0 es) (fun _ _ o e => V.ptr 0 0 o e) (V.mkLL K e2) = V.mkLL K (x.boxes.map cBox)) ∧ V.mnLL e2 = V.mnLL (x.boxes.map cBox) ∧ (∀ r ∈ e3, isInt r) ∧ V.travLL (fun sz => V.sl 0 sz 0 []) (fun _ sz _ es => V.sl 0 sz 0 es) (fun _ _ o e => V.ptr 0 0 o e) e3 = x.gone.map cZ ∧ (∀ K, V.travLL (fun sz => V.sl 0 sz 0 []) (fun _ sz _ es => V.sl 0 sz 0 es) (fun _ _ o e => V.ptr 0 0 o e) (V.mkLL K e3) = V.mkLL K (x.gone.map cZ)) ∧ V.mnLL e3 = V.mnLL (x.gone.map cZ) ∧ (V.labelsL [.int .i64 x.by_, .int .i64 x.time, .sl (L2 + 1) 7 0 e2, .sl (L3 + 1) 1 0 e3]).Nodup ∧ (∀ z ∈ V.labelsL [.int .i64 x.by_, .int .i64 x.time, .sl (L2 + 1) 7 0 e2, .sl (L3 + 1) 1 0 e3], n + 1 ≤ z ∧ z < n + 1 + V.cnt (.agg (cStore x))) := by
  have hX : V.tagL (n + 1) (cStore x) = [.int .i64 x.by_, .int .i64 x.time, .sl (n + 1) 7 0 (V.tagLL (n + 1 + 1) (x.boxes.map cBox)), .sl (n + (1 + V.cntLL (x.boxes.map cBox)) + 1) 1 0 (V.tagLL (n + (1 + V.cntLL (x.boxes.map cBox)) + 1 + 1) (x.gone.map cZ))] := by
    simp only [cStore, V.tagL, V.tag, V.cnt, Nat.add_zero, (show n + 1 + (1 + V.cntLL (x.boxes.map cBox)) = n + (1 + V.cntLL (x.boxes.map cBox)) + 1 by omega)]
  have hl := tagL_labels (cStore x) (n + 1)
  rw [hX] at hl
  have q2 := fun r hr => own_Box x.boxes (n + 1) r hr
  have d2 := erase_tagd (es := V.tagLL (n + 1 + 1) (x.boxes.map cBox)) (n := n + 1 + 1) (by simp [zz, zf, zy]) (by simp [V.eraseLL, zz, zf, zy]) rfl (fun r hr => pl_Box (q2 r hr))
  have m2 := mnLL_erase (V.tagLL (n + 1 + 1) (x.boxes.map cBox))
  rw [show V.eraseLL (V.tagLL (n + 1 + 1) (x.boxes.map cBox)) = x.boxes.map cBox from d2.1] at m2
  have q3 := fun r hr => own_int x.gone (n + (1 + V.cntLL (x.boxes.map cBox)) + 1) r hr
  have d3 := erase_tagd (es := V.tagLL (n + (1 + V.cntLL (x.boxes.map cBox)) + 1 + 1) (x.gone.map cZ)) (n := n + (1 + V.cntLL (x.boxes.map cBox)) + 1 + 1) (by simp [zz, zf, zy]) (by simp [V.eraseLL, zz, zf, zy]) rfl (fun r hr => pl_int (q3 r hr))
  have m3 := mnLL_erase (V.tagLL (n + (1 + V.cntLL (x.boxes.map cBox)) + 1 + 1) (x.gone.map cZ))
  rw [show V.eraseLL (V.tagLL (n + (1 + V.cntLL (x.boxes.map cBox)) + 1 + 1) (x.gone.map cZ)) = x.gone.map cZ from d3.1] at m3
  refine ⟨n, _, n + (1 + V.cntLL (x.boxes.map cBox)), _, congrArg V.agg hX, q2, d2.1, d2.2, m2.symm, q3, d3.1, d3.2, m3.symm, ?_, ?_⟩
  · rw [hl]; exact List.nodup_range'
  · intro z hz; rw [hl, List.mem_range'_1] at hz; exact hz
theorem ownKept (n : Nat) (x : Kept) : ∃ (L2 : Nat) (e2 : List (List V)) (L3 : Nat) (e3 : List (List V)), V.tag (n + 1) (.agg (cKept x)) = .agg [.int .i64 x.store.by_, .int .i64 x.store.time, .sl (L2 + 1) 7 0 e2, .sl (L3 + 1) 1 0 e3, .str x.journal, .int .i64 x.saved] ∧ (∀ r ∈ e2, isBox r) ∧ V.travLL (fun sz => V.sl 0 sz 0 []) (fun _ sz _ es => V.sl 0 sz 0 es) (fun _ _ o e => V.ptr 0 0 o e) e2 = x.store.boxes.map cBox ∧ (∀ K, V.travLL (fun sz => V.sl 0 sz 0 []) (fun _ sz _ es => V.sl 0 sz 0 es) (fun _ _ o e => V.ptr 0 0 o e) (V.mkLL K e2) = V.mkLL K (x.store.boxes.map cBox)) ∧ V.mnLL e2 = V.mnLL (x.store.boxes.map cBox) ∧ (∀ r ∈ e3, isInt r) ∧ V.travLL (fun sz => V.sl 0 sz 0 []) (fun _ sz _ es => V.sl 0 sz 0 es) (fun _ _ o e => V.ptr 0 0 o e) e3 = x.store.gone.map cZ ∧ (∀ K, V.travLL (fun sz => V.sl 0 sz 0 []) (fun _ sz _ es => V.sl 0 sz 0 es) (fun _ _ o e => V.ptr 0 0 o e) (V.mkLL K e3) = V.mkLL K (x.store.gone.map cZ)) ∧ V.mnLL e3 = V.mnLL (x.store.gone.map cZ) ∧ (V.labelsL [.int .i64 x.store.by_, .int .i64 x.store.time, .sl (L2 + 1) 7 0 e2, .sl (L3 + 1) 1 0 e3, .str x.journal, .int .i64 x.saved]).Nodup ∧ (∀ z ∈ V.labelsL [.int .i64 x.store.by_, .int .i64 x.store.time, .sl (L2 + 1) 7 0 e2, .sl (L3 + 1) 1 0 e3, .str x.journal, .int .i64 x.saved], n + 1 ≤ z ∧ z < n + 1 + V.cnt (.agg (cKept x))) := by
  have hX : V.tagL (n + 1) (cKept x) = [.int .i64 x.store.by_, .int .i64 x.store.time, .sl (n + 1) 7 0 (V.tagLL (n + 1 + 1) (x.store.boxes.map cBox)), .sl (n + (1 + V.cntLL (x.store.boxes.map cBox)) + 1) 1 0 (V.tagLL (n + (1 + V.cntLL (x.store.boxes.map cBox)) + 1 + 1) (x.store.gone.map cZ)), .str x.journal, .int .i64 x.saved] := by
    simp only [cKept, V.tagL, V.tag, V.cnt, Nat.add_zero, (show n + 1 + (1 + V.cntLL (x.store.boxes.map cBox)) = n + (1 + V.cntLL (x.store.boxes.map cBox)) + 1 by omega)]
  have hl := tagL_labels (cKept x) (n + 1)
  rw [hX] at hl
  have q2 := fun r hr => own_Box x.store.boxes (n + 1) r hr
  have d2 := erase_tagd (es := V.tagLL (n + 1 + 1) (x.store.boxes.map cBox)) (n := n + 1 + 1) (by simp [zz, zf, zy]) (by simp [V.eraseLL, zz, zf, zy]) rfl (fun r hr => pl_Box (q2 r hr))
  have m2 := mnLL_erase (V.tagLL (n + 1 + 1) (x.store.boxes.map cBox))
  rw [show V.eraseLL (V.tagLL (n + 1 + 1) (x.store.boxes.map cBox)) = x.store.boxes.map cBox from d2.1] at m2
  have q3 := fun r hr => own_int x.store.gone (n + (1 + V.cntLL (x.store.boxes.map cBox)) + 1) r hr
  have d3 := erase_tagd (es := V.tagLL (n + (1 + V.cntLL (x.store.boxes.map cBox)) + 1 + 1) (x.store.gone.map cZ)) (n := n + (1 + V.cntLL (x.store.boxes.map cBox)) + 1 + 1) (by simp [zz, zf, zy]) (by simp [V.eraseLL, zz, zf, zy]) rfl (fun r hr => pl_int (q3 r hr))
  have m3 := mnLL_erase (V.tagLL (n + (1 + V.cntLL (x.store.boxes.map cBox)) + 1 + 1) (x.store.gone.map cZ))
  rw [show V.eraseLL (V.tagLL (n + (1 + V.cntLL (x.store.boxes.map cBox)) + 1 + 1) (x.store.gone.map cZ)) = x.store.gone.map cZ from d3.1] at m3
  refine ⟨n, _, n + (1 + V.cntLL (x.store.boxes.map cBox)), _, congrArg V.agg hX, q2, d2.1, d2.2, m2.symm, q3, d3.1, d3.2, m3.symm, ?_, ?_⟩
  · rw [hl]; exact List.nodup_range'
  · intro z hz; rw [hl, List.mem_range'_1] at hz; exact hz
theorem ownSession (n : Nat) (x : Session) : ∃ (L5 : Nat) (e5 : List (List V)), V.tag (n + 1) (.agg (cSession x)) = .agg [.str x.inn, .str x.out, .bool x.on, .bool x.over, .int .i64 x.box, .sl (L5 + 1) 1 0 e5] ∧ (∀ r ∈ e5, isInt r) ∧ V.travLL (fun sz => V.sl 0 sz 0 []) (fun _ sz _ es => V.sl 0 sz 0 es) (fun _ _ o e => V.ptr 0 0 o e) e5 = x.view.map cZ ∧ (∀ K, V.travLL (fun sz => V.sl 0 sz 0 []) (fun _ sz _ es => V.sl 0 sz 0 es) (fun _ _ o e => V.ptr 0 0 o e) (V.mkLL K e5) = V.mkLL K (x.view.map cZ)) ∧ V.mnLL e5 = V.mnLL (x.view.map cZ) ∧ (V.labelsL [.str x.inn, .str x.out, .bool x.on, .bool x.over, .int .i64 x.box, .sl (L5 + 1) 1 0 e5]).Nodup ∧ (∀ z ∈ V.labelsL [.str x.inn, .str x.out, .bool x.on, .bool x.over, .int .i64 x.box, .sl (L5 + 1) 1 0 e5], n + 1 ≤ z ∧ z < n + 1 + V.cnt (.agg (cSession x))) := by
  have hX : V.tagL (n + 1) (cSession x) = [.str x.inn, .str x.out, .bool x.on, .bool x.over, .int .i64 x.box, .sl (n + 1) 1 0 (V.tagLL (n + 1 + 1) (x.view.map cZ))] := by
    simp only [cSession, V.tagL, V.tag, V.cnt, Nat.add_zero]
  have hl := tagL_labels (cSession x) (n + 1)
  rw [hX] at hl
  have q5 := fun r hr => own_int x.view (n + 1) r hr
  have d5 := erase_tagd (es := V.tagLL (n + 1 + 1) (x.view.map cZ)) (n := n + 1 + 1) (by simp [zz, zf, zy]) (by simp [V.eraseLL, zz, zf, zy]) rfl (fun r hr => pl_int (q5 r hr))
  have m5 := mnLL_erase (V.tagLL (n + 1 + 1) (x.view.map cZ))
  rw [show V.eraseLL (V.tagLL (n + 1 + 1) (x.view.map cZ)) = x.view.map cZ from d5.1] at m5
  refine ⟨n, _, congrArg V.agg hX, q5, d5.1, d5.2, m5.symm, ?_, ?_⟩
  · rw [hl]; exact List.nodup_range'
  · intro z hz; rw [hl, List.mem_range'_1] at hz; exact hz
theorem ownServer (n : Nat) (x : Server) : ∃ (L2 : Nat) (e2 : List (List V)) (L3 : Nat) (e3 : List (List V)) (L11 : Nat) (e11 : List (List V)), V.tag (n + 1) (.agg (cServer x)) = .agg [.int .i64 x.kept.store.by_, .int .i64 x.kept.store.time, .sl (L2 + 1) 7 0 e2, .sl (L3 + 1) 1 0 e3, .str x.kept.journal, .int .i64 x.kept.saved, .str x.session.inn, .str x.session.out, .bool x.session.on, .bool x.session.over, .int .i64 x.session.box, .sl (L11 + 1) 1 0 e11, .bool x.up] ∧ (∀ r ∈ e2, isBox r) ∧ V.travLL (fun sz => V.sl 0 sz 0 []) (fun _ sz _ es => V.sl 0 sz 0 es) (fun _ _ o e => V.ptr 0 0 o e) e2 = x.kept.store.boxes.map cBox ∧ (∀ K, V.travLL (fun sz => V.sl 0 sz 0 []) (fun _ sz _ es => V.sl 0 sz 0 es) (fun _ _ o e => V.ptr 0 0 o e) (V.mkLL K e2) = V.mkLL K (x.kept.store.boxes.map cBox)) ∧ V.mnLL e2 = V.mnLL (x.kept.store.boxes.map cBox) ∧ (∀ r ∈ e3, isInt r) ∧ V.travLL (fun sz => V.sl 0 sz 0 []) (fun _ sz _ es => V.sl 0 sz 0 es) (fun _ _ o e => V.ptr 0 0 o e) e3 = x.kept.store.gone.map cZ ∧ (∀ K, V.travLL (fun sz => V.sl 0 sz 0 []) (fun _ sz _ es => V.sl 0 sz 0 es) (fun _ _ o e => V.ptr 0 0 o e) (V.mkLL K e3) = V.mkLL K (x.kept.store.gone.map cZ)) ∧ V.mnLL e3 = V.mnLL (x.kept.store.gone.map cZ) ∧ (∀ r ∈ e11, isInt r) ∧ V.travLL (fun sz => V.sl 0 sz 0 []) (fun _ sz _ es => V.sl 0 sz 0 es) (fun _ _ o e => V.ptr 0 0 o e) e11 = x.session.view.map cZ ∧ (∀ K, V.travLL (fun sz => V.sl 0 sz 0 []) (fun _ sz _ es => V.sl 0 sz 0 es) (fun _ _ o e => V.ptr 0 0 o e) (V.mkLL K e11) = V.mkLL K (x.session.view.map cZ)) ∧ V.mnLL e11 = V.mnLL (x.session.view.map cZ) ∧ (V.labelsL [.int .i64 x.kept.store.by_, .int .i64 x.kept.store.time, .sl (L2 + 1) 7 0 e2, .sl (L3 + 1) 1 0 e3, .str x.kept.journal, .int .i64 x.kept.saved, .str x.session.inn, .str x.session.out, .bool x.session.on, .bool x.session.over, .int .i64 x.session.box, .sl (L11 + 1) 1 0 e11, .bool x.up]).Nodup ∧ (∀ z ∈ V.labelsL [.int .i64 x.kept.store.by_, .int .i64 x.kept.store.time, .sl (L2 + 1) 7 0 e2, .sl (L3 + 1) 1 0 e3, .str x.kept.journal, .int .i64 x.kept.saved, .str x.session.inn, .str x.session.out, .bool x.session.on, .bool x.session.over, .int .i64 x.session.box, .sl (L11 + 1) 1 0 e11, .bool x.up], n + 1 ≤ z ∧ z < n + 1 + V.cnt (.agg (cServer x))) := by
  have hX : V.tagL (n + 1) (cServer x) = [.int .i64 x.kept.store.by_, .int .i64 x.kept.store.time, .sl (n + 1) 7 0 (V.tagLL (n + 1 + 1) (x.kept.store.boxes.map cBox)), .sl (n + (1 + V.cntLL (x.kept.store.boxes.map cBox)) + 1) 1 0 (V.tagLL (n + (1 + V.cntLL (x.kept.store.boxes.map cBox)) + 1 + 1) (x.kept.store.gone.map cZ)), .str x.kept.journal, .int .i64 x.kept.saved, .str x.session.inn, .str x.session.out, .bool x.session.on, .bool x.session.over, .int .i64 x.session.box, .sl (n + (1 + V.cntLL (x.kept.store.boxes.map cBox)) + (1 + V.cntLL (x.kept.store.gone.map cZ)) + 1) 1 0 (V.tagLL (n + (1 + V.cntLL (x.kept.store.boxes.map cBox)) + (1 + V.cntLL (x.kept.store.gone.map cZ)) + 1 + 1) (x.session.view.map cZ)), .bool x.up] := by
    simp only [cServer, V.tagL, V.tag, V.cnt, Nat.add_zero, (show n + 1 + (1 + V.cntLL (x.kept.store.boxes.map cBox)) = n + (1 + V.cntLL (x.kept.store.boxes.map cBox)) + 1 by omega), (show n + (1 + V.cntLL (x.kept.store.boxes.map cBox)) + 1 + (1 + V.cntLL (x.kept.store.gone.map cZ)) = n + (1 + V.cntLL (x.kept.store.boxes.map cBox)) + (1 + V.cntLL (x.kept.store.gone.map cZ)) + 1 by omega)]
  have hl := tagL_labels (cServer x) (n + 1)
  rw [hX] at hl
  have q2 := fun r hr => own_Box x.kept.store.boxes (n + 1) r hr
  have d2 := erase_tagd (es := V.tagLL (n + 1 + 1) (x.kept.store.boxes.map cBox)) (n := n + 1 + 1) (by simp [zz, zf, zy]) (by simp [V.eraseLL, zz, zf, zy]) rfl (fun r hr => pl_Box (q2 r hr))
  have m2 := mnLL_erase (V.tagLL (n + 1 + 1) (x.kept.store.boxes.map cBox))
  rw [show V.eraseLL (V.tagLL (n + 1 + 1) (x.kept.store.boxes.map cBox)) = x.kept.store.boxes.map cBox from d2.1] at m2
  have q3 := fun r hr => own_int x.kept.store.gone (n + (1 + V.cntLL (x.kept.store.boxes.map cBox)) + 1) r hr
  have d3 := erase_tagd (es := V.tagLL (n + (1 + V.cntLL (x.kept.store.boxes.map cBox)) + 1 + 1) (x.kept.store.gone.map cZ)) (n := n + (1 + V.cntLL (x.kept.store.boxes.map cBox)) + 1 + 1) (by simp [zz, zf, zy]) (by simp [V.eraseLL, zz, zf, zy]) rfl (fun r hr => pl_int (q3 r hr))
  have m3 := mnLL_erase (V.tagLL (n + (1 + V.cntLL (x.kept.store.boxes.map cBox)) + 1 + 1) (x.kept.store.gone.map cZ))
  rw [show V.eraseLL (V.tagLL (n + (1 + V.cntLL (x.kept.store.boxes.map cBox)) + 1 + 1) (x.kept.store.gone.map cZ)) = x.kept.store.gone.map cZ from d3.1] at m3
  have q11 := fun r hr => own_int x.session.view (n + (1 + V.cntLL (x.kept.store.boxes.map cBox)) + (1 + V.cntLL (x.kept.store.gone.map cZ)) + 1) r hr
  have d11 := erase_tagd (es := V.tagLL (n + (1 + V.cntLL (x.kept.store.boxes.map cBox)) + (1 + V.cntLL (x.kept.store.gone.map cZ)) + 1 + 1) (x.session.view.map cZ)) (n := n + (1 + V.cntLL (x.kept.store.boxes.map cBox)) + (1 + V.cntLL (x.kept.store.gone.map cZ)) + 1 + 1) (by simp [zz, zf, zy]) (by simp [V.eraseLL, zz, zf, zy]) rfl (fun r hr => pl_int (q11 r hr))
  have m11 := mnLL_erase (V.tagLL (n + (1 + V.cntLL (x.kept.store.boxes.map cBox)) + (1 + V.cntLL (x.kept.store.gone.map cZ)) + 1 + 1) (x.session.view.map cZ))
  rw [show V.eraseLL (V.tagLL (n + (1 + V.cntLL (x.kept.store.boxes.map cBox)) + (1 + V.cntLL (x.kept.store.gone.map cZ)) + 1 + 1) (x.session.view.map cZ)) = x.session.view.map cZ from d11.1] at m11
  refine ⟨n, _, n + (1 + V.cntLL (x.kept.store.boxes.map cBox)), _, n + (1 + V.cntLL (x.kept.store.boxes.map cBox)) + (1 + V.cntLL (x.kept.store.gone.map cZ)), _, congrArg V.agg hX, q2, d2.1, d2.2, m2.symm, q3, d3.1, d3.2, m3.symm, q11, d11.1, d11.2, m11.symm, ?_, ?_⟩
  · rw [hl]; exact List.nodup_range'
  · intro z hz; rw [hl, List.mem_range'_1] at hz; exact hz
theorem ownSync (n : Nat) (x : Sync) : ∃ (L2 : Nat) (e2 : List (List V)) (L6 : Nat) (e6 : List (List V)), V.tag (n + 1) (.agg (cSync x)) = .agg [.int .i64 x.epoch, .int .i64 x.link.epoch, .sl (L2 + 1) 1 0 e2, .int .i64 x.link.next, .int .i64 x.link.want, .int .i64 x.total, .sl (L6 + 1) 1 0 e6, .bool x.done, .bool x.failed] ∧ (∀ r ∈ e2, isText r) ∧ V.travLL (fun sz => V.sl 0 sz 0 []) (fun _ sz _ es => V.sl 0 sz 0 es) (fun _ _ o e => V.ptr 0 0 o e) e2 = x.link.way.map cS ∧ (∀ K, V.travLL (fun sz => V.sl 0 sz 0 []) (fun _ sz _ es => V.sl 0 sz 0 es) (fun _ _ o e => V.ptr 0 0 o e) (V.mkLL K e2) = V.mkLL K (x.link.way.map cS)) ∧ V.mnLL e2 = V.mnLL (x.link.way.map cS) ∧ (∀ r ∈ e6, isText r) ∧ V.travLL (fun sz => V.sl 0 sz 0 []) (fun _ sz _ es => V.sl 0 sz 0 es) (fun _ _ o e => V.ptr 0 0 o e) e6 = x.pieces.map cS ∧ (∀ K, V.travLL (fun sz => V.sl 0 sz 0 []) (fun _ sz _ es => V.sl 0 sz 0 es) (fun _ _ o e => V.ptr 0 0 o e) (V.mkLL K e6) = V.mkLL K (x.pieces.map cS)) ∧ V.mnLL e6 = V.mnLL (x.pieces.map cS) ∧ (V.labelsL [.int .i64 x.epoch, .int .i64 x.link.epoch, .sl (L2 + 1) 1 0 e2, .int .i64 x.link.next, .int .i64 x.link.want, .int .i64 x.total, .sl (L6 + 1) 1 0 e6, .bool x.done, .bool x.failed]).Nodup ∧ (∀ z ∈ V.labelsL [.int .i64 x.epoch, .int .i64 x.link.epoch, .sl (L2 + 1) 1 0 e2, .int .i64 x.link.next, .int .i64 x.link.want, .int .i64 x.total, .sl (L6 + 1) 1 0 e6, .bool x.done, .bool x.failed], n + 1 ≤ z ∧ z < n + 1 + V.cnt (.agg (cSync x))) := by
  have hX : V.tagL (n + 1) (cSync x) = [.int .i64 x.epoch, .int .i64 x.link.epoch, .sl (n + 1) 1 0 (V.tagLL (n + 1 + 1) (x.link.way.map cS)), .int .i64 x.link.next, .int .i64 x.link.want, .int .i64 x.total, .sl (n + (1 + V.cntLL (x.link.way.map cS)) + 1) 1 0 (V.tagLL (n + (1 + V.cntLL (x.link.way.map cS)) + 1 + 1) (x.pieces.map cS)), .bool x.done, .bool x.failed] := by
    simp only [cSync, V.tagL, V.tag, V.cnt, Nat.add_zero, (show n + 1 + (1 + V.cntLL (x.link.way.map cS)) = n + (1 + V.cntLL (x.link.way.map cS)) + 1 by omega)]
  have hl := tagL_labels (cSync x) (n + 1)
  rw [hX] at hl
  have q2 := fun r hr => own_string x.link.way (n + 1) r hr
  have d2 := erase_tagd (es := V.tagLL (n + 1 + 1) (x.link.way.map cS)) (n := n + 1 + 1) (by simp [zz, zf, zy]) (by simp [V.eraseLL, zz, zf, zy]) rfl (fun r hr => pl_string (q2 r hr))
  have m2 := mnLL_erase (V.tagLL (n + 1 + 1) (x.link.way.map cS))
  rw [show V.eraseLL (V.tagLL (n + 1 + 1) (x.link.way.map cS)) = x.link.way.map cS from d2.1] at m2
  have q6 := fun r hr => own_string x.pieces (n + (1 + V.cntLL (x.link.way.map cS)) + 1) r hr
  have d6 := erase_tagd (es := V.tagLL (n + (1 + V.cntLL (x.link.way.map cS)) + 1 + 1) (x.pieces.map cS)) (n := n + (1 + V.cntLL (x.link.way.map cS)) + 1 + 1) (by simp [zz, zf, zy]) (by simp [V.eraseLL, zz, zf, zy]) rfl (fun r hr => pl_string (q6 r hr))
  have m6 := mnLL_erase (V.tagLL (n + (1 + V.cntLL (x.link.way.map cS)) + 1 + 1) (x.pieces.map cS))
  rw [show V.eraseLL (V.tagLL (n + (1 + V.cntLL (x.link.way.map cS)) + 1 + 1) (x.pieces.map cS)) = x.pieces.map cS from d6.1] at m6
  refine ⟨n, _, n + (1 + V.cntLL (x.link.way.map cS)), _, congrArg V.agg hX, q2, d2.1, d2.2, m2.symm, q6, d6.1, d6.2, m6.symm, ?_, ?_⟩
  · rw [hl]; exact List.nodup_range'
  · intro z hz; rw [hl, List.mem_range'_1] at hz; exact hz
theorem ownPair (n : Nat) (x : Pair) : ∃ (L0 : Nat) (e0 : List (List V)) (L1 : Nat) (e1 : List (List V)) (L2 : Nat) (e2 : List (List V)), V.tag (n + 1) (.agg (cPair x)) = .agg [.sl (L0 + 1) 13 0 e0, .sl (L1 + 1) 9 0 e1, .sl (L2 + 1) 2 0 e2, .int .i64 x.epoch] ∧ (∀ r ∈ e0, isServer r) ∧ V.travLL (fun sz => V.sl 0 sz 0 []) (fun _ sz _ es => V.sl 0 sz 0 es) (fun _ _ o e => V.ptr 0 0 o e) e0 = x.servers.map cServer ∧ (∀ K, V.travLL (fun sz => V.sl 0 sz 0 []) (fun _ sz _ es => V.sl 0 sz 0 es) (fun _ _ o e => V.ptr 0 0 o e) (V.mkLL K e0) = V.mkLL K (x.servers.map cServer)) ∧ V.mnLL e0 = V.mnLL (x.servers.map cServer) ∧ (∀ r ∈ e1, isSync r) ∧ V.travLL (fun sz => V.sl 0 sz 0 []) (fun _ sz _ es => V.sl 0 sz 0 es) (fun _ _ o e => V.ptr 0 0 o e) e1 = x.syncs.map cSync ∧ (∀ K, V.travLL (fun sz => V.sl 0 sz 0 []) (fun _ sz _ es => V.sl 0 sz 0 es) (fun _ _ o e => V.ptr 0 0 o e) (V.mkLL K e1) = V.mkLL K (x.syncs.map cSync)) ∧ V.mnLL e1 = V.mnLL (x.syncs.map cSync) ∧ (∀ r ∈ e2, isLetter r) ∧ V.travLL (fun sz => V.sl 0 sz 0 []) (fun _ sz _ es => V.sl 0 sz 0 es) (fun _ _ o e => V.ptr 0 0 o e) e2 = x.net.map cLetter ∧ (∀ K, V.travLL (fun sz => V.sl 0 sz 0 []) (fun _ sz _ es => V.sl 0 sz 0 es) (fun _ _ o e => V.ptr 0 0 o e) (V.mkLL K e2) = V.mkLL K (x.net.map cLetter)) ∧ V.mnLL e2 = V.mnLL (x.net.map cLetter) ∧ (V.labelsL [.sl (L0 + 1) 13 0 e0, .sl (L1 + 1) 9 0 e1, .sl (L2 + 1) 2 0 e2, .int .i64 x.epoch]).Nodup ∧ (∀ z ∈ V.labelsL [.sl (L0 + 1) 13 0 e0, .sl (L1 + 1) 9 0 e1, .sl (L2 + 1) 2 0 e2, .int .i64 x.epoch], n + 1 ≤ z ∧ z < n + 1 + V.cnt (.agg (cPair x))) := by
  have hX : V.tagL (n + 1) (cPair x) = [.sl (n + 1) 13 0 (V.tagLL (n + 1 + 1) (x.servers.map cServer)), .sl (n + (1 + V.cntLL (x.servers.map cServer)) + 1) 9 0 (V.tagLL (n + (1 + V.cntLL (x.servers.map cServer)) + 1 + 1) (x.syncs.map cSync)), .sl (n + (1 + V.cntLL (x.servers.map cServer)) + (1 + V.cntLL (x.syncs.map cSync)) + 1) 2 0 (V.tagLL (n + (1 + V.cntLL (x.servers.map cServer)) + (1 + V.cntLL (x.syncs.map cSync)) + 1 + 1) (x.net.map cLetter)), .int .i64 x.epoch] := by
    simp only [cPair, V.tagL, V.tag, V.cnt, Nat.add_zero, (show n + 1 + (1 + V.cntLL (x.servers.map cServer)) = n + (1 + V.cntLL (x.servers.map cServer)) + 1 by omega), (show n + (1 + V.cntLL (x.servers.map cServer)) + 1 + (1 + V.cntLL (x.syncs.map cSync)) = n + (1 + V.cntLL (x.servers.map cServer)) + (1 + V.cntLL (x.syncs.map cSync)) + 1 by omega)]
  have hl := tagL_labels (cPair x) (n + 1)
  rw [hX] at hl
  have q0 := fun r hr => own_Server x.servers (n + 1) r hr
  have d0 := erase_tagd (es := V.tagLL (n + 1 + 1) (x.servers.map cServer)) (n := n + 1 + 1) (by simp [zz, zf, zy]) (by simp [V.eraseLL, zz, zf, zy]) rfl (fun r hr => pl_Server (q0 r hr))
  have m0 := mnLL_erase (V.tagLL (n + 1 + 1) (x.servers.map cServer))
  rw [show V.eraseLL (V.tagLL (n + 1 + 1) (x.servers.map cServer)) = x.servers.map cServer from d0.1] at m0
  have q1 := fun r hr => own_Sync x.syncs (n + (1 + V.cntLL (x.servers.map cServer)) + 1) r hr
  have d1 := erase_tagd (es := V.tagLL (n + (1 + V.cntLL (x.servers.map cServer)) + 1 + 1) (x.syncs.map cSync)) (n := n + (1 + V.cntLL (x.servers.map cServer)) + 1 + 1) (by simp [zz, zf, zy]) (by simp [V.eraseLL, zz, zf, zy]) rfl (fun r hr => pl_Sync (q1 r hr))
  have m1 := mnLL_erase (V.tagLL (n + (1 + V.cntLL (x.servers.map cServer)) + 1 + 1) (x.syncs.map cSync))
  rw [show V.eraseLL (V.tagLL (n + (1 + V.cntLL (x.servers.map cServer)) + 1 + 1) (x.syncs.map cSync)) = x.syncs.map cSync from d1.1] at m1
  have q2 := fun r hr => own_Letter x.net (n + (1 + V.cntLL (x.servers.map cServer)) + (1 + V.cntLL (x.syncs.map cSync)) + 1) r hr
  have d2 := erase_tagd (es := V.tagLL (n + (1 + V.cntLL (x.servers.map cServer)) + (1 + V.cntLL (x.syncs.map cSync)) + 1 + 1) (x.net.map cLetter)) (n := n + (1 + V.cntLL (x.servers.map cServer)) + (1 + V.cntLL (x.syncs.map cSync)) + 1 + 1) (by simp [zz, zf, zy]) (by simp [V.eraseLL, zz, zf, zy]) rfl (fun r hr => pl_Letter (q2 r hr))
  have m2 := mnLL_erase (V.tagLL (n + (1 + V.cntLL (x.servers.map cServer)) + (1 + V.cntLL (x.syncs.map cSync)) + 1 + 1) (x.net.map cLetter))
  rw [show V.eraseLL (V.tagLL (n + (1 + V.cntLL (x.servers.map cServer)) + (1 + V.cntLL (x.syncs.map cSync)) + 1 + 1) (x.net.map cLetter)) = x.net.map cLetter from d2.1] at m2
  refine ⟨n, _, n + (1 + V.cntLL (x.servers.map cServer)), _, n + (1 + V.cntLL (x.servers.map cServer)) + (1 + V.cntLL (x.syncs.map cSync)), _, congrArg V.agg hX, q0, d0.1, d0.2, m0.symm, q1, d1.1, d1.2, m1.symm, q2, d2.1, d2.2, m2.symm, ?_, ?_⟩
  · rw [hl]; exact List.nodup_range'
  · intro z hz; rw [hl, List.mem_range'_1] at hz; exact hz
theorem ownLife (n : Nat) (x : Life) : ∃ (L0 : Nat) (e0 : List (List V)) (L1 : Nat) (e1 : List (List V)) (L2 : Nat) (e2 : List (List V)) (L4 : Nat) (e4 : List (List V)), V.tag (n + 1) (.agg (cLife x)) = .agg [.sl (L0 + 1) 13 0 e0, .sl (L1 + 1) 9 0 e1, .sl (L2 + 1) 2 0 e2, .int .i64 x.pair.epoch, .sl (L4 + 1) 1 0 e4] ∧ (∀ r ∈ e0, isServer r) ∧ V.travLL (fun sz => V.sl 0 sz 0 []) (fun _ sz _ es => V.sl 0 sz 0 es) (fun _ _ o e => V.ptr 0 0 o e) e0 = x.pair.servers.map cServer ∧ (∀ K, V.travLL (fun sz => V.sl 0 sz 0 []) (fun _ sz _ es => V.sl 0 sz 0 es) (fun _ _ o e => V.ptr 0 0 o e) (V.mkLL K e0) = V.mkLL K (x.pair.servers.map cServer)) ∧ V.mnLL e0 = V.mnLL (x.pair.servers.map cServer) ∧ (∀ r ∈ e1, isSync r) ∧ V.travLL (fun sz => V.sl 0 sz 0 []) (fun _ sz _ es => V.sl 0 sz 0 es) (fun _ _ o e => V.ptr 0 0 o e) e1 = x.pair.syncs.map cSync ∧ (∀ K, V.travLL (fun sz => V.sl 0 sz 0 []) (fun _ sz _ es => V.sl 0 sz 0 es) (fun _ _ o e => V.ptr 0 0 o e) (V.mkLL K e1) = V.mkLL K (x.pair.syncs.map cSync)) ∧ V.mnLL e1 = V.mnLL (x.pair.syncs.map cSync) ∧ (∀ r ∈ e2, isLetter r) ∧ V.travLL (fun sz => V.sl 0 sz 0 []) (fun _ sz _ es => V.sl 0 sz 0 es) (fun _ _ o e => V.ptr 0 0 o e) e2 = x.pair.net.map cLetter ∧ (∀ K, V.travLL (fun sz => V.sl 0 sz 0 []) (fun _ sz _ es => V.sl 0 sz 0 es) (fun _ _ o e => V.ptr 0 0 o e) (V.mkLL K e2) = V.mkLL K (x.pair.net.map cLetter)) ∧ V.mnLL e2 = V.mnLL (x.pair.net.map cLetter) ∧ (∀ r ∈ e4, isInt r) ∧ V.travLL (fun sz => V.sl 0 sz 0 []) (fun _ sz _ es => V.sl 0 sz 0 es) (fun _ _ o e => V.ptr 0 0 o e) e4 = x.codes.map cZ ∧ (∀ K, V.travLL (fun sz => V.sl 0 sz 0 []) (fun _ sz _ es => V.sl 0 sz 0 es) (fun _ _ o e => V.ptr 0 0 o e) (V.mkLL K e4) = V.mkLL K (x.codes.map cZ)) ∧ V.mnLL e4 = V.mnLL (x.codes.map cZ) ∧ (V.labelsL [.sl (L0 + 1) 13 0 e0, .sl (L1 + 1) 9 0 e1, .sl (L2 + 1) 2 0 e2, .int .i64 x.pair.epoch, .sl (L4 + 1) 1 0 e4]).Nodup ∧ (∀ z ∈ V.labelsL [.sl (L0 + 1) 13 0 e0, .sl (L1 + 1) 9 0 e1, .sl (L2 + 1) 2 0 e2, .int .i64 x.pair.epoch, .sl (L4 + 1) 1 0 e4], n + 1 ≤ z ∧ z < n + 1 + V.cnt (.agg (cLife x))) := by
  have hX : V.tagL (n + 1) (cLife x) = [.sl (n + 1) 13 0 (V.tagLL (n + 1 + 1) (x.pair.servers.map cServer)), .sl (n + (1 + V.cntLL (x.pair.servers.map cServer)) + 1) 9 0 (V.tagLL (n + (1 + V.cntLL (x.pair.servers.map cServer)) + 1 + 1) (x.pair.syncs.map cSync)), .sl (n + (1 + V.cntLL (x.pair.servers.map cServer)) + (1 + V.cntLL (x.pair.syncs.map cSync)) + 1) 2 0 (V.tagLL (n + (1 + V.cntLL (x.pair.servers.map cServer)) + (1 + V.cntLL (x.pair.syncs.map cSync)) + 1 + 1) (x.pair.net.map cLetter)), .int .i64 x.pair.epoch, .sl (n + (1 + V.cntLL (x.pair.servers.map cServer)) + (1 + V.cntLL (x.pair.syncs.map cSync)) + (1 + V.cntLL (x.pair.net.map cLetter)) + 1) 1 0 (V.tagLL (n + (1 + V.cntLL (x.pair.servers.map cServer)) + (1 + V.cntLL (x.pair.syncs.map cSync)) + (1 + V.cntLL (x.pair.net.map cLetter)) + 1 + 1) (x.codes.map cZ))] := by
    simp only [cLife, V.tagL, V.tag, V.cnt, Nat.add_zero, (show n + 1 + (1 + V.cntLL (x.pair.servers.map cServer)) = n + (1 + V.cntLL (x.pair.servers.map cServer)) + 1 by omega), (show n + (1 + V.cntLL (x.pair.servers.map cServer)) + 1 + (1 + V.cntLL (x.pair.syncs.map cSync)) = n + (1 + V.cntLL (x.pair.servers.map cServer)) + (1 + V.cntLL (x.pair.syncs.map cSync)) + 1 by omega), (show n + (1 + V.cntLL (x.pair.servers.map cServer)) + (1 + V.cntLL (x.pair.syncs.map cSync)) + 1 + (1 + V.cntLL (x.pair.net.map cLetter)) = n + (1 + V.cntLL (x.pair.servers.map cServer)) + (1 + V.cntLL (x.pair.syncs.map cSync)) + (1 + V.cntLL (x.pair.net.map cLetter)) + 1 by omega)]
  have hl := tagL_labels (cLife x) (n + 1)
  rw [hX] at hl
  have q0 := fun r hr => own_Server x.pair.servers (n + 1) r hr
  have d0 := erase_tagd (es := V.tagLL (n + 1 + 1) (x.pair.servers.map cServer)) (n := n + 1 + 1) (by simp [zz, zf, zy]) (by simp [V.eraseLL, zz, zf, zy]) rfl (fun r hr => pl_Server (q0 r hr))
  have m0 := mnLL_erase (V.tagLL (n + 1 + 1) (x.pair.servers.map cServer))
  rw [show V.eraseLL (V.tagLL (n + 1 + 1) (x.pair.servers.map cServer)) = x.pair.servers.map cServer from d0.1] at m0
  have q1 := fun r hr => own_Sync x.pair.syncs (n + (1 + V.cntLL (x.pair.servers.map cServer)) + 1) r hr
  have d1 := erase_tagd (es := V.tagLL (n + (1 + V.cntLL (x.pair.servers.map cServer)) + 1 + 1) (x.pair.syncs.map cSync)) (n := n + (1 + V.cntLL (x.pair.servers.map cServer)) + 1 + 1) (by simp [zz, zf, zy]) (by simp [V.eraseLL, zz, zf, zy]) rfl (fun r hr => pl_Sync (q1 r hr))
  have m1 := mnLL_erase (V.tagLL (n + (1 + V.cntLL (x.pair.servers.map cServer)) + 1 + 1) (x.pair.syncs.map cSync))
  rw [show V.eraseLL (V.tagLL (n + (1 + V.cntLL (x.pair.servers.map cServer)) + 1 + 1) (x.pair.syncs.map cSync)) = x.pair.syncs.map cSync from d1.1] at m1
  have q2 := fun r hr => own_Letter x.pair.net (n + (1 + V.cntLL (x.pair.servers.map cServer)) + (1 + V.cntLL (x.pair.syncs.map cSync)) + 1) r hr
  have d2 := erase_tagd (es := V.tagLL (n + (1 + V.cntLL (x.pair.servers.map cServer)) + (1 + V.cntLL (x.pair.syncs.map cSync)) + 1 + 1) (x.pair.net.map cLetter)) (n := n + (1 + V.cntLL (x.pair.servers.map cServer)) + (1 + V.cntLL (x.pair.syncs.map cSync)) + 1 + 1) (by simp [zz, zf, zy]) (by simp [V.eraseLL, zz, zf, zy]) rfl (fun r hr => pl_Letter (q2 r hr))
  have m2 := mnLL_erase (V.tagLL (n + (1 + V.cntLL (x.pair.servers.map cServer)) + (1 + V.cntLL (x.pair.syncs.map cSync)) + 1 + 1) (x.pair.net.map cLetter))
  rw [show V.eraseLL (V.tagLL (n + (1 + V.cntLL (x.pair.servers.map cServer)) + (1 + V.cntLL (x.pair.syncs.map cSync)) + 1 + 1) (x.pair.net.map cLetter)) = x.pair.net.map cLetter from d2.1] at m2
  have q4 := fun r hr => own_int x.codes (n + (1 + V.cntLL (x.pair.servers.map cServer)) + (1 + V.cntLL (x.pair.syncs.map cSync)) + (1 + V.cntLL (x.pair.net.map cLetter)) + 1) r hr
  have d4 := erase_tagd (es := V.tagLL (n + (1 + V.cntLL (x.pair.servers.map cServer)) + (1 + V.cntLL (x.pair.syncs.map cSync)) + (1 + V.cntLL (x.pair.net.map cLetter)) + 1 + 1) (x.codes.map cZ)) (n := n + (1 + V.cntLL (x.pair.servers.map cServer)) + (1 + V.cntLL (x.pair.syncs.map cSync)) + (1 + V.cntLL (x.pair.net.map cLetter)) + 1 + 1) (by simp [zz, zf, zy]) (by simp [V.eraseLL, zz, zf, zy]) rfl (fun r hr => pl_int (q4 r hr))
  have m4 := mnLL_erase (V.tagLL (n + (1 + V.cntLL (x.pair.servers.map cServer)) + (1 + V.cntLL (x.pair.syncs.map cSync)) + (1 + V.cntLL (x.pair.net.map cLetter)) + 1 + 1) (x.codes.map cZ))
  rw [show V.eraseLL (V.tagLL (n + (1 + V.cntLL (x.pair.servers.map cServer)) + (1 + V.cntLL (x.pair.syncs.map cSync)) + (1 + V.cntLL (x.pair.net.map cLetter)) + 1 + 1) (x.codes.map cZ)) = x.codes.map cZ from d4.1] at m4
  refine ⟨n, _, n + (1 + V.cntLL (x.pair.servers.map cServer)), _, n + (1 + V.cntLL (x.pair.servers.map cServer)) + (1 + V.cntLL (x.pair.syncs.map cSync)), _, n + (1 + V.cntLL (x.pair.servers.map cServer)) + (1 + V.cntLL (x.pair.syncs.map cSync)) + (1 + V.cntLL (x.pair.net.map cLetter)), _, congrArg V.agg hX, q0, d0.1, d0.2, m0.symm, q1, d1.1, d1.2, m1.symm, q2, d2.1, d2.2, m2.symm, q4, d4.1, d4.2, m4.symm, ?_, ?_⟩
  · rw [hl]; exact List.nodup_range'
  · intro z hz; rw [hl, List.mem_range'_1] at hz; exact hz
end Go.Proofs.Ytjhfabimacljhaa.K
