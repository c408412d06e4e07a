/- Sizes as the laws count them. Printed by gensz.py. -/
import Derived.Test.YtjhfabimacljhaaYs
namespace Go.Proofs.Ytjhfabimacljhaa.K
open Go Go.RowKit
set_option linter.unusedVariables false
set_option linter.unusedSimpArgs false
def szCut (n : Nat) (left : Int) : Int := IntKind.i64.wrap (left - (n : Int))
def szLen (n : Nat) (left : Int) : Int := if IntKind.i64.wrap (left - (n : Int)) < 0 then -1 else IntKind.i64.wrap (left - (n : Int))
def szFold {α : Type} (f : α → Int → Int) : List α → Int → Int
  | [], left => left
  | a :: l, left => if f a left < 0 then -1 else szFold f l (f a left)
def szAll {α : Type} (f : α → Int → Int) (l : List α) (left : Int) : Int := if IntKind.i64.wrap (left - (l.length : Int)) < 0 then -1 else szFold f l (IntKind.i64.wrap (left - (l.length : Int)))
def szSeq : List (Int → Int) → Int → Int
  | [], left => left
  | f :: fs, left => if f left < 0 then -1 else szSeq fs (f left)
/-- What is left tells that p. -/
def Cnt (f : Int → Int) (p : Prop) : Prop := ∀ left, 0 ≤ left → left ≤ 1048576 → ¬ f left < 0 → f left ≤ left ∧ p
def StrsS (a : List Str) : Prop := a.length ≤ 1048576 ∧ ∀ s ∈ a, s.length ≤ 1048576
theorem wrap_sub {left : Int} {n : Nat} (h0 : 0 ≤ left) (h1 : left ≤ 1048576) (hn : n ≤ BB) : IntKind.i64.wrap (left - n) = left - n := by rw [IntKind.wrap_i64]; unfold BB at hn; omega
theorem cut_cnt {n : Nat} (hn : n ≤ BB) : Cnt (szCut n) (n ≤ 1048576) := by
  intro left h0 h1 h
  unfold szCut at *
  rw [wrap_sub h0 h1 hn] at *
  exact ⟨by omega, by omega⟩
theorem len_cnt {n : Nat} (hn : n ≤ BB) : Cnt (szLen n) (n ≤ 1048576) := by
  intro left h0 h1 h
  unfold szLen at *
  rw [wrap_sub h0 h1 hn] at *
  split at h
  · omega
  · rename_i hl
    rw [if_neg hl]
    exact ⟨by omega, by omega⟩
theorem fold_cnt {α : Type} {f : α → Int → Int} {p : α → Prop} : ∀ {l : List α}, (∀ a ∈ l, Cnt (f a) (p a)) → Cnt (szFold f l) (∀ a ∈ l, p a)
  | [], _ => fun left _ _ _ => ⟨Int.le_refl _, fun a h => by cases h⟩
  | a :: l, hp => by
    intro left h0 h1 h
    simp only [szFold] at *
    split at h
    · omega
    · rename_i hl
      rw [if_neg hl]
      have h2 := hp a (List.mem_cons_self ..) left h0 h1 hl
      have h3 := fold_cnt (fun b hb => hp b (List.mem_cons_of_mem _ hb)) (f a left) (by omega) (by omega) h
      refine ⟨by omega, fun b hb => ?_⟩
      rcases List.mem_cons.1 hb with rfl | hb
      · exact h2.2
      · exact h3.2 b hb
theorem all_cnt {α : Type} {f : α → Int → Int} {p : α → Prop} {l : List α} (hl : l.length ≤ BB) (hp : ∀ a ∈ l, Cnt (f a) (p a)) : Cnt (szAll f l) (l.length ≤ 1048576 ∧ ∀ a ∈ l, p a) := by
  intro left h0 h1 h
  unfold szAll at *
  rw [wrap_sub h0 h1 hl] at *
  split at h
  · omega
  · rename_i hc
    rw [if_neg hc]
    have := fold_cnt hp (left - l.length) (by omega) (by omega) h
    exact ⟨by omega, by omega, this.2⟩
theorem seq_nil : Cnt (szSeq []) True := fun left _ _ _ => ⟨Int.le_refl _, trivial⟩
theorem seq_cnt {f : Int → Int} {fs : List (Int → Int)} {p q : Prop} (hp : Cnt f p) (hq : Cnt (szSeq fs) q) : Cnt (szSeq (f :: fs)) (p ∧ q) := by
  intro left h0 h1 h
  simp only [szSeq] at *
  split at h
  · omega
  · rename_i hl
    rw [if_neg hl]
    have h2 := hp left h0 h1 hl
    have h3 := hq (f left) (by omega) (by omega) h
    exact ⟨by omega, h2.2, h3.2⟩
theorem seq_one {f : Int → Int} {p : Prop} (hp : Cnt f p) : Cnt (szSeq [f]) p := by
  intro left h0 h1 h
  have := seq_cnt hp seq_nil left h0 h1 h
  exact ⟨this.1, this.2.1⟩
def szMail (x : Mail) : Int → Int := szSeq [szLen x.flags.length, szCut x.text.length]
def smMail (x : Mail) : Prop := (x.flags.length ≤ 1048576) ∧ (x.text.length ≤ 1048576)
def szBox (x : Box) : Int → Int := szSeq [szCut x.name.length, szAll szMail x.mails, szLen x.gone.length]
def smBox (x : Box) : Prop := (x.name.length ≤ 1048576) ∧ (x.mails.length ≤ 1048576 ∧ ∀ z ∈ x.mails, smMail z) ∧ (x.gone.length ≤ 1048576)
def szStore (x : Store) : Int → Int := szSeq [szAll szBox x.boxes, szLen x.gone.length]
def smStore (x : Store) : Prop := (x.boxes.length ≤ 1048576 ∧ ∀ z ∈ x.boxes, smBox z) ∧ (x.gone.length ≤ 1048576)
def szKept (x : Kept) : Int → Int := szSeq [szStore x.store, szCut x.journal.length]
def smKept (x : Kept) : Prop := (smStore x.store) ∧ (x.journal.length ≤ 1048576)
def szSession (x : Session) : Int → Int := szSeq [szCut x.inn.length, szCut x.out.length, szLen x.view.length]
def smSession (x : Session) : Prop := (x.inn.length ≤ 1048576) ∧ (x.out.length ≤ 1048576) ∧ (x.view.length ≤ 1048576)
def szServer (x : Server) : Int → Int := szSeq [szKept x.kept, szSession x.session]
def smServer (x : Server) : Prop := (smKept x.kept) ∧ (smSession x.session)
def szLetter (x : Letter) : Int → Int := szSeq [szCut x.text.length]
def smLetter (x : Letter) : Prop := (x.text.length ≤ 1048576)
def szLink_ (x : Link) : Int → Int := szSeq [szStrs x.way]
def smLink (x : Link) : Prop := (StrsS x.way)
def smSync (x : Sync) : Prop := (smLink x.link) ∧ (StrsS x.pieces)
def szPair (x : Pair) : Int → Int := szSeq [szAll szServer x.servers, szAll szSync x.syncs, szAll szLetter x.net]
def smPair (x : Pair) : Prop := (x.servers.length ≤ 1048576 ∧ ∀ z ∈ x.servers, smServer z) ∧ (x.syncs.length ≤ 1048576 ∧ ∀ z ∈ x.syncs, smSync z) ∧ (x.net.length ≤ 1048576 ∧ ∀ z ∈ x.net, smLetter z)
theorem szMail_cnt {x : Mail} (h : okMail x) : Cnt (szMail x) (smMail x) := seq_cnt (len_cnt (h.1).1) (seq_one (cut_cnt (h.2)))
theorem szBox_cnt {x : Box} (h : okBox x) : Cnt (szBox x) (smBox x) := seq_cnt (cut_cnt (h.1)) (seq_cnt (all_cnt (h.2.2.1).1 fun z hz => szMail_cnt ((h.2.2.1).2 z hz)) (seq_one (len_cnt (h.2.2.2))))
theorem szStore_cnt {x : Store} (h : okStore x) : Cnt (szStore x) (smStore x) := seq_cnt (all_cnt (h.1).1 fun z hz => szBox_cnt ((h.1).2 z hz)) (seq_one (len_cnt (h.2)))
theorem szKept_cnt {x : Kept} (h : okKept x) : Cnt (szKept x) (smKept x) := seq_cnt (szStore_cnt (h.1)) (seq_one (cut_cnt (h.2)))
theorem szSession_cnt {x : Session} (h : okSession x) : Cnt (szSession x) (smSession x) := seq_cnt (cut_cnt (h.1)) (seq_cnt (cut_cnt (h.2.1)) (seq_one (len_cnt (h.2.2))))
theorem szServer_cnt {x : Server} (h : okServer x) : Cnt (szServer x) (smServer x) := seq_cnt (szKept_cnt (h.1)) (seq_one (szSession_cnt (h.2)))
end Go.Proofs.Ytjhfabimacljhaa.K
