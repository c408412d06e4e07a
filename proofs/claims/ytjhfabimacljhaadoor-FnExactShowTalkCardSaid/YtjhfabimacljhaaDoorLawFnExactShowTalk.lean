/- FnExactShowTalk: at every argument the program's ShowTalk gives what the reference's gives. -/
import Derived.Test.YtjhfabimacljhaaDoorRows
import Derived.Test.YtjhfabimacljhaaDoorTie
import Derived.Test.YtjhfabimacljhaaDoorCards
import Derived.Test.YtjhfabimacljhaaDoorG4
import Derived.Test.YtjhfabimacljhaaDoorG6
import Derived.WalkKit
import Derived.ProofKit
import Derived.OpenShut
import Derived.ShutString
import Derived.ChangeOld
import Derived.Below
import Derived.SizedLaws
import Derived.Lay
import Derived.LaidHandle
import Derived.SevenTiedAt
import Derived.Shelf.Vars
namespace Go.Proofs.YtjhfabimacljhaaDoor.fnExactShowTalk
open Go.ChangeShapes Go.WideShapes Go.ChangeAt Go.RowKit
open Go.ChangeMaps (open_string shut_string)
open Go.Proofs.YtjhfabimacljhaaDoor.K
set_option linter.unusedVariables false
set_option maxRecDepth 100000
theorem own : ownKnob Tryd.prog.godebug = none := by kernel_rfl
abbrev laid2 : List (String × DataW Unit) := Rows.fnExactShowTalkRow.laid
theorem lifted (os : Os) (started : os.Started) (H : Type) (enc : TypeId × Value → H) :
    ReturnsInHanded {} Tryd.checked os 3 .any (fun w args => (Rows.fnExactShowTalkSpec.pre enc Tryd.prog Tryd.f3 [] false w args ∧ laidMetH Tryd.prog laid2 w) ∧ sizedMet enc Tryd.prog Tryd.f3 (OpenSpec.ofChange Rows.fnExactShowTalkSpec) false w args)
      (Rows.fnExactShowTalkSpec.post enc Tryd.prog Tryd.f3 false true false false) := by
  refine returnsInHanded_of_calls own started (by kernel_rfl)
    (ChangeSpec.witness_shaped (enc := enc) (C := Tryd.checked) (os := os) (X := fun w _ => laidMetH Tryd.prog laid2 w) false (World.laidAll Tryd.prog os laid2) #[.agg #[.int .i64 0, .int .i64 0, .slice none 0 0, .slice none 0 0, .string ⟨#[]⟩, .int .i64 0, .string ⟨#[]⟩, .string ⟨#[]⟩, .bool false, .bool false, .int .i64 0, .slice none 0 0, .bool false]] 8 (World.laidAll_os _ _ _) (World.shaped_of_ZipB (by kernel_rfl) (by kernel_rfl)) (by kernel_rfl) (by kernel_rfl) (by kernel_rfl)
      (by rw [MakeChecks.laidMetH_plain _ _ _ (by kernel_rfl)]; exact laidMet_laidAll _ (by kernel_rfl) (by kernel_rfl))) ?_
  intro w tape i _ hsh _ hok hpre hholds
  obtain ⟨_, _, _, fn', hfn', _, _, _, _, hval0⟩ := hok
  have e : fn' = Tryd.f3 := Option.some.inj (hfn'.symm.trans Tryd.func3)
  subst e
  obtain ⟨⟨⟨ds, gs, before, hw, hc⟩, hx⟩, hz⟩ := hpre
  have hW := DataW.Whole.of_heap (w' := w.forCall tape i) (by rfl) hw
  have hsz0 := hz.weights hw
  obtain ⟨mm, hmm⟩ := cell_of_shapedOpen_int (P := Tryd.prog) (g := 0) (t := 3) (zero := #[.int .i64 0]) hsh (of_decide_eq_true (by kernel_rfl)) (by kernel_rfl) rfl (by kernel_rfl) (by kernel_rfl) Tryd.underlying3
  generalize w.forCall tape i = W at *
  generalize i.args = args at *
  have hsz : (DataW.weightsEach Tryd.prog (Tryd.f3.params.toList ++ Rows.fnExactShowTalkSpec.plain.varTypes Tryd.prog) (ds ++ gs)).all (· ≤ reachBytes) = true := hsz0
  have hval : ∀ (j : Nat) t v, Tryd.f3.params[j]? = some t → args[j]? = some v → Value.okWide Tryd.prog W .any w.heap.size t v := hval0
  have fin : ∃ (C : Value → World → Prop), Calls Tryd.prog 3 args W (fun e W' => ∃ v, e = .returned v ∧ C v W') ∧ ∀ v W', C v W' → Rows.fnExactShowTalkSpec.post enc Tryd.prog Tryd.f3 false true false false W args v W' := by
    refine ⟨_, ?_, fun v W' h => h⟩
    have hW' := hW
    obtain ⟨p, q, hA0, hV, rfl, hfz, hnd⟩ := hW
    have hA : DataW.TrodAll enc Tryd.prog W 0 (fun _ => true) true Tryd.f3.params.toList args.toList ds p := hA0
    rw [Tryd.params3] at hA hval hsz
    obtain ⟨v0, vs0, d0, ds0, p0, q0, hargs0, rfl, rfl, h0, r0⟩ := trodAll_cons hA
    obtain ⟨rfl, rfl, rfl⟩ := trodAll_nil r0
    obtain rfl : args = #[v0] := by cases args; simp_all
    obtain ⟨rfl, rfl⟩ := trodVars_none hV
    have hw0 : ∀ x ∈ d0.weights Tryd.prog 31, x ≤ BB := fun x hx => by
      have := List.all_eq_true.1 hsz x (DataW.weights_mem_each (j := 0) (t := 31) (d := d0) rfl rfl x hx)
      exact of_decide_eq_true this
    obtain ⟨xs0, hM0, hS0⟩ := arg_struct tab_ok Tryd.underlying31 12 (by kernel_rfl) (hval 0 31 v0 rfl rfl) h0 hw0
    obtain ⟨a0, rfl, b0⟩ := server_of (m := 1) hS0
    have hwalk := (g_laws_FnExactShowTalk a0 b0).go
    refine (hwalk (bare W.heap.size) noSig W [v0] (cellG_mk hmm) (fun _ h => h.elim) rfl (fun _ _ _ _ h => by simp [noSig] at h) ⟨rfl, fun i x u hx hu => ?_⟩).mono fun e W' ⟨u, he, hu, bel⟩ => ?_
    · match i, hx, hu with
      | 0, hx, hu => obtain rfl := Option.some.inj hx; obtain rfl := Option.some.inj hu; exact hM0
    · subst he
      obtain rfl : u = .bool true := by cases hu; rfl
      exact ⟨_, rfl, _, _, _, [], _, [], hW', trodAll_mk1 (shut_bool Tryd.underlying4 _), (trodAll_cons_mk (trod_after tab_ok bel 12 (by kernel_rfl) h0) trodAll_mk0), rfl, bel.frame _, fun h => by cases h⟩
  obtain ⟨C, hC, hP⟩ := fin
  refine hC.mono fun e W' ⟨v, he, hp⟩ => ?_
  subst he
  exact ChangeSpec.post_blind (hP v W' hp)
theorem over : Rows.fnExactShowTalkRow.holds Tryd.pinned (OpenSpec.ofChange Rows.fnExactShowTalkSpec) :=
  OpenClaim.holds_of_wide 3 Tryd.f3 rfl rfl rfl rfl rfl rfl rfl ⟨rfl, rfl, rfl, rfl, rfl⟩ rfl rfl rfl rfl rfl (by kernel_rfl) Tryd.func3 (by kernel_rfl)
    (of_decide_eq_true (by kernel_rfl)) (by unfold Func.isWrapper; first | (rw [if_pos (by decide +kernel)]; kernel_rfl) | (rw [if_neg (by decide +kernel)]; exact ⟨rfl, rfl⟩))
    (fun os started H enc _ => lifted os started H enc)
theorem carded : Rows.FnExactShowTalkCardSaid :=
  Claim7.holds_tied_plain_at .later [] [.data, .pinned] true (true, "bafdbef21c6dfea9c7e9adbe035bf616862fd9b246a10a58567d6ea938f9d80a") false
    over (fun _ h => by cases h) (by kernel_rfl) (fun _ h => by cases h) fnExactShowTalk_row_tie rfl ⟨rfl, rfl⟩ (by kernel_rfl) rfl
    (fun f fn hf hfn => by
      obtain rfl : f = 3 := Option.some.inj ((show Tryd.prog.funcNamed Rows.fnExactShowTalkRow.func = some 3 by kernel_rfl).symm.trans hf) |>.symm
      obtain rfl : fn = Tryd.f3 := (Option.some.inj (Tryd.func3.symm.trans hfn)).symm
      exact ⟨by kernel_rfl, fun j t ht => by
        rw [Tryd.params3] at ht
        have hm : t ∈ [31] := by simpa using Array.mem_of_getElem? ht
        have hall : ([31].all fun u => !Tryd.prog.wantsStandIn u) = true := by kernel_rfl
        exact (show Tryd.prog.wantsStandIn t = false by simpa using List.all_eq_true.1 hall t hm)⟩)
    (by kernel_rfl)
end Go.Proofs.YtjhfabimacljhaaDoor.fnExactShowTalk
namespace Go.Proofs.YtjhfabimacljhaaDoor
theorem fnExactShowTalk_holds : Rows.FnExactShowTalkCardSaid := fnExactShowTalk.carded
end Go.Proofs.YtjhfabimacljhaaDoor
