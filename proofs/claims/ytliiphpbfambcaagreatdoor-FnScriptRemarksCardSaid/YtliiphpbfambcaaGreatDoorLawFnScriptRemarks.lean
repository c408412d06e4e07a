/- FnScriptRemarks: remarks and lines of blanks ahead of a drawn script, and behind it, change nothing that is read. -/
import Derived.Test.YtliiphpbfambcaaGreatDoorRows
import Derived.Test.YtliiphpbfambcaaGreatDoorTie
import Derived.Test.YtliiphpbfambcaaGreatDoorCards
import Derived.Test.YtliiphpbfambcaaGreatDoorG4
import Derived.Test.YtliiphpbfambcaaGreatDoorG10
import Derived.WalkKit
import Derived.ProofKit
import Derived.OpenShut
import Derived.ShutString
import Derived.ChangeOld
import Derived.Below
import Derived.SizedLaws
import Derived.Lay
import Derived.LaidHandle
import Derived.SevenTiedAt
import Derived.Shelf.Vars
namespace Go.Proofs.YtliiphpbfambcaaGreatDoor.fnScriptRemarks
open Go.ChangeShapes Go.WideShapes Go.ChangeAt Go.RowKit
open Go.ChangeMaps (open_string shut_string)
open Go.Proofs.YtliiphpbfambcaaGreatDoor.K
set_option linter.unusedVariables false
set_option maxRecDepth 100000
set_option maxHeartbeats 4000000
theorem own : ownKnob Tryz.prog.godebug = none := by kernel_rfl
abbrev laid2 : List (String × DataW Unit) := Rows.fnScriptRemarksRow.laid
theorem lifted (os : Os) (started : os.Started) (H : Type) (enc : TypeId × Value → H) :
    ReturnsInHanded {} Tryz.checked os 3 .any (fun w args => (Rows.fnScriptRemarksSpec.pre enc Tryz.prog Tryz.f3 [] false w args ∧ laidMetH Tryz.prog laid2 w) ∧ sizedMet enc Tryz.prog Tryz.f3 (OpenSpec.ofChange Rows.fnScriptRemarksSpec) false w args)
      (Rows.fnScriptRemarksSpec.post enc Tryz.prog Tryz.f3 false true false false) := by
  refine returnsInHanded_of_calls own started (by kernel_rfl)
    (ChangeSpec.witness_shaped (enc := enc) (C := Tryz.checked) (os := os) (X := fun w _ => laidMetH Tryz.prog laid2 w) false (World.laidAll Tryz.prog os laid2) #[.slice none 0 0] 8 (World.laidAll_os _ _ _) (World.shaped_of_ZipB (by kernel_rfl) (by kernel_rfl)) (by kernel_rfl) (by kernel_rfl) (by kernel_rfl)
      (by rw [MakeChecks.laidMetH_plain _ _ _ (by kernel_rfl)]; exact laidMet_laidAll _ (by kernel_rfl) (by kernel_rfl))) ?_
  intro w tape i _ hsh _ hok hpre hholds
  obtain ⟨_, _, _, fn', hfn', _, _, _, _, hval0⟩ := hok
  have e : fn' = Tryz.f3 := Option.some.inj (hfn'.symm.trans Tryz.func3)
  subst e
  obtain ⟨⟨⟨ds, gs, before, hw, hc⟩, hx⟩, hz⟩ := hpre
  have hW := DataW.Whole.of_heap (w' := w.forCall tape i) (by rfl) hw
  have hsz0 := hz.weights hw
  obtain ⟨mm, hmm⟩ := cell_of_shapedOpen_int (P := Tryz.prog) (g := 0) (t := 3) (zero := #[.int .i64 0]) hsh (of_decide_eq_true (by kernel_rfl)) (by kernel_rfl) rfl (by kernel_rfl) (by kernel_rfl) Tryz.underlying3
  generalize w.forCall tape i = W at *
  generalize i.args = args at *
  have hsz : (DataW.weightsEach Tryz.prog (Tryz.f3.params.toList ++ Rows.fnScriptRemarksSpec.plain.varTypes Tryz.prog) (ds ++ gs)).all (· ≤ reachBytes) = true := hsz0
  have hval : ∀ (j : Nat) t v, Tryz.f3.params[j]? = some t → args[j]? = some v → Value.okWide Tryz.prog W .any w.heap.size t v := hval0
  have fin : ∃ (C : Value → World → Prop), Calls Tryz.prog 3 args W (fun e W' => ∃ v, e = .returned v ∧ C v W') ∧ ∀ v W', C v W' → Rows.fnScriptRemarksSpec.post enc Tryz.prog Tryz.f3 false true false false W args v W' := by
    refine ⟨_, ?_, fun v W' h => h⟩
    have hW' := hW
    obtain ⟨p, q, hA0, hV, rfl, hfz, hnd⟩ := hW
    have hA : DataW.TrodAll enc Tryz.prog W 0 (fun _ => true) true Tryz.f3.params.toList args.toList ds p := hA0
    rw [Tryz.params3] at hA hval hsz
    obtain ⟨v0, vs0, d0, ds0, p0, q0, hargs0, rfl, rfl, h0, r0⟩ := trodAll_cons hA
    obtain ⟨rfl, rfl, rfl⟩ := trodAll_nil r0
    obtain rfl : args = #[v0] := by cases args; simp_all
    obtain ⟨rfl, rfl⟩ := trodVars_none hV
    have hw0 : ∀ x ∈ d0.weights Tryz.prog 22, x ≤ BB := fun x hx => by
      have := List.all_eq_true.1 hsz x (DataW.weights_mem_each (j := 0) (t := 22) (d := d0) rfl rfl x hx)
      exact of_decide_eq_true this
    obtain ⟨x0, hM0, hS0⟩ := arg_one tab_ok 3 (by kernel_rfl) (cells_of_basic (.inr (.inr (.inr ⟨_, Tryz.underlying22⟩))) (hval 0 22 v0 rfl rfl)) h0 hw0
    obtain ⟨a0, e0, b0⟩ := shp_bytes (m := 1) hS0
    obtain rfl : x0 = .sl 0 1 0 (a0.map cB) := by simpa using e0
    have hwalk := w_laws_FnScriptRemarks a0 (Nat.le_trans b0 (by decide))
    refine (hwalk (bare W.heap.size) noSig W [v0] (fun _ h => h.elim) rfl (fun _ _ _ _ h => by simp [noSig] at h) ⟨fun g hg => by obtain rfl := Option.some.inj (show some 0 = some g from hg); exact cellG_mk hmm⟩ ⟨rfl, fun i x u hx hu => ?_⟩).mono fun e W' ⟨u, he, hu, bel⟩ => ?_
    · match i, hx, hu with
      | 0, hx, hu => obtain rfl := Option.some.inj hx; obtain rfl := Option.some.inj hu; exact hM0
    · subst he
      obtain rfl : u = .bool true := by cases hu; rfl
      exact ⟨_, rfl, _, _, _, [], _, [], hW', trodAll_mk1 (shut_bool Tryz.underlying4 _), (trodAll_cons_mk (trod_after tab_ok bel 3 (by kernel_rfl) h0) trodAll_mk0), rfl, bel.frame _, fun h => by cases h⟩
  obtain ⟨C, hC, hP⟩ := fin
  refine hC.mono fun e W' ⟨v, he, hp⟩ => ?_
  subst he
  exact ChangeSpec.post_blind (hP v W' hp)
theorem closed9 : joinedFacts Tryz.pinned.checked.prog 3 Tryz.f3 Rows.fnScriptRemarksSpec Rows.fnScriptRemarksRow = true := by
  unfold joinedFacts
  simp only [Bool.and_eq_true]
  repeat' apply And.intro
  all_goals as_aux_lemma => kernel_rfl
theorem over : Rows.fnScriptRemarksRow.holds Tryz.pinned (OpenSpec.ofChange Rows.fnScriptRemarksSpec) :=
  OpenClaim.holds_of_wide 3 Tryz.f3 rfl rfl rfl rfl rfl rfl rfl ⟨rfl, rfl, rfl, rfl, rfl⟩ rfl rfl rfl rfl rfl (by as_aux_lemma => kernel_rfl) Tryz.func3 closed9
    (of_decide_eq_true (by as_aux_lemma => kernel_rfl)) (by unfold Func.isWrapper; first | (rw [if_pos (by decide +kernel)]; kernel_rfl) | (rw [if_neg (by decide +kernel)]; exact ⟨rfl, rfl⟩))
    (fun os started H enc _ => lifted os started H enc)
theorem carded : Rows.FnScriptRemarksCardSaid :=
  Claim7.holds_tied_plain_at .later [] [.data, .pinned] true (true, "7a8a4a290c4c3cb8e6e035b02710e41c9a897d880c95c0e2ce88d095a415ef13") false
    over (fun _ h => by cases h) (by kernel_rfl) (fun _ h => by cases h) fnScriptRemarks_row_tie rfl ⟨rfl, rfl⟩ (by kernel_rfl) rfl
    (fun f fn hf hfn => by
      obtain rfl : f = 3 := Option.some.inj ((show Tryz.prog.funcNamed Rows.fnScriptRemarksRow.func = some 3 by kernel_rfl).symm.trans hf) |>.symm
      obtain rfl : fn = Tryz.f3 := (Option.some.inj (Tryz.func3.symm.trans hfn)).symm
      exact ⟨by kernel_rfl, fun j t ht => by
        rw [Tryz.params3] at ht
        have hm : t ∈ [22] := by simpa using Array.mem_of_getElem? ht
        have hall : ([22].all fun u => !Tryz.prog.wantsStandIn u) = true := by kernel_rfl
        exact (show Tryz.prog.wantsStandIn t = false by simpa using List.all_eq_true.1 hall t hm)⟩)
    (by kernel_rfl)
end Go.Proofs.YtliiphpbfambcaaGreatDoor.fnScriptRemarks
namespace Go.Proofs.YtliiphpbfambcaaGreatDoor
theorem fnScriptRemarks_holds : Rows.FnScriptRemarksCardSaid := fnScriptRemarks.carded
end Go.Proofs.YtliiphpbfambcaaGreatDoor
