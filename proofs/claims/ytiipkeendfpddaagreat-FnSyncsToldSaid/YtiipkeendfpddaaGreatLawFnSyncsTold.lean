import Derived.Test.YtiipkeendfpddaaGreatRows
import Derived.Test.YtiipkeendfpddaaGreatG4
import Derived.Test.YtiipkeendfpddaaGreatG14
import Derived.WalkKit
import Derived.ProofKit
import Derived.OpenShut
import Derived.ShutString
import Derived.ChangeOld
import Derived.Below
import Derived.SizedLaws
namespace Go.Proofs.YtiipkeendfpddaaGreat.fnSyncsTold
open Go.ChangeShapes Go.WideShapes Go.ChangeAt Go.RowKit
open Go.ChangeMaps (open_string shut_string)
open Go.Proofs.YtiipkeendfpddaaGreat.K
set_option linter.unusedVariables false
theorem own : ownKnob Tryz.prog.godebug = none := by kernel_rfl
set_option maxRecDepth 100000 in
theorem lifted (os : Os) (started : os.Started) (H : Type) (enc : TypeId × Value → H) :
    ReturnsInHanded {} Tryz.checked os 3 .any (Rows.fnSyncsToldSpec.pre6 enc Tryz.prog Tryz.f3 Rows.fnSyncsToldRow.domain false) (Rows.fnSyncsToldSpec.post enc Tryz.prog Tryz.f3 false true false false) := by
  refine returnsInHanded_of_change_sized (C := Tryz.checked) own started (by kernel_rfl) Tryz.func3
    (ChangeSpec.witness6 (enc := enc) (C := Tryz.checked) false ⟨#[], #[.slice none 0 0], []⟩ 8 (by kernel_rfl) (by kernel_rfl) (by kernel_rfl) (by kernel_rfl)) ?_
  intro W base args ds gs before hval0 hW hcnd hsz0 _
  have hsz : (DataW.weightsEach Tryz.prog (Tryz.f3.params.toList ++ Rows.fnSyncsToldSpec.plain.varTypes Tryz.prog) (ds ++ gs)).all (· ≤ reachBytes) = true := hsz0
  have hval : ∀ (j : Nat) t v, Tryz.f3.params[j]? = some t → args[j]? = some v → Value.okWide Tryz.prog W .any base t v := hval0
  have hW' := hW
  obtain ⟨p, q, hA0, hV, rfl, hfz, hnd⟩ := hW
  have hA : DataW.TrodAll enc Tryz.prog W 0 (fun _ => true) true Tryz.f3.params.toList args.toList ds p := hA0
  rw [Tryz.params3] at hA hval hsz
  obtain ⟨v0, vs0, d0, ds0, p0, q0, hargs0, rfl, rfl, h0, r0⟩ := trodAll_cons hA
  obtain ⟨rfl, rfl, rfl⟩ := trodAll_nil r0
  obtain rfl : args = #[v0] := by cases args; simp_all
  obtain ⟨rfl, rfl⟩ := trodVars_none hV
  have hw0 : ∀ x ∈ d0.weights Tryz.prog 22, x ≤ BB := fun x hx => by
    have := List.all_eq_true.1 hsz x (DataW.weights_mem_each (j := 0) (t := 22) (d := d0) rfl rfl x hx)
    exact of_decide_eq_true this
  obtain ⟨x0, hM0, hS0⟩ := arg_one tab_ok 3 (by kernel_rfl) (cells_of_basic (.inr (.inr (.inr ⟨_, Tryz.underlying22⟩))) (hval 0 22 v0 rfl rfl)) h0 hw0
  obtain ⟨a0, e0, b0⟩ := shp_bytes (m := 1) hS0
  obtain rfl : x0 = .sl 0 1 0 (a0.map cB) := by simpa using e0
  have hwalk := w_laws_FnSyncsTold a0 (Nat.le_trans b0 (by decide))
  refine (hwalk (bare W.heap.size) noSig W [v0] (fun _ h => h.elim) rfl (fun _ _ _ _ h => by simp [noSig] at h) ⟨rfl, fun i x u hx hu => ?_⟩).mono fun e W' ⟨u, he, hu, bel⟩ => ?_
  · match i, hx, hu with
    | 0, hx, hu => obtain rfl := Option.some.inj hx; obtain rfl := Option.some.inj hu; exact hM0
  · subst he
    obtain rfl : u = .bool true := by cases hu; rfl
    exact ⟨_, rfl, _, _, _, [], _, [], hW', trodAll_mk1 (shut_bool Tryz.underlying4 _), (trodAll_cons_mk (trod_after tab_ok bel 3 (by kernel_rfl) h0) trodAll_mk0), rfl, bel.frame _, fun h => by cases h⟩
theorem over : Rows.fnSyncsToldRow.holds Tryz.pinned (OpenSpec.ofChange Rows.fnSyncsToldSpec) :=
  OpenClaim.holds_of_wide 3 Tryz.f3 rfl rfl rfl rfl rfl rfl rfl ⟨rfl, rfl, rfl, rfl, rfl⟩ rfl rfl rfl rfl rfl (by kernel_rfl) Tryz.func3 (by kernel_rfl)
    (of_decide_eq_true (by kernel_rfl)) (by unfold Func.isWrapper; first | (rw [if_pos (by decide +kernel)]; kernel_rfl) | (rw [if_neg (by decide +kernel)]; exact ⟨rfl, rfl⟩))
    (fun os started H enc _ => lifted os started H enc)
theorem proved : Rows.FnSyncsToldSaid := over
end Go.Proofs.YtiipkeendfpddaaGreat.fnSyncsTold
namespace Go.Proofs.YtiipkeendfpddaaGreat
theorem fnSyncsTold_holds : Rows.FnSyncsToldSaid := fnSyncsTold.proved
end Go.Proofs.YtiipkeendfpddaaGreat
