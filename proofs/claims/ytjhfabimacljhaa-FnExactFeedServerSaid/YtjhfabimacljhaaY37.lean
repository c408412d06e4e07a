/- The walk of FnExactFeedServer. Printed by w2.py. -/
import Derived.Test.YtjhfabimacljhaaY36
import Derived.Test.YtjhfabimacljhaaY30
import Derived.Test.YtjhfabimacljhaaY25
import Derived.Test.YtjhfabimacljhaaY27
import Derived.Test.YtjhfabimacljhaaY20
import Derived.Test.YtjhfabimacljhaaY20s
import Derived.Test.YtjhfabimacljhaaYq
namespace Go.Proofs.Ytjhfabimacljhaa.K
open Go Go.RowKit
set_option linter.unusedVariables false
set_option linter.unusedSimpArgs false
set_option maxHeartbeats 4000000
set_option maxRecDepth 20000
theorem w_laws_FnExactFeedServer (x : Server) (t : Str) (hb : okServer x) (hbt : t.length ≤ BB) : Weak Try.prog 6 [.agg (cServer x), .str t] (.bool true) := by
  refine Weak.enter tab_ok Try.func6 rfl (.inr (by simp [V.labelsL, V.labels, V.labelsLL, zz, zf, zy, or_imp, forall_and])) (t := [.agg (cServer x), .str t, .any, .any, .any, .any, .any, .any, .any, .any, .any, .any, .any, .any, .any, .any, .any, .any, .any, .any, .any, .any, .any, .any, .any, .any, .any, .any, .any, .any, .any, .any, .any, .any, .any, .any, .any, .any, .any, .any, .any, .any, .any, .any, .any, .any, .any, .any, .any, .any, .any, .any, .any, .any, .any, .any, .any, .any, .any, .any, .any, .any, .any, .any, .any, .any, .any, .any, .any, .any, .any, .any, .any, .any, .any, .any, .any, .any, .any, .any, .any, .any, .any, .any, .any, .any, .any, .any, .any, .any, .any, .any, .any, .any, .any, .any, .any, .any, .any, .any, .any, .any, .any, .any]) rfl ?_
  refine Ok.seq ?_
  refine Ok.region ?_
  iterate 2 (refine OkOps.ev tab_ok rfl (by simp only [kev, ktab, klen, kcv] <;> rfl) (by simp only [kput] <;> rfl) ?_)
  refine OkOps.nil ?_
  refine Ok.seq ?_
  refine Ok.seq ?_
  refine Ok.region ?_
  iterate 3 (refine OkOps.ev tab_ok rfl (by simp only [kev, ktab, klen, kcv] <;> rfl) (by simp only [kput] <;> rfl) ?_)
  refine OkOps.nil ?_
  refine Ok.cond (b := _) (by simp only [kev, ktab, klen, kcv] <;> rfl) (fun hb1 => ?_) (fun hb1 => ?_)
  · try simp only [bsimp] at hb1
    refine Ok.seq ?_
    refine Ok.drop [16, 17, 18] (by simp only [kover] <;> rfl) ?_
    refine Ok.region ?_
    refine OkOps.ev tab_ok rfl (by simp only [kev, ktab, klen, kcv] <;> rfl) (by simp only [kput] <;> rfl) ?_
    refine OkOps.nil ?_
    refine Ok.ret ?_
    repeat (first | with_reducible refine thenQ_ret ?_ | with_reducible refine blockQ_ret ?_)
    refine retQ.end (by show resVs tab _ [.tmp 4] = _; simp only [kev, ktab, klen, kcv] <;> rfl) rfl ?_
    rfl
  · try simp only [bsimp] at hb1
    have ht : t.length ≤ 1048576 := by omega
    refine Ok.skip ?_
    refine Ok.seq ?_
    refine Ok.drop [16, 17, 18] (by simp only [kover] <;> rfl) ?_
    refine Ok.region ?_
    refine OkOps.ev tab_ok rfl (by simp only [kev, ktab, klen, kcv] <;> rfl) (by simp only [kput] <;> rfl) ?_
    refine OkOps.nil ?_
    refine Ok.seq ?_
    refine Ok.region ?_
    iterate 2 (refine OkOps.ev tab_ok rfl (by simp only [kev, ktab, klen, kcv] <;> rfl) (by simp only [kput] <;> rfl) ?_)
    refine OkOps.S0 rfl (OpS.weakE rfl (by simp only [kev, ktab, klen, kcv] <;> rfl) (by simp only [kev, ktab, klen, kcv, V.eraseL, V.erase, V.travL, V.trav, zz, zf, zy] <;> rfl) cl14 (by simp [V.labels, V.labelsL, V.labelsLL, zz, zf, zy]) (w_laws_szServer x _)) (by simp only [kput] <;> rfl) ?_
    refine OkOps.ev tab_ok rfl (by simp only [kev, ktab, klen, kcv] <;> rfl) (by simp only [kput] <;> rfl) ?_
    refine OkOps.nil ?_
    refine Ok.seq ?_
    refine Ok.seq ?_
    refine Ok.drop [19, 20, 21] (by simp only [kover] <;> rfl) ?_
    refine Ok.region ?_
    iterate 2 (refine OkOps.ev tab_ok rfl (by simp only [kev, ktab, klen, kcv] <;> rfl) (by simp only [kput] <;> rfl) ?_)
    refine OkOps.nil ?_
    refine Ok.cond (b := _) (by simp only [kev, ktab, klen, kcv] <;> rfl) (fun hb5 => ?_) (fun hb5 => ?_)
    · try simp only [bsimp] at hb5
      refine Ok.seq ?_
      refine Ok.drop [22, 23] (by simp only [kover] <;> rfl) ?_
      refine Ok.region ?_
      refine OkOps.ev tab_ok rfl (by simp only [kev, ktab, klen, kcv] <;> rfl) (by simp only [kput] <;> rfl) ?_
      refine OkOps.nil ?_
      refine Ok.ret ?_
      repeat (first | with_reducible refine thenQ_ret ?_ | with_reducible refine blockQ_ret ?_)
      refine retQ.end (by show resVs tab _ [.tmp 4] = _; simp only [kev, ktab, klen, kcv] <;> rfl) rfl ?_
      rfl
    · try simp only [bsimp] at hb5
      have hs := (szServer_cnt hb 1048576 (by omega) (by omega) hb5).2
      refine Ok.skip ?_
      refine Ok.seq ?_
      refine Ok.drop [22, 23] (by simp only [kover] <;> rfl) ?_
      obtain ⟨m0, hm0⟩ : ∃ m : Nat, m = 1 := ⟨_, rfl⟩
      refine Ok.bump (n' := m0 + 1) (by omega) ?_
      refine Ok.region ?_
      refine OkOps.ev tab_ok rfl (by simp only [kev, ktab, klen, kcv] <;> rfl) (by simp only [kput] <;> rfl) ?_
      refine OkOps.S0 rfl (OpS.weak' rfl (by simp only [kev, ktab, klen, kcv] <;> rfl) (by simp only [kev, ktab, klen, kcv] <;> rfl) cl16 (w_laws_toServer x hs)) (by simp only [kput] <;> rfl) ?_
      refine OkOps.ev tab_ok rfl (by simp only [kev, ktab, klen, kcv] <;> rfl) (by simp only [kput] <;> rfl) ?_
      obtain ⟨L2b, e2b, L3b, e3b, L11b, e11b, hXb, q2b, E2b, M2b, N2b, q3b, E3b, M3b, N3b, q11b, E11b, M11b, N11b, ndb, rgb⟩ := ownTServer (m0) (feedV x t) (feedB x t)
      obtain ⟨mb, hmb⟩ : ∃ m, m0 + 1 + V.cnt (.tup [.agg (cServer (feedV x t)), .bool (feedB x t)]) = m + 1 := ⟨m0 + V.cnt (.tup [.agg (cServer (feedV x t)), .bool (feedB x t)]), by omega⟩
      have r2b : ∀ z ∈ V.labels (.sl (L2b + 1) 7 0 e2b), m0 + 1 ≤ z ∧ z < mb + 1 := fun z hz => by have := rgb z (by first | exact hz | (simp only [V.labelsL, V.labels, List.mem_append] at hz ⊢; simp only [hz, true_or, or_true])); omega
      have r3b : ∀ z ∈ V.labels (.sl (L3b + 1) 1 0 e3b), m0 + 1 ≤ z ∧ z < mb + 1 := fun z hz => by have := rgb z (by first | exact hz | (simp only [V.labelsL, V.labels, List.mem_append] at hz ⊢; simp only [hz, true_or, or_true])); omega
      have r11b : ∀ z ∈ V.labels (.sl (L11b + 1) 1 0 e11b), m0 + 1 ≤ z ∧ z < mb + 1 := fun z hz => by have := rgb z (by first | exact hz | (simp only [V.labelsL, V.labels, List.mem_append] at hz ⊢; simp only [hz, true_or, or_true])); omega
      refine OkOps.S' rfl (OpS.pure' rfl (by simp only [kev, ktab, klen, kcv] <;> rfl) (by simp only [kev, ktab, klen, kcv, V.eraseL, V.erase, V.travL, V.trav, zz, zf, zy] <;> rfl) cl26 (by simp [V.dat, V.datL, V.datLL, zz, zf, zy]) (p_spec_FeedServer x t hs ht)) hmb (by simp only [kput, hXb] <;> rfl) ?_
      iterate 4 (refine OkOps.ev tab_ok rfl (by simp only [kev, ktab, klen, kcv] <;> rfl) (by simp only [kput] <;> rfl) ?_)
      refine OkOps.drop [28, 24] (by simp only [kover] <;> rfl) ?_
      refine OkOps.storeN tab_ok rfl rfl (by simp only [kev, ktab, klen, kcv] <;> rfl) ⟨_, _, by simp only [kev]; rfl⟩ (by first | (simp [V.labelsL, V.labelsLL, V.labels, zz, zf, zy]; done) | (intro h; have := rgb _ h; omega)) (fun W hW hF => by have z2b := hW.far (.sl (L2b + 1) 7 0 e2b) (fun y hy h => by have := r2b y hy; skip; omega); have zz2b := fun K => hW.far (.sl (L2b + 1) 7 0 (V.mkLL K e2b)) (fun y hy h => by have := r2b y (by simp only [V.labels, mkLL_labels] at hy; exact hy); skip; omega); have z3b := hW.far (.sl (L3b + 1) 1 0 e3b) (fun y hy h => by have := r3b y hy; skip; omega); have zz3b := fun K => hW.far (.sl (L3b + 1) 1 0 (V.mkLL K e3b)) (fun y hy h => by have := r3b y (by simp only [V.labels, mkLL_labels] at hy; exact hy); skip; omega); have z11b := hW.far (.sl (L11b + 1) 1 0 e11b) (fun y hy h => by have := r11b y hy; skip; omega); have zz11b := fun K => hW.far (.sl (L11b + 1) 1 0 (V.mkLL K e11b)) (fun y hy h => by have := r11b y (by simp only [V.labels, mkLL_labels] at hy; exact hy); skip; omega); have w0_2 := hW.far (.sl 0 7 0 ((x).kept.store.boxes.map cBox)) (fun y hy h => by have h0 : y = 0 := (show ∀ y ∈ V.labels (.sl 0 7 0 ((x).kept.store.boxes.map cBox)), y = 0 by simp [V.labels, zz, zf, zy]) y hy; skip; omega); have w0_3 := hW.far (.sl 0 1 0 ((x).kept.store.gone.map cZ)) (fun y hy h => by have h0 : y = 0 := (show ∀ y ∈ V.labels (.sl 0 1 0 ((x).kept.store.gone.map cZ)), y = 0 by simp [V.labels, zz, zf, zy]) y hy; skip; omega); have w0_11 := hW.far (.sl 0 1 0 ((x).session.view.map cZ)) (fun y hy h => by have h0 : y = 0 := (show ∀ y ∈ V.labels (.sl 0 1 0 ((x).session.view.map cZ)), y = 0 by simp [V.labels, zz, zf, zy]) y hy; skip; omega); have p0 := fun i o e => hW.ptr (1) i o e (by omega); simp only [List.map_cons, List.map_nil, hW.int, hW.str, hW.bool, hW.any, hW.tup0, hW.agg, hW.nilV, hF.ptr, z2b, zz2b, z3b, zz3b, z11b, zz11b, w0_2, w0_3, w0_11, p0, kput] <;> rfl) ?_
      refine OkOps.ev tab_ok rfl (by simp only [kev, ktab, klen, kcv] <;> rfl) (by simp only [kput] <;> rfl) ?_
      refine OkOps.nil ?_
      refine Ok.seq ?_
      refine Ok.drop [24, 25, 26, 27, 28, 29, 30] (by simp only [kover] <;> rfl) ?_
      refine Ok.region ?_
      refine OkOps.ev tab_ok rfl (by simp only [kev, ktab, klen, kcv] <;> rfl) (by simp only [kput] <;> rfl) ?_
      obtain ⟨L2c, e2c, L3c, e3c, L11c, e11c, hXc, q2c, E2c, M2c, N2c, q3c, E3c, M3c, N3c, q11c, E11c, M11c, N11c, ndc, rgc⟩ := ownServer (mb + 1) (x)
      obtain ⟨mc, hmc⟩ : ∃ m, mb + 1 + 1 + V.cnt (.agg (cServer (x))) = m + 1 := ⟨mb + 1 + V.cnt (.agg (cServer (x))), by omega⟩
      have r2c : ∀ z ∈ V.labels (.sl (L2c + 1) 7 0 e2c), mb + 1 + 1 ≤ z ∧ z < mc + 1 := fun z hz => by have := rgc z (by first | exact hz | (simp only [V.labelsL, V.labels, List.mem_append] at hz ⊢; simp only [hz, true_or, or_true])); omega
      have r3c : ∀ z ∈ V.labels (.sl (L3c + 1) 1 0 e3c), mb + 1 + 1 ≤ z ∧ z < mc + 1 := fun z hz => by have := rgc z (by first | exact hz | (simp only [V.labelsL, V.labels, List.mem_append] at hz ⊢; simp only [hz, true_or, or_true])); omega
      have r11c : ∀ z ∈ V.labels (.sl (L11c + 1) 1 0 e11c), mb + 1 + 1 ≤ z ∧ z < mc + 1 := fun z hz => by have := rgc z (by first | exact hz | (simp only [V.labelsL, V.labels, List.mem_append] at hz ⊢; simp only [hz, true_or, or_true])); omega
      refine OkOps.S' rfl (OpS.pure' rfl (by simp only [kev, ktab, klen, kcv] <;> rfl) (by simp only [kev, ktab, klen, kcv, E2b, M2b, N2b, E3b, M3b, N3b, E11b, M11b, N11b, V.eraseL, V.erase, V.travL, V.trav, zz, zf, zy] <;> rfl) cl16 (by simp [V.dat, V.datL, V.datLL, zz, zf, zy]) (p_laws_toServer x hs)) hmc (by simp only [kput, hXc] <;> rfl) ?_
      refine OkOps.ev tab_ok rfl (by simp only [kev, ktab, klen, kcv] <;> rfl) (by simp only [kput] <;> rfl) ?_
      refine OkOps.storeN tab_ok rfl rfl (by simp only [kev, ktab, klen, kcv] <;> rfl) ⟨_, _, by simp only [kev]; rfl⟩ (by first | (simp [V.labelsL, V.labelsLL, V.labels, zz, zf, zy]; done) | (intro h; have := rgc _ h; omega)) (fun W hW hF => by have z2b := hW.far (.sl (L2b + 1) 7 0 e2b) (fun y hy h => by have := r2b y hy; skip; omega); have zz2b := fun K => hW.far (.sl (L2b + 1) 7 0 (V.mkLL K e2b)) (fun y hy h => by have := r2b y (by simp only [V.labels, mkLL_labels] at hy; exact hy); skip; omega); have z3b := hW.far (.sl (L3b + 1) 1 0 e3b) (fun y hy h => by have := r3b y hy; skip; omega); have zz3b := fun K => hW.far (.sl (L3b + 1) 1 0 (V.mkLL K e3b)) (fun y hy h => by have := r3b y (by simp only [V.labels, mkLL_labels] at hy; exact hy); skip; omega); have z11b := hW.far (.sl (L11b + 1) 1 0 e11b) (fun y hy h => by have := r11b y hy; skip; omega); have zz11b := fun K => hW.far (.sl (L11b + 1) 1 0 (V.mkLL K e11b)) (fun y hy h => by have := r11b y (by simp only [V.labels, mkLL_labels] at hy; exact hy); skip; omega); have z2c := hW.far (.sl (L2c + 1) 7 0 e2c) (fun y hy h => by have := r2c y hy; skip; omega); have zz2c := fun K => hW.far (.sl (L2c + 1) 7 0 (V.mkLL K e2c)) (fun y hy h => by have := r2c y (by simp only [V.labels, mkLL_labels] at hy; exact hy); skip; omega); have z3c := hW.far (.sl (L3c + 1) 1 0 e3c) (fun y hy h => by have := r3c y hy; skip; omega); have zz3c := fun K => hW.far (.sl (L3c + 1) 1 0 (V.mkLL K e3c)) (fun y hy h => by have := r3c y (by simp only [V.labels, mkLL_labels] at hy; exact hy); skip; omega); have z11c := hW.far (.sl (L11c + 1) 1 0 e11c) (fun y hy h => by have := r11c y hy; skip; omega); have zz11c := fun K => hW.far (.sl (L11c + 1) 1 0 (V.mkLL K e11c)) (fun y hy h => by have := r11c y (by simp only [V.labels, mkLL_labels] at hy; exact hy); skip; omega); have w0_2 := hW.far (.sl 0 7 0 ((x).kept.store.boxes.map cBox)) (fun y hy h => by have h0 : y = 0 := (show ∀ y ∈ V.labels (.sl 0 7 0 ((x).kept.store.boxes.map cBox)), y = 0 by simp [V.labels, zz, zf, zy]) y hy; skip; omega); have w0_3 := hW.far (.sl 0 1 0 ((x).kept.store.gone.map cZ)) (fun y hy h => by have h0 : y = 0 := (show ∀ y ∈ V.labels (.sl 0 1 0 ((x).kept.store.gone.map cZ)), y = 0 by simp [V.labels, zz, zf, zy]) y hy; skip; omega); have w0_11 := hW.far (.sl 0 1 0 ((x).session.view.map cZ)) (fun y hy h => by have h0 : y = 0 := (show ∀ y ∈ V.labels (.sl 0 1 0 ((x).session.view.map cZ)), y = 0 by simp [V.labels, zz, zf, zy]) y hy; skip; omega); have p0 := fun i o e => hW.ptr (1) i o e (by omega);  have p1 := fun i o e => hW.ptr (mb + 1) i o e (by omega); simp only [List.map_cons, List.map_nil, hW.int, hW.str, hW.bool, hW.any, hW.tup0, hW.agg, hW.nilV, hF.ptr, z2b, zz2b, z3b, zz3b, z11b, zz11b, z2c, zz2c, z3c, zz3c, z11c, zz11c, w0_2, w0_3, w0_11, p0, p1, kput] <;> rfl) ?_
      refine OkOps.nil ?_
      refine Ok.seq ?_
      refine Ok.drop [31, 32] (by simp only [kover] <;> rfl) ?_
      refine Ok.region ?_
      iterate 2 (refine OkOps.ev tab_ok rfl (by simp only [kev, ktab, klen, kcv] <;> rfl) (by simp only [kput] <;> rfl) ?_)
      obtain ⟨L2d, e2d, L3d, e3d, L11d, e11d, hXd, q2d, E2d, M2d, N2d, q3d, E3d, M3d, N3d, q11d, E11d, M11d, N11d, ndd, rgd⟩ := ownTServer (mc + 1) (feedV x t) (feedB x t)
      obtain ⟨md, hmd⟩ : ∃ m, mc + 1 + 1 + V.cnt (.tup [.agg (cServer (feedV x t)), .bool (feedB x t)]) = m + 1 := ⟨mc + 1 + V.cnt (.tup [.agg (cServer (feedV x t)), .bool (feedB x t)]), by omega⟩
      have r2d : ∀ z ∈ V.labels (.sl (L2d + 1) 7 0 e2d), mc + 1 + 1 ≤ z ∧ z < md + 1 := fun z hz => by have := rgd z (by first | exact hz | (simp only [V.labelsL, V.labels, List.mem_append] at hz ⊢; simp only [hz, true_or, or_true])); omega
      have r3d : ∀ z ∈ V.labels (.sl (L3d + 1) 1 0 e3d), mc + 1 + 1 ≤ z ∧ z < md + 1 := fun z hz => by have := rgd z (by first | exact hz | (simp only [V.labelsL, V.labels, List.mem_append] at hz ⊢; simp only [hz, true_or, or_true])); omega
      have r11d : ∀ z ∈ V.labels (.sl (L11d + 1) 1 0 e11d), mc + 1 + 1 ≤ z ∧ z < md + 1 := fun z hz => by have := rgd z (by first | exact hz | (simp only [V.labelsL, V.labels, List.mem_append] at hz ⊢; simp only [hz, true_or, or_true])); omega
      refine OkOps.S' rfl (OpS.pure' rfl (by simp only [kev, ktab, klen, kcv] <;> rfl) (by simp only [kev, ktab, klen, kcv, E2b, M2b, N2b, E3b, M3b, N3b, E11b, M11b, N11b, E2c, M2c, N2c, E3c, M3c, N3c, E11c, M11c, N11c, V.eraseL, V.erase, V.travL, V.trav, zz, zf, zy] <;> rfl) cl27 (by simp [V.dat, V.datL, V.datLL, zz, zf, zy]) (p_impl_FeedServer x t hs ht)) hmd (by simp only [kput, hXd] <;> rfl) ?_
      iterate 4 (refine OkOps.ev tab_ok rfl (by simp only [kev, ktab, klen, kcv] <;> rfl) (by simp only [kput] <;> rfl) ?_)
      refine OkOps.drop [36, 33] (by simp only [kover] <;> rfl) ?_
      refine OkOps.storeN tab_ok rfl rfl (by simp only [kev, ktab, klen, kcv] <;> rfl) ⟨_, _, by simp only [kev]; rfl⟩ (by first | (simp [V.labelsL, V.labelsLL, V.labels, zz, zf, zy]; done) | (intro h; have := rgd _ h; omega)) (fun W hW hF => by have z2b := hW.far (.sl (L2b + 1) 7 0 e2b) (fun y hy h => by have := r2b y hy; skip; omega); have zz2b := fun K => hW.far (.sl (L2b + 1) 7 0 (V.mkLL K e2b)) (fun y hy h => by have := r2b y (by simp only [V.labels, mkLL_labels] at hy; exact hy); skip; omega); have z3b := hW.far (.sl (L3b + 1) 1 0 e3b) (fun y hy h => by have := r3b y hy; skip; omega); have zz3b := fun K => hW.far (.sl (L3b + 1) 1 0 (V.mkLL K e3b)) (fun y hy h => by have := r3b y (by simp only [V.labels, mkLL_labels] at hy; exact hy); skip; omega); have z11b := hW.far (.sl (L11b + 1) 1 0 e11b) (fun y hy h => by have := r11b y hy; skip; omega); have zz11b := fun K => hW.far (.sl (L11b + 1) 1 0 (V.mkLL K e11b)) (fun y hy h => by have := r11b y (by simp only [V.labels, mkLL_labels] at hy; exact hy); skip; omega); have z2c := hW.far (.sl (L2c + 1) 7 0 e2c) (fun y hy h => by have := r2c y hy; skip; omega); have zz2c := fun K => hW.far (.sl (L2c + 1) 7 0 (V.mkLL K e2c)) (fun y hy h => by have := r2c y (by simp only [V.labels, mkLL_labels] at hy; exact hy); skip; omega); have z3c := hW.far (.sl (L3c + 1) 1 0 e3c) (fun y hy h => by have := r3c y hy; skip; omega); have zz3c := fun K => hW.far (.sl (L3c + 1) 1 0 (V.mkLL K e3c)) (fun y hy h => by have := r3c y (by simp only [V.labels, mkLL_labels] at hy; exact hy); skip; omega); have z11c := hW.far (.sl (L11c + 1) 1 0 e11c) (fun y hy h => by have := r11c y hy; skip; omega); have zz11c := fun K => hW.far (.sl (L11c + 1) 1 0 (V.mkLL K e11c)) (fun y hy h => by have := r11c y (by simp only [V.labels, mkLL_labels] at hy; exact hy); skip; omega); have z2d := hW.far (.sl (L2d + 1) 7 0 e2d) (fun y hy h => by have := r2d y hy; skip; omega); have zz2d := fun K => hW.far (.sl (L2d + 1) 7 0 (V.mkLL K e2d)) (fun y hy h => by have := r2d y (by simp only [V.labels, mkLL_labels] at hy; exact hy); skip; omega); have z3d := hW.far (.sl (L3d + 1) 1 0 e3d) (fun y hy h => by have := r3d y hy; skip; omega); have zz3d := fun K => hW.far (.sl (L3d + 1) 1 0 (V.mkLL K e3d)) (fun y hy h => by have := r3d y (by simp only [V.labels, mkLL_labels] at hy; exact hy); skip; omega); have z11d := hW.far (.sl (L11d + 1) 1 0 e11d) (fun y hy h => by have := r11d y hy; skip; omega); have zz11d := fun K => hW.far (.sl (L11d + 1) 1 0 (V.mkLL K e11d)) (fun y hy h => by have := r11d y (by simp only [V.labels, mkLL_labels] at hy; exact hy); skip; omega); have w0_2 := hW.far (.sl 0 7 0 ((x).kept.store.boxes.map cBox)) (fun y hy h => by have h0 : y = 0 := (show ∀ y ∈ V.labels (.sl 0 7 0 ((x).kept.store.boxes.map cBox)), y = 0 by simp [V.labels, zz, zf, zy]) y hy; skip; omega); have w0_3 := hW.far (.sl 0 1 0 ((x).kept.store.gone.map cZ)) (fun y hy h => by have h0 : y = 0 := (show ∀ y ∈ V.labels (.sl 0 1 0 ((x).kept.store.gone.map cZ)), y = 0 by simp [V.labels, zz, zf, zy]) y hy; skip; omega); have w0_11 := hW.far (.sl 0 1 0 ((x).session.view.map cZ)) (fun y hy h => by have h0 : y = 0 := (show ∀ y ∈ V.labels (.sl 0 1 0 ((x).session.view.map cZ)), y = 0 by simp [V.labels, zz, zf, zy]) y hy; skip; omega); have p0 := fun i o e => hW.ptr (1) i o e (by omega);  have p1 := fun i o e => hW.ptr (mb + 1) i o e (by omega);  have p2 := fun i o e => hW.ptr (mc + 1) i o e (by omega); simp only [List.map_cons, List.map_nil, hW.int, hW.str, hW.bool, hW.any, hW.tup0, hW.agg, hW.nilV, hF.ptr, z2b, zz2b, z3b, zz3b, z11b, zz11b, z2c, zz2c, z3c, zz3c, z11c, zz11c, z2d, zz2d, z3d, zz3d, z11d, zz11d, w0_2, w0_3, w0_11, p0, p1, p2, kput] <;> rfl) ?_
      refine OkOps.ev tab_ok rfl (by simp only [kev, ktab, klen, kcv] <;> rfl) (by simp only [kput] <;> rfl) ?_
      refine OkOps.nil ?_
      refine Ok.seq ?_
      refine Ok.seq ?_
      refine Ok.drop [33, 34, 35, 36, 37, 38] (by simp only [kover] <;> rfl) ?_
      refine Ok.region ?_
      iterate 2 (refine OkOps.ev tab_ok rfl (by simp only [kev, ktab, klen, kcv] <;> rfl) (by simp only [kput] <;> rfl) ?_)
      refine OkOps.S0 rfl (OpS.weakE rfl (by simp only [kev, ktab, klen, kcv] <;> rfl) (by simp only [kev, ktab, klen, kcv, E2b, M2b, N2b, E3b, M3b, N3b, E11b, M11b, N11b, E2c, M2c, N2c, E3c, M3c, N3c, E11c, M11c, N11c, E2d, M2d, N2d, E3d, M3d, N3d, E11d, M11d, N11d, V.eraseL, V.erase, V.travL, V.trav, zz, zf, zy] <;> rfl) cl18 (by simp [V.labels, V.labelsL, V.labelsLL, zz, zf, zy]) (w_laws_eqServer (feedV x t) (feedV x t))) (by simp only [kput] <;> rfl) ?_
      iterate 2 (refine OkOps.ev tab_ok rfl (by simp only [kev, ktab, klen, kcv] <;> rfl) (by simp only [kput] <;> rfl) ?_)
      refine OkOps.split (d := 43) (by simp only [kev, ktab, klen, kcv] <;> rfl) (by simp only [kput] <;> rfl) (by simp only [kput] <;> rfl) (fun hg10_4 => ?_) (fun hg10_4 => ?_)
      · try simp only [bsimp] at hg10_4
        simp at hg10_4
      · try simp only [bsimp] at hg10_4
        refine OkOps.on rfl rfl (by simp only [kev, ktab, klen, kcv]) ?_
        refine OkOps.ev tab_ok rfl (by simp only [kev, ktab, klen, kcv] <;> rfl) (by simp only [kput] <;> rfl) ?_
        refine OkOps.on rfl rfl (by simp only [kev, ktab, klen, kcv]) ?_
        refine OkOps.ev tab_ok rfl (by simp only [kev, ktab, klen, kcv] <;> rfl) (by simp only [kput] <;> rfl) ?_
        refine OkOps.on rfl rfl (by simp only [kev, ktab, klen, kcv]) ?_
        iterate 2 (refine OkOps.ev tab_ok rfl (by simp only [kev, ktab, klen, kcv] <;> rfl) (by simp only [kput] <;> rfl) ?_)
        refine OkOps.nil ?_
        refine Ok.cond_false (by simp only [kev, ktab, klen, kcv] <;> first | rfl | (simp; done) | (simp; omega) | (simp [N2d, N3d, N11d]; done)) ?_
        refine Ok.skip ?_
        refine Ok.seq ?_
        refine Ok.seq ?_
        refine Ok.drop [39, 40, 41, 42, 43, 44, 45, 46, 47] (by simp only [kover] <;> rfl) ?_
        refine Ok.drawn 5 104 [] (by kernel_rfl) (by kernel_rfl) rfl ?_
        refine SOps.ev tab_ok rfl (by simp only [kev, ktab, klen, kcv] <;> rfl) (by simp only [kput] <;> rfl) ?_
        refine SOps.ev tab_ok rfl (by simp only [kev, ktab, klen, kcv] <;> rfl) (by simp only [kput] <;> rfl) ?_
        refine SOps.S0 rfl (OpS.weakM rfl (by simp only [kev, ktab, klen, kcv] <;> rfl) (by simp only [kev, ktab, klen, kcv] <;> rfl) cl16 (w_laws_toServer x hs)) (by simp only [kput] <;> rfl) ?_
        refine SOps.S0 rfl (OpS.weakEM rfl (by simp only [kev, ktab, klen, kcv] <;> rfl) (by simp only [kev, ktab, klen, kcv, E2b, M2b, N2b, E3b, M3b, N3b, E11b, M11b, N11b, E2c, M2c, N2c, E3c, M3c, N3c, E11c, M11c, N11c, E2d, M2d, N2d, E3d, M3d, N3d, E11d, M11d, N11d, V.eraseL, V.erase, V.travL, V.trav, zz, zf, zy] <;> rfl) cl18 (by simp [V.labels, V.labelsL, V.labelsLL, zz, zf, zy]) (w_laws_eqServer x x)) (by simp only [kput] <;> rfl) ?_
        refine SOps.ev tab_ok rfl (by simp only [kev, ktab, klen, kcv] <;> rfl) (by simp only [kput] <;> rfl) ?_
        refine SOps.nil ?_
        refine TOps.nil ?_
        refine Ok.cond_false (by simp only [kev, ktab, klen, kcv] <;> first | rfl | (simp; done) | (simp; omega) | (simp [N2d, N3d, N11d]; done)) ?_
        refine Ok.skip ?_
        refine Ok.seq ?_
        refine Ok.drop [48, 49, 50, 51, 52] (by simp only [kover] <;> rfl) ?_
        refine Ok.region ?_
        refine OkOps.ev tab_ok rfl (by simp only [kev, ktab, klen, kcv] <;> rfl) (by simp only [kput] <;> rfl) ?_
        refine OkOps.nil ?_
        refine Ok.seq ?_
        refine Ok.region ?_
        iterate 2 (refine OkOps.ev tab_ok rfl (by simp only [kev, ktab, klen, kcv] <;> rfl) (by simp only [kput] <;> rfl) ?_)
        refine OkOps.turnN 4 rfl rfl (by simp only [kev, ktab, klen, kcv] <;> rfl) (by simp only [kev, ktab, klen, kcv] <;> rfl) cl19 (fun h => c_laws_markServer _ _ L2c e2c L3c e3c _ _ _ _ _ _ _ L11c e11c _ _ q2c q3c q11c ndc (by have q := mn_server hs; have q2 := mn_server (smFeed (t := t) hs ht); dsimp only at *; simp only [N2c, N3c, N11c, N2d, N3d, N11d]; omega) (fun y hy => by have := rgc y hy; omega)) (by first | rfl | (simp only [Nat.add_zero, Nat.reduceAdd] <;> rfl)) (fun W hW ha => by have z2b := hW.far (.sl (L2b + 1) 7 0 e2b) (fun y hy h => by have := r2b y hy; have := rgc y h; omega); have zz2b := fun K => hW.far (.sl (L2b + 1) 7 0 (V.mkLL K e2b)) (fun y hy h => by have := r2b y (by simp only [V.labels, mkLL_labels] at hy; exact hy); have := rgc y h; omega); have z3b := hW.far (.sl (L3b + 1) 1 0 e3b) (fun y hy h => by have := r3b y hy; have := rgc y h; omega); have zz3b := fun K => hW.far (.sl (L3b + 1) 1 0 (V.mkLL K e3b)) (fun y hy h => by have := r3b y (by simp only [V.labels, mkLL_labels] at hy; exact hy); have := rgc y h; omega); have z11b := hW.far (.sl (L11b + 1) 1 0 e11b) (fun y hy h => by have := r11b y hy; have := rgc y h; omega); have zz11b := fun K => hW.far (.sl (L11b + 1) 1 0 (V.mkLL K e11b)) (fun y hy h => by have := r11b y (by simp only [V.labels, mkLL_labels] at hy; exact hy); have := rgc y h; omega); have z2d := hW.far (.sl (L2d + 1) 7 0 e2d) (fun y hy h => by have := r2d y hy; have := rgc y h; omega); have zz2d := fun K => hW.far (.sl (L2d + 1) 7 0 (V.mkLL K e2d)) (fun y hy h => by have := r2d y (by simp only [V.labels, mkLL_labels] at hy; exact hy); have := rgc y h; omega); have z3d := hW.far (.sl (L3d + 1) 1 0 e3d) (fun y hy h => by have := r3d y hy; have := rgc y h; omega); have zz3d := fun K => hW.far (.sl (L3d + 1) 1 0 (V.mkLL K e3d)) (fun y hy h => by have := r3d y (by simp only [V.labels, mkLL_labels] at hy; exact hy); have := rgc y h; omega); have z11d := hW.far (.sl (L11d + 1) 1 0 e11d) (fun y hy h => by have := r11d y hy; have := rgc y h; omega); have zz11d := fun K => hW.far (.sl (L11d + 1) 1 0 (V.mkLL K e11d)) (fun y hy h => by have := r11d y (by simp only [V.labels, mkLL_labels] at hy; exact hy); have := rgc y h; omega); have w0_2 := hW.far (.sl 0 7 0 ((x).kept.store.boxes.map cBox)) (fun y hy h => by have h0 : y = 0 := (show ∀ y ∈ V.labels (.sl 0 7 0 ((x).kept.store.boxes.map cBox)), y = 0 by simp [V.labels, zz, zf, zy]) y hy; have := rgc y h; omega); have w0_3 := hW.far (.sl 0 1 0 ((x).kept.store.gone.map cZ)) (fun y hy h => by have h0 : y = 0 := (show ∀ y ∈ V.labels (.sl 0 1 0 ((x).kept.store.gone.map cZ)), y = 0 by simp [V.labels, zz, zf, zy]) y hy; have := rgc y h; omega); have w0_11 := hW.far (.sl 0 1 0 ((x).session.view.map cZ)) (fun y hy h => by have h0 : y = 0 := (show ∀ y ∈ V.labels (.sl 0 1 0 ((x).session.view.map cZ)), y = 0 by simp [V.labels, zz, zf, zy]) y hy; have := rgc y h; omega); have p0 := fun i o e => hW.ptr (1) i o e (fun h => by have := rgc _ h; omega);  have p1 := fun i o e => hW.ptr (mb + 1) i o e (fun h => by have := rgc _ h; omega);  have p2 := fun i o e => hW.ptr (mc + 1) i o e (fun h => by have := rgc _ h; omega);  have p3 := fun i o e => hW.ptr (md + 1) i o e (fun h => by have := rgc _ h; omega); have ha2 := ha; simp only [hW.agg, List.map_cons, List.map_nil, hW.int, hW.str, hW.bool, V.agg.injEq, List.cons.injEq, and_true, true_and] at ha2; simp only [List.map_cons, List.map_nil, hW.int, hW.str, hW.bool, hW.any, hW.tup0, hW.agg, ha2, kput, z2b, zz2b, z3b, zz3b, z11b, zz11b, z2d, zz2d, z3d, zz3d, z11d, zz11d, w0_2, w0_3, w0_11, p0, p1, p2, p3] <;> rfl) ?_
        refine OkOps.ev tab_ok rfl (by simp only [kev, ktab, klen, kcv] <;> rfl) (by simp only [kput] <;> rfl) ?_
        refine OkOps.nil ?_
        refine Ok.seq ?_
        refine Ok.seq ?_
        refine Ok.drop [53, 54, 55] (by simp only [kover] <;> rfl) ?_
        refine Ok.region ?_
        iterate 3 (refine OkOps.ev tab_ok rfl (by simp only [kev, ktab, klen, kcv] <;> rfl) (by simp only [kput] <;> rfl) ?_)
        refine OkOps.split (d := 58) (by simp only [kev, ktab, klen, kcv] <;> rfl) (by simp only [kput] <;> rfl) (by simp only [kput] <;> rfl) (fun hg16_2 => ?_) (fun hg16_2 => ?_)
        · try simp only [bsimp] at hg16_2
          exfalso; omega
        · try simp only [bsimp] at hg16_2
          refine OkOps.on rfl rfl (by simp only [kev, ktab, klen, kcv]) ?_
          refine OkOps.ev tab_ok rfl (by simp only [kev, ktab, klen, kcv] <;> rfl) (by simp only [kput] <;> rfl) ?_
          refine OkOps.on rfl rfl (by simp only [kev, ktab, klen, kcv]) ?_
          refine OkOps.ev tab_ok rfl (by simp only [kev, ktab, klen, kcv] <;> rfl) (by simp only [kput] <;> rfl) ?_
          refine OkOps.on rfl rfl (by simp only [kev, ktab, klen, kcv]) ?_
          refine OkOps.S0 rfl (OpS.weakE rfl (by simp only [kev, ktab, klen, kcv] <;> rfl) (by simp only [kev, ktab, klen, kcv, E2b, M2b, N2b, E3b, M3b, N3b, E11b, M11b, N11b, E2c, M2c, N2c, E3c, M3c, N3c, E11c, M11c, N11c, E2d, M2d, N2d, E3d, M3d, N3d, E11d, M11d, N11d, V.eraseL, V.erase, V.travL, V.trav, zz, zf, zy] <;> rfl) cl18 (by simp [V.labels, V.labelsL, V.labelsLL, zz, zf, zy]) (w_laws_eqServer (feedV x t) (feedV x t))) (by simp only [kput] <;> rfl) ?_
          refine OkOps.on rfl rfl (by simp only [kev, ktab, klen, kcv]) ?_
          iterate 3 (refine OkOps.ev tab_ok rfl (by simp only [kev, ktab, klen, kcv] <;> rfl) (by simp only [kput] <;> rfl) ?_)
          refine OkOps.split (d := 64) (by simp only [kev, ktab, klen, kcv] <;> rfl) (by simp only [kput] <;> rfl) (by simp only [kput] <;> rfl) (fun hg16_8 => ?_) (fun hg16_8 => ?_)
          · try simp only [bsimp] at hg16_8
            simp at hg16_8
          · try simp only [bsimp] at hg16_8
            refine OkOps.on rfl rfl (by simp only [kev, ktab, klen, kcv]) ?_
            refine OkOps.ev tab_ok rfl (by simp only [kev, ktab, klen, kcv] <;> rfl) (by simp only [kput] <;> rfl) ?_
            refine OkOps.on rfl rfl (by simp only [kev, ktab, klen, kcv]) ?_
            refine OkOps.ev tab_ok rfl (by simp only [kev, ktab, klen, kcv] <;> rfl) (by simp only [kput] <;> rfl) ?_
            refine OkOps.on rfl rfl (by simp only [kev, ktab, klen, kcv]) ?_
            iterate 2 (refine OkOps.ev tab_ok rfl (by simp only [kev, ktab, klen, kcv] <;> rfl) (by simp only [kput] <;> rfl) ?_)
            refine OkOps.nil ?_
            refine Ok.cond_false (by simp only [kev, ktab, klen, kcv] <;> first | rfl | (simp; done) | (simp; omega) | (simp [N2d, N3d, N11d]; done)) ?_
            refine Ok.skip ?_
            refine Ok.seq ?_
            refine Ok.drop [56, 57, 58, 59, 60, 61, 62, 63, 64, 65, 66, 67, 68] (by simp only [kover] <;> rfl) ?_
            refine Ok.region ?_
            refine OkOps.ev tab_ok rfl (by simp only [kev, ktab, klen, kcv] <;> rfl) (by simp only [kput] <;> rfl) ?_
            refine OkOps.nil ?_
            refine Ok.seq ?_
            refine Ok.region ?_
            iterate 2 (refine OkOps.ev tab_ok rfl (by simp only [kev, ktab, klen, kcv] <;> rfl) (by simp only [kput] <;> rfl) ?_)
            refine OkOps.turnN 4 rfl rfl (by simp only [kev, ktab, klen, kcv] <;> rfl) (by simp only [kev, ktab, klen, kcv] <;> rfl) cl19 (fun h => c_laws_markServer _ _ L2d e2d L3d e3d _ _ _ _ _ _ _ L11d e11d _ _ q2d q3d q11d ndd (by have q := mn_server hs; have q2 := mn_server (smFeed (t := t) hs ht); dsimp only at *; simp only [N2c, N3c, N11c, N2d, N3d, N11d]; omega) (fun y hy => by have := rgd y hy; omega)) (by first | rfl | (simp only [Nat.add_zero, Nat.reduceAdd] <;> rfl)) (fun W hW ha => by have z2b := hW.far (.sl (L2b + 1) 7 0 e2b) (fun y hy h => by have := r2b y hy; have := rgd y h; omega); have zz2b := fun K => hW.far (.sl (L2b + 1) 7 0 (V.mkLL K e2b)) (fun y hy h => by have := r2b y (by simp only [V.labels, mkLL_labels] at hy; exact hy); have := rgd y h; omega); have z3b := hW.far (.sl (L3b + 1) 1 0 e3b) (fun y hy h => by have := r3b y hy; have := rgd y h; omega); have zz3b := fun K => hW.far (.sl (L3b + 1) 1 0 (V.mkLL K e3b)) (fun y hy h => by have := r3b y (by simp only [V.labels, mkLL_labels] at hy; exact hy); have := rgd y h; omega); have z11b := hW.far (.sl (L11b + 1) 1 0 e11b) (fun y hy h => by have := r11b y hy; have := rgd y h; omega); have zz11b := fun K => hW.far (.sl (L11b + 1) 1 0 (V.mkLL K e11b)) (fun y hy h => by have := r11b y (by simp only [V.labels, mkLL_labels] at hy; exact hy); have := rgd y h; omega); have z2c := hW.far (.sl (L2c + 1) 7 0 e2c) (fun y hy h => by have := r2c y hy; have := rgd y h; omega); have zz2c := fun K => hW.far (.sl (L2c + 1) 7 0 (V.mkLL K e2c)) (fun y hy h => by have := r2c y (by simp only [V.labels, mkLL_labels] at hy; exact hy); have := rgd y h; omega); have z3c := hW.far (.sl (L3c + 1) 1 0 e3c) (fun y hy h => by have := r3c y hy; have := rgd y h; omega); have zz3c := fun K => hW.far (.sl (L3c + 1) 1 0 (V.mkLL K e3c)) (fun y hy h => by have := r3c y (by simp only [V.labels, mkLL_labels] at hy; exact hy); have := rgd y h; omega); have z11c := hW.far (.sl (L11c + 1) 1 0 e11c) (fun y hy h => by have := r11c y hy; have := rgd y h; omega); have zz11c := fun K => hW.far (.sl (L11c + 1) 1 0 (V.mkLL K e11c)) (fun y hy h => by have := r11c y (by simp only [V.labels, mkLL_labels] at hy; exact hy); have := rgd y h; omega); have w0_2 := hW.far (.sl 0 7 0 ((x).kept.store.boxes.map cBox)) (fun y hy h => by have h0 : y = 0 := (show ∀ y ∈ V.labels (.sl 0 7 0 ((x).kept.store.boxes.map cBox)), y = 0 by simp [V.labels, zz, zf, zy]) y hy; have := rgd y h; omega); have w0_3 := hW.far (.sl 0 1 0 ((x).kept.store.gone.map cZ)) (fun y hy h => by have h0 : y = 0 := (show ∀ y ∈ V.labels (.sl 0 1 0 ((x).kept.store.gone.map cZ)), y = 0 by simp [V.labels, zz, zf, zy]) y hy; have := rgd y h; omega); have w0_11 := hW.far (.sl 0 1 0 ((x).session.view.map cZ)) (fun y hy h => by have h0 : y = 0 := (show ∀ y ∈ V.labels (.sl 0 1 0 ((x).session.view.map cZ)), y = 0 by simp [V.labels, zz, zf, zy]) y hy; have := rgd y h; omega); have p0 := fun i o e => hW.ptr (1) i o e (fun h => by have := rgd _ h; omega);  have p1 := fun i o e => hW.ptr (mb + 1) i o e (fun h => by have := rgd _ h; omega);  have p2 := fun i o e => hW.ptr (mc + 1) i o e (fun h => by have := rgd _ h; omega);  have p3 := fun i o e => hW.ptr (md + 1) i o e (fun h => by have := rgd _ h; omega); have ha2 := ha; simp only [hW.agg, List.map_cons, List.map_nil, hW.int, hW.str, hW.bool, V.agg.injEq, List.cons.injEq, and_true, true_and] at ha2; simp only [List.map_cons, List.map_nil, hW.int, hW.str, hW.bool, hW.any, hW.tup0, hW.agg, ha2, kput, z2b, zz2b, z3b, zz3b, z11b, zz11b, z2c, zz2c, z3c, zz3c, z11c, zz11c, w0_2, w0_3, w0_11, p0, p1, p2, p3] <;> rfl) ?_
            refine OkOps.ev tab_ok rfl (by simp only [kev, ktab, klen, kcv] <;> rfl) (by simp only [kput] <;> rfl) ?_
            refine OkOps.nil ?_
            refine Ok.seq ?_
            refine Ok.drop [69, 70, 71] (by simp only [kover] <;> rfl) ?_
            refine Ok.region ?_
            refine OkOps.ev tab_ok rfl (by simp only [kev, ktab, klen, kcv] <;> rfl) (by simp only [kput] <;> rfl) ?_
            refine OkOps.nil ?_
            refine Ok.seq ?_
            refine Ok.region ?_
            iterate 2 (refine OkOps.ev tab_ok rfl (by simp only [kev, ktab, klen, kcv] <;> rfl) (by simp only [kput] <;> rfl) ?_)
            refine OkOps.S0 rfl (OpS.weakE rfl (by simp only [kev, ktab, klen, kcv] <;> rfl) (by simp only [kev, ktab, klen, kcv, E2b, M2b, N2b, E3b, M3b, N3b, E11b, M11b, N11b, E2c, M2c, N2c, E3c, M3c, N3c, E11c, M11c, N11c, E2d, M2d, N2d, E3d, M3d, N3d, E11d, M11d, N11d, V.eraseL, V.erase, V.travL, V.trav, zz, zf, zy] <;> rfl) cl20 (by simp [V.labels, V.labelsL, V.labelsLL, zz, zf, zy]) (w_laws_heldServer (feedV x t) 1 (by have := mn_server (smFeed (t := t) hs ht); (try dsimp only); omega))) (by simp only [kput] <;> rfl) ?_
            refine OkOps.ev tab_ok rfl (by simp only [kev, ktab, klen, kcv] <;> rfl) (by simp only [kput] <;> rfl) ?_
            refine OkOps.nil ?_
            refine Ok.seq ?_
            refine Ok.seq ?_
            refine Ok.drop [72, 73, 74] (by simp only [kover] <;> rfl) ?_
            refine Ok.region ?_
            iterate 2 (refine OkOps.ev tab_ok rfl (by simp only [kev, ktab, klen, kcv] <;> rfl) (by simp only [kput] <;> rfl) ?_)
            refine OkOps.nil ?_
            refine Ok.cond_false (by simp only [kev, ktab, klen, kcv] <;> first | rfl | (simp; done) | (simp; omega) | (simp [N2d, N3d, N11d]; done)) ?_
            refine Ok.skip ?_
            refine Ok.seq ?_
            refine Ok.seq ?_
            refine Ok.drop [75, 76] (by simp only [kover] <;> rfl) ?_
            refine Ok.region ?_
            iterate 3 (refine OkOps.ev tab_ok rfl (by simp only [kev, ktab, klen, kcv] <;> rfl) (by simp only [kput] <;> rfl) ?_)
            refine OkOps.nil ?_
            refine Ok.cond_false (by simp only [kev, ktab, klen, kcv] <;> first | rfl | (simp; done) | (simp; omega) | (simp [N2d, N3d, N11d]; done)) ?_
            refine Ok.skip ?_
            refine Ok.seq ?_
            refine Ok.drop [77, 78, 79] (by simp only [kover] <;> rfl) ?_
            refine Ok.bump (n' := md + 20 + 1) (by omega) ?_
            refine Ok.region ?_
            refine OkOps.ev tab_ok rfl (by simp only [kev, ktab, klen, kcv] <;> rfl) (by simp only [kput] <;> rfl) ?_
            refine OkOps.S0 rfl (OpS.weak' rfl (by simp only [kev, ktab, klen, kcv] <;> rfl) (by simp only [kev, ktab, klen, kcv] <;> rfl) cl16 (w_laws_toServer x hs)) (by simp only [kput] <;> rfl) ?_
            refine OkOps.ev tab_ok rfl (by simp only [kev, ktab, klen, kcv] <;> rfl) (by simp only [kput] <;> rfl) ?_
            obtain ⟨L2g, e2g, L3g, e3g, L11g, e11g, hXg, q2g, E2g, M2g, N2g, q3g, E3g, M3g, N3g, q11g, E11g, M11g, N11g, ndg, rgg⟩ := ownTServer (md + 20) (feedV x t) (feedB x t)
            obtain ⟨mg, hmg⟩ : ∃ m, md + 20 + 1 + V.cnt (.tup [.agg (cServer (feedV x t)), .bool (feedB x t)]) = m + 1 := ⟨md + 20 + V.cnt (.tup [.agg (cServer (feedV x t)), .bool (feedB x t)]), by omega⟩
            have r2g : ∀ z ∈ V.labels (.sl (L2g + 1) 7 0 e2g), md + 20 + 1 ≤ z ∧ z < mg + 1 := fun z hz => by have := rgg z (by first | exact hz | (simp only [V.labelsL, V.labels, List.mem_append] at hz ⊢; simp only [hz, true_or, or_true])); omega
            have r3g : ∀ z ∈ V.labels (.sl (L3g + 1) 1 0 e3g), md + 20 + 1 ≤ z ∧ z < mg + 1 := fun z hz => by have := rgg z (by first | exact hz | (simp only [V.labelsL, V.labels, List.mem_append] at hz ⊢; simp only [hz, true_or, or_true])); omega
            have r11g : ∀ z ∈ V.labels (.sl (L11g + 1) 1 0 e11g), md + 20 + 1 ≤ z ∧ z < mg + 1 := fun z hz => by have := rgg z (by first | exact hz | (simp only [V.labelsL, V.labels, List.mem_append] at hz ⊢; simp only [hz, true_or, or_true])); omega
            refine OkOps.S' rfl (OpS.pure' rfl (by simp only [kev, ktab, klen, kcv] <;> rfl) (by simp only [kev, ktab, klen, kcv, E2b, M2b, N2b, E3b, M3b, N3b, E11b, M11b, N11b, E2c, M2c, N2c, E3c, M3c, N3c, E11c, M11c, N11c, E2d, M2d, N2d, E3d, M3d, N3d, E11d, M11d, N11d, V.eraseL, V.erase, V.travL, V.trav, zz, zf, zy] <;> rfl) cl27 (by simp [V.dat, V.datL, V.datLL, zz, zf, zy]) (p_impl_FeedServer x t hs ht)) hmg (by simp only [kput, hXg] <;> rfl) ?_
            iterate 4 (refine OkOps.ev tab_ok rfl (by simp only [kev, ktab, klen, kcv] <;> rfl) (by simp only [kput] <;> rfl) ?_)
            refine OkOps.drop [84, 80] (by simp only [kover] <;> rfl) ?_
            refine OkOps.storeN tab_ok rfl rfl (by simp only [kev, ktab, klen, kcv] <;> rfl) ⟨_, _, by simp only [kev]; rfl⟩ (by first | (simp [V.labelsL, V.labelsLL, V.labels, zz, zf, zy]; done) | (intro h; have := rgg _ h; omega)) (fun W hW hF => by have z2b := hW.far (.sl (L2b + 1) 7 0 e2b) (fun y hy h => by have := r2b y hy; skip; omega); have zz2b := fun K => hW.far (.sl (L2b + 1) 7 0 (V.mkLL K e2b)) (fun y hy h => by have := r2b y (by simp only [V.labels, mkLL_labels] at hy; exact hy); skip; omega); have z3b := hW.far (.sl (L3b + 1) 1 0 e3b) (fun y hy h => by have := r3b y hy; skip; omega); have zz3b := fun K => hW.far (.sl (L3b + 1) 1 0 (V.mkLL K e3b)) (fun y hy h => by have := r3b y (by simp only [V.labels, mkLL_labels] at hy; exact hy); skip; omega); have z11b := hW.far (.sl (L11b + 1) 1 0 e11b) (fun y hy h => by have := r11b y hy; skip; omega); have zz11b := fun K => hW.far (.sl (L11b + 1) 1 0 (V.mkLL K e11b)) (fun y hy h => by have := r11b y (by simp only [V.labels, mkLL_labels] at hy; exact hy); skip; omega); have z2c := hW.far (.sl (L2c + 1) 7 0 e2c) (fun y hy h => by have := r2c y hy; skip; omega); have zz2c := fun K => hW.far (.sl (L2c + 1) 7 0 (V.mkLL K e2c)) (fun y hy h => by have := r2c y (by simp only [V.labels, mkLL_labels] at hy; exact hy); skip; omega); have z3c := hW.far (.sl (L3c + 1) 1 0 e3c) (fun y hy h => by have := r3c y hy; skip; omega); have zz3c := fun K => hW.far (.sl (L3c + 1) 1 0 (V.mkLL K e3c)) (fun y hy h => by have := r3c y (by simp only [V.labels, mkLL_labels] at hy; exact hy); skip; omega); have z11c := hW.far (.sl (L11c + 1) 1 0 e11c) (fun y hy h => by have := r11c y hy; skip; omega); have zz11c := fun K => hW.far (.sl (L11c + 1) 1 0 (V.mkLL K e11c)) (fun y hy h => by have := r11c y (by simp only [V.labels, mkLL_labels] at hy; exact hy); skip; omega); have z2d := hW.far (.sl (L2d + 1) 7 0 e2d) (fun y hy h => by have := r2d y hy; skip; omega); have zz2d := fun K => hW.far (.sl (L2d + 1) 7 0 (V.mkLL K e2d)) (fun y hy h => by have := r2d y (by simp only [V.labels, mkLL_labels] at hy; exact hy); skip; omega); have z3d := hW.far (.sl (L3d + 1) 1 0 e3d) (fun y hy h => by have := r3d y hy; skip; omega); have zz3d := fun K => hW.far (.sl (L3d + 1) 1 0 (V.mkLL K e3d)) (fun y hy h => by have := r3d y (by simp only [V.labels, mkLL_labels] at hy; exact hy); skip; omega); have z11d := hW.far (.sl (L11d + 1) 1 0 e11d) (fun y hy h => by have := r11d y hy; skip; omega); have zz11d := fun K => hW.far (.sl (L11d + 1) 1 0 (V.mkLL K e11d)) (fun y hy h => by have := r11d y (by simp only [V.labels, mkLL_labels] at hy; exact hy); skip; omega); have z2g := hW.far (.sl (L2g + 1) 7 0 e2g) (fun y hy h => by have := r2g y hy; skip; omega); have zz2g := fun K => hW.far (.sl (L2g + 1) 7 0 (V.mkLL K e2g)) (fun y hy h => by have := r2g y (by simp only [V.labels, mkLL_labels] at hy; exact hy); skip; omega); have z3g := hW.far (.sl (L3g + 1) 1 0 e3g) (fun y hy h => by have := r3g y hy; skip; omega); have zz3g := fun K => hW.far (.sl (L3g + 1) 1 0 (V.mkLL K e3g)) (fun y hy h => by have := r3g y (by simp only [V.labels, mkLL_labels] at hy; exact hy); skip; omega); have z11g := hW.far (.sl (L11g + 1) 1 0 e11g) (fun y hy h => by have := r11g y hy; skip; omega); have zz11g := fun K => hW.far (.sl (L11g + 1) 1 0 (V.mkLL K e11g)) (fun y hy h => by have := r11g y (by simp only [V.labels, mkLL_labels] at hy; exact hy); skip; omega); have w0_2 := hW.far (.sl 0 7 0 ((x).kept.store.boxes.map cBox)) (fun y hy h => by have h0 : y = 0 := (show ∀ y ∈ V.labels (.sl 0 7 0 ((x).kept.store.boxes.map cBox)), y = 0 by simp [V.labels, zz, zf, zy]) y hy; skip; omega); have w0_3 := hW.far (.sl 0 1 0 ((x).kept.store.gone.map cZ)) (fun y hy h => by have h0 : y = 0 := (show ∀ y ∈ V.labels (.sl 0 1 0 ((x).kept.store.gone.map cZ)), y = 0 by simp [V.labels, zz, zf, zy]) y hy; skip; omega); have w0_11 := hW.far (.sl 0 1 0 ((x).session.view.map cZ)) (fun y hy h => by have h0 : y = 0 := (show ∀ y ∈ V.labels (.sl 0 1 0 ((x).session.view.map cZ)), y = 0 by simp [V.labels, zz, zf, zy]) y hy; skip; omega); have p0 := fun i o e => hW.ptr (1) i o e (by omega);  have p1 := fun i o e => hW.ptr (mb + 1) i o e (by omega);  have p2 := fun i o e => hW.ptr (mc + 1) i o e (by omega);  have p3 := fun i o e => hW.ptr (md + 1) i o e (by omega); simp only [List.map_cons, List.map_nil, hW.int, hW.str, hW.bool, hW.any, hW.tup0, hW.agg, hW.nilV, hF.ptr, z2b, zz2b, z3b, zz3b, z11b, zz11b, z2c, zz2c, z3c, zz3c, z11c, zz11c, z2d, zz2d, z3d, zz3d, z11d, zz11d, z2g, zz2g, z3g, zz3g, z11g, zz11g, w0_2, w0_3, w0_11, p0, p1, p2, p3, kput] <;> rfl) ?_
            refine OkOps.ev tab_ok rfl (by simp only [kev, ktab, klen, kcv] <;> rfl) (by simp only [kput] <;> rfl) ?_
            refine OkOps.nil ?_
            refine Ok.seq ?_
            refine Ok.seq ?_
            refine Ok.drop [80, 81, 82, 83, 84, 85, 86] (by simp only [kover] <;> rfl) ?_
            refine Ok.region ?_
            iterate 2 (refine OkOps.ev tab_ok rfl (by simp only [kev, ktab, klen, kcv] <;> rfl) (by simp only [kput] <;> rfl) ?_)
            refine OkOps.S0 rfl (OpS.weakE rfl (by simp only [kev, ktab, klen, kcv] <;> rfl) (by simp only [kev, ktab, klen, kcv, E2b, M2b, N2b, E3b, M3b, N3b, E11b, M11b, N11b, E2c, M2c, N2c, E3c, M3c, N3c, E11c, M11c, N11c, E2d, M2d, N2d, E3d, M3d, N3d, E11d, M11d, N11d, E2g, M2g, N2g, E3g, M3g, N3g, E11g, M11g, N11g, V.eraseL, V.erase, V.travL, V.trav, zz, zf, zy] <;> rfl) cl18 (by simp [V.labels, V.labelsL, V.labelsLL, zz, zf, zy]) (w_laws_eqServer (feedV x t) (feedV x t))) (by simp only [kput] <;> rfl) ?_
            iterate 2 (refine OkOps.ev tab_ok rfl (by simp only [kev, ktab, klen, kcv] <;> rfl) (by simp only [kput] <;> rfl) ?_)
            refine OkOps.split (d := 91) (by simp only [kev, ktab, klen, kcv] <;> rfl) (by simp only [kput] <;> rfl) (by simp only [kput] <;> rfl) (fun hg27_4 => ?_) (fun hg27_4 => ?_)
            · try simp only [bsimp] at hg27_4
              simp at hg27_4
            · try simp only [bsimp] at hg27_4
              refine OkOps.on rfl rfl (by simp only [kev, ktab, klen, kcv]) ?_
              refine OkOps.ev tab_ok rfl (by simp only [kev, ktab, klen, kcv] <;> rfl) (by simp only [kput] <;> rfl) ?_
              refine OkOps.on rfl rfl (by simp only [kev, ktab, klen, kcv]) ?_
              refine OkOps.ev tab_ok rfl (by simp only [kev, ktab, klen, kcv] <;> rfl) (by simp only [kput] <;> rfl) ?_
              refine OkOps.on rfl rfl (by simp only [kev, ktab, klen, kcv]) ?_
              iterate 2 (refine OkOps.ev tab_ok rfl (by simp only [kev, ktab, klen, kcv] <;> rfl) (by simp only [kput] <;> rfl) ?_)
              refine OkOps.nil ?_
              refine Ok.cond_false (by simp only [kev, ktab, klen, kcv] <;> first | rfl | (simp; done) | (simp; omega) | (simp [N2d, N3d, N11d]; done)) ?_
              refine Ok.skip ?_
              refine Ok.seq ?_
              refine Ok.drop [87, 88, 89, 90, 91, 92, 93, 94, 95] (by simp only [kover] <;> rfl) ?_
              refine Ok.region ?_
              refine OkOps.ev tab_ok rfl (by simp only [kev, ktab, klen, kcv] <;> rfl) (by simp only [kput] <;> rfl) ?_
              refine OkOps.nil ?_
              refine Ok.seq ?_
              refine Ok.region ?_
              iterate 2 (refine OkOps.ev tab_ok rfl (by simp only [kev, ktab, klen, kcv] <;> rfl) (by simp only [kput] <;> rfl) ?_)
              refine OkOps.S0 rfl (OpS.weakE rfl (by simp only [kev, ktab, klen, kcv] <;> rfl) (by simp only [kev, ktab, klen, kcv, E2b, M2b, N2b, E3b, M3b, N3b, E11b, M11b, N11b, E2c, M2c, N2c, E3c, M3c, N3c, E11c, M11c, N11c, E2d, M2d, N2d, E3d, M3d, N3d, E11d, M11d, N11d, E2g, M2g, N2g, E3g, M3g, N3g, E11g, M11g, N11g, V.eraseL, V.erase, V.travL, V.trav, zz, zf, zy] <;> rfl) cl20 (by simp [V.labels, V.labelsL, V.labelsLL, zz, zf, zy]) (w_laws_heldServer (feedV x t) 1 (by have := mn_server (smFeed (t := t) hs ht); (try dsimp only); omega))) (by simp only [kput] <;> rfl) ?_
              refine OkOps.ev tab_ok rfl (by simp only [kev, ktab, klen, kcv] <;> rfl) (by simp only [kput] <;> rfl) ?_
              refine OkOps.nil ?_
              refine Ok.seq ?_
              refine Ok.seq ?_
              refine Ok.drop [96, 97, 98] (by simp only [kover] <;> rfl) ?_
              refine Ok.region ?_
              iterate 2 (refine OkOps.ev tab_ok rfl (by simp only [kev, ktab, klen, kcv] <;> rfl) (by simp only [kput] <;> rfl) ?_)
              refine OkOps.nil ?_
              refine Ok.cond_false (by simp only [kev, ktab, klen, kcv] <;> first | rfl | (simp; done) | (simp; omega) | (simp [N2d, N3d, N11d]; done)) ?_
              refine Ok.skip ?_
              refine Ok.seq ?_
              refine Ok.seq ?_
              refine Ok.drop [99, 100] (by simp only [kover] <;> rfl) ?_
              refine Ok.region ?_
              iterate 3 (refine OkOps.ev tab_ok rfl (by simp only [kev, ktab, klen, kcv] <;> rfl) (by simp only [kput] <;> rfl) ?_)
              refine OkOps.nil ?_
              refine Ok.cond_false (by simp only [kev, ktab, klen, kcv] <;> first | rfl | (simp; done) | (simp; omega) | (simp [N2d, N3d, N11d]; done)) ?_
              refine Ok.skip ?_
              refine Ok.seq ?_
              refine Ok.drop [101, 102, 103] (by simp only [kover] <;> rfl) ?_
              refine Ok.region ?_
              refine OkOps.ev tab_ok rfl (by simp only [kev, ktab, klen, kcv] <;> rfl) (by simp only [kput] <;> rfl) ?_
              refine OkOps.nil ?_
              refine Ok.ret ?_
              repeat (first | with_reducible refine thenQ_ret ?_ | with_reducible refine blockQ_ret ?_)
              refine retQ.end (by show resVs tab _ [.tmp 4] = _; simp only [kev, ktab, klen, kcv] <;> rfl) rfl ?_
              rfl
end Go.Proofs.Ytjhfabimacljhaa.K
