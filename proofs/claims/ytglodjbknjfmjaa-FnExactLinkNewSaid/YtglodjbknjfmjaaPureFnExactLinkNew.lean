/- The law FnExactLinkNew holds at every epoch: the answers of the reference and of the program are the same struct with an empty list, the marks touch nothing, and what is held is 1. No condition. -/
import Derived.Test.YtglodjbknjfmjaaPFnExactLinkNewx2
namespace Go.Proofs.Ytglodjbknjfmjaa.Pure
open Go.RowKit Go.Proofs.Ytglodjbknjfmjaa.PFnExactLinkNew Go.Proofs.YtglodjbknjfmjaaW.PrintWords Go.Proofs.YtglodjbknjfmjaaW.PrintLast

theorem FnExactLinkNew : laws_FnExactLinkNew.Pure := by
  intro a0 h0
  refine ⟨1, ?_⟩
  simp [laws_FnExactLinkNew.f, spec_LinkNew.f, impl_LinkNew.f, laws_eqLink.f, laws_eqStringS.f, laws_eqStringS.l0, laws_markLink.f, laws_markStringS.f, laws_markStringS.l0, laws_heldLink.f, laws_heldStringS.f, laws_heldStringS.l0]

end Go.Proofs.Ytglodjbknjfmjaa.Pure
