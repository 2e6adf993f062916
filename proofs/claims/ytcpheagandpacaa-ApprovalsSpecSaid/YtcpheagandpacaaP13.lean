-- Written by drive.py (a session's program over the kit's print). Not trusted: Lean checks it.
import Derived.Test.YtcpheagandpacaaP0
import Derived.Test.YtcpheagandpacaaWe
namespace Go.Proofs.Ytcpheagandpacaa.P
open Go.RowKit Go.Proofs.YtcpheagandpacaaW.PrintWords Go.Proofs.YtcpheagandpacaaW.PrintLast Go.Proofs.YtcpheagandpacaaW.PrintMore
attribute [local go_sem] max2_int min2_int max_two min_two max_three min_three max_four min_four   -- for this text's walks alone
set_option linter.unusedVariables false
set_option linter.unusedSimpArgs false

/-! ### signatorylaw28_sane: function 8 -/
-- HOOK Derived.Test.YtcpheagandpacaaWe
def signatorylaw28_sane.f  : Option (Bool) := some (true)
theorem signatorylaw28_sane.calls  (r : Bool) (w : World) (h : signatorylaw28_sane.f  = some r) :
    Calls Try.prog 8 #[] w (fun e w' => e = .returned (.bool r) ∧ Below w.heap.size w w') := by
  unfold signatorylaw28_sane.f at h
  simp only [Option.some.injEq] at h
  subst h
  exact W.sane_hook w
end Go.Proofs.Ytcpheagandpacaa.P
