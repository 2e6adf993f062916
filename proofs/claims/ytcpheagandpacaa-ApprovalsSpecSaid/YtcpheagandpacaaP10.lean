-- Written by drive.py (a session's program over the kit's print). Not trusted: Lean checks it.
import Derived.Test.YtcpheagandpacaaP0
import Derived.Test.YtcpheagandpacaaWn
namespace Go.Proofs.Ytcpheagandpacaa.P
open Go.RowKit Go.Proofs.YtcpheagandpacaaW.PrintWords Go.Proofs.YtcpheagandpacaaW.PrintLast Go.Proofs.YtcpheagandpacaaW.PrintMore
attribute [local go_sem] max2_int min2_int max_two min_two max_three min_three max_four min_four   -- for this text's walks alone
set_option linter.unusedVariables false
set_option linter.unusedSimpArgs false

/-! ### signatorylaw28_numbered: function 40 -/
-- HOOK Derived.Test.YtcpheagandpacaaWn
def signatorylaw28_numbered.f (l0 : List (S24)) (l1 : List Int) : Option (Bool) := some (decide (l0.map (fun x => x.f0) = l1))
theorem signatorylaw28_numbered.calls (A0 : Option Addr) (c0 : Nat) (l0 : List (S24)) (A1 : Option Addr) (c1 : Nat) (l1 : List Int) (r : Bool) (w : World) (hr0 : Kd.C k24 w A0 l0.length l0) (hc0 : l0.length ≤ c0) (hr1 : Kd.C (Kd.int .i64) w A1 l1.length l1) (hc1 : l1.length ≤ c1) (h : signatorylaw28_numbered.f l0 l1 = some r) :
    Calls Try.prog 40 #[.slice A0 l0.length c0, .slice A1 l1.length c1] w (fun e w' => e = .returned (.bool r) ∧ Below w.heap.size w w') := by
  unfold signatorylaw28_numbered.f at h
  simp only [Option.some.injEq] at h
  subst h
  exact W.Nu.num_any A0 A1 c0 c1 l0 l1 w hr0 hr1
end Go.Proofs.Ytcpheagandpacaa.P
