-- Written by drive.py (a session's program over the kit's print). Not trusted: Lean checks it.
import Derived.Test.YtcpheagandpacaaP0
import Derived.Test.YtcpheagandpacaaWc
namespace Go.Proofs.Ytcpheagandpacaa.P
open Go.RowKit Go.Proofs.YtcpheagandpacaaW.PrintWords Go.Proofs.YtcpheagandpacaaW.PrintLast Go.Proofs.YtcpheagandpacaaW.PrintMore
attribute [local go_sem] max2_int min2_int max_two min_two max_three min_three max_four min_four   -- for this text's walks alone
set_option linter.unusedVariables false
set_option linter.unusedSimpArgs false

/-! ### approvals_standing: function 34 -/
-- HOOK Derived.Test.YtcpheagandpacaaWc
def approvals_standing.f (l0 : List (S24)) (a1 : Int) (a2 : Int) (a3 : Int) : Option ((List (S24))) := if l0.length ≤ 4096 then some (S.standingF l0 a1 a2 a3) else none
theorem approvals_standing.calls (A0 : Option Addr) (c0 : Nat) (l0 : List (S24)) (a1 : Int) (a2 : Int) (a3 : Int) (r : List (S24)) (w : World) (hr0 : Kd.C k24 w A0 l0.length l0) (hc0 : l0.length ≤ c0) (h : approvals_standing.f l0 a1 a2 a3 = some r) :
    Calls Try.prog 34 #[.slice A0 l0.length c0, .int .i64 a1, .int .i64 a2, .int .i64 a3] w (fun e w' => ∃ v0_ : Value, e = .returned (v0_) ∧ Kd.R k24 24 w' w.heap.size (fun _ => True) v0_ r ∧ Below w.heap.size w w') := by
  unfold approvals_standing.f at h
  split at h
  rotate_left
  · cases h
  rename_i hg
  simp only [Option.some.injEq] at h
  subst h
  exact W.standing_hook A0 c0 l0 a1 a2 a3 w hr0 hg
end Go.Proofs.Ytcpheagandpacaa.P
