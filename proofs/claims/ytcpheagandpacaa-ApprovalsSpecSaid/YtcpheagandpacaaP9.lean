-- Written by drive.py (a session's program over the kit's print). Not trusted: Lean checks it.
import Derived.Test.YtcpheagandpacaaP0
import Derived.Test.YtcpheagandpacaaWd
namespace Go.Proofs.Ytcpheagandpacaa.P
open Go.RowKit Go.Proofs.YtcpheagandpacaaW.PrintWords Go.Proofs.YtcpheagandpacaaW.PrintLast Go.Proofs.YtcpheagandpacaaW.PrintMore
attribute [local go_sem] max2_int min2_int max_two min_two max_three min_three max_four min_four   -- for this text's walks alone
set_option linter.unusedVariables false
set_option linter.unusedSimpArgs false

/-! ### approvals_Counting: function 17 -/
-- HOOK Derived.Test.YtcpheagandpacaaWd
def approvals_Counting.f (l0 : List (S24)) (a1 : Int) (a2 : Int) (a3 : Int) (a4 : Int) (a5 : Int) : Option ((List (S24)) × Int) := some (S.countingF l0 a1 a2 a3 a4 a5)
theorem approvals_Counting.calls (A0 : Option Addr) (c0 : Nat) (l0 : List (S24)) (a1 : Int) (a2 : Int) (a3 : Int) (a4 : Int) (a5 : Int) (r1 : List (S24)) (r2 : Int) (w : World) (hr0 : Kd.C k24 w A0 l0.length l0) (hc0 : l0.length ≤ c0) (h : approvals_Counting.f l0 a1 a2 a3 a4 a5 = some (r1, r2)) :
    Calls Try.prog 17 #[.slice A0 l0.length c0, .int .i64 a1, .int .i64 a2, .int .i64 a3, .int .i64 a4, .int .i64 a5] w (fun e w' => ∃ v0_ : Value, e = .returned (.tuple #[v0_, .int .i64 r2]) ∧ Kd.R k24 24 w' w.heap.size (fun _ => True) v0_ r1 ∧ Below w.heap.size w w') := by
  unfold approvals_Counting.f at h
  simp only [Option.some.injEq] at h
  have h0_ := congrArg (fun p_ => p_.1) h
  have h1_ := congrArg (fun p_ => p_.2) h
  dsimp only at h0_ h1_
  subst h0_ h1_
  exact W.counting_hook A0 c0 l0 a1 a2 a3 a4 a5 w hr0 hc0
end Go.Proofs.Ytcpheagandpacaa.P
