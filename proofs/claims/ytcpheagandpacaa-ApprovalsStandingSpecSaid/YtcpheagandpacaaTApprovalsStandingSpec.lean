/-
The law ApprovalsStandingSpec as plain functions: it is true.
-/
import Derived.Test.YtcpheagandpacaaP21
import Derived.Test.YtcpheagandpacaaOp
import Derived.Test.YtcpheagandpacaaV3
namespace Go.Proofs.Ytcpheagandpacaa.T
open Go.RowKit Go.Proofs.Ytcpheagandpacaa.P Go.Proofs.Ytcpheagandpacaa.W Go.Proofs.Ytcpheagandpacaa.S Go.Proofs.Ytcpheagandpacaa.U Go.Proofs.Ytcpheagandpacaa.V
set_option linter.unusedVariables false
theorem few_le {l : List S24} (hb : signatoryref28_Few.f l = some true) : l.length ≤ 4200 := by
  unfold signatoryref28_Few.f at hb
  split at hb
  · omega
  · split at hb
    · simp at hb; omega
    · simp at hb
theorem ApprovalsStandingSpec (l : List S24) (doc begun think at_ known : Int) (hl : ∀ y ∈ l, WF24 y) (h1 : (Lit.int .i64 doc).wf = true) (h2 : (Lit.int .i64 begun).wf = true) (h3 : (Lit.int .i64 think).wf = true) (h4 : (Lit.int .i64 at_).wf = true) (h5 : (Lit.int .i64 known).wf = true) :
    ∃ k, signatorylaw28_ApprovalsStandingSpec.f k l doc begun think at_ known = some true := by
  refine ⟨l.length + l.length + 10, ?_⟩
  unfold signatorylaw28_ApprovalsStandingSpec.f
  obtain ⟨b, hb⟩ : ∃ b, signatoryref28_Few.f l = some b := by
    unfold signatoryref28_Few.f
    repeat' split
    all_goals exact ⟨_, rfl⟩
  have hs : signatorylaw28_sane.f = some true := rfl
  rw [hs, hb]
  simp only [Option.bind_some, if_true]
  cases b with
  | false => rfl
  | true =>
    have hlen := few_le hb
    have hc : approvals_Counting.f l doc begun think at_ known = some (countingF l doc begun think at_ known) := rfl
    rw [standing_p l doc at_ known _ (by omega), standing_r l doc at_ known _ (by omega), hc, counting_r l doc begun think at_ known _ (by omega)]
    simp only [Option.bind_some, if_true]
    rw [same_r _ (Nat.le_trans (standF_len _ _ _ _) (by omega)) _ (Nat.lt_of_le_of_lt (standF_len _ _ _ _) (by omega)), same_r _ (Nat.le_trans (countingF_len _ _ _ _ _ _) (by omega)) _ (Nat.lt_of_le_of_lt (countingF_len _ _ _ _ _ _) (by omega))]
    simp
end Go.Proofs.Ytcpheagandpacaa.T
