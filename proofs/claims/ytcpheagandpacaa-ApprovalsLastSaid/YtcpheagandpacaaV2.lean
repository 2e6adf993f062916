/-
Pure: the program's Standing and Counting as plain functions. Condition: enough rounds.
-/
import Derived.Test.YtcpheagandpacaaV
import Derived.Test.YtcpheagandpacaaP8
namespace Go.Proofs.Ytcpheagandpacaa.V
open Go.RowKit Go.Proofs.Ytcpheagandpacaa.P Go.Proofs.Ytcpheagandpacaa.S Go.Proofs.Ytcpheagandpacaa.U
set_option linter.unusedVariables false
theorem within_two (m a b : Int) : withinF m [a, b] = (withinF m [a] && withinF m [b]) := by simp [withinF]
theorem within_four (m a b c d : Int) : withinF m [a, b, c, d] = (withinF m [a] && (withinF m [b] && (withinF m [c] && withinF m [d]))) := by simp [withinF]
def standF (l : List S24) (doc at_ known : Int) : List S24 × Int :=
  if checkF l ≠ 0 then ([], checkF l) else if withinF 4095 [doc] = false ∨ withinF 1099511627775 [at_, known] = false then ([], 1) else (standingF l doc at_ known, 0)
theorem standing_p (l : List S24) (doc at_ known : Int) (k : Nat) (hk : l.length < k) : approvals_Standing.f k l doc at_ known = some (standF l doc at_ known) := by
  unfold approvals_Standing.f standF
  rw [check_f l k hk]
  simp only [Option.bind_some]
  by_cases h0 : checkF l = 0
  · obtain ⟨hn, _, _⟩ := check_ok h0
    rw [if_pos h0, if_neg (show ¬ checkF l ≠ 0 by simp [h0])]
    have hs : approvals_standing.f l doc at_ known = some (standingF l doc at_ known) := by unfold approvals_standing.f; rw [if_pos hn]
    have hw : ∀ m r, approvals_within.f m r = some (withinF m r) := fun _ _ => rfl
    simp only [hw, hs, Option.bind_some]
    cases withinF 4095 [doc] <;> cases withinF 1099511627775 [at_, known] <;> simp
  · rw [if_neg h0, if_pos h0]
theorem within_iff (m a : Int) : withinF m [a] = true ↔ 0 ≤ a ∧ a ≤ m := by
  unfold withinF outB
  simp
theorem right_time {x : S24} (h : rightF x = true) : 0 ≤ x.f1 ∧ x.f1 ≤ 1099511627775 ∧ 0 ≤ x.f2 ∧ x.f2 ≤ 1099511627775 := by
  unfold rightF at h
  rw [within_two 1099511627775] at h
  simp only [Bool.and_eq_true, within_iff] at h
  omega
theorem stand_len (l : List S24) (doc at_ known : Int) : (standingF l doc at_ known).length ≤ l.length := Nat.le_trans (List.length_filter_le _ _) (List.length_filter_le _ _)
theorem standF_len (l : List S24) (doc at_ known : Int) : (standF l doc at_ known).1.length ≤ l.length := by
  unfold standF
  repeat' split
  all_goals first | exact stand_len _ _ _ _ | simp
theorem countingF_len (l : List S24) (doc begun think at_ known : Int) : (countingF l doc begun think at_ known).1.length ≤ l.length := by
  unfold countingF
  repeat' split
  all_goals first | exact Nat.le_trans (List.length_filter_le _ _) (stand_len _ _ _ _) | simp
end Go.Proofs.Ytcpheagandpacaa.V
