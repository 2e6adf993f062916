/-
The law BudgetsSpec as plain functions: it is true.
-/
import Derived.Test.YtaemdkbfdpjimaaP17
import Derived.Test.YtaemdkbfdpjimaaOp
import Derived.Test.YtaemdkbfdpjimaaVa
namespace Go.Proofs.Ytaemdkbfdpjimaa.T
open Go.RowKit Go.Proofs.Ytaemdkbfdpjimaa.P Go.Proofs.Ytaemdkbfdpjimaa.W Go.Proofs.Ytaemdkbfdpjimaa.S Go.Proofs.Ytaemdkbfdpjimaa.U Go.Proofs.Ytaemdkbfdpjimaa.V
theorem BudgetsSpec (l : List S24) (x : S24) (hl : ∀ y ∈ l, WF24 y) (hx : WF24 x) : ∃ k, signatorylaw18_BudgetsSpec.f k l x.f0 x.f1 x.f2 x.f3 x.f4 x.f5 x.f6 x.f7 = some true := by
  refine ⟨l.length + 5, ?_⟩
  unfold signatorylaw18_BudgetsSpec.f
  obtain ⟨b, hb⟩ : ∃ b, signatoryref18_Few.f l = some b := by
    unfold signatoryref18_Few.f
    repeat' split
    all_goals exact ⟨_, rfl⟩
  have hs : signatorylaw18_sane.f = some true := rfl
  rw [hs, hb]
  simp only [Option.bind_some, if_true]
  cases b with
  | false => rfl
  | true =>
    have hlen : l.length ≤ 4200 := by
      unfold signatoryref18_Few.f at hb
      split at hb
      · omega
      · split at hb
        · simp at hb; omega
        · simp at hb
    have ha : budgets_Add.f l x.f0 x.f1 x.f2 x.f3 x.f4 x.f5 x.f6 x.f7 = some (addF l x) := rfl
    have h1 := add_len l x
    rw [ha, add_r l x _ (by omega), check_f l _ (by omega), check_r l _ (by omega)]
    simp only [Option.bind_some, if_true]
    rw [same_r _ (by omega) _ (by omega)]
    simp
end Go.Proofs.Ytaemdkbfdpjimaa.T
