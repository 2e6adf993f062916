/-
Pure: right and Check of the package budgets come to the plain functions. Condition of the Check law: enough rounds.
-/
import Derived.Test.YtaemdkbfdpjimaaS
import Derived.Test.YtaemdkbfdpjimaaWv
import Derived.Test.YtaemdkbfdpjimaaP4
namespace Go.Proofs.Ytaemdkbfdpjimaa.U
open Go.RowKit Go.Proofs.Ytaemdkbfdpjimaa.P Go.Proofs.Ytaemdkbfdpjimaa.S
theorem wrap_succ {i n : Nat} (h : i < n) (hn : n ≤ 4294967296) : wrap64 ((i : Int) + 1) = ((i + 1 : Nat) : Int) := by
  unfold wrap64; omega
theorem rd_nat (l : List S24) (i : Nat) (h : i < l.length) : rd_T24 l (i : Int) = l[i] := by
  simp [rd_T24, List.getD_eq_getElem?_getD, List.getElem?_eq_getElem h]
theorem right_f (x : S24) : budgets_right.f x.f0 x.f1 x.f2 x.f3 x.f4 x.f5 x.f6 x.f7 = some (rightF x) := rfl
theorem check_l0 (l : List S24) (hl : l.length ≤ 4096) : ∀ (d k i : Nat) (last : Int), l.length - i = d → i ≤ l.length → d + 1 < k → budgets_Check.l0 k last l (l.length : Int) (i : Int) = some (if okFrom last (l.drop i) then 0 else 180) := by
  intro d
  induction d with
  | zero =>
    intro k i last hd hi hk
    obtain ⟨k, rfl⟩ : ∃ m, k = m + 1 := ⟨k - 1, by omega⟩
    simp only [budgets_Check.l0]
    rw [if_neg (by omega), List.drop_of_length_le (by omega)]
    rfl
  | succ d ih =>
    intro k i last hd hi hk
    obtain ⟨k, rfl⟩ : ∃ m, k = m + 1 := ⟨k - 1, by omega⟩
    have hlt : i < l.length := by omega
    simp only [budgets_Check.l0]
    rw [if_pos (by omega), if_pos (by omega), if_pos (by omega), rd_nat l i hlt, right_f, List.drop_eq_getElem_cons hlt]
    simp only [Option.bind_some]
    by_cases hr : rightF l[i] = true
    · rw [if_pos hr]
      by_cases hle : l[i].f0 ≤ last
      · rw [if_pos hle, if_neg (by simp [okFrom, show ¬ last < l[i].f0 by omega])]
      · rw [if_neg hle, wrap_succ hlt (by omega), ih k (i + 1) _ (by omega) (by omega) (by omega)]
        simp [okFrom, hr, show last < l[i].f0 by omega]
    · rw [if_neg hr, if_neg (by simp [okFrom, hr])]
theorem check_f (l : List S24) (k : Nat) (hk : l.length + 1 < k) : budgets_Check.f k l = some (checkF l) := by
  unfold budgets_Check.f checkF
  by_cases h : 4096 < l.length
  · rw [if_pos (by omega), if_pos h]
  · rw [if_neg (by omega), if_neg h]
    have := check_l0 l (by omega) l.length k 0 (-1) (by omega) (by omega) hk
    simpa using this
/-- a list that is right is in order -/
theorem ok_rising : ∀ (l : List S24) (last : Int), okFrom last l = true → (∀ x ∈ l, last < x.f0) ∧ l.Pairwise (fun a b => a.f0 < b.f0) ∧ ∀ x ∈ l, rightF x = true
  | [], _, _ => ⟨fun _ h => (by cases h), List.Pairwise.nil, fun _ h => (by cases h)⟩
  | x :: l, last, h => by
    simp only [okFrom, Bool.and_eq_true, decide_eq_true_eq] at h
    obtain ⟨⟨h1, h2⟩, h3⟩ := h
    obtain ⟨a, b, c⟩ := ok_rising l x.f0 h3
    refine ⟨fun y hy => ?_, List.pairwise_cons.2 ⟨fun y hy => a y hy, b⟩, fun y hy => ?_⟩
    · rcases List.mem_cons.1 hy with rfl | hy
      · exact h2
      · exact Int.lt_trans h2 (a y hy)
    · rcases List.mem_cons.1 hy with rfl | hy
      · exact h1
      · exact c y hy
theorem check_ok {l : List S24} (h : checkF l = 0) : l.length ≤ 4096 ∧ l.Pairwise (fun a b => a.f0 < b.f0) ∧ ∀ x ∈ l, rightF x = true := by
  unfold checkF at h
  by_cases h1 : 4096 < l.length
  · rw [if_pos h1] at h; cases h
  · rw [if_neg h1] at h
    by_cases h2 : okFrom (-1) l = true
    · exact ⟨by omega, (ok_rising l _ h2).2⟩
    · rw [if_neg h2] at h; cases h
theorem rising_of {l : List S24} (h : l.Pairwise (fun a b => a.f0 < b.f0)) : ∀ a b : Nat, a < b → b < l.length → (l.getD a z24).f0 < (l.getD b z24).f0 := by
  intro a b hab hb
  have := List.pairwise_iff_getElem.1 h a b (by omega) hb hab
  simpa [List.getD_eq_getElem?_getD, List.getElem?_eq_getElem hb, List.getElem?_eq_getElem (show a < l.length by omega)] using this
end Go.Proofs.Ytaemdkbfdpjimaa.U
