/-
Pure: the program's and the reference's Standing as one plain function. Condition: enough rounds.
-/
import Derived.Test.YtaemdkbfdpjimaaV
import Derived.Test.YtaemdkbfdpjimaaV4
import Derived.Test.YtaemdkbfdpjimaaP8
import Derived.Test.YtaemdkbfdpjimaaWs
import Derived.Test.YtaemdkbfdpjimaaP20
namespace Go.Proofs.Ytaemdkbfdpjimaa.V
open Go.RowKit Go.Proofs.Ytaemdkbfdpjimaa.P Go.Proofs.Ytaemdkbfdpjimaa.S Go.Proofs.Ytaemdkbfdpjimaa.U
set_option linter.unusedVariables false
theorem kind_r (n : Int) : signatoryref18_kind.f n = some (!outB 0 15 n) := by
  unfold signatoryref18_kind.f outB
  by_cases h : n ≥ 0
  · rw [if_pos h]
    congr 1
    rw [Bool.eq_iff_iff]
    simp
    omega
  · rw [if_neg h]
    congr 1
    simp
    omega
theorem two_b (a m x y : Int) : betweenF a m [x, y] = (betweenF a m [x] && betweenF a m [y]) := by simp [betweenF]
theorem one_b (a m x : Int) : betweenF a m [x] = !outB a m x := by simp [betweenF]
def standF (l : List S24) (kind at_ known : Int) : List S24 × Int :=
  if checkF l ≠ 0 then ([], checkF l) else if betweenF 0 15 [kind] = false ∨ betweenF 0 1099511627775 [at_, known] = false then ([], 1) else (standingF l kind at_ known, 0)
theorem standing_p (l : List S24) (kind at_ known : Int) (k : Nat) (hk : l.length + 1 < k) : budgets_Standing.f k l kind at_ known = some (standF l kind at_ known) := by
  unfold budgets_Standing.f standF
  rw [check_f l k hk]
  simp only [Option.bind_some]
  by_cases h0 : checkF l = 0
  · obtain ⟨hn, _, _⟩ := check_ok h0
    rw [if_pos h0, if_neg (show ¬ checkF l ≠ 0 by simp [h0])]
    have hs : budgets_standing.f l kind at_ known = some (standingF l kind at_ known) := by unfold budgets_standing.f; rw [if_pos hn]
    have hw : ∀ a m r, budgets_between.f a m r = some (betweenF a m r) := fun _ _ _ => rfl
    simp only [hw, hs, Option.bind_some]
    cases betweenF 0 15 [kind] <;> cases betweenF 0 1099511627775 [at_, known] <;> simp
  · rw [if_neg h0, if_pos h0]
theorem stands_r (l : List S24) (at_ known : Int) (i : Nat) (hi : i < l.length) : signatoryref18_stands.f l (i : Int) at_ known = some (standsB l at_ known l[i]) := by
  unfold signatoryref18_stands.f
  rw [if_pos ⟨by omega, by omega⟩, rd_nat l i hi]
theorem take_snoc {α : Type} (p : α → Bool) (l : List α) (i : Nat) (h : i < l.length) : (l.take (i + 1)).filter p = (l.take i).filter p ++ (if p l[i] = true then [l[i]] else []) := by
  rw [List.take_succ_eq_append_getElem h, List.filter_append]
  congr 1
  by_cases hp : p l[i] = true <;> simp [hp]
theorem standing_r0 (l : List S24) (hn : l.length ≤ 4096) (kind at_ known : Int) : ∀ (d k i : Nat), l.length - i = d → i ≤ l.length → l.length + d + 2 < k →
    signatoryref18_standing.l0 k l kind at_ known ((l.take i).filter fun y => kindB kind y && standsB l at_ known y) (i : Int) = some (refStanding l kind at_ known) := by
  intro d
  induction d with
  | zero =>
    intro k i hd hi hk
    obtain ⟨k, rfl⟩ : ∃ m, k = m + 1 := ⟨k - 1, by omega⟩
    simp only [signatoryref18_standing.l0]
    rw [if_neg (by omega), List.take_of_length_le (by omega)]
    rfl
  | succ d ih =>
    intro k i hd hi hk
    obtain ⟨k, rfl⟩ : ∃ m, k = m + 1 := ⟨k - 1, by omega⟩
    have hlt : i < l.length := by omega
    have hih := ih k (i + 1) (by omega) (by omega) (by omega)
    rw [take_snoc _ l i hlt] at hih
    have hlen : ((l.take i).filter fun y => kindB kind y && standsB l at_ known y).length ≤ 4096 := Nat.le_trans (List.length_filter_le _ _) (by rw [List.length_take]; omega)
    simp only [signatoryref18_standing.l0]
    rw [if_pos (by omega), if_pos (by omega), rd_nat l i hlt, wrap_succ hlt (by omega), stands_r l at_ known i hlt]
    simp only [Option.bind_some]
    by_cases h3 : l[i].f3 = -1
    · have hk : kindB kind l[i] = true := by simp [kindB, h3]
      rw [if_pos h3]
      cases hs : standsB l at_ known l[i] with
      | true =>
        simp only [hk, hs, Bool.and_self, if_true] at hih
        rw [if_pos rfl, if_pos (by omega)]
        exact hih
      | false =>
        simp only [hk, hs, Bool.and_false, Bool.false_eq_true, if_false, List.append_nil] at hih
        simpa using hih
    · rw [if_neg h3]
      by_cases h4 : l[i].f3 = kind
      · have hk : kindB kind l[i] = true := by simp [kindB, h4]
        rw [if_pos h4]
        cases hs : standsB l at_ known l[i] with
        | true =>
          simp only [hk, hs, Bool.and_self, if_true] at hih
          rw [if_pos rfl, if_pos (by omega)]
          exact hih
        | false =>
          simp only [hk, hs, Bool.and_false, Bool.false_eq_true, if_false, List.append_nil] at hih
          simpa using hih
      · have hk : kindB kind l[i] = false := by simp [kindB, h3, h4]
        rw [if_neg h4]
        simp only [hk, Bool.false_and, Bool.false_eq_true, if_false, List.append_nil] at hih
        exact hih
theorem standing_r1 (l : List S24) (h0 : checkF l = 0) (kind at_ known : Int) (k : Nat) (hk : l.length + l.length + 2 < k) : signatoryref18_standing.f k l kind at_ known = some (standingF l kind at_ known) := by
  obtain ⟨hn, hp, hr⟩ := check_ok h0
  unfold signatoryref18_standing.f
  have h1 := standing_r0 l hn kind at_ known l.length k 0 (by omega) (by omega) (by omega)
  simp only [Int.natCast_zero, List.take_zero, List.filter_nil, ← standing_eq hp hr] at h1
  exact h1
theorem standing_r (l : List S24) (kind at_ known : Int) (k : Nat) (hk : l.length + l.length + 2 < k) : signatoryref18_Standing.f k l kind at_ known = some (standF l kind at_ known) := by
  unfold signatoryref18_Standing.f standF
  rw [check_r l k (by omega)]
  simp only [Option.bind_some, kind_r, moment_r, two_b, one_b]
  by_cases h0 : checkF l = 0
  · rw [if_pos h0, if_neg (show ¬ checkF l ≠ 0 by simp [h0]), standing_r1 l h0 kind at_ known k hk]
    cases outB 0 15 kind <;> cases outB 0 1099511627775 at_ <;> cases outB 0 1099511627775 known <;> simp
  · rw [if_neg h0, if_pos h0]
theorem stand_len (l : List S24) (kind at_ known : Int) : (standingF l kind at_ known).length ≤ l.length := List.length_filter_le _ _
theorem standF_len (l : List S24) (kind at_ known : Int) : (standF l kind at_ known).1.length ≤ l.length := by
  unfold standF
  repeat' split
  all_goals first | exact stand_len _ _ _ _ | simp
end Go.Proofs.Ytaemdkbfdpjimaa.V
