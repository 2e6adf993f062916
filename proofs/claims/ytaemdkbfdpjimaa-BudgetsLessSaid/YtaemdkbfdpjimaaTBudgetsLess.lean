/-
Pure: the program's and the reference's Standing as one plain function. Condition: enough rounds.
Pure: the reference's Uses, over and Room come to the same plain functions as the program's. Condition: enough rounds.
Pure: less is over less often: Room's answer as it depends on the value and on the uses. No condition beyond the premises.
The law BudgetsLess as plain functions: it is true.
-/
import Derived.Test.YtaemdkbfdpjimaaV
import Derived.Test.YtaemdkbfdpjimaaV4
import Derived.Test.YtaemdkbfdpjimaaP8
import Derived.Test.YtaemdkbfdpjimaaWs
import Derived.Test.YtaemdkbfdpjimaaP20
import Derived.Test.YtaemdkbfdpjimaaP21
import Derived.Test.YtaemdkbfdpjimaaP26
import Derived.Test.YtaemdkbfdpjimaaP24
import Derived.Test.YtaemdkbfdpjimaaOp
namespace Go.Proofs.Ytaemdkbfdpjimaa.V
open Go.RowKit Go.Proofs.Ytaemdkbfdpjimaa.P Go.Proofs.Ytaemdkbfdpjimaa.S Go.Proofs.Ytaemdkbfdpjimaa.U
set_option linter.unusedVariables false
theorem kind_r (n : Int) : signatoryref18_kind.f n = some (!outB 0 15 n) := by
  unfold signatoryref18_kind.f outB
  by_cases h : n ≥ 0
  · rw [if_pos h]
    congr 1
    rw [Bool.eq_iff_iff]
    simp
    omega
  · rw [if_neg h]
    congr 1
    simp
    omega
theorem two_b (a m x y : Int) : betweenF a m [x, y] = (betweenF a m [x] && betweenF a m [y]) := by simp [betweenF]
theorem one_b (a m x : Int) : betweenF a m [x] = !outB a m x := by simp [betweenF]
def standF (l : List S24) (kind at_ known : Int) : List S24 × Int :=
  if checkF l ≠ 0 then ([], checkF l) else if betweenF 0 15 [kind] = false ∨ betweenF 0 1099511627775 [at_, known] = false then ([], 1) else (standingF l kind at_ known, 0)
theorem standing_p (l : List S24) (kind at_ known : Int) (k : Nat) (hk : l.length + 1 < k) : budgets_Standing.f k l kind at_ known = some (standF l kind at_ known) := by
  unfold budgets_Standing.f standF
  rw [check_f l k hk]
  simp only [Option.bind_some]
  by_cases h0 : checkF l = 0
  · obtain ⟨hn, _, _⟩ := check_ok h0
    rw [if_pos h0, if_neg (show ¬ checkF l ≠ 0 by simp [h0])]
    have hs : budgets_standing.f l kind at_ known = some (standingF l kind at_ known) := by unfold budgets_standing.f; rw [if_pos hn]
    have hw : ∀ a m r, budgets_between.f a m r = some (betweenF a m r) := fun _ _ _ => rfl
    simp only [hw, hs, Option.bind_some]
    cases betweenF 0 15 [kind] <;> cases betweenF 0 1099511627775 [at_, known] <;> simp
  · rw [if_neg h0, if_pos h0]
theorem stands_r (l : List S24) (at_ known : Int) (i : Nat) (hi : i < l.length) : signatoryref18_stands.f l (i : Int) at_ known = some (standsB l at_ known l[i]) := by
  unfold signatoryref18_stands.f
  rw [if_pos ⟨by omega, by omega⟩, rd_nat l i hi]
theorem take_snoc {α : Type} (p : α → Bool) (l : List α) (i : Nat) (h : i < l.length) : (l.take (i + 1)).filter p = (l.take i).filter p ++ (if p l[i] = true then [l[i]] else []) := by
  rw [List.take_succ_eq_append_getElem h, List.filter_append]
  congr 1
  by_cases hp : p l[i] = true <;> simp [hp]
theorem standing_r0 (l : List S24) (hn : l.length ≤ 4096) (kind at_ known : Int) : ∀ (d k i : Nat), l.length - i = d → i ≤ l.length → l.length + d + 2 < k →
    signatoryref18_standing.l0 k l kind at_ known ((l.take i).filter fun y => kindB kind y && standsB l at_ known y) (i : Int) = some (refStanding l kind at_ known) := by
  intro d
  induction d with
  | zero =>
    intro k i hd hi hk
    obtain ⟨k, rfl⟩ : ∃ m, k = m + 1 := ⟨k - 1, by omega⟩
    simp only [signatoryref18_standing.l0]
    rw [if_neg (by omega), List.take_of_length_le (by omega)]
    rfl
  | succ d ih =>
    intro k i hd hi hk
    obtain ⟨k, rfl⟩ : ∃ m, k = m + 1 := ⟨k - 1, by omega⟩
    have hlt : i < l.length := by omega
    have hih := ih k (i + 1) (by omega) (by omega) (by omega)
    rw [take_snoc _ l i hlt] at hih
    have hlen : ((l.take i).filter fun y => kindB kind y && standsB l at_ known y).length ≤ 4096 := Nat.le_trans (List.length_filter_le _ _) (by rw [List.length_take]; omega)
    simp only [signatoryref18_standing.l0]
    rw [if_pos (by omega), if_pos (by omega), rd_nat l i hlt, wrap_succ hlt (by omega), stands_r l at_ known i hlt]
    simp only [Option.bind_some]
    by_cases h3 : l[i].f3 = -1
    · have hk : kindB kind l[i] = true := by simp [kindB, h3]
      rw [if_pos h3]
      cases hs : standsB l at_ known l[i] with
      | true =>
        simp only [hk, hs, Bool.and_self, if_true] at hih
        rw [if_pos rfl, if_pos (by omega)]
        exact hih
      | false =>
        simp only [hk, hs, Bool.and_false, Bool.false_eq_true, if_false, List.append_nil] at hih
        simpa using hih
    · rw [if_neg h3]
      by_cases h4 : l[i].f3 = kind
      · have hk : kindB kind l[i] = true := by simp [kindB, h4]
        rw [if_pos h4]
        cases hs : standsB l at_ known l[i] with
        | true =>
          simp only [hk, hs, Bool.and_self, if_true] at hih
          rw [if_pos rfl, if_pos (by omega)]
          exact hih
        | false =>
          simp only [hk, hs, Bool.and_false, Bool.false_eq_true, if_false, List.append_nil] at hih
          simpa using hih
      · have hk : kindB kind l[i] = false := by simp [kindB, h3, h4]
        rw [if_neg h4]
        simp only [hk, Bool.false_and, Bool.false_eq_true, if_false, List.append_nil] at hih
        exact hih
theorem standing_r1 (l : List S24) (h0 : checkF l = 0) (kind at_ known : Int) (k : Nat) (hk : l.length + l.length + 2 < k) : signatoryref18_standing.f k l kind at_ known = some (standingF l kind at_ known) := by
  obtain ⟨hn, hp, hr⟩ := check_ok h0
  unfold signatoryref18_standing.f
  have h1 := standing_r0 l hn kind at_ known l.length k 0 (by omega) (by omega) (by omega)
  simp only [Int.natCast_zero, List.take_zero, List.filter_nil, ← standing_eq hp hr] at h1
  exact h1
theorem standing_r (l : List S24) (kind at_ known : Int) (k : Nat) (hk : l.length + l.length + 2 < k) : signatoryref18_Standing.f k l kind at_ known = some (standF l kind at_ known) := by
  unfold signatoryref18_Standing.f standF
  rw [check_r l k (by omega)]
  simp only [Option.bind_some, kind_r, moment_r, two_b, one_b]
  by_cases h0 : checkF l = 0
  · rw [if_pos h0, if_neg (show ¬ checkF l ≠ 0 by simp [h0]), standing_r1 l h0 kind at_ known k hk]
    cases outB 0 15 kind <;> cases outB 0 1099511627775 at_ <;> cases outB 0 1099511627775 known <;> simp
  · rw [if_neg h0, if_pos h0]
theorem stand_len (l : List S24) (kind at_ known : Int) : (standingF l kind at_ known).length ≤ l.length := List.length_filter_le _ _
theorem standF_len (l : List S24) (kind at_ known : Int) : (standF l kind at_ known).1.length ≤ l.length := by
  unfold standF
  repeat' split
  all_goals first | exact stand_len _ _ _ _ | simp
end Go.Proofs.Ytaemdkbfdpjimaa.V

namespace Go.Proofs.Ytaemdkbfdpjimaa.V
open Go.RowKit Go.Proofs.Ytaemdkbfdpjimaa.P Go.Proofs.Ytaemdkbfdpjimaa.S Go.Proofs.Ytaemdkbfdpjimaa.U
set_option linter.unusedVariables false
theorem rd_use (l : List S49) (i : Nat) (h : i < l.length) : rd_T49 l (i : Int) = l[i] := by
  simp [rd_T49, List.getD_eq_getElem?_getD, List.getElem?_eq_getElem h]
theorem uses_l1 (u : List S49) (hn : u.length ≤ 4294967296) (i : Nat) (hi : i < u.length) (F : Nat) (r : Bool) (H : ∀ k, F ≤ k → signatoryref18_Uses.l0 k u ((i + 1 : Nat) : Int) = some r) :
    ∀ (d k j : Nat), i - j = d → j ≤ i → d + F + 1 ≤ k → signatoryref18_Uses.l1 k u (i : Int) (j : Int) = some (!(((u.take i).drop j).any fun z => z.f0 == u[i].f0) && r) := by
  intro d
  induction d with
  | zero =>
    intro k j hd hj hk
    obtain ⟨k, rfl⟩ : ∃ m, k = m + 1 := ⟨k - 1, by omega⟩
    simp only [signatoryref18_Uses.l1]
    rw [if_neg (by omega), wrap_succ hi hn, H k (by omega), List.drop_of_length_le (by simp; omega)]
    simp
  | succ d ih =>
    intro k j hd hj hk
    obtain ⟨k, rfl⟩ : ∃ m, k = m + 1 := ⟨k - 1, by omega⟩
    have hji : j < i := by omega
    have hju : j < u.length := by omega
    have hjt : j < (u.take i).length := by rw [List.length_take]; omega
    simp only [signatoryref18_Uses.l1]
    rw [if_pos (by omega), if_pos (by omega), if_pos (by omega), if_pos (by omega), if_pos (by omega), rd_use u j hju, rd_use u i hi, wrap_succ hju hn, ih k (j + 1) (by omega) (by omega) (by omega), List.drop_eq_getElem_cons hjt, List.any_cons, List.getElem_take]
    by_cases h : u[j].f0 = u[i].f0
    · have hb : (u[j].f0 == u[i].f0) = true := by simpa using h
      rw [if_pos h, hb]; rfl
    · have hb : (u[j].f0 == u[i].f0) = false := by simpa using h
      rw [if_neg h, hb]; rfl
theorem use_b (x : S49) : useF x = (!outB 0 4095 x.f0 && (!outB 0 15 x.f1 && (!outB 0 1099511627776 x.f2 && (!outB 0 1099511627775 x.f3 && !outB 0 1099511627775 x.f4)))) := by
  unfold useF
  rw [two_b, one_b, one_b, one_b, one_b, one_b]
  cases outB 0 4095 x.f0 <;> cases outB 0 15 x.f1 <;> cases outB 0 1099511627776 x.f2 <;> cases outB 0 1099511627775 x.f3 <;> cases outB 0 1099511627775 x.f4 <;> rfl
theorem cont_any (met : List S49) (x : S49) : (met.any fun z => z.f0 == x.f0) = ((met.map (·.f0)).reverse).contains x.f0 := by
  rw [Bool.eq_iff_iff, List.any_eq_true, List.contains_iff_mem, List.mem_reverse, List.mem_map]
  constructor
  · rintro ⟨z, hz, h⟩; exact ⟨z, hz, by simpa using h⟩
  · rintro ⟨z, hz, h⟩; exact ⟨z, hz, by simpa using h⟩
theorem uses_l0 (u : List S49) (hn : u.length ≤ 4294967296) : ∀ (d i : Nat), u.length - i = d → i ≤ u.length → ∀ k, d * (u.length + 4) + 1 ≤ k →
    signatoryref18_Uses.l0 k u (i : Int) = some (usesF (((u.take i).map (·.f0)).reverse) (u.drop i)) := by
  intro d
  induction d with
  | zero =>
    intro i hd hi k hk
    obtain ⟨k, rfl⟩ : ∃ m, k = m + 1 := ⟨k - 1, by omega⟩
    simp only [signatoryref18_Uses.l0]
    rw [if_neg (by omega), List.drop_of_length_le (by omega)]
    rfl
  | succ d ih =>
    intro i hd hi k hk
    have hk' : d * (u.length + 4) + 1 + (u.length + 4) ≤ k := by rw [Nat.succ_mul] at hk; omega
    obtain ⟨k, rfl⟩ : ∃ m, k = m + 1 + 1 := ⟨k - 2, by omega⟩
    have hlt : i < u.length := by omega
    have h1 := uses_l1 u hn i hlt (d * (u.length + 4) + 1) _ (ih (i + 1) (by omega) (by omega)) i k 0 (by omega) (by omega) (by omega)
    rw [List.drop_zero, cont_any] at h1
    have hj : ∀ b : Bool, signatoryref18_Uses.j1 (k + 1) u (i : Int) b = some (!b && (!(((u.take i).map (·.f0)).reverse).contains u[i].f0 && usesF (((u.take (i + 1)).map (·.f0)).reverse) (u.drop (i + 1)))) := by
      intro b
      simp only [signatoryref18_Uses.j1]
      cases b with
      | true => simp
      | false => simpa using h1
    have hts : ((u.take (i + 1)).map (·.f0)).reverse = u[i].f0 :: ((u.take i).map (·.f0)).reverse := by
      rw [List.take_succ_eq_append_getElem hlt, List.map_append, List.reverse_append]; rfl
    simp only [signatoryref18_Uses.l0]
    rw [if_pos (by omega), if_pos (by omega), rd_use u i hlt, List.drop_eq_getElem_cons hlt]
    simp only [within_r, kind_r, moment_r, Option.bind_some, hj, usesF, use_b, hts]
    generalize (((u.take i).map (·.f0)).reverse).contains u[i].f0 = c0
    generalize usesF (u[i].f0 :: ((u.take i).map (·.f0)).reverse) (u.drop (i + 1)) = c1
    cases outB 0 4095 u[i].f0 <;> cases outB 0 15 u[i].f1 <;> cases outB 0 1099511627776 u[i].f2 <;> cases outB 0 1099511627775 u[i].f3 <;> cases outB 0 1099511627775 u[i].f4 <;> cases c0 <;> simp
theorem uses_r (u : List S49) (hn : u.length ≤ 4294967296) (k : Nat) (hk : u.length * (u.length + 4) + 1 ≤ k) : signatoryref18_Uses.f k u = some (usesF [] u) := by
  unfold signatoryref18_Uses.f
  have := uses_l0 u hn u.length 0 (by omega) (by omega) k hk
  simpa using this
theorem uses_val : ∀ (u : List S49) (met : List Int), usesF met u = true → ∀ x ∈ u, useF x = true
  | [], _, _ => fun x hx => by cases hx
  | y :: u, met, h => by
    simp only [usesF, Bool.and_eq_true] at h
    intro x hx
    rcases List.mem_cons.1 hx with rfl | hx
    · exact h.1.2
    · exact uses_val u _ h.2 x hx
theorem use_range {x : S49} (h : useF x = true) : 0 ≤ x.f2 ∧ x.f2 ≤ 1099511627776 ∧ 0 ≤ x.f3 ∧ x.f3 ≤ 1099511627775 ∧ 0 ≤ x.f4 ∧ x.f4 ≤ 1099511627775 := by
  rw [use_b] at h
  unfold outB at h
  simp at h
  omega
theorem right_range {x : S24} (h : rightF x = true) : 1 ≤ x.f4 ∧ 0 ≤ x.f1 ∧ x.f1 ≤ 1099511627775 ∧ 0 ≤ x.f5 ∧ 0 ≤ x.f6 := by
  unfold rightF betweenF outB at h
  simp at h
  omega
theorem sum_range {p : S49 → Bool} : ∀ (u : List S49), (∀ x ∈ u, 0 ≤ x.f2 ∧ x.f2 ≤ 1099511627776) → 0 ≤ ((u.filter p).map (·.f2)).sum ∧ ((u.filter p).map (·.f2)).sum ≤ 1099511627776 * (u.length : Int)
  | [], _ => by simp
  | x :: u, h => by
    have h1 := sum_range (p := p) u (fun y hy => h y (by simp [hy]))
    have h2 := h x (by simp)
    rw [List.filter_cons]
    split
    · simp only [List.map_cons, List.sum_cons, List.length_cons]; omega
    · simp only [List.length_cons]; omega
end Go.Proofs.Ytaemdkbfdpjimaa.V

namespace Go.Proofs.Ytaemdkbfdpjimaa.V
open Go.RowKit Go.Proofs.Ytaemdkbfdpjimaa.P Go.Proofs.Ytaemdkbfdpjimaa.S Go.Proofs.Ytaemdkbfdpjimaa.U
set_option linter.unusedVariables false
theorem uses_iff : ∀ (u : List S49) (met : List Int), usesF met u = true ↔ (∀ x ∈ u, useF x = true) ∧ (u.map (·.f0)).Nodup ∧ ∀ x ∈ u, x.f0 ∉ met
  | [], met => by simp [usesF]
  | y :: u, met => by
    simp only [usesF, Bool.and_eq_true, Bool.not_eq_true', uses_iff u (y.f0 :: met), List.mem_cons, List.map_cons, List.nodup_cons, List.mem_map]
    have hc : met.contains y.f0 = false ↔ y.f0 ∉ met := by
      rw [← Bool.not_eq_true, List.contains_iff_mem]
    rw [hc]
    constructor
    · rintro ⟨⟨h1, h2⟩, h3, h4, h5⟩
      refine ⟨fun x hx => ?_, ⟨fun hh => ?_, h4⟩, fun x hx => ?_⟩
      · rcases hx with rfl | hx
        · exact h2
        · exact h3 x hx
      · obtain ⟨x, hx, e⟩ := hh
        exact h5 x hx (.inl e)
      · rcases hx with rfl | hx
        · exact h1
        · exact fun hm => h5 x hx (.inr hm)
    · rintro ⟨h1, ⟨h2, h3⟩, h4⟩
      refine ⟨⟨h4 y (.inl rfl), h1 y (.inl rfl)⟩, fun x hx => h1 x (.inr hx), h3, fun x hx hh => ?_⟩
      rcases hh with e | hm
      · exact h2 ⟨x, hx, e⟩
      · exact h4 x (.inr hx) hm
theorem uses_sub {u v : List S49} (h : v.Sublist u) (hu : usesF [] u = true) : usesF [] v = true := by
  obtain ⟨h1, h2, h3⟩ := (uses_iff u []).1 hu
  exact (uses_iff v []).2 ⟨fun x hx => h1 x (h.subset hx), h2.sublist (h.map _), fun x hx => by simp⟩
/-- the first budget of which something is said -/
def firstP (p : S24 → Bool) (s : List S24) : Int × Bool × Int := match s.find? p with | some b => (b.f0, false, 0) | none => (-1, true, 0)
theorem first_p (s : List S24) (u : List S49) (value at_ known : Int) : firstF s u value at_ known = firstP (fun b => overF b u value at_ known) s := rfl
theorem first_err (p : S24 → Bool) (s : List S24) : (firstP p s).2.2 = 0 := by unfold firstP; split <;> rfl
theorem first_mono {p q : S24 → Bool} : ∀ (s : List S24), s.Pairwise (fun a b => a.f0 < b.f0) → (∀ b ∈ s, q b = true → p b = true) →
    ((firstP p s).2.1 = true → (firstP q s).2.1 = true) ∧ ((firstP q s).2.1 = false → (firstP p s).2.1 = false ∧ (firstP p s).1 ≤ (firstP q s).1)
  | [], _, _ => by simp [firstP]
  | b :: s, hs, h => by
    obtain ⟨h1, h2⟩ := List.pairwise_cons.1 hs
    have ih := first_mono s h2 (fun c hc => h c (by simp [hc]))
    have hb := h b (by simp)
    unfold firstP at ih ⊢
    rw [List.find?_cons, List.find?_cons]
    cases hq : q b with
    | true => rw [hb hq]; simp
    | false =>
      cases hp : p b with
      | false => exact ih
      | true =>
        refine ⟨fun hh => by simp at hh, fun hh => ⟨rfl, ?_⟩⟩
        dsimp only at hh ⊢
        cases hf : s.find? q with
        | none => rw [hf] at hh; simp at hh
        | some c =>
          have := h1 c (List.mem_of_find?_eq_some hf)
          dsimp only
          omega
theorem sum_sub {p : S49 → Bool} {u v : List S49} (h : v.Sublist u) (hu : ∀ x ∈ u, 0 ≤ x.f2) : ((v.filter p).map (·.f2)).sum ≤ ((u.filter p).map (·.f2)).sum := by
  have h1 : ((v.filter p).map (·.f2)).Sublist ((u.filter p).map (·.f2)) := (h.filter p).map _
  have h2 : ∀ z ∈ (u.filter p).map (·.f2), 0 ≤ z := by
    intro z hz
    obtain ⟨x, hx, rfl⟩ := List.mem_map.1 hz
    exact hu x (List.mem_filter.1 hx).1
  revert h1 h2
  generalize (v.filter p).map (·.f2) = a
  generalize (u.filter p).map (·.f2) = b
  intro h1
  induction h1 with
  | slnil => intro _; simp
  | cons z _ ih =>
    intro h2
    have := ih (fun y hy => h2 y (by simp [hy]))
    have := h2 z (by simp)
    rw [List.sum_cons]
    omega
  | cons_cons z _ ih =>
    intro h2
    have := ih (fun y hy => h2 y (by simp [hy]))
    rw [List.sum_cons, List.sum_cons]
    omega
theorem over_sub {u v : List S49} (h : v.Sublist u) (hu : ∀ x ∈ u, 0 ≤ x.f2) {b : S24} {value value' at_ known : Int} (hv : value' ≤ value) (ho : overF b v value' at_ known = true) : overF b u value at_ known = true := by
  unfold overF manyF sumF at *
  have h1 := (h.filter (usedF b at_ known)).length_le
  have h2 := sum_sub (p := usedF b at_ known) h hu
  simp only [Bool.or_eq_true, decide_eq_true_eq] at *
  omega
/-- what Room says of right arguments -/
theorem room_ok {l : List S24} {u : List S49} {kind value at_ known : Int} (h0 : checkF l = 0) (hu : u.length ≤ 4096) (hus : usesF [] u = true) :
    (roomF l u kind value at_ known = (0, false, 1) ∧ (betweenF 0 15 [kind] = false ∨ betweenF 0 1099511627776 [value] = false ∨ betweenF 0 1099511627775 [at_, known] = false)) ∨
    (roomF l u kind value at_ known = firstF (standingF l kind at_ known) u value at_ known ∧ betweenF 0 15 [kind] = true ∧ (0 ≤ value ∧ value ≤ 1099511627776) ∧ betweenF 0 1099511627775 [at_, known] = true) := by
  unfold roomF
  rw [if_neg (by simp [h0]), if_neg (by omega), if_neg (by simp [hus])]
  by_cases hb : betweenF 0 15 [kind] = false ∨ betweenF 0 1099511627776 [value] = false ∨ betweenF 0 1099511627775 [at_, known] = false
  · rw [if_pos hb]; exact .inl ⟨rfl, hb⟩
  · rw [if_neg hb]
    refine .inr ⟨rfl, ?_, ?_, ?_⟩
    · cases h : betweenF 0 15 [kind] with
      | true => rfl
      | false => exact absurd (.inl h) hb
    · cases h : betweenF 0 1099511627776 [value] with
      | true => rw [one_b] at h; unfold outB at h; simp at h; omega
      | false => exact absurd (.inr (.inl h)) hb
    · cases h : betweenF 0 1099511627775 [at_, known] with
      | true => rfl
      | false => exact absurd (.inr (.inr h)) hb
theorem room_is {l : List S24} {u : List S49} {kind value at_ known : Int} (h0 : checkF l = 0) (hu : u.length ≤ 4096) (hus : usesF [] u = true) (h1 : betweenF 0 15 [kind] = true) (h2 : 0 ≤ value ∧ value ≤ 1099511627776) (h3 : betweenF 0 1099511627775 [at_, known] = true) : roomF l u kind value at_ known = firstF (standingF l kind at_ known) u value at_ known := by
  unfold roomF
  rw [if_neg (by simp [h0]), if_neg (by omega), if_neg (by simp [hus]), if_neg]
  have h2' : betweenF 0 1099511627776 [value] = true := by rw [one_b]; unfold outB; simp; omega
  simp [h1, h2', h3]
end Go.Proofs.Ytaemdkbfdpjimaa.V

namespace Go.Proofs.Ytaemdkbfdpjimaa.T
open Go.RowKit Go.Proofs.Ytaemdkbfdpjimaa.P Go.Proofs.Ytaemdkbfdpjimaa.W Go.Proofs.Ytaemdkbfdpjimaa.S Go.Proofs.Ytaemdkbfdpjimaa.U Go.Proofs.Ytaemdkbfdpjimaa.V Go.Proofs.YtaemdkbfdpjimaaW.PrintWords
set_option linter.unusedVariables false
theorem right_l (l : List S24) (k : Nat) (hk : l.length + 1 < k) : signatorylaw18_right.f k l = some (decide (l.length ≤ 30) && decide (checkF l = 0)) := by
  unfold signatorylaw18_right.f
  by_cases h : l.length ≤ 30
  · rw [if_pos (by omega), check_r l k hk]
    simp only [Option.bind_some, h, decide_true, Bool.true_and]
    congr 1
  · rw [if_neg (by omega)]
    simp [h]
theorem len5 {u : List S49} (i : Nat) (h : u.length ≤ 30) : (u.take i).length < 3518437208883 := Nat.lt_of_le_of_lt (Nat.le_trans (List.take_sublist i u).length_le h) (by decide)
theorem len6 {u : List S49} (i j : Nat) (h : u.length ≤ 30) : (u.take i).length + (u.drop j).length < 3518437208883 :=
  Nat.lt_of_le_of_lt (Nat.add_le_add (Nat.le_trans (List.take_sublist i u).length_le h) (Nat.le_trans (List.drop_sublist j u).length_le h)) (by decide)
theorem BudgetsLess (l : List S24) (u : List S49) (kind value at_ known which less : Int) (hl : ∀ y ∈ l, WF24 y) (hlu : ∀ y ∈ u, WF49 y) (h1 : (Lit.int .i64 kind).wf = true) (h2 : (Lit.int .i64 value).wf = true) (h3 : (Lit.int .i64 at_).wf = true) (h4 : (Lit.int .i64 known).wf = true) (h5 : (Lit.int .u8 which).wf = true) (h6 : (Lit.int .u16 less).wf = true) :
    ∃ k, signatorylaw18_BudgetsLess.f k l u kind value at_ known which less = some true := by
  have hwh : 0 ≤ which ∧ which ≤ 255 := by simp [Lit.wf, IntKind.min, IntKind.max, IntKind.signed, IntKind.bits] at h5; omega
  have hle : 0 ≤ less ∧ less ≤ 65535 := by simp [Lit.wf, IntKind.min, IntKind.max, IntKind.signed, IntKind.bits] at h6; omega
  refine ⟨u.length * (u.length + 4) + l.length + l.length + u.length + 20, ?_⟩
  obtain ⟨k, hk⟩ : ∃ k, u.length * (u.length + 4) + l.length + l.length + u.length + 20 = k + 1 + 1 := ⟨_, rfl⟩
  rw [hk]
  have hs : signatorylaw18_sane.f = some true := rfl
  have hr : ∀ l u a b c d, budgets_Room.f l u a b c d = some (roomF l u a b c d) := fun _ _ _ _ _ _ => rfl
  have hT : ∀ k, signatorylaw18_BudgetsLess.j0 (k + 1) l u kind value at_ known which less true = some true := by intro k; simp only [signatorylaw18_BudgetsLess.j0, if_true]
  unfold signatorylaw18_BudgetsLess.f
  rw [hs, right_l l _ (by omega)]
  simp only [Option.bind_some, if_true]
  by_cases hrt : (decide (l.length ≤ 30) && decide (checkF l = 0)) = true
  · rw [if_pos hrt]
    have hck : checkF l = 0 := by simpa using (Bool.and_eq_true_iff.1 hrt).2
    obtain ⟨hn, hp, hright⟩ := check_ok hck
    by_cases hu30 : (u.length : Int) > 30
    · rw [if_pos hu30]; exact hT _
    · rw [if_neg hu30, uses_r u (by omega) _ (by omega)]
      simp only [Option.bind_some]
      cases hus : usesF [] u with
      | false => exact hT _
      | true =>
        have hval : ∀ x ∈ u, 0 ≤ x.f2 := fun x hx => (use_range (uses_val u [] hus x hx)).1
        have hsp : (standingF l kind at_ known).Pairwise (fun a b => a.f0 < b.f0) := hp.sublist List.filter_sublist
        simp only [Bool.not_true, signatorylaw18_BudgetsLess.j0, Bool.false_eq_true, if_false, hr, Option.bind_some]
        rcases room_ok (kind := kind) (value := value) (at_ := at_) (known := known) hck (by omega) hus with ⟨hR, _⟩ | ⟨hR, hk1, hk2, hk3⟩
        · rw [hR]; simp
        · have hmn : mn (wrap64 less) (mx 0 value) = if less ≤ value then less else value := by
            have : wrap64 less = less := by unfold wrap64; omega
            rw [this]
            unfold mn mx
            repeat' split
            all_goals omega
          have hvv : ∃ v', mx 0 (wrap64 (value - mn (wrap64 less) (mx 0 value))) = v' ∧ 0 ≤ v' ∧ v' ≤ value := by
            refine ⟨_, rfl, ?_⟩
            rw [hmn]
            have : wrap64 (value - (if less ≤ value then less else value)) = value - (if less ≤ value then less else value) := by unfold wrap64; split <;> omega
            rw [this]
            unfold mx
            repeat' split
            all_goals omega
          obtain ⟨v', hv', hv0, hv1⟩ := hvv
          rw [hv', hR, room_is hck (by omega) hus hk1 ⟨hv0, by omega⟩ hk3, first_p, first_p]
          have hm := first_mono (p := fun b => overF b u value at_ known) (q := fun b => overF b u v' at_ known) _ hsp (fun b _ ho => over_sub (List.Sublist.refl u) hval hv1 ho)
          have he1 := first_err (fun b => overF b u value at_ known) (standingF l kind at_ known)
          have he2 := first_err (fun b => overF b u v' at_ known) (standingF l kind at_ known)
          rw [he1, he2]
          have hJ1 : signatorylaw18_BudgetsLess.j1 (k + 1) l u kind value at_ known which (firstP (fun b => overF b u value at_ known) (standingF l kind at_ known)).1 (firstP (fun b => overF b u value at_ known) (standingF l kind at_ known)).2.1 false = some true := by
            simp only [signatorylaw18_BudgetsLess.j1, Bool.false_eq_true, if_false, Option.bind_some, hr]
            by_cases hu0 : (u.length : Int) = 0
            · rw [if_pos hu0]
            · rw [if_neg hu0]
              have hw : wrap64 which = which := by unfold wrap64; omega
              obtain ⟨i, hi, hiu⟩ : ∃ i : Nat, Int.tmod (wrap64 which) (u.length : Int) = (i : Int) ∧ i < u.length := by
                rw [hw]
                refine ⟨which.toNat % u.length, ?_, Nat.mod_lt _ (by omega)⟩
                rw [Int.tmod_eq_emod_of_nonneg hwh.1]
                have : which = (which.toNat : Int) := by omega
                rw [this]
                exact (Int.natCast_emod ..).symm
              have hi1 : wrap64 ((i : Int) + 1) = ((i + 1 : Nat) : Int) := wrap_succ hiu (by omega)
              rw [hi, hi1]
              have q1 : (0 : Int) ≤ (i : Int) := Int.natCast_nonneg i
              have q2 : (i : Int) ≤ (u.length : Int) := Int.ofNat_le.2 (Nat.le_of_lt hiu)
              have q3 : (0 : Int) ≤ ((i + 1 : Nat) : Int) := Int.natCast_nonneg _
              have q4 : ((i + 1 : Nat) : Int) ≤ (u.length : Int) := Int.ofNat_le.2 hiu
              have q5 : (u.take i).length < 3518437208883 := len5 i (by omega)
              have q6 : (u.take i).length + (u.drop (i + 1)).length < 3518437208883 := len6 i (i + 1) (by omega)
              simp only [q1, q2, q3, q4, if_true, Int.toNat_natCast, List.nil_append, List.length_nil, Nat.zero_add, q5, q6]
              have hsub : (u.take i ++ u.drop (i + 1)).Sublist u := by
                conv => rhs; rw [← List.take_append_drop i u]
                refine List.Sublist.append_left ?_ _
                rw [List.drop_eq_getElem_cons hiu]
                exact List.sublist_cons_self _ _
              have hus2 := uses_sub hsub hus
              have hlen2 := hsub.length_le
              have hq := room_is hck (show (u.take i ++ u.drop (i + 1)).length ≤ 4096 by omega) hus2 hk1 hk2 hk3
              rw [first_p] at hq
              simp only [hq]
              have hm2 := first_mono (p := fun b => overF b u value at_ known) (q := fun b => overF b (u.take i ++ u.drop (i + 1)) value at_ known) _ hsp (fun b _ ho => over_sub hsub hval (Int.le_refl _) ho)
              have he3 := first_err (fun b => overF b (u.take i ++ u.drop (i + 1)) value at_ known) (standingF l kind at_ known)
              revert hm2 he3
              generalize firstP (fun b => overF b u value at_ known) (standingF l kind at_ known) = r1
              generalize firstP (fun b => overF b (u.take i ++ u.drop (i + 1)) value at_ known) (standingF l kind at_ known) = r2
              obtain ⟨n1, o1, e1⟩ := r1
              obtain ⟨n2, o2, e2⟩ := r2
              intro hm2 he3
              dsimp only at he3 hm2 ⊢
              subst he3
              cases o1 <;> cases o2 <;> simp at hm2 ⊢
              all_goals omega
          revert hm hJ1
          generalize firstP (fun b => overF b u value at_ known) (standingF l kind at_ known) = r1
          generalize firstP (fun b => overF b u v' at_ known) (standingF l kind at_ known) = r2
          obtain ⟨n1, o1, e1⟩ := r1
          obtain ⟨n2, o2, e2⟩ := r2
          intro hm hJ1
          cases o1 <;> cases o2
          · have : decide (n2 < n1) = false := by simp at hm ⊢; omega
            simp only [this, if_true, Bool.false_eq_true, if_false]
            simpa using hJ1
          · simpa using hJ1
          · simp at hm
          · simpa using hJ1
  · rw [if_neg hrt]
    exact hT _
end Go.Proofs.Ytaemdkbfdpjimaa.T
