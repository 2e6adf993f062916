/-
Pure: the program's and the reference's Standing as one plain function. Condition: enough rounds.
Pure: the reference's Uses, over and Room come to the same plain functions as the program's. Condition: enough rounds.
Pure: less is over less often: Room's answer as it depends on the value and on the uses. No condition beyond the premises.
Pure: what does not matter to Room: uses in other periods or of other kinds, their order, and budgets that are known later. No condition beyond the premises.
Pure: the map of the law BudgetsLast: the last one of each kind and period, and how many of them are not withdrawn. No condition beyond the premises.
Pure: the law BudgetsNever: what is signed, each only if there is room, keeps within every budget that stands; the law's two maps. No condition beyond the premises.
-/
import Derived.Test.YtaemdkbfdpjimaaV
import Derived.Test.YtaemdkbfdpjimaaV4
import Derived.Test.YtaemdkbfdpjimaaP8
import Derived.Test.YtaemdkbfdpjimaaWs
import Derived.Test.YtaemdkbfdpjimaaP20
import Derived.Test.YtaemdkbfdpjimaaP21
import Derived.Test.YtaemdkbfdpjimaaWc
namespace Go.Proofs.Ytaemdkbfdpjimaa.V
open Go.RowKit Go.Proofs.Ytaemdkbfdpjimaa.P Go.Proofs.Ytaemdkbfdpjimaa.S Go.Proofs.Ytaemdkbfdpjimaa.U
set_option linter.unusedVariables false
theorem kind_r (n : Int) : signatoryref18_kind.f n = some (!outB 0 15 n) := by
  unfold signatoryref18_kind.f outB
  by_cases h : n ≥ 0
  · rw [if_pos h]
    congr 1
    rw [Bool.eq_iff_iff]
    simp
    omega
  · rw [if_neg h]
    congr 1
    simp
    omega
theorem two_b (a m x y : Int) : betweenF a m [x, y] = (betweenF a m [x] && betweenF a m [y]) := by simp [betweenF]
theorem one_b (a m x : Int) : betweenF a m [x] = !outB a m x := by simp [betweenF]
def standF (l : List S24) (kind at_ known : Int) : List S24 × Int :=
  if checkF l ≠ 0 then ([], checkF l) else if betweenF 0 15 [kind] = false ∨ betweenF 0 1099511627775 [at_, known] = false then ([], 1) else (standingF l kind at_ known, 0)
theorem standing_p (l : List S24) (kind at_ known : Int) (k : Nat) (hk : l.length + 1 < k) : budgets_Standing.f k l kind at_ known = some (standF l kind at_ known) := by
  unfold budgets_Standing.f standF
  rw [check_f l k hk]
  simp only [Option.bind_some]
  by_cases h0 : checkF l = 0
  · obtain ⟨hn, _, _⟩ := check_ok h0
    rw [if_pos h0, if_neg (show ¬ checkF l ≠ 0 by simp [h0])]
    have hs : budgets_standing.f l kind at_ known = some (standingF l kind at_ known) := by unfold budgets_standing.f; rw [if_pos hn]
    have hw : ∀ a m r, budgets_between.f a m r = some (betweenF a m r) := fun _ _ _ => rfl
    simp only [hw, hs, Option.bind_some]
    cases betweenF 0 15 [kind] <;> cases betweenF 0 1099511627775 [at_, known] <;> simp
  · rw [if_neg h0, if_pos h0]
theorem stands_r (l : List S24) (at_ known : Int) (i : Nat) (hi : i < l.length) : signatoryref18_stands.f l (i : Int) at_ known = some (standsB l at_ known l[i]) := by
  unfold signatoryref18_stands.f
  rw [if_pos ⟨by omega, by omega⟩, rd_nat l i hi]
theorem take_snoc {α : Type} (p : α → Bool) (l : List α) (i : Nat) (h : i < l.length) : (l.take (i + 1)).filter p = (l.take i).filter p ++ (if p l[i] = true then [l[i]] else []) := by
  rw [List.take_succ_eq_append_getElem h, List.filter_append]
  congr 1
  by_cases hp : p l[i] = true <;> simp [hp]
theorem standing_r0 (l : List S24) (hn : l.length ≤ 4096) (kind at_ known : Int) : ∀ (d k i : Nat), l.length - i = d → i ≤ l.length → l.length + d + 2 < k →
    signatoryref18_standing.l0 k l kind at_ known ((l.take i).filter fun y => kindB kind y && standsB l at_ known y) (i : Int) = some (refStanding l kind at_ known) := by
  intro d
  induction d with
  | zero =>
    intro k i hd hi hk
    obtain ⟨k, rfl⟩ : ∃ m, k = m + 1 := ⟨k - 1, by omega⟩
    simp only [signatoryref18_standing.l0]
    rw [if_neg (by omega), List.take_of_length_le (by omega)]
    rfl
  | succ d ih =>
    intro k i hd hi hk
    obtain ⟨k, rfl⟩ : ∃ m, k = m + 1 := ⟨k - 1, by omega⟩
    have hlt : i < l.length := by omega
    have hih := ih k (i + 1) (by omega) (by omega) (by omega)
    rw [take_snoc _ l i hlt] at hih
    have hlen : ((l.take i).filter fun y => kindB kind y && standsB l at_ known y).length ≤ 4096 := Nat.le_trans (List.length_filter_le _ _) (by rw [List.length_take]; omega)
    simp only [signatoryref18_standing.l0]
    rw [if_pos (by omega), if_pos (by omega), rd_nat l i hlt, wrap_succ hlt (by omega), stands_r l at_ known i hlt]
    simp only [Option.bind_some]
    by_cases h3 : l[i].f3 = -1
    · have hk : kindB kind l[i] = true := by simp [kindB, h3]
      rw [if_pos h3]
      cases hs : standsB l at_ known l[i] with
      | true =>
        simp only [hk, hs, Bool.and_self, if_true] at hih
        rw [if_pos rfl, if_pos (by omega)]
        exact hih
      | false =>
        simp only [hk, hs, Bool.and_false, Bool.false_eq_true, if_false, List.append_nil] at hih
        simpa using hih
    · rw [if_neg h3]
      by_cases h4 : l[i].f3 = kind
      · have hk : kindB kind l[i] = true := by simp [kindB, h4]
        rw [if_pos h4]
        cases hs : standsB l at_ known l[i] with
        | true =>
          simp only [hk, hs, Bool.and_self, if_true] at hih
          rw [if_pos rfl, if_pos (by omega)]
          exact hih
        | false =>
          simp only [hk, hs, Bool.and_false, Bool.false_eq_true, if_false, List.append_nil] at hih
          simpa using hih
      · have hk : kindB kind l[i] = false := by simp [kindB, h3, h4]
        rw [if_neg h4]
        simp only [hk, Bool.false_and, Bool.false_eq_true, if_false, List.append_nil] at hih
        exact hih
theorem standing_r1 (l : List S24) (h0 : checkF l = 0) (kind at_ known : Int) (k : Nat) (hk : l.length + l.length + 2 < k) : signatoryref18_standing.f k l kind at_ known = some (standingF l kind at_ known) := by
  obtain ⟨hn, hp, hr⟩ := check_ok h0
  unfold signatoryref18_standing.f
  have h1 := standing_r0 l hn kind at_ known l.length k 0 (by omega) (by omega) (by omega)
  simp only [Int.natCast_zero, List.take_zero, List.filter_nil, ← standing_eq hp hr] at h1
  exact h1
theorem standing_r (l : List S24) (kind at_ known : Int) (k : Nat) (hk : l.length + l.length + 2 < k) : signatoryref18_Standing.f k l kind at_ known = some (standF l kind at_ known) := by
  unfold signatoryref18_Standing.f standF
  rw [check_r l k (by omega)]
  simp only [Option.bind_some, kind_r, moment_r, two_b, one_b]
  by_cases h0 : checkF l = 0
  · rw [if_pos h0, if_neg (show ¬ checkF l ≠ 0 by simp [h0]), standing_r1 l h0 kind at_ known k hk]
    cases outB 0 15 kind <;> cases outB 0 1099511627775 at_ <;> cases outB 0 1099511627775 known <;> simp
  · rw [if_neg h0, if_pos h0]
theorem stand_len (l : List S24) (kind at_ known : Int) : (standingF l kind at_ known).length ≤ l.length := List.length_filter_le _ _
theorem standF_len (l : List S24) (kind at_ known : Int) : (standF l kind at_ known).1.length ≤ l.length := by
  unfold standF
  repeat' split
  all_goals first | exact stand_len _ _ _ _ | simp
end Go.Proofs.Ytaemdkbfdpjimaa.V

namespace Go.Proofs.Ytaemdkbfdpjimaa.V
open Go.RowKit Go.Proofs.Ytaemdkbfdpjimaa.P Go.Proofs.Ytaemdkbfdpjimaa.S Go.Proofs.Ytaemdkbfdpjimaa.U
set_option linter.unusedVariables false
theorem rd_use (l : List S49) (i : Nat) (h : i < l.length) : rd_T49 l (i : Int) = l[i] := by
  simp [rd_T49, List.getD_eq_getElem?_getD, List.getElem?_eq_getElem h]
theorem uses_l1 (u : List S49) (hn : u.length ≤ 4294967296) (i : Nat) (hi : i < u.length) (F : Nat) (r : Bool) (H : ∀ k, F ≤ k → signatoryref18_Uses.l0 k u ((i + 1 : Nat) : Int) = some r) :
    ∀ (d k j : Nat), i - j = d → j ≤ i → d + F + 1 ≤ k → signatoryref18_Uses.l1 k u (i : Int) (j : Int) = some (!(((u.take i).drop j).any fun z => z.f0 == u[i].f0) && r) := by
  intro d
  induction d with
  | zero =>
    intro k j hd hj hk
    obtain ⟨k, rfl⟩ : ∃ m, k = m + 1 := ⟨k - 1, by omega⟩
    simp only [signatoryref18_Uses.l1]
    rw [if_neg (by omega), wrap_succ hi hn, H k (by omega), List.drop_of_length_le (by simp; omega)]
    simp
  | succ d ih =>
    intro k j hd hj hk
    obtain ⟨k, rfl⟩ : ∃ m, k = m + 1 := ⟨k - 1, by omega⟩
    have hji : j < i := by omega
    have hju : j < u.length := by omega
    have hjt : j < (u.take i).length := by rw [List.length_take]; omega
    simp only [signatoryref18_Uses.l1]
    rw [if_pos (by omega), if_pos (by omega), if_pos (by omega), if_pos (by omega), if_pos (by omega), rd_use u j hju, rd_use u i hi, wrap_succ hju hn, ih k (j + 1) (by omega) (by omega) (by omega), List.drop_eq_getElem_cons hjt, List.any_cons, List.getElem_take]
    by_cases h : u[j].f0 = u[i].f0
    · have hb : (u[j].f0 == u[i].f0) = true := by simpa using h
      rw [if_pos h, hb]; rfl
    · have hb : (u[j].f0 == u[i].f0) = false := by simpa using h
      rw [if_neg h, hb]; rfl
theorem use_b (x : S49) : useF x = (!outB 0 4095 x.f0 && (!outB 0 15 x.f1 && (!outB 0 1099511627776 x.f2 && (!outB 0 1099511627775 x.f3 && !outB 0 1099511627775 x.f4)))) := by
  unfold useF
  rw [two_b, one_b, one_b, one_b, one_b, one_b]
  cases outB 0 4095 x.f0 <;> cases outB 0 15 x.f1 <;> cases outB 0 1099511627776 x.f2 <;> cases outB 0 1099511627775 x.f3 <;> cases outB 0 1099511627775 x.f4 <;> rfl
theorem cont_any (met : List S49) (x : S49) : (met.any fun z => z.f0 == x.f0) = ((met.map (·.f0)).reverse).contains x.f0 := by
  rw [Bool.eq_iff_iff, List.any_eq_true, List.contains_iff_mem, List.mem_reverse, List.mem_map]
  constructor
  · rintro ⟨z, hz, h⟩; exact ⟨z, hz, by simpa using h⟩
  · rintro ⟨z, hz, h⟩; exact ⟨z, hz, by simpa using h⟩
theorem uses_l0 (u : List S49) (hn : u.length ≤ 4294967296) : ∀ (d i : Nat), u.length - i = d → i ≤ u.length → ∀ k, d * (u.length + 4) + 1 ≤ k →
    signatoryref18_Uses.l0 k u (i : Int) = some (usesF (((u.take i).map (·.f0)).reverse) (u.drop i)) := by
  intro d
  induction d with
  | zero =>
    intro i hd hi k hk
    obtain ⟨k, rfl⟩ : ∃ m, k = m + 1 := ⟨k - 1, by omega⟩
    simp only [signatoryref18_Uses.l0]
    rw [if_neg (by omega), List.drop_of_length_le (by omega)]
    rfl
  | succ d ih =>
    intro i hd hi k hk
    have hk' : d * (u.length + 4) + 1 + (u.length + 4) ≤ k := by rw [Nat.succ_mul] at hk; omega
    obtain ⟨k, rfl⟩ : ∃ m, k = m + 1 + 1 := ⟨k - 2, by omega⟩
    have hlt : i < u.length := by omega
    have h1 := uses_l1 u hn i hlt (d * (u.length + 4) + 1) _ (ih (i + 1) (by omega) (by omega)) i k 0 (by omega) (by omega) (by omega)
    rw [List.drop_zero, cont_any] at h1
    have hj : ∀ b : Bool, signatoryref18_Uses.j1 (k + 1) u (i : Int) b = some (!b && (!(((u.take i).map (·.f0)).reverse).contains u[i].f0 && usesF (((u.take (i + 1)).map (·.f0)).reverse) (u.drop (i + 1)))) := by
      intro b
      simp only [signatoryref18_Uses.j1]
      cases b with
      | true => simp
      | false => simpa using h1
    have hts : ((u.take (i + 1)).map (·.f0)).reverse = u[i].f0 :: ((u.take i).map (·.f0)).reverse := by
      rw [List.take_succ_eq_append_getElem hlt, List.map_append, List.reverse_append]; rfl
    simp only [signatoryref18_Uses.l0]
    rw [if_pos (by omega), if_pos (by omega), rd_use u i hlt, List.drop_eq_getElem_cons hlt]
    simp only [within_r, kind_r, moment_r, Option.bind_some, hj, usesF, use_b, hts]
    generalize (((u.take i).map (·.f0)).reverse).contains u[i].f0 = c0
    generalize usesF (u[i].f0 :: ((u.take i).map (·.f0)).reverse) (u.drop (i + 1)) = c1
    cases outB 0 4095 u[i].f0 <;> cases outB 0 15 u[i].f1 <;> cases outB 0 1099511627776 u[i].f2 <;> cases outB 0 1099511627775 u[i].f3 <;> cases outB 0 1099511627775 u[i].f4 <;> cases c0 <;> simp
theorem uses_r (u : List S49) (hn : u.length ≤ 4294967296) (k : Nat) (hk : u.length * (u.length + 4) + 1 ≤ k) : signatoryref18_Uses.f k u = some (usesF [] u) := by
  unfold signatoryref18_Uses.f
  have := uses_l0 u hn u.length 0 (by omega) (by omega) k hk
  simpa using this
theorem uses_val : ∀ (u : List S49) (met : List Int), usesF met u = true → ∀ x ∈ u, useF x = true
  | [], _, _ => fun x hx => by cases hx
  | y :: u, met, h => by
    simp only [usesF, Bool.and_eq_true] at h
    intro x hx
    rcases List.mem_cons.1 hx with rfl | hx
    · exact h.1.2
    · exact uses_val u _ h.2 x hx
theorem use_range {x : S49} (h : useF x = true) : 0 ≤ x.f2 ∧ x.f2 ≤ 1099511627776 ∧ 0 ≤ x.f3 ∧ x.f3 ≤ 1099511627775 ∧ 0 ≤ x.f4 ∧ x.f4 ≤ 1099511627775 := by
  rw [use_b] at h
  unfold outB at h
  simp at h
  omega
theorem right_range {x : S24} (h : rightF x = true) : 1 ≤ x.f4 ∧ 0 ≤ x.f1 ∧ x.f1 ≤ 1099511627775 ∧ 0 ≤ x.f5 ∧ 0 ≤ x.f6 := by
  unfold rightF betweenF outB at h
  simp at h
  omega
theorem sum_range {p : S49 → Bool} : ∀ (u : List S49), (∀ x ∈ u, 0 ≤ x.f2 ∧ x.f2 ≤ 1099511627776) → 0 ≤ ((u.filter p).map (·.f2)).sum ∧ ((u.filter p).map (·.f2)).sum ≤ 1099511627776 * (u.length : Int)
  | [], _ => by simp
  | x :: u, h => by
    have h1 := sum_range (p := p) u (fun y hy => h y (by simp [hy]))
    have h2 := h x (by simp)
    rw [List.filter_cons]
    split
    · simp only [List.map_cons, List.sum_cons, List.length_cons]; omega
    · simp only [List.length_cons]; omega
end Go.Proofs.Ytaemdkbfdpjimaa.V

namespace Go.Proofs.Ytaemdkbfdpjimaa.V
open Go.RowKit Go.Proofs.Ytaemdkbfdpjimaa.P Go.Proofs.Ytaemdkbfdpjimaa.S Go.Proofs.Ytaemdkbfdpjimaa.U
set_option linter.unusedVariables false
theorem uses_iff : ∀ (u : List S49) (met : List Int), usesF met u = true ↔ (∀ x ∈ u, useF x = true) ∧ (u.map (·.f0)).Nodup ∧ ∀ x ∈ u, x.f0 ∉ met
  | [], met => by simp [usesF]
  | y :: u, met => by
    simp only [usesF, Bool.and_eq_true, Bool.not_eq_true', uses_iff u (y.f0 :: met), List.mem_cons, List.map_cons, List.nodup_cons, List.mem_map]
    have hc : met.contains y.f0 = false ↔ y.f0 ∉ met := by
      rw [← Bool.not_eq_true, List.contains_iff_mem]
    rw [hc]
    constructor
    · rintro ⟨⟨h1, h2⟩, h3, h4, h5⟩
      refine ⟨fun x hx => ?_, ⟨fun hh => ?_, h4⟩, fun x hx => ?_⟩
      · rcases hx with rfl | hx
        · exact h2
        · exact h3 x hx
      · obtain ⟨x, hx, e⟩ := hh
        exact h5 x hx (.inl e)
      · rcases hx with rfl | hx
        · exact h1
        · exact fun hm => h5 x hx (.inr hm)
    · rintro ⟨h1, ⟨h2, h3⟩, h4⟩
      refine ⟨⟨h4 y (.inl rfl), h1 y (.inl rfl)⟩, fun x hx => h1 x (.inr hx), h3, fun x hx hh => ?_⟩
      rcases hh with e | hm
      · exact h2 ⟨x, hx, e⟩
      · exact h4 x (.inr hx) hm
theorem uses_sub {u v : List S49} (h : v.Sublist u) (hu : usesF [] u = true) : usesF [] v = true := by
  obtain ⟨h1, h2, h3⟩ := (uses_iff u []).1 hu
  exact (uses_iff v []).2 ⟨fun x hx => h1 x (h.subset hx), h2.sublist (h.map _), fun x hx => by simp⟩
/-- the first budget of which something is said -/
def firstP (p : S24 → Bool) (s : List S24) : Int × Bool × Int := match s.find? p with | some b => (b.f0, false, 0) | none => (-1, true, 0)
theorem first_p (s : List S24) (u : List S49) (value at_ known : Int) : firstF s u value at_ known = firstP (fun b => overF b u value at_ known) s := rfl
theorem first_err (p : S24 → Bool) (s : List S24) : (firstP p s).2.2 = 0 := by unfold firstP; split <;> rfl
theorem first_mono {p q : S24 → Bool} : ∀ (s : List S24), s.Pairwise (fun a b => a.f0 < b.f0) → (∀ b ∈ s, q b = true → p b = true) →
    ((firstP p s).2.1 = true → (firstP q s).2.1 = true) ∧ ((firstP q s).2.1 = false → (firstP p s).2.1 = false ∧ (firstP p s).1 ≤ (firstP q s).1)
  | [], _, _ => by simp [firstP]
  | b :: s, hs, h => by
    obtain ⟨h1, h2⟩ := List.pairwise_cons.1 hs
    have ih := first_mono s h2 (fun c hc => h c (by simp [hc]))
    have hb := h b (by simp)
    unfold firstP at ih ⊢
    rw [List.find?_cons, List.find?_cons]
    cases hq : q b with
    | true => rw [hb hq]; simp
    | false =>
      cases hp : p b with
      | false => exact ih
      | true =>
        refine ⟨fun hh => by simp at hh, fun hh => ⟨rfl, ?_⟩⟩
        dsimp only at hh ⊢
        cases hf : s.find? q with
        | none => rw [hf] at hh; simp at hh
        | some c =>
          have := h1 c (List.mem_of_find?_eq_some hf)
          dsimp only
          omega
theorem sum_sub {p : S49 → Bool} {u v : List S49} (h : v.Sublist u) (hu : ∀ x ∈ u, 0 ≤ x.f2) : ((v.filter p).map (·.f2)).sum ≤ ((u.filter p).map (·.f2)).sum := by
  have h1 : ((v.filter p).map (·.f2)).Sublist ((u.filter p).map (·.f2)) := (h.filter p).map _
  have h2 : ∀ z ∈ (u.filter p).map (·.f2), 0 ≤ z := by
    intro z hz
    obtain ⟨x, hx, rfl⟩ := List.mem_map.1 hz
    exact hu x (List.mem_filter.1 hx).1
  revert h1 h2
  generalize (v.filter p).map (·.f2) = a
  generalize (u.filter p).map (·.f2) = b
  intro h1
  induction h1 with
  | slnil => intro _; simp
  | cons z _ ih =>
    intro h2
    have := ih (fun y hy => h2 y (by simp [hy]))
    have := h2 z (by simp)
    rw [List.sum_cons]
    omega
  | cons_cons z _ ih =>
    intro h2
    have := ih (fun y hy => h2 y (by simp [hy]))
    rw [List.sum_cons, List.sum_cons]
    omega
theorem over_sub {u v : List S49} (h : v.Sublist u) (hu : ∀ x ∈ u, 0 ≤ x.f2) {b : S24} {value value' at_ known : Int} (hv : value' ≤ value) (ho : overF b v value' at_ known = true) : overF b u value at_ known = true := by
  unfold overF manyF sumF at *
  have h1 := (h.filter (usedF b at_ known)).length_le
  have h2 := sum_sub (p := usedF b at_ known) h hu
  simp only [Bool.or_eq_true, decide_eq_true_eq] at *
  omega
/-- what Room says of right arguments -/
theorem room_ok {l : List S24} {u : List S49} {kind value at_ known : Int} (h0 : checkF l = 0) (hu : u.length ≤ 4096) (hus : usesF [] u = true) :
    (roomF l u kind value at_ known = (0, false, 1) ∧ (betweenF 0 15 [kind] = false ∨ betweenF 0 1099511627776 [value] = false ∨ betweenF 0 1099511627775 [at_, known] = false)) ∨
    (roomF l u kind value at_ known = firstF (standingF l kind at_ known) u value at_ known ∧ betweenF 0 15 [kind] = true ∧ (0 ≤ value ∧ value ≤ 1099511627776) ∧ betweenF 0 1099511627775 [at_, known] = true) := by
  unfold roomF
  rw [if_neg (by simp [h0]), if_neg (by omega), if_neg (by simp [hus])]
  by_cases hb : betweenF 0 15 [kind] = false ∨ betweenF 0 1099511627776 [value] = false ∨ betweenF 0 1099511627775 [at_, known] = false
  · rw [if_pos hb]; exact .inl ⟨rfl, hb⟩
  · rw [if_neg hb]
    refine .inr ⟨rfl, ?_, ?_, ?_⟩
    · cases h : betweenF 0 15 [kind] with
      | true => rfl
      | false => exact absurd (.inl h) hb
    · cases h : betweenF 0 1099511627776 [value] with
      | true => rw [one_b] at h; unfold outB at h; simp at h; omega
      | false => exact absurd (.inr (.inl h)) hb
    · cases h : betweenF 0 1099511627775 [at_, known] with
      | true => rfl
      | false => exact absurd (.inr (.inr h)) hb
theorem room_is {l : List S24} {u : List S49} {kind value at_ known : Int} (h0 : checkF l = 0) (hu : u.length ≤ 4096) (hus : usesF [] u = true) (h1 : betweenF 0 15 [kind] = true) (h2 : 0 ≤ value ∧ value ≤ 1099511627776) (h3 : betweenF 0 1099511627775 [at_, known] = true) : roomF l u kind value at_ known = firstF (standingF l kind at_ known) u value at_ known := by
  unfold roomF
  rw [if_neg (by simp [h0]), if_neg (by omega), if_neg (by simp [hus]), if_neg]
  have h2' : betweenF 0 1099511627776 [value] = true := by rw [one_b]; unfold outB; simp; omega
  simp [h1, h2', h3]
end Go.Proofs.Ytaemdkbfdpjimaa.V

namespace Go.Proofs.Ytaemdkbfdpjimaa.V
open Go.RowKit Go.Proofs.Ytaemdkbfdpjimaa.P Go.Proofs.Ytaemdkbfdpjimaa.S Go.Proofs.Ytaemdkbfdpjimaa.U
set_option linter.unusedVariables false
/-- is a use of a kind of the budget's, in its period of a time? -/
def periodB (b : S24) (at_ : Int) (x : S49) : Bool := (decide (b.f3 = -1) || decide (b.f3 = x.f1)) && decide (wrap64 (Int.tdiv x.f3 b.f4) = wrap64 (Int.tdiv at_ b.f4))
def mattersF (s : List S24) (at_ : Int) (x : S49) : Bool := s.any fun b => periodB b at_ x
def ownB (s : List S24) (at_ known : Int) (x : S49) : Bool := mattersF s at_ x && decide (x.f4 ≤ known)
theorem used_own {s : List S24} {b : S24} (hb : b ∈ s) {at_ known : Int} {x : S49} (h : usedF b at_ known x = true) : ownB s at_ known x = true := by
  unfold usedF at h
  simp only [Bool.and_eq_true] at h
  unfold ownB mattersF
  rw [Bool.and_eq_true]
  refine ⟨List.any_eq_true.2 ⟨b, hb, ?_⟩, h.1.1⟩
  unfold periodB
  rw [Bool.and_eq_true]
  exact ⟨h.1.2, h.2⟩
theorem own_filter {s : List S24} {b : S24} (hb : b ∈ s) {at_ known : Int} (u : List S49) : (u.filter (ownB s at_ known)).filter (usedF b at_ known) = u.filter (usedF b at_ known) := by
  rw [List.filter_filter]
  refine List.filter_congr fun x _ => ?_
  cases h : usedF b at_ known x with
  | false => rfl
  | true => rw [used_own hb h]; rfl
theorem perm_sum {a b : List Int} (h : a.Perm b) : a.sum = b.sum := by
  induction h with
  | nil => rfl
  | cons x _ ih => simp [ih]
  | swap x y l => simp; omega
  | trans _ _ h1 h2 => exact h1.trans h2
theorem over_perm {u v : List S49} (h : v.Perm u) (b : S24) (value at_ known : Int) : overF b v value at_ known = overF b u value at_ known := by
  unfold overF manyF sumF
  have h1 := h.filter (usedF b at_ known)
  rw [h1.length_eq, perm_sum (h1.map (·.f2))]
theorem over_own {s : List S24} {b : S24} (hb : b ∈ s) (u : List S49) (value at_ known : Int) : overF b (u.filter (ownB s at_ known)) value at_ known = overF b u value at_ known := by
  unfold overF manyF sumF
  rw [own_filter hb]
theorem turn_perm {α : Type} (l : List α) (k : Nat) : (l.drop k ++ l.take k).Perm l := by
  refine List.perm_append_comm.trans ?_
  rw [List.take_append_drop]
theorem find_congr {α : Type} {p q : α → Bool} : ∀ (l : List α), (∀ x ∈ l, p x = q x) → l.find? p = l.find? q
  | [], _ => rfl
  | x :: l, h => by rw [List.find?_cons, List.find?_cons, h x (by simp), find_congr l (fun y hy => h y (by simp [hy]))]
theorem first_own {s : List S24} {u v : List S49} {value at_ known : Int} (h : v.Perm (u.filter (ownB s at_ known))) : firstF s v value at_ known = firstF s u value at_ known := by
  unfold firstF
  rw [find_congr (q := fun b => overF b u value at_ known) s (fun b hb => (over_perm h b value at_ known).trans (over_own hb u value at_ known))]
theorem ok_sub : ∀ (l : List S24) (last : Int) (p : S24 → Bool), okFrom last l = true → okFrom last (l.filter p) = true
  | [], _, _, h => h
  | x :: l, last, p, h => by
    simp only [okFrom, Bool.and_eq_true, decide_eq_true_eq] at h
    obtain ⟨⟨h1, h2⟩, h3⟩ := h
    rw [List.filter_cons]
    split
    · simp only [okFrom, Bool.and_eq_true, decide_eq_true_eq]
      exact ⟨⟨h1, h2⟩, ok_sub l _ p h3⟩
    · refine ok_sub l last p ?_
      revert h3
      cases l with
      | nil => exact fun _ => rfl
      | cons y l =>
        simp only [okFrom, Bool.and_eq_true, decide_eq_true_eq]
        rintro ⟨⟨a, b⟩, c⟩
        exact ⟨⟨a, by omega⟩, c⟩
theorem check_sub {l : List S24} (p : S24 → Bool) (h : checkF l = 0) : checkF (l.filter p) = 0 := by
  unfold checkF at h ⊢
  have hl := List.length_filter_le p l
  by_cases h1 : 4096 < l.length
  · rw [if_pos h1] at h; cases h
  · rw [if_neg h1] at h
    rw [if_neg (by omega)]
    by_cases h2 : okFrom (-1) l = true
    · rw [if_pos (ok_sub l _ p h2)]
    · rw [if_neg h2] at h; cases h
def earlyB (known : Int) (x : S24) : Bool := decide (x.f2 ≤ known)
theorem early_stand {l : List S24} (h : checkF l = 0) (kind at_ known : Int) : standingF (l.filter (earlyB known)) kind at_ known = standingF l kind at_ known := by
  obtain ⟨_, hp, hr⟩ := check_ok h
  obtain ⟨_, hp2, hr2⟩ := check_ok (check_sub (earlyB known) h)
  rw [standing_eq hp hr, standing_eq hp2 hr2]
  unfold refStanding
  rw [List.filter_filter]
  refine List.filter_congr fun y _ => ?_
  have ha : ((l.filter (earlyB known)).any fun z => sameSubj z y && knownB at_ known z && afterB z y) = l.any fun z => sameSubj z y && knownB at_ known z && afterB z y := by
    rw [List.any_filter]
    congr 1
    funext z
    unfold knownB earlyB
    cases sameSubj z y <;> cases decide (z.f1 ≤ at_) <;> cases decide (z.f2 ≤ known) <;> simp
  unfold standsB
  rw [ha]
  unfold knownB earlyB
  cases decide (y.f2 ≤ known) <;> simp
theorem own_uses {u v : List S49} {p : S49 → Bool} (h : v.Perm (u.filter p)) (hu : usesF [] u = true) : usesF [] v = true := by
  have h1 := uses_sub (List.filter_sublist (p := p) (l := u)) hu
  obtain ⟨a, b, c⟩ := (uses_iff _ []).1 h1
  exact (uses_iff _ []).2 ⟨fun x hx => a x (h.mem_iff.1 hx), (h.map (·.f0)).nodup_iff.2 b, fun x hx => by simp⟩
theorem others {l : List S24} {u v : List S49} {kind value at_ known : Int} (h : checkF l = 0) (hu : u.length ≤ 4096) (hus : usesF [] u = true) (hv : v.Perm (u.filter (ownB (standingF l kind at_ known) at_ known))) :
    roomF (l.filter (earlyB known)) v kind value at_ known = roomF l u kind value at_ known := by
  have hvl : v.length ≤ 4096 := by rw [hv.length_eq]; exact Nat.le_trans (List.length_filter_le _ _) hu
  unfold roomF
  have hus2 := own_uses hv hus
  have hck2 := check_sub (earlyB known) h
  rw [if_neg (show ¬ checkF (l.filter (earlyB known)) ≠ 0 by simp [hck2]), if_neg (show ¬ 4096 < v.length by omega), if_neg (show ¬ usesF [] v = false by simp [hus2]), if_neg (show ¬ checkF l ≠ 0 by simp [h]), if_neg (show ¬ 4096 < u.length by omega), if_neg (show ¬ usesF [] u = false by simp [hus]), early_stand h, first_own hv]
end Go.Proofs.Ytaemdkbfdpjimaa.V

namespace Go.Proofs.Ytaemdkbfdpjimaa.V
open Go.RowKit Go.Proofs.Ytaemdkbfdpjimaa.P Go.Proofs.Ytaemdkbfdpjimaa.S Go.Proofs.Ytaemdkbfdpjimaa.U
open W (mget mput midx mget_put midx_get midx_some midx_none)
open W.St (Sb sbOf lastStep lastF_fold)
set_option linter.unusedVariables false
theorem midx_key {K V : Type} [DecidableEq K] (k : K) : ∀ (m : List (K × V)) (i : Nat), midx k m i = none ↔ k ∉ m.map (·.1)
  | [], _ => by simp [midx]
  | p :: m, i => by
    unfold midx
    by_cases h : p.1 = k
    · rw [if_pos h]; simp [h]
    · rw [if_neg h, midx_key k m (i + 1)]
      simp only [List.map_cons, List.mem_cons, not_or]
      exact ⟨fun h2 => ⟨fun e => h e.symm, h2⟩, fun h2 => h2.2⟩
theorem mput_keys {K V : Type} [DecidableEq K] (m : List (K × V)) (k : K) (v : V) (h : (m.map (·.1)).Nodup) : ((mput m k v).map (·.1)).Nodup := by
  cases hi : midx k m 0 with
  | none =>
    rw [midx_none k v m 0 hi, List.map_append]
    have := (midx_key k m 0).1 hi
    refine List.nodup_append.2 ⟨h, by simp, fun a ha b hb => ?_⟩
    simp at hb
    subst hb
    exact fun e => this (e ▸ ha)
  | some q =>
    obtain ⟨j, u⟩ := q
    obtain ⟨_, hj, hput⟩ := midx_some k v m 0 j u hi
    rw [hput, List.map_set]
    have : (m.map (·.1)).set (j - 0) k = m.map (·.1) := by
      rw [Nat.sub_zero] at hj ⊢
      apply List.ext_getElem?
      intro i
      rw [List.getElem?_set]
      by_cases hji : j = i
      · subst hji
        obtain ⟨hl, he⟩ := List.getElem?_eq_some_iff.1 hj
        simp [hl, he]
      · rw [if_neg hji]
    rw [this]; exact h
theorem mput_mem {K V : Type} [DecidableEq K] {m : List (K × V)} {k : K} {v : V} {p : K × V} (h : p ∈ mput m k v) : p = (k, v) ∨ p ∈ m := by
  cases hi : midx k m 0 with
  | none =>
    rw [midx_none k v m 0 hi] at h
    rcases List.mem_append.1 h with h | h
    · exact .inr h
    · exact .inl (by simpa using h)
  | some q =>
    obtain ⟨j, u⟩ := q
    obtain ⟨_, hj, hput⟩ := midx_some k v m 0 j u hi
    rw [hput] at h
    exact (List.mem_or_eq_of_mem_set h).symm
theorem mget_mem {K V : Type} [DecidableEq K] {m : List (K × V)} {k : K} {v : V} (h : mget m k = some v) : (k, v) ∈ m := by
  rw [← midx_get k m 0] at h
  cases hi : midx k m 0 with
  | none => rw [hi] at h; cases h
  | some q =>
    obtain ⟨j, u⟩ := q
    rw [hi] at h
    obtain rfl : u = v := by simpa using h
    have := (midx_some k u m 0 j u hi).2.1
    exact List.mem_of_getElem? this
theorem mem_mget {K V : Type} [DecidableEq K] : ∀ {m : List (K × V)}, (m.map (·.1)).Nodup → ∀ {k : K} {v : V}, (k, v) ∈ m → mget m k = some v
  | [], _, _, _, h => by cases h
  | p :: m, hn, k, v, h => by
    obtain ⟨h1, h2⟩ := List.nodup_cons.1 hn
    unfold mget
    rcases List.mem_cons.1 h with h | h
    · rw [← h]; simp
    · rw [if_neg, mem_mget h2 h]
      rintro rfl
      exact h1 (List.mem_map.2 ⟨_, h, rfl⟩)
/-- what a round of the law's first loop makes of the map -/
def stepM (kind at_ known : Int) (m : List (Sb × S24)) (x : S24) : List (Sb × S24) :=
  if countsF kind at_ known x = true then (if (mget m (sbOf x)).isSome = false ∨ ((mget m (sbOf x)).getD z24).f1 ≤ x.f1 then mput m (sbOf x) x else m) else m
def mapF (kind at_ known : Int) (l : List S24) : List (Sb × S24) := l.foldl (stepM kind at_ known) []
theorem mapF_snoc (kind at_ known : Int) (l : List S24) (x : S24) : mapF kind at_ known (l ++ [x]) = stepM kind at_ known (mapF kind at_ known l) x := by unfold mapF; rw [List.foldl_append]; rfl
structure Ok (kind at_ known : Int) (l : List S24) (m : List (Sb × S24)) : Prop where
  get : ∀ y, mget m (sbOf y) = (l.filter (countsF kind at_ known)).foldl (lastStep y) none
  mem : ∀ p ∈ m, p.1 = sbOf p.2 ∧ p.2 ∈ l
  keys : (m.map (·.1)).Nodup
theorem Ok.step {kind at_ known : Int} {l : List S24} {m : List (Sb × S24)} (h : Ok kind at_ known l m) (x : S24) : Ok kind at_ known (l ++ [x]) (stepM kind at_ known m x) := by
  have hft : (l ++ [x]).filter (countsF kind at_ known) = l.filter (countsF kind at_ known) ++ (if countsF kind at_ known x = true then [x] else []) := by
    rw [List.filter_append]
    congr 1
    by_cases hp : countsF kind at_ known x = true <;> simp [hp]
  have hmem : ∀ p ∈ m, p.1 = sbOf p.2 ∧ p.2 ∈ l ++ [x] := fun p hp => ⟨(h.mem p hp).1, by simp [(h.mem p hp).2]⟩
  unfold stepM
  by_cases hc : countsF kind at_ known x = true
  · rw [if_pos hc] at hft ⊢
    refine ⟨fun y => ?_, ?_, ?_⟩
    · rw [hft, List.foldl_append, ← h.get y]
      simp only [List.foldl_cons, List.foldl_nil, lastStep]
      have hss : (sameSubj x y = true) ↔ (sbOf x = sbOf y) := by simp [sameSubj, sbOf]
      by_cases hxy : sbOf x = sbOf y
      · rw [if_pos (hss.2 hxy), ← hxy]
        cases hm : mget m (sbOf x) with
        | none => simp [mget_put]
        | some u =>
          by_cases hu : u.f1 ≤ x.f1
          · simp [hu, mget_put]
          · simp [hu, hm]
      · rw [if_neg (fun e => hxy (hss.1 e))]
        split
        · rw [mget_put, if_neg hxy]
        · rfl
    · split
      · intro p hp
        rcases mput_mem hp with rfl | hp
        · exact ⟨rfl, by simp⟩
        · exact hmem p hp
      · exact hmem
    · split
      · exact mput_keys _ _ _ h.keys
      · exact h.keys
  · rw [if_neg hc] at hft ⊢
    exact ⟨fun y => by rw [hft, List.append_nil]; exact h.get y, hmem, h.keys⟩
theorem mapF_ok (kind at_ known : Int) (l : List S24) : Ok kind at_ known l (mapF kind at_ known l) := by
  have : ∀ (n : Nat) (l : List S24), l.length = n → Ok kind at_ known l (mapF kind at_ known l) := by
    intro n
    induction n with
    | zero =>
      intro l hl
      rw [List.eq_nil_of_length_eq_zero hl]
      exact ⟨fun _ => rfl, fun p hp => (by cases hp), List.nodup_nil⟩
    | succ n ih =>
      intro l hl
      have hne : l ≠ [] := by intro e; rw [e] at hl; cases hl
      rw [← List.dropLast_concat_getLast hne, mapF_snoc]
      exact (ih l.dropLast (by rw [List.length_dropLast]; omega)).step _
  exact this _ l rfl
theorem nodup_le {α : Type} [DecidableEq α] : ∀ (a b : List α), a.Nodup → (∀ x ∈ a, x ∈ b) → a.length ≤ b.length
  | [], _, _, _ => by simp
  | x :: a, b, hn, h => by
    obtain ⟨h1, h2⟩ := List.nodup_cons.1 hn
    have hx := h x (by simp)
    have := nodup_le a (b.erase x) h2 (fun y hy => (List.mem_erase_of_ne (fun e => h1 (by rw [← e]; exact hy))).2 (h y (by simp [hy])))
    rw [List.length_erase_of_mem hx] at this
    have hpos : 0 < b.length := List.length_pos_of_mem hx
    rw [List.length_cons]
    omega
theorem pair_nodup {l : List S24} (hp : l.Pairwise (fun a b => a.f0 < b.f0)) : l.Nodup := hp.imp fun h e => by subst e; exact absurd h (by omega)
theorem stands_map {kind at_ known : Int} {l : List S24} (y : S24) : standsF (l.filter (countsF kind at_ known)) y = (!y.f7 && decide ((mget (mapF kind at_ known l) (sbOf y)).getD z24 = y)) := by
  unfold standsF
  rw [(mapF_ok kind at_ known l).get y, lastF_fold]
/-- **As many stand as the map has that are not withdrawn.** -/
theorem many_map {kind at_ known : Int} {l : List S24} (h : checkF l = 0) : ((mapF kind at_ known l).filter (fun p => !p.2.f7)).length = (standingF l kind at_ known).length := by
  obtain ⟨_, hp, hr⟩ := check_ok h
  have hok := mapF_ok kind at_ known l
  have hn1 : (((mapF kind at_ known l).filter (fun p => !p.2.f7)).map (·.2)).Nodup := by
    have hk : (((mapF kind at_ known l).filter (fun p => !p.2.f7)).map (·.1)).Nodup := hok.keys.sublist (List.filter_sublist.map _)
    have he : ((mapF kind at_ known l).filter (fun p => !p.2.f7)).map (·.1) = (((mapF kind at_ known l).filter (fun p => !p.2.f7)).map (·.2)).map sbOf := by
      rw [List.map_map]
      exact List.map_congr_left fun p hp => (hok.mem p (List.mem_filter.1 hp).1).1
    rw [he] at hk
    refine List.Pairwise.imp (fun h e => h (by rw [e])) (List.pairwise_map.1 hk)
  have hn2 : (standingF l kind at_ known).Nodup := (pair_nodup hp).sublist List.filter_sublist
  have hiff : ∀ y, y ∈ ((mapF kind at_ known l).filter (fun p => !p.2.f7)).map (·.2) ↔ y ∈ standingF l kind at_ known := by
    intro y
    constructor
    · intro hy
      obtain ⟨p, hp, rfl⟩ := List.mem_map.1 hy
      obtain ⟨h1, h2⟩ := List.mem_filter.1 hp
      obtain ⟨h3, h4⟩ := hok.mem p h1
      refine List.mem_filter.2 ⟨h4, ?_⟩
      rw [stands_map]
      have hg : mget (mapF kind at_ known l) (sbOf p.2) = some p.2 := mem_mget hok.keys (by rw [← h3]; exact h1)
      rw [hg, h2]
      simp
    · intro hy
      obtain ⟨h1, h2⟩ := List.mem_filter.1 hy
      rw [stands_map] at h2
      simp only [Bool.and_eq_true, decide_eq_true_eq] at h2
      cases hg : mget (mapF kind at_ known l) (sbOf y) with
      | none =>
        rw [hg] at h2
        exact absurd h2.2.symm (right_ne (hr y h1))
      | some u =>
        rw [hg] at h2
        obtain rfl : u = y := h2.2
        exact List.mem_map.2 ⟨(sbOf u, u), List.mem_filter.2 ⟨mget_mem hg, h2.1⟩, rfl⟩
  have e : ((mapF kind at_ known l).filter (fun p => !p.2.f7)).length = (((mapF kind at_ known l).filter (fun p => !p.2.f7)).map (·.2)).length := by rw [List.length_map]
  rw [e]
  exact Nat.le_antisymm (nodup_le _ _ hn1 (fun x hx => (hiff x).1 hx)) (nodup_le _ _ hn2 (fun x hx => (hiff x).2 hx))
/-- what stands is the map's, and is not withdrawn -/
theorem stand_of {kind at_ known : Int} {l : List S24} {y : S24} (hy : y ∈ standingF l kind at_ known) : y.f7 = false ∧ (mget (mapF kind at_ known l) (sbOf y)).getD z24 = y := by
  have := (List.mem_filter.1 hy).2
  rw [stands_map] at this
  simpa using this
end Go.Proofs.Ytaemdkbfdpjimaa.V

namespace Go.Proofs.Ytaemdkbfdpjimaa.V
open Go.RowKit Go.Proofs.Ytaemdkbfdpjimaa.P Go.Proofs.Ytaemdkbfdpjimaa.S Go.Proofs.Ytaemdkbfdpjimaa.U
open W (mget mput midx mget_put midx_get midx_some midx_none)
set_option linter.unusedVariables false
theorem snoc_ind {α : Type} {p : List α → Prop} (h0 : p []) (h : ∀ l x, p l → p (l ++ [x])) (l : List α) : p l := by
  have : ∀ (n : Nat) (l : List α), l.length = n → p l := by
    intro n
    induction n with
    | zero => intro l hl; rw [List.eq_nil_of_length_eq_zero hl]; exact h0
    | succ n ih =>
      intro l hl
      have hne : l ≠ [] := by intro e; rw [e] at hl; cases hl
      rw [← List.dropLast_concat_getLast hne]
      exact h _ _ (ih l.dropLast (by rw [List.length_dropLast]; omega))
  exact this _ l rfl
def kindM (b : S24) (x : S49) : Bool := decide (b.f3 = -1) || decide (b.f3 = x.f1)
def pd (b : S24) (x : S49) : Int := wrap64 (Int.tdiv x.f3 b.f4)
def inP (b : S24) (p : Int) (x : S49) : Bool := kindM b x && decide (pd b x = p)
def cnt (b : S24) (p : Int) (u : List S49) : Nat := (u.filter (inP b p)).length
def tot (b : S24) (p : Int) (u : List S49) : Int := ((u.filter (inP b p)).map (·.f2)).sum
theorem cnt_snoc (b : S24) (p : Int) (u : List S49) (x : S49) : cnt b p (u ++ [x]) = cnt b p u + (if inP b p x = true then 1 else 0) := by
  unfold cnt
  rw [List.filter_append, List.length_append]
  by_cases h : inP b p x = true <;> simp [h]
theorem tot_snoc (b : S24) (p : Int) (u : List S49) (x : S49) : tot b p (u ++ [x]) = tot b p u + (if inP b p x = true then x.f2 else 0) := by
  unfold tot
  rw [List.filter_append, List.map_append, List.sum_append]
  by_cases h : inP b p x = true <;> simp [h]
/-- what has been signed after n documents, at a time -/
structure Good (u : List S49) (t : Int) (n : Nat) : Prop where
  use : ∀ x ∈ u, useF x = true ∧ x.f4 ≤ t ∧ x.f0 < n
  docs : (u.map (·.f0)).Nodup
  len : u.length ≤ n
def Within (l : List S24) (u : List S49) : Prop := ∀ b ∈ l, standsB l 0 0 b = true → ∀ p, (cnt b p u : Int) ≤ b.f5 ∧ tot b p u ≤ b.f6
/-- all from the beginning -/
def Zero (l : List S24) : Prop := ∀ x ∈ l, x.f1 = 0 ∧ x.f2 = 0
theorem Good.uses {u : List S49} {t : Int} {n : Nat} (h : Good u t n) : usesF [] u = true := (uses_iff u []).2 ⟨fun x hx => (h.use x hx).1, h.docs, fun x hx => by simp⟩
theorem known_zero {l : List S24} (hz : Zero l) {t : Int} (ht : 0 ≤ t) {y : S24} (hy : y ∈ l) : knownB t t y = true := by
  have := hz y hy
  unfold knownB
  simp
  omega
theorem stands_zero {l : List S24} (hz : Zero l) {t : Int} (ht : 0 ≤ t) {y : S24} (hy : y ∈ l) : standsB l t t y = standsB l 0 0 y := by
  unfold standsB
  rw [known_zero hz ht hy, known_zero hz (Int.le_refl 0) hy]
  congr 2
  rw [Bool.eq_iff_iff, List.any_eq_true, List.any_eq_true]
  constructor
  · rintro ⟨z, h1, h2⟩
    refine ⟨z, h1, ?_⟩
    rw [known_zero hz ht h1] at h2
    rwa [known_zero hz (Int.le_refl 0) h1]
  · rintro ⟨z, h1, h2⟩
    refine ⟨z, h1, ?_⟩
    rw [known_zero hz (Int.le_refl 0) h1] at h2
    rwa [known_zero hz ht h1]
theorem stand_mem {l : List S24} (h : checkF l = 0) (hz : Zero l) {t kind : Int} (ht : 0 ≤ t) {b : S24} : b ∈ standingF l kind t t ↔ b ∈ l ∧ kindB kind b = true ∧ standsB l 0 0 b = true := by
  obtain ⟨_, hp, hr⟩ := check_ok h
  rw [standing_eq hp hr]
  unfold refStanding
  rw [List.mem_filter, Bool.and_eq_true]
  constructor
  · rintro ⟨h1, h2, h3⟩
    exact ⟨h1, h2, by rwa [stands_zero hz ht h1] at h3⟩
  · rintro ⟨h1, h2, h3⟩
    exact ⟨h1, h2, by rwa [stands_zero hz ht h1]⟩
theorem first_none {s : List S24} {u : List S49} {value at_ known : Int} (h : (firstF s u value at_ known).2.1 = true) : ∀ b ∈ s, overF b u value at_ known = false := by
  unfold firstF at h
  cases hf : s.find? (fun b => overF b u value at_ known) with
  | some b => rw [hf] at h; cases h
  | none =>
    intro b hb
    have := List.find?_eq_none.1 hf b hb
    simpa using this
theorem first_no {s : List S24} (hs : ∀ b ∈ s, 0 ≤ b.f0) (u : List S49) (value at_ known : Int) : (firstF s u value at_ known).2.2 = 0 ∧ (firstF s u value at_ known).2.1 = decide ((firstF s u value at_ known).1 = -1) := by
  unfold firstF
  cases hf : s.find? (fun b => overF b u value at_ known) with
  | none => simp
  | some b =>
    have := hs b (List.mem_of_find?_eq_some hf)
    refine ⟨rfl, ?_⟩
    have : ¬ b.f0 = -1 := by omega
    simp [this]
theorem pd_new (b : S24) (t d k v : Int) : pd b ⟨d, k, v, t, t⟩ = wrap64 (Int.tdiv t b.f4) := rfl
theorem used_in {u : List S49} {t : Int} {n : Nat} (hg : Good u t n) {t' : Int} (ht : t ≤ t') (b : S24) : u.filter (usedF b t' t') = u.filter (inP b (wrap64 (Int.tdiv t' b.f4))) := by
  refine List.filter_congr fun x hx => ?_
  have := (hg.use x hx).2.1
  unfold usedF inP kindM pd
  have h : decide (x.f4 ≤ t') = true := by simp; omega
  rw [h, Bool.true_and]
/-- **A document that is signed because there is room keeps within every budget.** -/
theorem never_step {l : List S24} (h : checkF l = 0) (hl : l.length ≤ 30) (hz : Zero l) {u : List S49} {t : Int} {n : Nat} (hg : Good u t n) (hw : Within l u) (ht0 : 0 ≤ t) (htn : t ≤ 65535 * n) (hn : n < 40) {a k v : Int} (ha : 0 ≤ a ∧ a ≤ 65535) (hk : 0 ≤ k ∧ k ≤ 15) (hv : 0 ≤ v ∧ v ≤ 255) :
    (roomF l u k v (t + a) (t + a)).2.2 = 0 ∧ (roomF l u k v (t + a) (t + a)).2.1 = decide ((roomF l u k v (t + a) (t + a)).1 = -1) ∧
    ((roomF l u k v (t + a) (t + a)).2.1 = true → Good (u ++ [⟨n, k, v, t + a, t + a⟩]) (t + a) (n + 1) ∧ Within l (u ++ [⟨n, k, v, t + a, t + a⟩])) ∧
    Good u (t + a) (n + 1) := by
  obtain ⟨_, hp, hr⟩ := check_ok h
  have hlen := hg.len
  have hk1 : betweenF 0 15 [k] = true := by rw [one_b]; unfold outB; simp; omega
  have hk3 : betweenF 0 1099511627775 [t + a, t + a] = true := by rw [two_b, one_b]; unfold outB; simp; omega
  have hR := room_is (l := l) (u := u) h (by omega) hg.uses hk1 (show 0 ≤ v ∧ v ≤ 1099511627776 by omega) hk3
  have hpos : ∀ b ∈ standingF l k (t + a) (t + a), 0 ≤ b.f0 := fun b hb => right_pos (hr b (List.mem_filter.1 hb).1)
  have hno := first_no hpos u v (t + a) (t + a)
  rw [hR]
  refine ⟨hno.1, hno.2, fun hok => ?_, ⟨fun x hx => ?_, hg.docs, by omega⟩⟩
  · have hfst := first_none hok
    refine ⟨⟨fun x hx => ?_, ?_, by simp; omega⟩, fun b hb hst p => ?_⟩
    · rcases List.mem_append.1 hx with hx | hx
      · have := hg.use x hx
        exact ⟨this.1, by omega, by have := this.2.2; omega⟩
      · obtain rfl : x = ⟨n, k, v, t + a, t + a⟩ := by simpa using hx
        refine ⟨?_, Int.le_refl _, by simp; omega⟩
        rw [use_b]
        unfold outB
        simp
        omega
    · rw [List.map_append]
      refine List.nodup_append.2 ⟨hg.docs, by simp, fun q hq q' hq' => ?_⟩
      obtain ⟨x, hx, rfl⟩ := List.mem_map.1 hq
      have := (hg.use x hx).2.2
      simp at hq'
      omega
    · have h0 := hw b hb hst p
      rw [cnt_snoc, tot_snoc]
      by_cases hin : inP b p ⟨n, k, v, t + a, t + a⟩ = true
      · rw [if_pos hin, if_pos hin]
        unfold inP at hin
        simp only [Bool.and_eq_true, decide_eq_true_eq] at hin
        obtain ⟨hkm, hpe⟩ := hin
        have hmem : b ∈ standingF l k (t + a) (t + a) := (stand_mem h hz (by omega)).2 ⟨hb, by unfold kindM at hkm; unfold kindB; exact hkm, hst⟩
        have ho := hfst b hmem
        unfold overF manyF sumF at ho
        rw [used_in hg (show t ≤ t + a by omega)] at ho
        rw [pd_new] at hpe
        rw [hpe] at ho
        simp only [Bool.or_eq_false_iff, decide_eq_false_iff_not] at ho
        unfold cnt tot
        refine ⟨by push_cast; omega, ?_⟩
        have := ho.2
        dsimp only
        omega
      · rw [if_neg hin, if_neg hin]
        simpa using h0
  · have := hg.use x hx
    exact ⟨this.1, by omega, by have := this.2.2; omega⟩
theorem good_nil (t : Int) (n : Nat) : Good [] t n := ⟨fun x hx => (by cases hx), by simp, by simp⟩
theorem within_nil {l : List S24} (h : checkF l = 0) : Within l [] := by
  obtain ⟨_, _, hr⟩ := check_ok h
  intro b hb _ p
  have := right_range (hr b hb)
  simp [cnt, tot]
  omega
/-- the law's two maps -/
def manyM (b : S24) (u : List S49) : List (Int × Int) := u.foldl (fun m x => if kindM b x = true then mput m (pd b x) ((mget m (pd b x)).getD 0 + 1) else m) []
def sumM (b : S24) (u : List S49) : List (Int × Int) := u.foldl (fun m x => if kindM b x = true then mput m (pd b x) ((mget m (pd b x)).getD 0 + x.f2) else m) []
theorem manyM_snoc (b : S24) (u : List S49) (x : S49) : manyM b (u ++ [x]) = if kindM b x = true then mput (manyM b u) (pd b x) ((mget (manyM b u) (pd b x)).getD 0 + 1) else manyM b u := by
  unfold manyM; rw [List.foldl_append]; rfl
theorem sumM_snoc (b : S24) (u : List S49) (x : S49) : sumM b (u ++ [x]) = if kindM b x = true then mput (sumM b u) (pd b x) ((mget (sumM b u) (pd b x)).getD 0 + x.f2) else sumM b u := by
  unfold sumM; rw [List.foldl_append]; rfl
theorem many_get (b : S24) (u : List S49) : ∀ p, (mget (manyM b u) p).getD 0 = (cnt b p u : Int) := by
  refine snoc_ind (p := fun u => ∀ p, (mget (manyM b u) p).getD 0 = (cnt b p u : Int)) (fun p => rfl) (fun u x ih p => ?_) u
  rw [manyM_snoc, cnt_snoc]
  unfold inP
  cases hk : kindM b x with
  | false => simp [ih]
  | true =>
    simp only [if_true, Bool.true_and, mget_put, decide_eq_true_eq]
    by_cases hp : pd b x = p
    · rw [if_pos hp, if_pos hp, ← hp, ih]; simp
    · rw [if_neg hp, if_neg hp, ih]; simp
theorem sum_get (b : S24) (u : List S49) : ∀ p, (mget (sumM b u) p).getD 0 = tot b p u := by
  refine snoc_ind (p := fun u => ∀ p, (mget (sumM b u) p).getD 0 = tot b p u) (fun p => rfl) (fun u x ih p => ?_) u
  rw [sumM_snoc, tot_snoc]
  unfold inP
  cases hk : kindM b x with
  | false => simp [ih]
  | true =>
    simp only [if_true, Bool.true_and, mget_put, decide_eq_true_eq]
    by_cases hp : pd b x = p
    · rw [if_pos hp, if_pos hp, ← hp, ih]; simp
    · rw [if_neg hp, if_neg hp, ih]; simp
theorem many_keys (b : S24) (u : List S49) : ((manyM b u).map (·.1)).Nodup := by
  refine snoc_ind (p := fun u => ((manyM b u).map (·.1)).Nodup) List.nodup_nil (fun u x ih => ?_) u
  rw [manyM_snoc]
  split
  · exact mput_keys _ _ _ ih
  · exact ih
theorem many_mem {b : S24} {u : List S49} {p n : Int} (h : (p, n) ∈ manyM b u) : n = (cnt b p u : Int) := by
  rw [← many_get, mem_mget (many_keys b u) h]; rfl
/-- within, as the law asks it -/
theorem within_map {l : List S24} (h : checkF l = 0) (hz : Zero l) {u : List S49} (hw : Within l u) {t kind : Int} (ht : 0 ≤ t) {b : S24} (hb : b ∈ standingF l kind t t) {p n : Int} (hm : (p, n) ∈ manyM b u) : n ≤ b.f5 ∧ (mget (sumM b u) p).getD 0 ≤ b.f6 := by
  obtain ⟨h1, _, h3⟩ := (stand_mem h hz ht).1 hb
  rw [many_mem hm, sum_get]
  exact hw b h1 h3 p
theorem cnt_le (b : S24) (p : Int) (u : List S49) : cnt b p u ≤ u.length := List.length_filter_le _ _
theorem tot_range {u : List S49} (hu : ∀ x ∈ u, 0 ≤ x.f2 ∧ x.f2 ≤ 1099511627776) (b : S24) (p : Int) : 0 ≤ tot b p u ∧ tot b p u ≤ 1099511627776 * (u.length : Int) := sum_range u hu
end Go.Proofs.Ytaemdkbfdpjimaa.V
