/-
Pure: the reference's Uses, over and Room come to the same plain functions as the program's. Condition: enough rounds.
The law BudgetsRoomSpec as plain functions: it is true.
-/
import Derived.Test.YtaemdkbfdpjimaaV2
import Derived.Test.YtaemdkbfdpjimaaP21
import Derived.Test.YtaemdkbfdpjimaaP22
import Derived.Test.YtaemdkbfdpjimaaP23
import Derived.Test.YtaemdkbfdpjimaaOp
namespace Go.Proofs.Ytaemdkbfdpjimaa.V
open Go.RowKit Go.Proofs.Ytaemdkbfdpjimaa.P Go.Proofs.Ytaemdkbfdpjimaa.S Go.Proofs.Ytaemdkbfdpjimaa.U
set_option linter.unusedVariables false
theorem rd_use (l : List S49) (i : Nat) (h : i < l.length) : rd_T49 l (i : Int) = l[i] := by
  simp [rd_T49, List.getD_eq_getElem?_getD, List.getElem?_eq_getElem h]
theorem uses_l1 (u : List S49) (hn : u.length ≤ 4294967296) (i : Nat) (hi : i < u.length) (F : Nat) (r : Bool) (H : ∀ k, F ≤ k → signatoryref18_Uses.l0 k u ((i + 1 : Nat) : Int) = some r) :
    ∀ (d k j : Nat), i - j = d → j ≤ i → d + F + 1 ≤ k → signatoryref18_Uses.l1 k u (i : Int) (j : Int) = some (!(((u.take i).drop j).any fun z => z.f0 == u[i].f0) && r) := by
  intro d
  induction d with
  | zero =>
    intro k j hd hj hk
    obtain ⟨k, rfl⟩ : ∃ m, k = m + 1 := ⟨k - 1, by omega⟩
    simp only [signatoryref18_Uses.l1]
    rw [if_neg (by omega), wrap_succ hi hn, H k (by omega), List.drop_of_length_le (by simp; omega)]
    simp
  | succ d ih =>
    intro k j hd hj hk
    obtain ⟨k, rfl⟩ : ∃ m, k = m + 1 := ⟨k - 1, by omega⟩
    have hji : j < i := by omega
    have hju : j < u.length := by omega
    have hjt : j < (u.take i).length := by rw [List.length_take]; omega
    simp only [signatoryref18_Uses.l1]
    rw [if_pos (by omega), if_pos (by omega), if_pos (by omega), if_pos (by omega), if_pos (by omega), rd_use u j hju, rd_use u i hi, wrap_succ hju hn, ih k (j + 1) (by omega) (by omega) (by omega), List.drop_eq_getElem_cons hjt, List.any_cons, List.getElem_take]
    by_cases h : u[j].f0 = u[i].f0
    · have hb : (u[j].f0 == u[i].f0) = true := by simpa using h
      rw [if_pos h, hb]; rfl
    · have hb : (u[j].f0 == u[i].f0) = false := by simpa using h
      rw [if_neg h, hb]; rfl
theorem use_b (x : S49) : useF x = (!outB 0 4095 x.f0 && (!outB 0 15 x.f1 && (!outB 0 1099511627776 x.f2 && (!outB 0 1099511627775 x.f3 && !outB 0 1099511627775 x.f4)))) := by
  unfold useF
  rw [two_b, one_b, one_b, one_b, one_b, one_b]
  cases outB 0 4095 x.f0 <;> cases outB 0 15 x.f1 <;> cases outB 0 1099511627776 x.f2 <;> cases outB 0 1099511627775 x.f3 <;> cases outB 0 1099511627775 x.f4 <;> rfl
theorem cont_any (met : List S49) (x : S49) : (met.any fun z => z.f0 == x.f0) = ((met.map (·.f0)).reverse).contains x.f0 := by
  rw [Bool.eq_iff_iff, List.any_eq_true, List.contains_iff_mem, List.mem_reverse, List.mem_map]
  constructor
  · rintro ⟨z, hz, h⟩; exact ⟨z, hz, by simpa using h⟩
  · rintro ⟨z, hz, h⟩; exact ⟨z, hz, by simpa using h⟩
theorem uses_l0 (u : List S49) (hn : u.length ≤ 4294967296) : ∀ (d i : Nat), u.length - i = d → i ≤ u.length → ∀ k, d * (u.length + 4) + 1 ≤ k →
    signatoryref18_Uses.l0 k u (i : Int) = some (usesF (((u.take i).map (·.f0)).reverse) (u.drop i)) := by
  intro d
  induction d with
  | zero =>
    intro i hd hi k hk
    obtain ⟨k, rfl⟩ : ∃ m, k = m + 1 := ⟨k - 1, by omega⟩
    simp only [signatoryref18_Uses.l0]
    rw [if_neg (by omega), List.drop_of_length_le (by omega)]
    rfl
  | succ d ih =>
    intro i hd hi k hk
    have hk' : d * (u.length + 4) + 1 + (u.length + 4) ≤ k := by rw [Nat.succ_mul] at hk; omega
    obtain ⟨k, rfl⟩ : ∃ m, k = m + 1 + 1 := ⟨k - 2, by omega⟩
    have hlt : i < u.length := by omega
    have h1 := uses_l1 u hn i hlt (d * (u.length + 4) + 1) _ (ih (i + 1) (by omega) (by omega)) i k 0 (by omega) (by omega) (by omega)
    rw [List.drop_zero, cont_any] at h1
    have hj : ∀ b : Bool, signatoryref18_Uses.j1 (k + 1) u (i : Int) b = some (!b && (!(((u.take i).map (·.f0)).reverse).contains u[i].f0 && usesF (((u.take (i + 1)).map (·.f0)).reverse) (u.drop (i + 1)))) := by
      intro b
      simp only [signatoryref18_Uses.j1]
      cases b with
      | true => simp
      | false => simpa using h1
    have hts : ((u.take (i + 1)).map (·.f0)).reverse = u[i].f0 :: ((u.take i).map (·.f0)).reverse := by
      rw [List.take_succ_eq_append_getElem hlt, List.map_append, List.reverse_append]; rfl
    simp only [signatoryref18_Uses.l0]
    rw [if_pos (by omega), if_pos (by omega), rd_use u i hlt, List.drop_eq_getElem_cons hlt]
    simp only [within_r, kind_r, moment_r, Option.bind_some, hj, usesF, use_b, hts]
    generalize (((u.take i).map (·.f0)).reverse).contains u[i].f0 = c0
    generalize usesF (u[i].f0 :: ((u.take i).map (·.f0)).reverse) (u.drop (i + 1)) = c1
    cases outB 0 4095 u[i].f0 <;> cases outB 0 15 u[i].f1 <;> cases outB 0 1099511627776 u[i].f2 <;> cases outB 0 1099511627775 u[i].f3 <;> cases outB 0 1099511627775 u[i].f4 <;> cases c0 <;> simp
theorem uses_r (u : List S49) (hn : u.length ≤ 4294967296) (k : Nat) (hk : u.length * (u.length + 4) + 1 ≤ k) : signatoryref18_Uses.f k u = some (usesF [] u) := by
  unfold signatoryref18_Uses.f
  have := uses_l0 u hn u.length 0 (by omega) (by omega) k hk
  simpa using this
theorem uses_val : ∀ (u : List S49) (met : List Int), usesF met u = true → ∀ x ∈ u, useF x = true
  | [], _, _ => fun x hx => by cases hx
  | y :: u, met, h => by
    simp only [usesF, Bool.and_eq_true] at h
    intro x hx
    rcases List.mem_cons.1 hx with rfl | hx
    · exact h.1.2
    · exact uses_val u _ h.2 x hx
theorem use_range {x : S49} (h : useF x = true) : 0 ≤ x.f2 ∧ x.f2 ≤ 1099511627776 ∧ 0 ≤ x.f3 ∧ x.f3 ≤ 1099511627775 ∧ 0 ≤ x.f4 ∧ x.f4 ≤ 1099511627775 := by
  rw [use_b] at h
  unfold outB at h
  simp at h
  omega
theorem right_range {x : S24} (h : rightF x = true) : 1 ≤ x.f4 ∧ 0 ≤ x.f1 ∧ x.f1 ≤ 1099511627775 ∧ 0 ≤ x.f5 ∧ 0 ≤ x.f6 := by
  unfold rightF betweenF outB at h
  simp at h
  omega
theorem sum_range {p : S49 → Bool} : ∀ (u : List S49), (∀ x ∈ u, 0 ≤ x.f2 ∧ x.f2 ≤ 1099511627776) → 0 ≤ ((u.filter p).map (·.f2)).sum ∧ ((u.filter p).map (·.f2)).sum ≤ 1099511627776 * (u.length : Int)
  | [], _ => by simp
  | x :: u, h => by
    have h1 := sum_range (p := p) u (fun y hy => h y (by simp [hy]))
    have h2 := h x (by simp)
    rw [List.filter_cons]
    split
    · simp only [List.map_cons, List.sum_cons, List.length_cons]; omega
    · simp only [List.length_cons]; omega
theorem over_l0 (u : List S49) (hn : u.length ≤ 4096) (hu : ∀ x ∈ u, 0 ≤ x.f2 ∧ x.f2 ≤ 1099511627776) (b : S24) (hb : 1 ≤ b.f4) (value at_ known : Int) (hv : 0 ≤ value ∧ value ≤ 1099511627776) :
    ∀ (d k i : Nat), u.length - i = d → i ≤ u.length → d < k →
      signatoryref18_over.l0 k u at_ known ((((u.take i).filter (usedF b at_ known)).length : Nat) : Int) (value + (((u.take i).filter (usedF b at_ known)).map (·.f2)).sum) (i : Int) b.f0 b.f1 b.f2 b.f3 b.f4 b.f5 b.f6 b.f7 = some (overF b u value at_ known) := by
  intro d
  induction d with
  | zero =>
    intro k i hd hi hk
    obtain ⟨k, rfl⟩ : ∃ m, k = m + 1 := ⟨k - 1, by omega⟩
    simp only [signatoryref18_over.l0]
    rw [if_neg (by omega), List.take_of_length_le (by omega)]
    unfold overF manyF sumF
    by_cases h : (((u.filter (usedF b at_ known)).length : Nat) : Int) ≥ b.f5
    · rw [if_pos h]
      have : b.f5 < 1 + ((u.filter (usedF b at_ known)).length : Int) := by omega
      simp [this]
    · rw [if_neg h]
      have : ¬ b.f5 < 1 + ((u.filter (usedF b at_ known)).length : Int) := by omega
      simp [this]
  | succ d ih =>
    intro k i hd hi hk
    obtain ⟨k, rfl⟩ : ∃ m, k = m + 1 := ⟨k - 1, by omega⟩
    have hlt : i < u.length := by omega
    have hih := ih k (i + 1) (by omega) (by omega) (by omega)
    rw [take_snoc _ u i hlt] at hih
    have hlen : ((u.take i).filter (usedF b at_ known)).length ≤ 4096 := Nat.le_trans (List.length_filter_le _ _) (by rw [List.length_take]; omega)
    have hsum := sum_range (p := usedF b at_ known) (u.take i) (fun x hx => hu x (List.mem_of_mem_take hx))
    have htl : ((u.take i).length : Int) ≤ 4096 := by rw [List.length_take]; omega
    have hx := hu u[i] (List.getElem_mem hlt)
    simp only [signatoryref18_over.l0]
    rw [if_pos (by omega), if_pos (by omega), rd_use u i hlt, wrap_succ hlt (by omega)]
    by_cases hp : usedF b at_ known u[i] = true
    · rw [if_pos hp, List.length_append, List.map_append, List.sum_append] at hih
      simp only [List.length_cons, List.length_nil, List.map_cons, List.map_nil, List.sum_cons, List.sum_nil] at hih
      have e1 : wrap64 ((((u.take i).filter (usedF b at_ known)).length : Int) + 1) = ((((u.take i).filter (usedF b at_ known)).length + (0 + 1) : Nat) : Int) := by unfold wrap64; omega
      have e2 : wrap64 (value + (((u.take i).filter (usedF b at_ known)).map (·.f2)).sum + u[i].f2) = value + ((((u.take i).filter (usedF b at_ known)).map (·.f2)).sum + (u[i].f2 + 0)) := by unfold wrap64; omega
      rw [e1, e2, hih]
      have hp2 := hp
      unfold usedF at hp2
      simp only [Bool.and_eq_true, Bool.or_eq_true, decide_eq_true_eq] at hp2
      obtain ⟨⟨h1, h2⟩, h3⟩ := hp2
      rw [if_pos h1]
      by_cases h4 : b.f3 = -1
      · rw [if_pos h4, if_neg (by omega), if_pos h3]
      · rw [if_neg h4, if_pos (h2.resolve_left h4), if_neg (by omega), if_pos h3]
    · rw [if_neg hp, List.append_nil] at hih
      rw [hih]
      by_cases h1 : u[i].f4 ≤ known
      · rw [if_pos h1]
        by_cases h4 : b.f3 = -1
        · rw [if_pos h4, if_neg (by omega), if_neg (fun h3 => hp (by simp [usedF, h1, h4, h3]))]
        · rw [if_neg h4]
          by_cases h2 : b.f3 = u[i].f1
          · rw [if_pos h2, if_neg (by omega), if_neg (fun h3 => hp (by simp [usedF, h1, h2, h3]))]
          · rw [if_neg h2]
      · rw [if_neg h1]
theorem over_r (u : List S49) (hn : u.length ≤ 4096) (hu : ∀ x ∈ u, 0 ≤ x.f2 ∧ x.f2 ≤ 1099511627776) (b : S24) (hb : 1 ≤ b.f4) (value at_ known : Int) (hv : 0 ≤ value ∧ value ≤ 1099511627776) (k : Nat) (hk : u.length < k) :
    signatoryref18_over.f k b.f0 b.f1 b.f2 b.f3 b.f4 b.f5 b.f6 b.f7 u value at_ known = some (overF b u value at_ known) := by
  unfold signatoryref18_over.f
  have := over_l0 u hn hu b hb value at_ known hv u.length k 0 (by omega) (by omega) hk
  simpa using this
theorem room_l0 (u : List S49) (hn : u.length ≤ 4096) (hu : ∀ x ∈ u, 0 ≤ x.f2 ∧ x.f2 ≤ 1099511627776) (value at_ known : Int) (hv : 0 ≤ value ∧ value ≤ 1099511627776) (s : List S24) (hsn : s.length ≤ 4096) (hs : ∀ b ∈ s, 1 ≤ b.f4) :
    ∀ (d k i : Nat), s.length - i = d → i ≤ s.length → d + u.length + 1 < k → signatoryref18_Room.l0 k u value at_ known s (i : Int) = some (firstF (s.drop i) u value at_ known) := by
  intro d
  induction d with
  | zero =>
    intro k i hd hi hk
    obtain ⟨k, rfl⟩ : ∃ m, k = m + 1 := ⟨k - 1, by omega⟩
    simp only [signatoryref18_Room.l0]
    rw [if_neg (by omega), List.drop_of_length_le (by omega)]
    rfl
  | succ d ih =>
    intro k i hd hi hk
    obtain ⟨k, rfl⟩ : ∃ m, k = m + 1 := ⟨k - 1, by omega⟩
    have hlt : i < s.length := by omega
    simp only [signatoryref18_Room.l0]
    rw [if_pos (by omega), if_pos (by omega), rd_nat s i hlt, wrap_succ hlt (by omega), over_r u hn hu s[i] (hs _ (List.getElem_mem hlt)) value at_ known hv k (by omega), ih k (i + 1) (by omega) (by omega) (by omega), List.drop_eq_getElem_cons hlt]
    simp only [Option.bind_some]
    unfold firstF
    rw [List.find?_cons]
    cases overF s[i] u value at_ known <;> simp
theorem room_r (l : List S24) (u : List S49) (kind value at_ known : Int) (k : Nat) (hk : u.length * (u.length + 4) + l.length + l.length + u.length + 10 < k) : signatoryref18_Room.f k l u kind value at_ known = some (roomF l u kind value at_ known) := by
  unfold signatoryref18_Room.f roomF
  rw [check_r l k (by omega)]
  simp only [Option.bind_some]
  by_cases h0 : checkF l = 0
  · obtain ⟨hn, hp, hr⟩ := check_ok h0
    rw [if_pos h0, if_neg (show ¬ checkF l ≠ 0 by simp [h0])]
    by_cases hu : 4096 < u.length
    · rw [if_pos (by omega), if_pos hu]
    · rw [if_neg (by omega), if_neg hu, uses_r u (by omega) k (by omega)]
      simp only [Option.bind_some, kind_r, within_r, moment_r, two_b, one_b]
      cases hus : usesF [] u with
      | false => simp
      | true =>
        obtain ⟨k, rfl⟩ : ∃ m, k = m + 1 := ⟨k - 1, by omega⟩
        simp only [if_true, signatoryref18_Room.j0]
        by_cases hall : outB 0 15 kind = false ∧ outB 0 1099511627776 value = false ∧ outB 0 1099511627775 at_ = false ∧ outB 0 1099511627775 known = false
        · obtain ⟨w1, w2, w3, w4⟩ := hall
          have hv : 0 ≤ value ∧ value ≤ 1099511627776 := by unfold outB at w2; simp at w2; omega
          have hsl := stand_len l kind at_ known
          have hs : ∀ b ∈ standingF l kind at_ known, 1 ≤ b.f4 := fun b hb => (right_range (hr b (List.mem_filter.1 hb).1)).1
          have h1 := room_l0 u (by omega) (fun x hx => ⟨(use_range (uses_val u [] hus x hx)).1, (use_range (uses_val u [] hus x hx)).2.1⟩) value at_ known hv (standingF l kind at_ known) (by omega) hs (standingF l kind at_ known).length k 0 (by omega) (by omega) (by omega)
          rw [standing_r1 l h0 kind at_ known k (by omega)]
          simp only [w1, w2, w3, w4, Option.bind_some, Bool.not_false, if_true, Bool.not_true, Bool.false_eq_true, if_false, Bool.and_self, or_self]
          simpa using h1
        · revert hall
          cases outB 0 15 kind <;> cases outB 0 1099511627776 value <;> cases outB 0 1099511627775 at_ <;> cases outB 0 1099511627775 known <;> simp
  · rw [if_neg h0, if_pos h0]
end Go.Proofs.Ytaemdkbfdpjimaa.V

namespace Go.Proofs.Ytaemdkbfdpjimaa.T
open Go.RowKit Go.Proofs.Ytaemdkbfdpjimaa.P Go.Proofs.Ytaemdkbfdpjimaa.W Go.Proofs.Ytaemdkbfdpjimaa.S Go.Proofs.Ytaemdkbfdpjimaa.U Go.Proofs.Ytaemdkbfdpjimaa.V
set_option linter.unusedVariables false
theorem few_le {l : List S24} (hb : signatoryref18_Few.f l = some true) : l.length ≤ 4100 := by
  unfold signatoryref18_Few.f at hb
  split at hb
  · omega
  · split at hb
    · simp at hb; omega
    · simp at hb
theorem few_any (l : List S24) : ∃ b, signatoryref18_Few.f l = some b := by
  unfold signatoryref18_Few.f
  repeat' split
  all_goals exact ⟨_, rfl⟩
theorem fewu_any (u : List S49) : ∃ b, signatoryref18_FewUses.f u = some b := by
  unfold signatoryref18_FewUses.f
  repeat' split
  all_goals exact ⟨_, rfl⟩
theorem BudgetsRoomSpec (l : List S24) (u : List S49) (kind value at_ known : Int) (hl : ∀ y ∈ l, WF24 y) (hlu : ∀ y ∈ u, WF49 y) (h1 : (Lit.int .i64 kind).wf = true) (h2 : (Lit.int .i64 value).wf = true) (h3 : (Lit.int .i64 at_).wf = true) (h4 : (Lit.int .i64 known).wf = true) :
    ∃ k, signatorylaw18_BudgetsRoomSpec.f k l u kind value at_ known = some true := by
  refine ⟨u.length * (u.length + 4) + l.length + l.length + u.length + 20, ?_⟩
  unfold signatorylaw18_BudgetsRoomSpec.f
  obtain ⟨b, hb⟩ := few_any l
  obtain ⟨c, hc⟩ := fewu_any u
  have hs : signatorylaw18_sane.f = some true := rfl
  obtain ⟨k, hk⟩ : ∃ k, u.length * (u.length + 4) + l.length + l.length + u.length + 20 = k + 1 := ⟨_, rfl⟩
  rw [hs, hb, hc, hk]
  have hT : signatorylaw18_BudgetsRoomSpec.j0 (k + 1) l u kind value at_ known true = some true := by simp only [signatorylaw18_BudgetsRoomSpec.j0, if_true]
  have hF : l.length ≤ 4100 → signatorylaw18_BudgetsRoomSpec.j0 (k + 1) l u kind value at_ known false = some true := by
    intro hlen
    have hr : budgets_Room.f l u kind value at_ known = some (roomF l u kind value at_ known) := rfl
    have hsl := standF_len l kind at_ known
    simp only [signatorylaw18_BudgetsRoomSpec.j0, Bool.false_eq_true, if_false]
    rw [standing_p l kind at_ known k (by omega), standing_r l kind at_ known k (by omega), hr, room_r l u kind value at_ known k (by omega)]
    simp only [Option.bind_some]
    rw [same_r _ (by omega) _ (by omega)]
    simp
  have hJ : ∀ x : Bool, (x = false → l.length ≤ 4100) → signatorylaw18_BudgetsRoomSpec.j0 (k + 1) l u kind value at_ known x = some true := by
    intro x hx
    cases x with
    | true => exact hT
    | false => exact hF (hx rfl)
  simp only [Option.bind_some, if_true]
  have hcb : b = true → l.length ≤ 4100 := fun e => few_le (e ▸ hb)
  by_cases h30 : (l.length : Int) > 30
  · rw [if_pos h30]
    by_cases h40 : (l.length : Int) ≤ 4096
    · rw [if_pos h40]; exact hT
    · rw [if_neg h40]
      cases b with
      | true => rw [if_pos rfl]; exact hJ _ (fun _ => hcb rfl)
      | false => rw [if_neg (by simp)]; exact hT
  · rw [if_neg h30]
    cases b with
    | true => rw [if_pos rfl]; exact hJ _ (fun _ => hcb rfl)
    | false => rw [if_neg (by simp)]; exact hT
end Go.Proofs.Ytaemdkbfdpjimaa.T
