/-
Pure: which entries stand: the last one about a subject, said once by a fold and once by comparing. No condition but that the list is in order.
-/
import Derived.Test.YtaemdkbfdpjimaaS
namespace Go.Proofs.Ytaemdkbfdpjimaa.V
open Go.RowKit Go.Proofs.Ytaemdkbfdpjimaa.P Go.Proofs.Ytaemdkbfdpjimaa.S
set_option linter.unusedVariables false
def afterB (z y : S24) : Bool := decide (y.f1 < z.f1) || (decide (z.f1 = y.f1) && decide (y.f0 < z.f0))
def knownB (at_ known : Int) (z : S24) : Bool := decide (z.f1 ≤ at_) && decide (z.f2 ≤ known)
def standsB (l : List S24) (at_ known : Int) (y : S24) : Bool := !y.f7 && knownB at_ known y && !(l.any fun z => sameSubj z y && knownB at_ known z && afterB z y)
def kindB (kind : Int) (y : S24) : Bool := decide (y.f3 = -1) || decide (y.f3 = kind)
def refStanding (l : List S24) (kind at_ known : Int) : List S24 := l.filter fun y => kindB kind y && standsB l at_ known y
/-- the order of words -/
def Aft (u v : S24) : Prop := v.f1 < u.f1 ∨ (v.f1 = u.f1 ∧ v.f0 < u.f0)
theorem aft_b (u v : S24) : afterB u v = true ↔ Aft u v := by
  unfold afterB Aft
  simp
  omega
theorem aft_trans {a b c : S24} (h : Aft a b) (h' : Aft b c) : Aft a c := by unfold Aft at *; omega
theorem mem_skip {u z x : S24} {c : List S24} (h : u ∈ z :: c) : u ∈ z :: x :: c := by
  rcases List.mem_cons.1 h with h | h
  · simp [h]
  · simp [h]
theorem last_some_of (y : S24) : ∀ (c : List S24) (z : S24), (z :: c).Pairwise (fun a b => a.f0 < b.f0) → sameSubj z y = true →
    ∃ u, lastF y (some z) c = some u ∧ u ∈ z :: c ∧ sameSubj u y = true ∧ ∀ v ∈ z :: c, sameSubj v y = true → v = u ∨ Aft u v
  | [], z, _, hz => ⟨z, rfl, by simp, hz, fun v hv _ => by simp at hv; exact .inl hv⟩
  | x :: c, z, hp, hz => by
    obtain ⟨h1, h2⟩ := List.pairwise_cons.1 hp
    have hzx := h1 x (by simp)
    have hpz : (z :: c).Pairwise (fun a b => a.f0 < b.f0) := List.pairwise_cons.2 ⟨fun v hv => h1 v (by simp [hv]), (List.pairwise_cons.1 h2).2⟩
    unfold lastF
    by_cases hx : sameSubj x y = true
    · rw [if_pos hx]
      dsimp only
      by_cases hle : z.f1 ≤ x.f1
      · rw [if_pos hle]
        obtain ⟨u, e, hu, hs, ha⟩ := last_some_of y c x h2 hx
        refine ⟨u, e, List.mem_cons_of_mem _ hu, hs, fun v hv hsv => ?_⟩
        rcases List.mem_cons.1 hv with rfl | hv
        · have hxz : Aft x v := by unfold Aft; omega
          rcases ha x (by simp) hx with rfl | h
          · exact .inr hxz
          · exact .inr (aft_trans h hxz)
        · exact ha v hv hsv
      · rw [if_neg hle]
        obtain ⟨u, e, hu, hs, ha⟩ := last_some_of y c z hpz hz
        refine ⟨u, e, mem_skip hu, hs, fun v hv hsv => ?_⟩
        rcases List.mem_cons.1 hv with rfl | hv
        · exact ha v (by simp) hsv
        · rcases List.mem_cons.1 hv with rfl | hv
          · have hzv : Aft z v := by unfold Aft; omega
            rcases ha z (by simp) hz with rfl | h
            · exact .inr hzv
            · exact .inr (aft_trans h hzv)
          · exact ha v (by simp [hv]) hsv
    · rw [if_neg hx]
      obtain ⟨u, e, hu, hs, ha⟩ := last_some_of y c z hpz hz
      refine ⟨u, e, mem_skip hu, hs, fun v hv hsv => ?_⟩
      rcases List.mem_cons.1 hv with rfl | hv
      · exact ha v (by simp) hsv
      · rcases List.mem_cons.1 hv with rfl | hv
        · exact absurd hsv hx
        · exact ha v (by simp [hv]) hsv
theorem last_none_of (y : S24) : ∀ (c : List S24), c.Pairwise (fun a b => a.f0 < b.f0) → (∃ v ∈ c, sameSubj v y = true) →
    ∃ u, lastF y none c = some u ∧ u ∈ c ∧ sameSubj u y = true ∧ ∀ v ∈ c, sameSubj v y = true → v = u ∨ Aft u v
  | [], _, h => by obtain ⟨v, hv, _⟩ := h; cases hv
  | x :: c, hp, h => by
    unfold lastF
    by_cases hx : sameSubj x y = true
    · rw [if_pos hx]
      exact last_some_of y c x hp hx
    · rw [if_neg hx]
      obtain ⟨v, hv, hs⟩ := h
      rcases List.mem_cons.1 hv with rfl | hv
      · exact absurd hs hx
      · obtain ⟨u, e, hu, hsu, ha⟩ := last_none_of y c (List.pairwise_cons.1 hp).2 ⟨v, hv, hs⟩
        refine ⟨u, e, by simp [hu], hsu, fun w hw hsw => ?_⟩
        rcases List.mem_cons.1 hw with rfl | hw
        · exact absurd hsw hx
        · exact ha w hw hsw
theorem last_iff {c : List S24} (hp : c.Pairwise (fun a b => a.f0 < b.f0)) {y : S24} (hy : y ∈ c) : lastF y none c = some y ↔ ∀ z ∈ c, sameSubj z y = true → ¬ Aft z y := by
  obtain ⟨u, e, hu, hs, ha⟩ := last_none_of y c hp ⟨y, hy, by simp [sameSubj]⟩
  rw [e]
  constructor
  · intro h z hz hsz hzy
    obtain rfl : u = y := by simpa using h
    rcases ha z hz hsz with rfl | h2
    · unfold Aft at hzy; omega
    · unfold Aft at hzy h2; omega
  · intro h
    rcases ha y hy (by simp [sameSubj]) with rfl | h2
    · rfl
    · exact absurd h2 (h u hu hs)
theorem last_mem (y : S24) : ∀ (c : List S24) (o : Option S24) (u : S24), lastF y o c = some u → u ∈ c ∨ o = some u
  | [], o, u, h => .inr h
  | x :: c, o, u, h => by
    unfold lastF at h
    rcases last_mem y c _ u h with h1 | h1
    · exact .inl (List.mem_cons_of_mem _ h1)
    · by_cases hx : sameSubj x y = true
      · rw [if_pos hx] at h1
        cases o with
        | none => simp at h1; exact .inl (by simp [h1])
        | some z =>
          dsimp only at h1
          by_cases hle : z.f1 ≤ x.f1
          · rw [if_pos hle] at h1; simp at h1; exact .inl (by simp [h1])
          · rw [if_neg hle] at h1; exact .inr h1
      · rw [if_neg hx] at h1; exact .inr h1
theorem counts_eq (kind at_ known : Int) (y : S24) : countsF kind at_ known y = (knownB at_ known y && kindB kind y) := rfl
theorem stands_f {l : List S24} (hp : l.Pairwise (fun a b => a.f0 < b.f0)) (kind at_ known : Int) {y : S24} (hy : y ∈ l) (hz : y ≠ z24) : standsF (l.filter (countsF kind at_ known)) y = (kindB kind y && standsB l at_ known y) := by
  have hpc : (l.filter (countsF kind at_ known)).Pairwise (fun a b => a.f0 < b.f0) := hp.sublist List.filter_sublist
  unfold standsF
  by_cases hcy : countsF kind at_ known y = true
  · have hyc : y ∈ l.filter (countsF kind at_ known) := List.mem_filter.2 ⟨hy, hcy⟩
    have h1 := last_iff hpc hyc
    have hkk : knownB at_ known y = true ∧ kindB kind y = true := by rw [counts_eq] at hcy; simpa using hcy
    have h2 : decide ((lastF y none (l.filter (countsF kind at_ known))).getD z24 = y) = !(l.any fun z => sameSubj z y && knownB at_ known z && afterB z y) := by
      rw [Bool.eq_iff_iff, decide_eq_true_eq, Bool.not_eq_true', List.any_eq_false]
      constructor
      · intro h z hzl hzz
        simp only [Bool.and_eq_true] at hzz
        obtain ⟨⟨hs, hk⟩, ha⟩ := hzz
        have hl : lastF y none (l.filter (countsF kind at_ known)) = some y := by
          cases ho : lastF y none (l.filter (countsF kind at_ known)) with
          | none => rw [ho] at h; exact absurd h.symm hz
          | some u => rw [ho] at h; simpa using h
        refine h1.1 hl z (List.mem_filter.2 ⟨hzl, ?_⟩) hs ((aft_b _ _).1 ha)
        rw [counts_eq, hk, Bool.true_and]
        have := hkk.2
        unfold kindB at this ⊢
        unfold sameSubj at hs
        simp at this hs ⊢
        omega
      · intro h
        have hl := h1.2 fun z hzc hs hA => by
          obtain ⟨hzl, hzk⟩ := List.mem_filter.1 hzc
          refine h z hzl ?_
          rw [counts_eq] at hzk
          simp only [Bool.and_eq_true] at hzk ⊢
          exact ⟨⟨hs, hzk.1⟩, (aft_b _ _).2 hA⟩
        rw [hl]; rfl
    rw [h2]
    unfold standsB
    rw [hkk.1, hkk.2]
    simp
  · have hf : decide ((lastF y none (l.filter (countsF kind at_ known))).getD z24 = y) = false := by
      rw [decide_eq_false_iff_not]
      intro h
      cases ho : lastF y none (l.filter (countsF kind at_ known)) with
      | none => rw [ho] at h; exact hz h.symm
      | some u =>
        rw [ho] at h
        obtain rfl : u = y := by simpa using h
        rcases last_mem _ _ _ _ ho with h3 | h3
        · exact hcy (List.mem_filter.1 h3).2
        · cases h3
    rw [hf]
    have : (knownB at_ known y && kindB kind y) = false := by rw [← counts_eq]; simpa using hcy
    unfold standsB
    cases hk : knownB at_ known y <;> cases hd : kindB kind y <;> simp_all
theorem right_ne {y : S24} (h : rightF y = true) : y ≠ z24 := by
  rintro rfl
  revert h
  decide
theorem standing_eq {l : List S24} (hp : l.Pairwise (fun a b => a.f0 < b.f0)) (hr : ∀ y ∈ l, rightF y = true) (kind at_ known : Int) : standingF l kind at_ known = refStanding l kind at_ known := by
  unfold standingF refStanding
  exact List.filter_congr fun y hy => stands_f hp kind at_ known hy (right_ne (hr y hy))
end Go.Proofs.Ytaemdkbfdpjimaa.V
