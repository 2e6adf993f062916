/-
Pure: which entries stand: the last one about a subject, said once by a fold and once by comparing. No condition but that the list is in order.
-/
import Derived.Test.YtcpheagandpacaaS
import Derived.Test.YtcpheagandpacaaWc
namespace Go.Proofs.Ytcpheagandpacaa.V
open Go.RowKit Go.Proofs.Ytcpheagandpacaa.P Go.Proofs.Ytcpheagandpacaa.S
set_option linter.unusedVariables false
def afterB (z y : S24) : Bool := decide (y.f1 < z.f1) || (decide (z.f1 = y.f1) && decide (y.f0 < z.f0))
def knownB (at_ known : Int) (z : S24) : Bool := decide (z.f1 ≤ at_) && decide (z.f2 ≤ known)
def standsB (l : List S24) (at_ known : Int) (y : S24) : Bool := !y.f7 && knownB at_ known y && !(l.any fun z => knownB at_ known z && sameSubj z y && afterB z y)
def refStanding (l : List S24) (doc at_ known : Int) : List S24 := l.filter fun y => decide (y.f3 = doc) && standsB l at_ known y
/-- the order of words -/
def Aft (u v : S24) : Prop := v.f1 < u.f1 ∨ (v.f1 = u.f1 ∧ v.f0 < u.f0)
theorem aft_b (u v : S24) : afterB u v = true ↔ Aft u v := by
  unfold afterB Aft
  simp
  omega
theorem aft_trans {a b c : S24} (h : Aft a b) (h' : Aft b c) : Aft a c := by unfold Aft at *; omega
theorem mem_skip {u z x : S24} {c : List S24} (h : u ∈ z :: c) : u ∈ z :: x :: c := by
  rcases List.mem_cons.1 h with h | h
  · simp [h]
  · simp [h]
theorem last_some_of (y : S24) : ∀ (c : List S24) (z : S24), (z :: c).Pairwise (fun a b => a.f0 < b.f0) → sameSubj z y = true →
    ∃ u, lastF y (some z) c = some u ∧ u ∈ z :: c ∧ sameSubj u y = true ∧ ∀ v ∈ z :: c, sameSubj v y = true → v = u ∨ Aft u v
  | [], z, _, hz => ⟨z, rfl, by simp, hz, fun v hv _ => by simp at hv; exact .inl hv⟩
  | x :: c, z, hp, hz => by
    obtain ⟨h1, h2⟩ := List.pairwise_cons.1 hp
    have hzx := h1 x (by simp)
    have hpz : (z :: c).Pairwise (fun a b => a.f0 < b.f0) := List.pairwise_cons.2 ⟨fun v hv => h1 v (by simp [hv]), (List.pairwise_cons.1 h2).2⟩
    unfold lastF
    by_cases hx : sameSubj x y = true
    · rw [if_pos hx]
      dsimp only
      by_cases hle : z.f1 ≤ x.f1
      · rw [if_pos hle]
        obtain ⟨u, e, hu, hs, ha⟩ := last_some_of y c x h2 hx
        refine ⟨u, e, List.mem_cons_of_mem _ hu, hs, fun v hv hsv => ?_⟩
        rcases List.mem_cons.1 hv with rfl | hv
        · have hxz : Aft x v := by unfold Aft; omega
          rcases ha x (by simp) hx with rfl | h
          · exact .inr hxz
          · exact .inr (aft_trans h hxz)
        · exact ha v hv hsv
      · rw [if_neg hle]
        obtain ⟨u, e, hu, hs, ha⟩ := last_some_of y c z hpz hz
        refine ⟨u, e, mem_skip hu, hs, fun v hv hsv => ?_⟩
        rcases List.mem_cons.1 hv with rfl | hv
        · exact ha v (by simp) hsv
        · rcases List.mem_cons.1 hv with rfl | hv
          · have hzv : Aft z v := by unfold Aft; omega
            rcases ha z (by simp) hz with rfl | h
            · exact .inr hzv
            · exact .inr (aft_trans h hzv)
          · exact ha v (by simp [hv]) hsv
    · rw [if_neg hx]
      obtain ⟨u, e, hu, hs, ha⟩ := last_some_of y c z hpz hz
      refine ⟨u, e, mem_skip hu, hs, fun v hv hsv => ?_⟩
      rcases List.mem_cons.1 hv with rfl | hv
      · exact ha v (by simp) hsv
      · rcases List.mem_cons.1 hv with rfl | hv
        · exact absurd hsv hx
        · exact ha v (by simp [hv]) hsv
theorem last_none_of (y : S24) : ∀ (c : List S24), c.Pairwise (fun a b => a.f0 < b.f0) → (∃ v ∈ c, sameSubj v y = true) →
    ∃ u, lastF y none c = some u ∧ u ∈ c ∧ sameSubj u y = true ∧ ∀ v ∈ c, sameSubj v y = true → v = u ∨ Aft u v
  | [], _, h => by obtain ⟨v, hv, _⟩ := h; cases hv
  | x :: c, hp, h => by
    unfold lastF
    by_cases hx : sameSubj x y = true
    · rw [if_pos hx]
      exact last_some_of y c x hp hx
    · rw [if_neg hx]
      obtain ⟨v, hv, hs⟩ := h
      rcases List.mem_cons.1 hv with rfl | hv
      · exact absurd hs hx
      · obtain ⟨u, e, hu, hsu, ha⟩ := last_none_of y c (List.pairwise_cons.1 hp).2 ⟨v, hv, hs⟩
        refine ⟨u, e, by simp [hu], hsu, fun w hw hsw => ?_⟩
        rcases List.mem_cons.1 hw with rfl | hw
        · exact absurd hsw hx
        · exact ha w hw hsw
theorem last_iff {c : List S24} (hp : c.Pairwise (fun a b => a.f0 < b.f0)) {y : S24} (hy : y ∈ c) : lastF y none c = some y ↔ ∀ z ∈ c, sameSubj z y = true → ¬ Aft z y := by
  obtain ⟨u, e, hu, hs, ha⟩ := last_none_of y c hp ⟨y, hy, by simp [sameSubj]⟩
  rw [e]
  constructor
  · intro h z hz hsz hzy
    obtain rfl : u = y := by simpa using h
    rcases ha z hz hsz with rfl | h2
    · unfold Aft at hzy; omega
    · unfold Aft at hzy h2; omega
  · intro h
    rcases ha y hy (by simp [sameSubj]) with rfl | h2
    · rfl
    · exact absurd h2 (h u hu hs)
theorem standing_eq {l : List S24} (hp : l.Pairwise (fun a b => a.f0 < b.f0)) (doc at_ known : Int) : standingF l doc at_ known = refStanding l doc at_ known := by
  unfold standingF refStanding
  rw [List.filter_filter]
  refine List.filter_congr fun y hy => ?_
  have hc : countsF doc at_ known y = (decide (y.f3 = doc) && knownB at_ known y) := by unfold countsF knownB; rw [Bool.and_assoc]
  by_cases hcy : countsF doc at_ known y = true
  · have hyc : y ∈ l.filter (countsF doc at_ known) := List.mem_filter.2 ⟨hy, hcy⟩
    have h1 := last_iff (hp.sublist List.filter_sublist) hyc
    have hk : y.f3 = doc ∧ knownB at_ known y = true := by rw [hc] at hcy; simpa using hcy
    have h2 : (∀ z ∈ l.filter (countsF doc at_ known), sameSubj z y = true → ¬ Aft z y) ↔ (l.any fun z => knownB at_ known z && sameSubj z y && afterB z y) = false := by
      rw [List.any_eq_false]
      constructor
      · intro h z hz hzz
        simp only [Bool.and_eq_true] at hzz
        obtain ⟨⟨ha, hb⟩, hd⟩ := hzz
        refine h z (List.mem_filter.2 ⟨hz, ?_⟩) hb ((aft_b _ _).1 hd)
        unfold countsF
        unfold knownB at ha
        unfold sameSubj at hb
        simp at ha hb ⊢
        omega
      · intro h z hz hb hA
        obtain ⟨hz1, hz2⟩ := List.mem_filter.1 hz
        refine h z hz1 ?_
        have : knownB at_ known z = true := by unfold countsF at hz2; unfold knownB; simp at hz2 ⊢; omega
        simp only [Bool.and_eq_true]
        exact ⟨⟨this, hb⟩, (aft_b _ _).2 hA⟩
    rw [hcy, hk.1]
    unfold standsB
    rw [hk.2, Bool.eq_iff_iff]
    simp only [decide_true, Bool.true_and, Bool.and_true, Bool.and_eq_true, decide_eq_true_eq, Bool.not_eq_true', h1, h2]
  · have : (decide (y.f3 = doc) && knownB at_ known y) = false := by rw [← hc]; simpa using hcy
    rw [show countsF doc at_ known y = false by simpa using hcy]
    unfold standsB
    cases hd : decide (y.f3 = doc) <;> cases hk : knownB at_ known y <;> simp_all
end Go.Proofs.Ytcpheagandpacaa.V
