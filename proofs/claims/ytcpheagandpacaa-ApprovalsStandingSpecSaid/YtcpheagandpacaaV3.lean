/-
Pure: the reference's Standing and Counting come to the same plain functions as the program's. Condition: enough rounds.
-/
import Derived.Test.YtcpheagandpacaaV2
import Derived.Test.YtcpheagandpacaaP19
import Derived.Test.YtcpheagandpacaaP20
namespace Go.Proofs.Ytcpheagandpacaa.V
open Go.RowKit Go.Proofs.Ytcpheagandpacaa.P Go.Proofs.Ytcpheagandpacaa.S Go.Proofs.Ytcpheagandpacaa.U
set_option linter.unusedVariables false
def afterB (z y : S24) : Bool := decide (y.f1 < z.f1) || (decide (z.f1 = y.f1) && decide (y.f0 < z.f0))
def knownB (at_ known : Int) (z : S24) : Bool := decide (z.f1 ≤ at_) && decide (z.f2 ≤ known)
def standsB (l : List S24) (at_ known : Int) (y : S24) : Bool := !y.f7 && knownB at_ known y && !(l.any fun z => knownB at_ known z && sameSubj z y && afterB z y)
theorem counts_r (x : S24) (at_ known : Int) : signatoryref28_Counts.f x.f0 x.f1 x.f2 x.f3 x.f4 x.f5 x.f6 x.f7 at_ known = some (knownB at_ known x) := by
  unfold signatoryref28_Counts.f knownB
  by_cases h : x.f1 ≤ at_ <;> simp [h]
theorem about_r (x y : S24) : signatoryref28_About.f x.f0 x.f1 x.f2 x.f3 x.f4 x.f5 x.f6 x.f7 y.f0 y.f1 y.f2 y.f3 y.f4 y.f5 y.f6 y.f7 = some (sameSubj x y) := by
  unfold signatoryref28_About.f sameSubj
  by_cases h3 : x.f3 = y.f3 <;> by_cases h4 : x.f4 = y.f4 <;> by_cases h5 : x.f5 = y.f5 <;> by_cases h6 : x.f6 = y.f6 <;> simp [h3, h4, h5, h6]
theorem after_r (x y : S24) : signatoryref28_After.f x.f0 x.f1 x.f2 x.f3 x.f4 x.f5 x.f6 x.f7 y.f0 y.f1 y.f2 y.f3 y.f4 y.f5 y.f6 y.f7 = some (afterB x y) := by
  unfold signatoryref28_After.f afterB
  by_cases h : x.f1 > y.f1
  · simp [h]
  · by_cases h2 : x.f1 = y.f1
    · simp [h2]
    · simp [h, h2]
theorem stands_r0 (l : List S24) (hn : l.length ≤ 4294967296) (at_ known : Int) (y : S24) : ∀ (d k i : Nat), l.length - i = d → i ≤ l.length → d < k →
    signatoryref28_stands.l0 k l at_ known (i : Int) y.f0 y.f1 y.f2 y.f3 y.f4 y.f5 y.f6 y.f7 = some (!((l.drop i).any fun z => knownB at_ known z && sameSubj z y && afterB z y)) := by
  intro d
  induction d with
  | zero =>
    intro k i hd hi hk
    obtain ⟨k, rfl⟩ : ∃ m, k = m + 1 := ⟨k - 1, by omega⟩
    simp only [signatoryref28_stands.l0]
    rw [if_neg (by omega), List.drop_of_length_le (by omega)]
    rfl
  | succ d ih =>
    intro k i hd hi hk
    obtain ⟨k, rfl⟩ : ∃ m, k = m + 1 := ⟨k - 1, by omega⟩
    have hlt : i < l.length := by omega
    simp only [signatoryref28_stands.l0]
    rw [if_pos (by omega), if_pos (by omega), rd_nat l i hlt, counts_r, List.drop_eq_getElem_cons hlt, wrap_succ hlt hn, ih k (i + 1) (by omega) (by omega) (by omega)]
    simp only [Option.bind_some, List.any_cons, about_r, after_r]
    cases knownB at_ known l[i] <;> cases sameSubj l[i] y <;> cases afterB l[i] y <;> simp
theorem stands_r (l : List S24) (hn : l.length ≤ 4294967296) (at_ known : Int) (y : S24) (k : Nat) (hk : l.length + 1 < k) : signatoryref28_stands.f k l y.f0 y.f1 y.f2 y.f3 y.f4 y.f5 y.f6 y.f7 at_ known = some (standsB l at_ known y) := by
  obtain ⟨k, rfl⟩ : ∃ m, k = m + 1 := ⟨k - 1, by omega⟩
  unfold signatoryref28_stands.f standsB
  have h0 := stands_r0 l hn at_ known y l.length k 0 (by omega) (by omega) (by omega)
  simp only [Int.ofNat_zero, Int.natCast_zero, List.drop_zero] at h0
  simp only [counts_r, signatoryref28_stands.j0, h0, Option.bind_some]
  cases y.f7 <;> cases knownB at_ known y <;> simp
def refStanding (l : List S24) (doc at_ known : Int) : List S24 := l.filter fun y => decide (y.f3 = doc) && standsB l at_ known y
theorem take_snoc (p : S24 → Bool) (l : List S24) (i : Nat) (h : i < l.length) : (l.take (i + 1)).filter p = (l.take i).filter p ++ (if p l[i] = true then [l[i]] else []) := by
  rw [List.take_succ_eq_append_getElem h, List.filter_append]
  congr 1
  by_cases hp : p l[i] = true <;> simp [hp]
theorem standing_r0 (l : List S24) (hn : l.length ≤ 4096) (doc at_ known : Int) : ∀ (d k i : Nat), l.length - i = d → i ≤ l.length → l.length + d + 2 < k →
    signatoryref28_Standing.l0 k l doc at_ known ((l.take i).filter fun y => decide (y.f3 = doc) && standsB l at_ known y) (i : Int) = some (refStanding l doc at_ known, 0) := by
  intro d
  induction d with
  | zero =>
    intro k i hd hi hk
    obtain ⟨k, rfl⟩ : ∃ m, k = m + 1 := ⟨k - 1, by omega⟩
    simp only [signatoryref28_Standing.l0]
    rw [if_neg (by omega), List.take_of_length_le (by omega)]
    rfl
  | succ d ih =>
    intro k i hd hi hk
    obtain ⟨k, rfl⟩ : ∃ m, k = m + 1 := ⟨k - 1, by omega⟩
    have hlt : i < l.length := by omega
    have hih := ih k (i + 1) (by omega) (by omega) (by omega)
    rw [take_snoc _ l i hlt] at hih
    have hlen : ((l.take i).filter fun y => decide (y.f3 = doc) && standsB l at_ known y).length ≤ 4096 := Nat.le_trans (List.length_filter_le _ _) (by rw [List.length_take]; omega)
    simp only [signatoryref28_Standing.l0]
    rw [if_pos (by omega), if_pos (by omega), rd_nat l i hlt, wrap_succ hlt (by omega)]
    by_cases h3 : l[i].f3 = doc
    · rw [if_pos h3, stands_r l (by omega) at_ known l[i] k (by omega)]
      simp only [Option.bind_some]
      cases hs : standsB l at_ known l[i] with
      | true =>
        simp only [h3, hs, decide_true, Bool.and_self, if_true] at hih
        rw [if_pos rfl, if_pos (by omega)]
        exact hih
      | false =>
        simp only [h3, hs, decide_true, Bool.and_false, Bool.false_eq_true, if_false, List.append_nil] at hih
        simpa using hih
    · rw [if_neg h3]
      simp only [h3, decide_false, Bool.false_and, Bool.false_eq_true, if_false, List.append_nil] at hih
      exact hih
/-- the order of words -/
def Aft (u v : S24) : Prop := v.f1 < u.f1 ∨ (v.f1 = u.f1 ∧ v.f0 < u.f0)
theorem aft_b (u v : S24) : afterB u v = true ↔ Aft u v := by
  unfold afterB Aft
  simp
  omega
theorem aft_trans {a b c : S24} (h : Aft a b) (h' : Aft b c) : Aft a c := by unfold Aft at *; omega
theorem mem_skip {u z x : S24} {c : List S24} (h : u ∈ z :: c) : u ∈ z :: x :: c := by
  rcases List.mem_cons.1 h with h | h
  · simp [h]
  · simp [h]
theorem last_some_of (y : S24) : ∀ (c : List S24) (z : S24), (z :: c).Pairwise (fun a b => a.f0 < b.f0) → sameSubj z y = true →
    ∃ u, lastF y (some z) c = some u ∧ u ∈ z :: c ∧ sameSubj u y = true ∧ ∀ v ∈ z :: c, sameSubj v y = true → v = u ∨ Aft u v
  | [], z, _, hz => ⟨z, rfl, by simp, hz, fun v hv _ => by simp at hv; exact .inl hv⟩
  | x :: c, z, hp, hz => by
    obtain ⟨h1, h2⟩ := List.pairwise_cons.1 hp
    have hzx := h1 x (by simp)
    have hpz : (z :: c).Pairwise (fun a b => a.f0 < b.f0) := List.pairwise_cons.2 ⟨fun v hv => h1 v (by simp [hv]), (List.pairwise_cons.1 h2).2⟩
    unfold lastF
    by_cases hx : sameSubj x y = true
    · rw [if_pos hx]
      dsimp only
      by_cases hle : z.f1 ≤ x.f1
      · rw [if_pos hle]
        obtain ⟨u, e, hu, hs, ha⟩ := last_some_of y c x h2 hx
        refine ⟨u, e, List.mem_cons_of_mem _ hu, hs, fun v hv hsv => ?_⟩
        rcases List.mem_cons.1 hv with rfl | hv
        · have hxz : Aft x v := by unfold Aft; omega
          rcases ha x (by simp) hx with rfl | h
          · exact .inr hxz
          · exact .inr (aft_trans h hxz)
        · exact ha v hv hsv
      · rw [if_neg hle]
        obtain ⟨u, e, hu, hs, ha⟩ := last_some_of y c z hpz hz
        refine ⟨u, e, mem_skip hu, hs, fun v hv hsv => ?_⟩
        rcases List.mem_cons.1 hv with rfl | hv
        · exact ha v (by simp) hsv
        · rcases List.mem_cons.1 hv with rfl | hv
          · have hzv : Aft z v := by unfold Aft; omega
            rcases ha z (by simp) hz with rfl | h
            · exact .inr hzv
            · exact .inr (aft_trans h hzv)
          · exact ha v (by simp [hv]) hsv
    · rw [if_neg hx]
      obtain ⟨u, e, hu, hs, ha⟩ := last_some_of y c z hpz hz
      refine ⟨u, e, mem_skip hu, hs, fun v hv hsv => ?_⟩
      rcases List.mem_cons.1 hv with rfl | hv
      · exact ha v (by simp) hsv
      · rcases List.mem_cons.1 hv with rfl | hv
        · exact absurd hsv hx
        · exact ha v (by simp [hv]) hsv
theorem last_none_of (y : S24) : ∀ (c : List S24), c.Pairwise (fun a b => a.f0 < b.f0) → (∃ v ∈ c, sameSubj v y = true) →
    ∃ u, lastF y none c = some u ∧ u ∈ c ∧ sameSubj u y = true ∧ ∀ v ∈ c, sameSubj v y = true → v = u ∨ Aft u v
  | [], _, h => by obtain ⟨v, hv, _⟩ := h; cases hv
  | x :: c, hp, h => by
    unfold lastF
    by_cases hx : sameSubj x y = true
    · rw [if_pos hx]
      exact last_some_of y c x hp hx
    · rw [if_neg hx]
      obtain ⟨v, hv, hs⟩ := h
      rcases List.mem_cons.1 hv with rfl | hv
      · exact absurd hs hx
      · obtain ⟨u, e, hu, hsu, ha⟩ := last_none_of y c (List.pairwise_cons.1 hp).2 ⟨v, hv, hs⟩
        refine ⟨u, e, by simp [hu], hsu, fun w hw hsw => ?_⟩
        rcases List.mem_cons.1 hw with rfl | hw
        · exact absurd hsw hx
        · exact ha w hw hsw
theorem last_iff {c : List S24} (hp : c.Pairwise (fun a b => a.f0 < b.f0)) {y : S24} (hy : y ∈ c) : lastF y none c = some y ↔ ∀ z ∈ c, sameSubj z y = true → ¬ Aft z y := by
  obtain ⟨u, e, hu, hs, ha⟩ := last_none_of y c hp ⟨y, hy, by simp [sameSubj]⟩
  rw [e]
  constructor
  · intro h z hz hsz hzy
    obtain rfl : u = y := by simpa using h
    rcases ha z hz hsz with rfl | h2
    · unfold Aft at hzy; omega
    · unfold Aft at hzy h2; omega
  · intro h
    rcases ha y hy (by simp [sameSubj]) with rfl | h2
    · rfl
    · exact absurd h2 (h u hu hs)
theorem standing_eq {l : List S24} (hp : l.Pairwise (fun a b => a.f0 < b.f0)) (doc at_ known : Int) : standingF l doc at_ known = refStanding l doc at_ known := by
  unfold standingF refStanding
  rw [List.filter_filter]
  refine List.filter_congr fun y hy => ?_
  have hc : countsF doc at_ known y = (decide (y.f3 = doc) && knownB at_ known y) := by unfold countsF knownB; rw [Bool.and_assoc]
  by_cases hcy : countsF doc at_ known y = true
  · have hyc : y ∈ l.filter (countsF doc at_ known) := List.mem_filter.2 ⟨hy, hcy⟩
    have h1 := last_iff (hp.sublist List.filter_sublist) hyc
    have hk : y.f3 = doc ∧ knownB at_ known y = true := by rw [hc] at hcy; simpa using hcy
    have h2 : (∀ z ∈ l.filter (countsF doc at_ known), sameSubj z y = true → ¬ Aft z y) ↔ (l.any fun z => knownB at_ known z && sameSubj z y && afterB z y) = false := by
      rw [List.any_eq_false]
      constructor
      · intro h z hz hzz
        simp only [Bool.and_eq_true] at hzz
        obtain ⟨⟨ha, hb⟩, hd⟩ := hzz
        refine h z (List.mem_filter.2 ⟨hz, ?_⟩) hb ((aft_b _ _).1 hd)
        unfold countsF
        unfold knownB at ha
        unfold sameSubj at hb
        simp at ha hb ⊢
        omega
      · intro h z hz hb hA
        obtain ⟨hz1, hz2⟩ := List.mem_filter.1 hz
        refine h z hz1 ?_
        have : knownB at_ known z = true := by unfold countsF at hz2; unfold knownB; simp at hz2 ⊢; omega
        simp only [Bool.and_eq_true]
        exact ⟨⟨this, hb⟩, (aft_b _ _).2 hA⟩
    rw [hcy, hk.1]
    unfold standsB
    rw [hk.2, Bool.eq_iff_iff]
    simp only [decide_true, Bool.true_and, Bool.and_true, Bool.and_eq_true, decide_eq_true_eq, Bool.not_eq_true', h1, h2]
  · have : (decide (y.f3 = doc) && knownB at_ known y) = false := by rw [← hc]; simpa using hcy
    rw [show countsF doc at_ known y = false by simpa using hcy]
    unfold standsB
    cases hd : decide (y.f3 = doc) <;> cases hk : knownB at_ known y <;> simp_all
theorem standing_r (l : List S24) (doc at_ known : Int) (k : Nat) (hk : l.length + l.length + 3 < k) : signatoryref28_Standing.f k l doc at_ known = some (standF l doc at_ known) := by
  unfold signatoryref28_Standing.f standF
  rw [check_r l k (by omega)]
  obtain ⟨k, rfl⟩ : ∃ m, k = m + 1 := ⟨k - 1, by omega⟩
  simp only [Option.bind_some, doc_r, time_r, signatoryref28_Standing.j0, within_two]
  by_cases h0 : checkF l = 0
  · obtain ⟨hn, hp, _⟩ := check_ok h0
    have h1 := standing_r0 l hn doc at_ known l.length k 0 (by omega) (by omega) (by omega)
    simp only [Int.natCast_zero, List.take_zero, List.filter_nil, ← standing_eq hp] at h1
    rw [if_pos h0, if_neg (show ¬ checkF l ≠ 0 by simp [h0])]
    have h2 : signatoryref28_Standing.l0 k l doc at_ known [] 0 = some (standingF l doc at_ known, 0) := h1
    rw [h2]
    cases withinF 4095 [doc] <;> cases withinF 1099511627775 [at_] <;> cases withinF 1099511627775 [known] <;> simp
  · rw [if_neg h0, if_pos h0]
def countB (begun think at_ : Int) (y : S24) : Bool := decide (begun ≤ y.f1) && decide (wrap64 (y.f1 + think) ≤ at_)
theorem counting_r0 (c : List S24) (hn : c.length ≤ 4096) (begun think at_ : Int) : ∀ (d k i : Nat), c.length - i = d → i ≤ c.length → d < k →
    signatoryref28_Counting.l0 k begun think at_ c ((c.take i).filter (countB begun think at_)) (i : Int) = some (c.filter (countB begun think at_), 0) := by
  intro d
  induction d with
  | zero =>
    intro k i hd hi hk
    obtain ⟨k, rfl⟩ : ∃ m, k = m + 1 := ⟨k - 1, by omega⟩
    simp only [signatoryref28_Counting.l0]
    rw [if_neg (by omega), List.take_of_length_le (by omega)]
  | succ d ih =>
    intro k i hd hi hk
    obtain ⟨k, rfl⟩ : ∃ m, k = m + 1 := ⟨k - 1, by omega⟩
    have hlt : i < c.length := by omega
    have hih := ih k (i + 1) (by omega) (by omega) (by omega)
    rw [take_snoc _ c i hlt] at hih
    have hlen : ((c.take i).filter (countB begun think at_)).length ≤ 4096 := Nat.le_trans (List.length_filter_le _ _) (by rw [List.length_take]; omega)
    simp only [signatoryref28_Counting.l0]
    rw [if_pos (by omega), if_pos (by omega), rd_nat c i hlt, wrap_succ hlt (by omega)]
    by_cases h1 : c[i].f1 ≥ begun
    · rw [if_pos h1]
      by_cases h2 : at_ ≥ wrap64 (c[i].f1 + think)
      · rw [if_pos h2, if_pos (by omega)]
        rw [if_pos (by unfold countB; simp; omega)] at hih
        exact hih
      · rw [if_neg h2]
        rw [if_neg (by unfold countB; simp; omega), List.append_nil] at hih
        exact hih
    · rw [if_neg h1]
      rw [if_neg (by unfold countB; simp; omega), List.append_nil] at hih
      exact hih
theorem standing_right {l : List S24} {doc at_ known : Int} {y : S24} (h : y ∈ standingF l doc at_ known) : y ∈ l := (List.mem_filter.1 (List.mem_filter.1 h).1).1
theorem counting_r (l : List S24) (doc begun think at_ known : Int) (k : Nat) (hk : l.length + l.length + 5 < k) : signatoryref28_Counting.f k l doc begun think at_ known = some (countingF l doc begun think at_ known) := by
  unfold signatoryref28_Counting.f countingF
  rw [check_r l k (by omega)]
  obtain ⟨k, rfl⟩ : ∃ m, k = m + 1 := ⟨k - 1, by omega⟩
  simp only [Option.bind_some, doc_r, time_r, signatoryref28_Counting.j0, within_four, standing_r l doc at_ known k (by omega)]
  by_cases h0 : checkF l = 0
  · obtain ⟨hn, hp, hr⟩ := check_ok h0
    rw [if_pos h0, if_neg (show ¬ checkF l ≠ 0 by simp [h0])]
    by_cases hall : withinF 4095 [doc] = true ∧ withinF 1099511627775 [begun] = true ∧ withinF 1099511627775 [think] = true ∧ withinF 1099511627775 [at_] = true ∧ withinF 1099511627775 [known] = true
    · obtain ⟨w1, w2, w3, w4, w5⟩ := hall
      have hst : standF l doc at_ known = (standingF l doc at_ known, 0) := by
        unfold standF
        rw [if_neg (show ¬ checkF l ≠ 0 by simp [h0]), if_neg (by rw [within_two, w1, w4, w5]; simp)]
      have hlen : (standingF l doc at_ known).length ≤ l.length := Nat.le_trans (List.length_filter_le _ _) (List.length_filter_le _ _)
      have h1 := counting_r0 (standingF l doc at_ known) (by omega) begun think at_ (standingF l doc at_ known).length k 0 (by omega) (by omega) (by omega)
      simp only [Int.natCast_zero, List.take_zero, List.filter_nil] at h1
      have h2 : signatoryref28_Counting.l0 k begun think at_ (standingF l doc at_ known) [] 0 = some ((standingF l doc at_ known).filter (countB begun think at_), 0) := h1
      simp only [w1, w2, w3, w4, w5, if_true, hst, h2, Bool.not_true, Bool.false_eq_true, if_false, Bool.and_self, or_self, Bool.true_eq_false]
      congr 2
      refine List.filter_congr fun y hy => ?_
      have hy1 := right_time (hr y (standing_right hy))
      rw [within_iff] at w2 w3 w4
      unfold countB
      rw [Bool.eq_iff_iff]
      have e1 : wrap64 (y.f1 + think) = y.f1 + think := by unfold wrap64; omega
      have e2 : wrap64 (at_ - y.f1) = at_ - y.f1 := by unfold wrap64; omega
      rw [e1, e2]
      simp
      omega
    · rw [if_pos (show withinF 4095 [doc] = false ∨ (withinF 1099511627775 [begun] && (withinF 1099511627775 [think] && (withinF 1099511627775 [at_] && withinF 1099511627775 [known]))) = false by
        revert hall
        cases withinF 4095 [doc] <;> cases withinF 1099511627775 [begun] <;> cases withinF 1099511627775 [think] <;> cases withinF 1099511627775 [at_] <;> cases withinF 1099511627775 [known] <;> simp)]
      revert hall
      cases withinF 4095 [doc] <;> cases withinF 1099511627775 [begun] <;> cases withinF 1099511627775 [think] <;> cases withinF 1099511627775 [at_] <;> cases withinF 1099511627775 [known] <;> simp
  · rw [if_neg h0, if_pos h0]
end Go.Proofs.Ytcpheagandpacaa.V
