/-
Pure: the reference's Check comes to the same plain function as the program's; Same of a list and itself. Condition: enough rounds.
-/
import Derived.Test.YtoenefdjejkncaaU
import Derived.Test.YtoenefdjejkncaaP18
import Derived.Test.YtoenefdjejkncaaP20
namespace Go.Proofs.Ytoenefdjejkncaa.V
open Go.RowKit Go.Proofs.Ytoenefdjejkncaa.P Go.Proofs.Ytoenefdjejkncaa.S Go.Proofs.Ytoenefdjejkncaa.U
theorem within_r (n a m : Int) : signatoryref16_within.f n a m = some (inB a m n) := by
  unfold signatoryref16_within.f inB
  by_cases h : a ≤ n <;> simp [h]
theorem right_r (k : Nat) (hk : 1 < k) (x : S24) : signatoryref16_Right.f k x.f0 x.f1 x.f2 x.f3 x.f4 x.f5 x.f6 x.f7 x.f8 x.f9 = some (rightF x) := by
  obtain ⟨k, rfl⟩ : ∃ m, k = m + 1 + 1 := ⟨k - 2, by omega⟩
  unfold signatoryref16_Right.f rightF signatoryref16_Time.f signatoryref16_Person.f
  simp only [within_r, Option.bind_some, signatoryref16_Right.j0, signatoryref16_Right.j1]
  cases inB 0 1048576 x.f0 <;> cases inB 0 1099511627775 x.f1 <;> cases inB 0 1099511627775 x.f2 <;> cases inB 0 63 x.f4 <;> cases inB 0 63 x.f5 <;> simp
  by_cases h45 : x.f4 = x.f5 <;> cases inB 0 31 x.f6 <;> cases inB (-1) 15 x.f7 <;> simp [h45]
  cases x.f9 <;> simp
  · by_cases h1 : x.f1 < x.f3 <;> by_cases h2 : x.f3 ≤ 1099511627776 <;> simp [h1, h2]
  · by_cases h1 : x.f3 = 0 <;> by_cases h2 : x.f8 = 0 <;> simp [h1, h2]
theorem right_pos {x : S24} (h : rightF x = true) : 0 ≤ x.f0 := by
  unfold rightF inB at h
  simp at h
  omega
/-- what stands ahead of place i -/
def ahead (l : List S24) (i : Nat) : Int := if i = 0 then -1 else (l.getD (i - 1) z24).f0
theorem wrap_pred {i : Nat} (h : 0 < i) (hn : i ≤ 4294967296) : wrap64 ((i : Int) - 1) = ((i - 1 : Nat) : Int) := by
  unfold wrap64; omega
theorem check_r0 (l : List S24) (hl : l.length ≤ 4096) : ∀ (d k i : Nat), l.length - i = d → i ≤ l.length → d + 2 < k → signatoryref16_Check.l0 k l (i : Int) = some (if okFrom (ahead l i) (l.drop i) then 0 else 160) := by
  intro d
  induction d with
  | zero =>
    intro k i hd hi hk
    obtain ⟨k, rfl⟩ : ∃ m, k = m + 1 := ⟨k - 1, by omega⟩
    simp only [signatoryref16_Check.l0]
    rw [if_neg (by omega), List.drop_of_length_le (by omega)]
    rfl
  | succ d ih =>
    intro k i hd hi hk
    obtain ⟨k, rfl⟩ : ∃ m, k = m + 1 := ⟨k - 1, by omega⟩
    have hlt : i < l.length := by omega
    simp only [signatoryref16_Check.l0]
    obtain ⟨k, rfl⟩ : ∃ m, k = m + 1 := ⟨k - 1, by omega⟩
    have hnx : ahead l (i + 1) = l[i].f0 := by
      simp [ahead, List.getD_eq_getElem?_getD, List.getElem?_eq_getElem hlt]
    rw [if_pos (by omega), if_pos (by omega), rd_nat l i hlt, right_r _ (by omega), List.drop_eq_getElem_cons hlt]
    simp only [Option.bind_some]
    have hih := ih (k + 1) (i + 1) (by omega) (by omega) (by omega)
    rw [hnx] at hih
    by_cases hr : rightF l[i] = true
    · rw [if_pos hr]
      by_cases h0 : 0 < i
      · have hp : i - 1 < l.length := by omega
        have ha : ahead l i = l[i - 1].f0 := by
          simp [ahead, show ¬ i = 0 by omega, List.getD_eq_getElem?_getD, List.getElem?_eq_getElem hp]
        rw [if_pos (by omega), wrap_pred h0 (by omega), if_pos (by omega), if_pos (by omega), rd_nat l (i - 1) hp, ha]
        by_cases hle : l[i - 1].f0 ≥ l[i].f0
        · rw [if_pos hle, if_neg (by simp [okFrom]; omega)]
        · rw [if_neg hle, wrap_succ hlt (by omega), hih]
          simp [okFrom, hr, show l[i - 1].f0 < l[i].f0 by omega]
      · obtain rfl : i = 0 := by omega
        have hpos := right_pos hr
        rw [if_neg (by omega), wrap_succ hlt (by omega), hih]
        simp [okFrom, hr, ahead, show (-1 : Int) < l[0].f0 by omega]
    · rw [if_neg hr, if_neg (by simp [okFrom, hr])]
theorem check_r (l : List S24) (k : Nat) (hk : l.length + 2 < k) : signatoryref16_Check.f k l = some (checkF l) := by
  unfold signatoryref16_Check.f checkF
  by_cases h : 4096 < l.length
  · rw [if_pos (by omega), if_pos h]
  · rw [if_neg (by omega), if_neg h]
    have := check_r0 l (by omega) l.length k 0 (by omega) (by omega) hk
    simpa [ahead] using this
theorem same_r0 (l : List S24) (hn : l.length ≤ 4294967296) : ∀ (d k i : Nat), l.length - i = d → i ≤ l.length → d < k → signatoryref16_Same.l0 k l l (i : Int) = some true := by
  intro d
  induction d with
  | zero =>
    intro k i hd hi hk
    obtain ⟨k, rfl⟩ : ∃ m, k = m + 1 := ⟨k - 1, by omega⟩
    simp only [signatoryref16_Same.l0]
    rw [if_neg (by omega)]
  | succ d ih =>
    intro k i hd hi hk
    obtain ⟨k, rfl⟩ : ∃ m, k = m + 1 := ⟨k - 1, by omega⟩
    have hlt : i < l.length := by omega
    simp only [signatoryref16_Same.l0]
    rw [if_pos (by omega), if_pos (by omega), if_pos (by omega), if_neg (by simp), wrap_succ hlt hn, ih k (i + 1) (by omega) (by omega) (by omega)]
theorem same_r (l : List S24) (hn : l.length ≤ 4294967296) (k : Nat) (hk : l.length < k) : signatoryref16_Same.f k l l = some true := by
  unfold signatoryref16_Same.f
  rw [if_pos rfl]
  exact same_r0 l hn l.length k 0 (by omega) (by omega) hk
theorem place_le (l : List S24) (no : Int) : place l no ≤ l.length := (List.takeWhile_sublist _).length_le
theorem place_cons (x : S24) (l : List S24) (no : Int) : place (x :: l) no = if x.f0 < no then place l no + 1 else 0 := by
  unfold place
  rw [List.takeWhile_cons]
  by_cases h : x.f0 < no
  · rw [if_pos (by simpa using h), if_pos h]; rfl
  · rw [if_neg (by simpa using h), if_neg h]; rfl
theorem place_lo (no : Int) : ∀ (l : List S24) (i : Nat), i < place l no → (l.getD i z24).f0 < no
  | [], i, h => by simp [place] at h
  | x :: l, i, h => by
    rw [place_cons] at h
    by_cases hx : x.f0 < no
    · rw [if_pos hx] at h
      cases i with
      | zero => simpa using hx
      | succ i => simpa using place_lo no l i (by omega)
    · rw [if_neg hx] at h; omega
theorem place_hi (no : Int) : ∀ (l : List S24), place l no < l.length → no ≤ (l.getD (place l no) z24).f0
  | [], h => by simp at h
  | x :: l, h => by
    rw [place_cons] at h ⊢
    by_cases hx : x.f0 < no
    · rw [if_pos hx] at h ⊢
      simpa using place_hi no l (by simpa using h)
    · rw [if_neg hx]
      simp
      omega
theorem add_len (l : List S24) (x : S24) : (addF l x).1.length ≤ l.length + 1 := by
  unfold addF
  repeat' split
  all_goals simp
  omega
end Go.Proofs.Ytoenefdjejkncaa.V
