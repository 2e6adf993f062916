/-
Pure: the reference's Check comes to the same plain function as the program's; Same of a list and itself. Condition: enough rounds.
-/
import Derived.Test.YtaemdkbfdpjimaaU
import Derived.Test.YtaemdkbfdpjimaaP15
import Derived.Test.YtaemdkbfdpjimaaP5
namespace Go.Proofs.Ytaemdkbfdpjimaa.V
open Go.RowKit Go.Proofs.Ytaemdkbfdpjimaa.P Go.Proofs.Ytaemdkbfdpjimaa.S Go.Proofs.Ytaemdkbfdpjimaa.U
theorem within_r (n a m : Int) : signatoryref18_within.f n a m = some (!outB a m n) := by
  unfold signatoryref18_within.f outB
  by_cases h : n ≥ a
  · rw [if_pos h]
    congr 1
    rw [Bool.eq_iff_iff]
    simp
    omega
  · rw [if_neg h]
    congr 1
    simp
    omega
theorem moment_r (n : Int) : signatoryref18_moment.f n = some (!outB 0 1099511627775 n) := by
  unfold signatoryref18_moment.f outB
  by_cases h : n ≥ 0
  · rw [if_pos h]
    congr 1
    rw [Bool.eq_iff_iff]
    simp
    omega
  · rw [if_neg h]
    congr 1
    simp
    omega
theorem out_zero (n : Int) : (!outB 0 0 n) = (n == 0) := by
  unfold outB
  rw [Bool.eq_iff_iff]
  simp
  omega
theorem right_r (k : Nat) (x : S24) : signatoryref18_Right.f (k + 1) x.f0 x.f1 x.f2 x.f3 x.f4 x.f5 x.f6 x.f7 = some (rightF x) := by
  unfold signatoryref18_Right.f rightF betweenF
  simp only [signatoryref18_Right.j0, within_r, moment_r, Option.bind_some, List.any_cons, List.any_nil, Bool.or_false]
  generalize outB 0 1048576 x.f0 = b0
  generalize outB 0 1099511627775 x.f1 = b1
  generalize outB 0 1099511627775 x.f2 = b2
  generalize outB (-1) 15 x.f3 = b3
  generalize outB 1 1099511627776 x.f4 = b4
  cases x.f7 with
  | true =>
    simp only [if_true]
    rw [show outB 0 0 x.f5 = !(x.f5 == 0) by rw [← out_zero, Bool.not_not], show outB 0 0 x.f6 = !(x.f6 == 0) by rw [← out_zero, Bool.not_not]]
    by_cases h5 : x.f5 = 0
    · rw [h5]
      cases b0 <;> cases b1 <;> cases b2 <;> cases b3 <;> cases b4 <;> simp
    · cases b0 <;> cases b1 <;> cases b2 <;> cases b3 <;> cases b4 <;> simp [h5]
  | false =>
    simp only [Bool.false_eq_true, if_false]
    generalize outB 0 1048576 x.f5 = b5
    generalize outB 0 1099511627776 x.f6 = b6
    cases b0 <;> cases b1 <;> cases b2 <;> cases b3 <;> cases b4 <;> cases b5 <;> cases b6 <;> rfl
theorem right_pos {x : S24} (h : rightF x = true) : 0 ≤ x.f0 := by
  unfold rightF betweenF outB at h
  simp at h
  omega
/-- what stands ahead of place i -/
def ahead (l : List S24) (i : Nat) : Int := if i = 0 then -1 else (l.getD (i - 1) z24).f0
theorem wrap_pred {i : Nat} (h : 0 < i) (hn : i ≤ 4294967296) : wrap64 ((i : Int) - 1) = ((i - 1 : Nat) : Int) := by
  unfold wrap64; omega
theorem check_r0 (l : List S24) (hl : l.length ≤ 4096) : ∀ (d k i : Nat), l.length - i = d → i ≤ l.length → d + 1 < k → signatoryref18_Check.l0 k l (i : Int) = some (if okFrom (ahead l i) (l.drop i) then 0 else 180) := by
  intro d
  induction d with
  | zero =>
    intro k i hd hi hk
    obtain ⟨k, rfl⟩ : ∃ m, k = m + 1 := ⟨k - 1, by omega⟩
    simp only [signatoryref18_Check.l0]
    rw [if_neg (by omega), List.drop_of_length_le (by omega)]
    rfl
  | succ d ih =>
    intro k i hd hi hk
    obtain ⟨k, rfl⟩ : ∃ m, k = m + 1 := ⟨k - 1, by omega⟩
    have hlt : i < l.length := by omega
    simp only [signatoryref18_Check.l0]
    obtain ⟨k, rfl⟩ : ∃ m, k = m + 1 := ⟨k - 1, by omega⟩
    have hnx : ahead l (i + 1) = l[i].f0 := by
      simp [ahead, List.getD_eq_getElem?_getD, List.getElem?_eq_getElem hlt]
    rw [if_pos (by omega), if_pos (by omega), rd_nat l i hlt, right_r, List.drop_eq_getElem_cons hlt]
    simp only [Option.bind_some]
    have hih := ih (k + 1) (i + 1) (by omega) (by omega) (by omega)
    rw [hnx] at hih
    by_cases hr : rightF l[i] = true
    · rw [if_pos hr]
      by_cases h0 : 0 < i
      · have hp : i - 1 < l.length := by omega
        have ha : ahead l i = l[i - 1].f0 := by
          simp [ahead, show ¬ i = 0 by omega, List.getD_eq_getElem?_getD, List.getElem?_eq_getElem hp]
        rw [if_pos (by omega), wrap_pred h0 (by omega), if_pos (by omega), if_pos (by omega), rd_nat l (i - 1) hp, ha]
        by_cases hle : l[i - 1].f0 ≥ l[i].f0
        · rw [if_pos hle, if_neg (by simp [okFrom]; omega)]
        · rw [if_neg hle, wrap_succ hlt (by omega), hih]
          simp [okFrom, hr, show l[i - 1].f0 < l[i].f0 by omega]
      · obtain rfl : i = 0 := by omega
        have hpos := right_pos hr
        rw [if_neg (by omega), wrap_succ hlt (by omega), hih]
        simp [okFrom, hr, ahead, show (-1 : Int) < l[0].f0 by omega]
    · rw [if_neg hr, if_neg (by simp [okFrom, hr])]
theorem check_r (l : List S24) (k : Nat) (hk : l.length + 1 < k) : signatoryref18_Check.f k l = some (checkF l) := by
  unfold signatoryref18_Check.f checkF
  by_cases h : 4096 < l.length
  · rw [if_pos (by omega), if_pos h]
  · rw [if_neg (by omega), if_neg h]
    have := check_r0 l (by omega) l.length k 0 (by omega) (by omega) hk
    simpa [ahead] using this
theorem same_r0 (l : List S24) (hn : l.length ≤ 4294967296) : ∀ (d k i : Nat), l.length - i = d → i ≤ l.length → d < k → signatoryref18_Same.l0 k l l (i : Int) = some true := by
  intro d
  induction d with
  | zero =>
    intro k i hd hi hk
    obtain ⟨k, rfl⟩ : ∃ m, k = m + 1 := ⟨k - 1, by omega⟩
    simp only [signatoryref18_Same.l0]
    rw [if_neg (by omega)]
  | succ d ih =>
    intro k i hd hi hk
    obtain ⟨k, rfl⟩ : ∃ m, k = m + 1 := ⟨k - 1, by omega⟩
    have hlt : i < l.length := by omega
    simp only [signatoryref18_Same.l0]
    rw [if_pos (by omega), if_pos (by omega), if_pos (by omega), if_neg (by simp), wrap_succ hlt hn, ih k (i + 1) (by omega) (by omega) (by omega)]
theorem same_r (l : List S24) (hn : l.length ≤ 4294967296) (k : Nat) (hk : l.length < k) : signatoryref18_Same.f k l l = some true := by
  unfold signatoryref18_Same.f
  rw [if_pos rfl]
  exact same_r0 l hn l.length k 0 (by omega) (by omega) hk
theorem place_le (l : List S24) (no : Int) : place l no ≤ l.length := (List.takeWhile_sublist _).length_le
theorem place_cons (x : S24) (l : List S24) (no : Int) : place (x :: l) no = if x.f0 < no then place l no + 1 else 0 := by
  unfold place
  rw [List.takeWhile_cons]
  by_cases h : x.f0 < no
  · rw [if_pos (by simpa using h), if_pos h]; rfl
  · rw [if_neg (by simpa using h), if_neg h]; rfl
theorem place_lo (no : Int) : ∀ (l : List S24) (i : Nat), i < place l no → (l.getD i z24).f0 < no
  | [], i, h => by simp [place] at h
  | x :: l, i, h => by
    rw [place_cons] at h
    by_cases hx : x.f0 < no
    · rw [if_pos hx] at h
      cases i with
      | zero => simpa using hx
      | succ i => simpa using place_lo no l i (by omega)
    · rw [if_neg hx] at h; omega
theorem place_hi (no : Int) : ∀ (l : List S24), place l no < l.length → no ≤ (l.getD (place l no) z24).f0
  | [], h => by simp at h
  | x :: l, h => by
    rw [place_cons] at h ⊢
    by_cases hx : x.f0 < no
    · rw [if_pos hx] at h ⊢
      simpa using place_hi no l (by simpa using h)
    · rw [if_neg hx]
      simp
      omega
theorem add_len (l : List S24) (x : S24) : (addF l x).1.length ≤ l.length + 1 := by
  unfold addF
  repeat' split
  all_goals simp
  omega
end Go.Proofs.Ytaemdkbfdpjimaa.V
