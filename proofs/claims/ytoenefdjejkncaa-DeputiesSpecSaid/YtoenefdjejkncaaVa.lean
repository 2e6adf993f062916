/-
Pure: the reference's Add comes to the same plain function as the program's. Condition: enough rounds.
-/
import Derived.Test.YtoenefdjejkncaaV
import Derived.Test.YtoenefdjejkncaaP19
namespace Go.Proofs.Ytoenefdjejkncaa.V
open Go.RowKit Go.Proofs.Ytoenefdjejkncaa.P Go.Proofs.Ytoenefdjejkncaa.S Go.Proofs.Ytoenefdjejkncaa.U
/-- what Add's end comes to -/
def endF (l : List S24) (x : S24) : List S24 × Int := if found l x.f0 = true then ([], 151) else if l.length = 4096 then ([], 2) else (l.take (place l x.f0) ++ x :: l.drop (place l x.f0), 0)
theorem add_r0 (l : List S24) (x : S24) (hl : l.length ≤ 4096) : ∀ (d k i : Nat), place l x.f0 - i = d → i ≤ place l x.f0 → d + 2 < k → signatoryref16_Add.l0 k l (i : Int) x.f0 x.f1 x.f2 x.f3 x.f4 x.f5 x.f6 x.f7 x.f8 x.f9 = some (endF l x) := by
  have hpl := place_le l x.f0
  intro d
  induction d with
  | zero =>
    intro k i hd hi hk
    obtain ⟨k, rfl⟩ : ∃ m, k = m + 1 + 1 + 1 := ⟨k - 3, by omega⟩
    obtain rfl : i = place l x.f0 := by omega
    have hj2 : ∀ f : Bool, f = found l x.f0 → signatoryref16_Add.j2 (k + 1) l (place l x.f0 : Int) f x.f0 x.f1 x.f2 x.f3 x.f4 x.f5 x.f6 x.f7 x.f8 x.f9 = some (endF l x) := by
      rintro f rfl
      simp only [signatoryref16_Add.j2, endF]
      by_cases hf : found l x.f0 = true
      · rw [if_pos hf, if_pos hf]
      · rw [if_neg hf, if_neg hf]
        by_cases h4 : l.length = 4096
        · rw [if_pos (by omega), if_pos h4]
        · rw [if_neg (by omega), if_neg h4]
          simp only [Option.bind_some]
          rw [if_pos (by omega), if_pos (by omega), if_pos (by simp; omega), if_pos (by simp; omega), if_pos (by simp; omega)]
          simp
    have hj1 : signatoryref16_Add.j1 (k + 1 + 1) l (place l x.f0 : Int) x.f0 x.f1 x.f2 x.f3 x.f4 x.f5 x.f6 x.f7 x.f8 x.f9 = some (endF l x) := by
      simp only [signatoryref16_Add.j1]
      by_cases hlt : place l x.f0 < l.length
      · rw [if_pos (by omega), if_pos (by omega), rd_nat l _ hlt]
        refine hj2 _ ?_
        unfold found
        rw [List.getD_eq_getElem?_getD, List.getElem?_eq_getElem hlt]
        simp [hlt]
        rfl
      · rw [if_neg (by omega)]
        refine hj2 _ ?_
        unfold found
        simp [hlt]
    simp only [signatoryref16_Add.l0]
    by_cases hlt : place l x.f0 < l.length
    · have := place_hi x.f0 l hlt
      rw [List.getD_eq_getElem?_getD, List.getElem?_eq_getElem hlt] at this
      simp only [Option.getD_some] at this
      rw [if_pos (by omega), if_pos (by omega), rd_nat l _ hlt, if_neg (by omega), hj1]
    · rw [if_neg (by omega), hj1]
  | succ d ih =>
    intro k i hd hi hk
    obtain ⟨k, rfl⟩ : ∃ m, k = m + 1 := ⟨k - 1, by omega⟩
    have hlt : i < l.length := by omega
    have := place_lo x.f0 l i (by omega)
    rw [List.getD_eq_getElem?_getD, List.getElem?_eq_getElem hlt] at this
    simp only [Option.getD_some] at this
    simp only [signatoryref16_Add.l0]
    rw [if_pos (by omega), if_pos (by omega), rd_nat l i hlt, if_pos this, wrap_succ hlt (by omega), ih k (i + 1) (by omega) (by omega) (by omega)]
theorem add_r (l : List S24) (x : S24) (k : Nat) (hk : l.length + 3 < k) : signatoryref16_Add.f k l x.f0 x.f1 x.f2 x.f3 x.f4 x.f5 x.f6 x.f7 x.f8 x.f9 = some (addF l x) := by
  unfold signatoryref16_Add.f addF
  rw [check_r l k (by omega)]
  obtain ⟨k, rfl⟩ : ∃ m, k = m + 1 := ⟨k - 1, by omega⟩
  simp only [Option.bind_some, right_r (k + 1) (by omega) x]
  by_cases h0 : checkF l = 0
  · rw [if_pos h0, if_neg (show ¬ checkF l ≠ 0 by simp [h0])]
    by_cases hr : rightF x = true
    · obtain ⟨hn, _, _⟩ := check_ok h0
      have := add_r0 l x hn (place l x.f0) (k + 1) 0 (by omega) (by omega) (by have := place_le l x.f0; omega)
      rw [if_pos hr, if_neg (show ¬ rightF x = false by simp [hr])]
      simpa [endF] using this
    · rw [if_neg hr, if_pos (show rightF x = false by simpa using hr)]
  · rw [if_neg h0, if_pos h0]
end Go.Proofs.Ytoenefdjejkncaa.V
