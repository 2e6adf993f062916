/-
Pure: the law's own guard right, as a plain function. Condition: enough rounds.
-/
import Derived.Test.YtcpheagandpacaaV
import Derived.Test.YtcpheagandpacaaP22
namespace Go.Proofs.Ytcpheagandpacaa.V
open Go.RowKit Go.Proofs.Ytcpheagandpacaa.P Go.Proofs.Ytcpheagandpacaa.S Go.Proofs.Ytcpheagandpacaa.U Go.Proofs.YtcpheagandpacaaW.PrintWords
set_option linter.unusedVariables false
def rightsB (l : List S24) (doc : Int) (ts : List Int) : Bool := (ts.all fun t => withinF 1099511627775 [t]) && (decide (l.length ≤ 30) && (decide (checkF l = 0) && withinF 4095 [doc]))
theorem right_l0 (l : List S24) (doc : Int) (ts : List Int) (hts : ts.length ≤ 4294967296) : ∀ (d k i : Nat), ts.length - i = d → i ≤ ts.length → d + l.length + 2 < k →
    signatorylaw28_right.l0 k l doc ts (ts.length : Int) (i : Int) = some (rightsB l doc (ts.drop i)) := by
  intro d
  induction d with
  | zero =>
    intro k i hd hi hk
    obtain ⟨k, rfl⟩ : ∃ m, k = m + 1 := ⟨k - 1, by omega⟩
    simp only [signatorylaw28_right.l0]
    rw [if_neg (by omega), List.drop_of_length_le (by omega), check_r l k (by omega)]
    simp only [Option.bind_some, doc_r]
    unfold rightsB
    by_cases h1 : l.length ≤ 30
    · rw [if_pos (by omega)]
      by_cases h2 : checkF l = 0
      · rw [if_pos h2]; simp [h1, h2]
      · rw [if_neg h2]; simp [h2]
    · rw [if_neg (by omega)]; simp [h1]
  | succ d ih =>
    intro k i hd hi hk
    obtain ⟨k, rfl⟩ : ∃ m, k = m + 1 := ⟨k - 1, by omega⟩
    have hlt : i < ts.length := by omega
    have hrd : rd ts (i : Int) = ts[i] := by simp [rd, List.getD_eq_getElem?_getD, List.getElem?_eq_getElem hlt]
    simp only [signatorylaw28_right.l0]
    rw [if_pos (by omega), if_pos (by omega), if_pos (by omega), hrd, time_r, wrap_succ hlt hts, ih k (i + 1) (by omega) (by omega) (by omega), List.drop_eq_getElem_cons hlt]
    simp only [Option.bind_some]
    unfold rightsB
    rw [List.all_cons]
    cases withinF 1099511627775 [ts[i]] with
    | true => simp
    | false => simp
theorem right_l (l : List S24) (doc : Int) (ts : List Int) (hts : ts.length ≤ 4294967296) (k : Nat) (hk : ts.length + l.length + 2 < k) : signatorylaw28_right.f k l doc ts = some (rightsB l doc ts) := by
  unfold signatorylaw28_right.f
  have := right_l0 l doc ts hts ts.length k 0 (by omega) (by omega) hk
  simpa using this
end Go.Proofs.Ytcpheagandpacaa.V
