/-
The law ApprovalsThen as plain functions: it is true.
-/
import Derived.Test.YtcpheagandpacaaP23
import Derived.Test.YtcpheagandpacaaP22
import Derived.Test.YtcpheagandpacaaOp
import Derived.Test.YtcpheagandpacaaV2
namespace Go.Proofs.Ytcpheagandpacaa.T
open Go.RowKit Go.Proofs.Ytcpheagandpacaa.P Go.Proofs.Ytcpheagandpacaa.W Go.Proofs.Ytcpheagandpacaa.S Go.Proofs.Ytcpheagandpacaa.U Go.Proofs.Ytcpheagandpacaa.V Go.Proofs.YtcpheagandpacaaW.PrintWords
set_option linter.unusedVariables false
def rightsB (l : List S24) (doc : Int) (ts : List Int) : Bool := (ts.all fun t => withinF 1099511627775 [t]) && (decide (l.length ≤ 30) && (decide (checkF l = 0) && withinF 4095 [doc]))
theorem right_l0 (l : List S24) (doc : Int) (ts : List Int) (hts : ts.length ≤ 4294967296) : ∀ (d k i : Nat), ts.length - i = d → i ≤ ts.length → d + l.length + 2 < k →
    signatorylaw28_right.l0 k l doc ts (ts.length : Int) (i : Int) = some (rightsB l doc (ts.drop i)) := by
  intro d
  induction d with
  | zero =>
    intro k i hd hi hk
    obtain ⟨k, rfl⟩ : ∃ m, k = m + 1 := ⟨k - 1, by omega⟩
    simp only [signatorylaw28_right.l0]
    rw [if_neg (by omega), List.drop_of_length_le (by omega), check_r l k (by omega)]
    simp only [Option.bind_some, doc_r]
    unfold rightsB
    by_cases h1 : l.length ≤ 30
    · rw [if_pos (by omega)]
      by_cases h2 : checkF l = 0
      · rw [if_pos h2]; simp [h1, h2]
      · rw [if_neg h2]; simp [h2]
    · rw [if_neg (by omega)]; simp [h1]
  | succ d ih =>
    intro k i hd hi hk
    obtain ⟨k, rfl⟩ : ∃ m, k = m + 1 := ⟨k - 1, by omega⟩
    have hlt : i < ts.length := by omega
    have hrd : rd ts (i : Int) = ts[i] := by simp [rd, List.getD_eq_getElem?_getD, List.getElem?_eq_getElem hlt]
    simp only [signatorylaw28_right.l0]
    rw [if_pos (by omega), if_pos (by omega), if_pos (by omega), hrd, time_r, wrap_succ hlt hts, ih k (i + 1) (by omega) (by omega) (by omega), List.drop_eq_getElem_cons hlt]
    simp only [Option.bind_some]
    unfold rightsB
    rw [List.all_cons]
    cases withinF 1099511627775 [ts[i]] with
    | true => simp
    | false => simp
theorem right_l (l : List S24) (doc : Int) (ts : List Int) (hts : ts.length ≤ 4294967296) (k : Nat) (hk : ts.length + l.length + 2 < k) : signatorylaw28_right.f k l doc ts = some (rightsB l doc ts) := by
  unfold signatorylaw28_right.f
  have := right_l0 l doc ts hts ts.length k 0 (by omega) (by omega) hk
  simpa using this
theorem ok_of : ∀ (l : List S24) (last : Int), (∀ x ∈ l, last < x.f0) → l.Pairwise (fun a b => a.f0 < b.f0) → (∀ x ∈ l, rightF x = true) → okFrom last l = true
  | [], _, _, _, _ => rfl
  | x :: l, last, h1, h2, h3 => by
    obtain ⟨ha, hb⟩ := List.pairwise_cons.1 h2
    simp only [okFrom, h3 x (by simp), Bool.true_and, Bool.and_eq_true, decide_eq_true_eq]
    exact ⟨h1 x (by simp), ok_of l x.f0 ha hb (fun y hy => h3 y (by simp [hy]))⟩
theorem check_of {l : List S24} (hn : l.length ≤ 4096) (h2 : l.Pairwise (fun a b => a.f0 < b.f0)) (h3 : ∀ x ∈ l, rightF x = true) : checkF l = 0 := by
  unfold checkF
  rw [if_neg (by omega), if_pos (ok_of l (-1) (fun x hx => by have := right_pos (h3 x hx); omega) h2 h3)]
/-- what Add returns is right -/
theorem add_ok {l more : List S24} {x : S24} (h : addF l x = (more, 0)) : more = l.take (place l x.f0) ++ x :: l.drop (place l x.f0) ∧ checkF l = 0 ∧ checkF more = 0 := by
  unfold addF at h
  by_cases h0 : checkF l = 0
  · rw [if_neg (show ¬ checkF l ≠ 0 by simp [h0])] at h
    obtain ⟨hn, hp, hr⟩ := check_ok h0
    by_cases hx : rightF x = false
    · rw [if_pos hx] at h; simp at h
    · rw [if_neg hx] at h
      by_cases hf : found l x.f0 = true
      · rw [if_pos hf] at h; simp at h
      · rw [if_neg hf] at h
        by_cases hl : l.length = 4096
        · rw [if_pos hl] at h; simp at h
        · rw [if_neg hl] at h
          obtain rfl : l.take (place l x.f0) ++ x :: l.drop (place l x.f0) = more := by simpa using h
          have hpl := place_le l x.f0
          have hlo : ∀ y ∈ l.take (place l x.f0), y.f0 < x.f0 := by
            intro y hy
            obtain ⟨i, hi, rfl⟩ := List.getElem_of_mem hy
            rw [List.length_take] at hi
            have := place_lo x.f0 l i (by omega)
            rw [List.getElem_take]
            rwa [List.getD_eq_getElem?_getD, List.getElem?_eq_getElem (by omega)] at this
          have hhi : ∀ y ∈ l.drop (place l x.f0), x.f0 < y.f0 := by
            intro y hy
            obtain ⟨i, hi, rfl⟩ := List.getElem_of_mem hy
            rw [List.length_drop] at hi
            have h1 := place_hi x.f0 l (by omega)
            rw [List.getD_eq_getElem?_getD, List.getElem?_eq_getElem (by omega)] at h1
            simp only [Option.getD_some] at h1
            have h2 : l[place l x.f0].f0 ≠ x.f0 := by
              intro e
              apply hf
              unfold found
              rw [List.getD_eq_getElem?_getD, List.getElem?_eq_getElem (by omega)]
              simp [e]; omega
            rw [List.getElem_drop]
            by_cases hi0 : i = 0
            · subst hi0; simp only [Nat.add_zero]; omega
            · have := List.pairwise_iff_getElem.1 hp (place l x.f0) (place l x.f0 + i) (by omega) (by omega) (by omega)
              omega
          refine ⟨rfl, h0, check_of ?_ ?_ ?_⟩
          · simp; omega
          · refine List.pairwise_append.2 ⟨hp.sublist (List.take_sublist _ _), List.pairwise_cons.2 ⟨hhi, hp.sublist (List.drop_sublist _ _)⟩, fun a ha b hb => ?_⟩
            rcases List.mem_cons.1 hb with rfl | hb
            · exact hlo a ha
            · exact Int.lt_trans (hlo a ha) (hhi b hb)
          · intro y hy
            rcases List.mem_append.1 hy with hy | hy
            · exact hr y (List.mem_of_mem_take hy)
            · rcases List.mem_cons.1 hy with rfl | hy
              · simpa using hx
              · exact hr y (List.mem_of_mem_drop hy)
  · rw [if_pos h0] at h
    simp at h
    exact absurd h.2 h0
theorem filter_more {p : S24 → Bool} (l : List S24) (x : S24) (n : Nat) (hx : p x = false) : (l.take n ++ x :: l.drop n).filter p = l.filter p := by
  rw [List.filter_append, List.filter_cons, if_neg (by simp [hx]), ← List.filter_append, List.take_append_drop]
theorem standing_more {l : List S24} {x : S24} {n : Nat} {doc at_ known : Int} (hx : countsF doc at_ known x = false) : standingF (l.take n ++ x :: l.drop n) doc at_ known = standingF l doc at_ known := by
  unfold standingF
  rw [filter_more l x n hx]
theorem ApprovalsThen (l : List S24) (x : S24) (doc begun think at_ known : Int) (hl : ∀ y ∈ l, WF24 y) (hx : WF24 x) (h1 : (Lit.int .i64 doc).wf = true) (h2 : (Lit.int .i64 begun).wf = true) (h3 : (Lit.int .i64 think).wf = true) (h4 : (Lit.int .i64 at_).wf = true) (h5 : (Lit.int .i64 known).wf = true) :
    ∃ k, signatorylaw28_ApprovalsThen.f k l x.f0 x.f1 x.f2 x.f3 x.f4 x.f5 x.f6 x.f7 doc begun think at_ known = some true := by
  refine ⟨l.length + l.length + 20, ?_⟩
  unfold signatorylaw28_ApprovalsThen.f
  have hs : signatorylaw28_sane.f = some true := rfl
  have ha : approvals_Add.f l x.f0 x.f1 x.f2 x.f3 x.f4 x.f5 x.f6 x.f7 = some (addF l x) := rfl
  rw [hs, right_l l doc [begun, think, at_, known] (by simp) _ (by simp; omega), ha]
  simp only [Option.bind_some, if_true]
  cases hb : rightsB l doc [begun, think, at_, known] with
  | false => rfl
  | true =>
    rw [if_pos rfl]
    have hbb := hb
    unfold rightsB at hb
    simp only [Bool.and_eq_true, List.all_cons, List.all_nil, decide_eq_true_eq, Bool.and_true] at hb
    obtain ⟨⟨w2, w3, w4, w5⟩, hlen, hck, w1⟩ := hb
    have hj : ∀ b : Bool, (b = false → countsF doc at_ known x = false ∧ (addF l x).2 = 0) → signatorylaw28_ApprovalsThen.j0 (l.length + l.length + 20) l doc begun think at_ known (addF l x).1 b = some true := by
      intro b hbx
      simp only [signatorylaw28_ApprovalsThen.j0]
      cases b with
      | true => rfl
      | false =>
        obtain ⟨hcx, he⟩ := hbx rfl
        obtain ⟨hm, _, hcm⟩ := add_ok (show addF l x = ((addF l x).1, 0) by rw [← he])
        have hc1 : ∀ m, approvals_Counting.f m doc begun think at_ known = some (countingF m doc begun think at_ known) := fun _ => rfl
        have hal := add_len l x
        rw [standing_p l doc at_ known _ (by omega), standing_p (addF l x).1 doc at_ known _ (by omega), hc1, hc1]
        have hst : ∀ m, checkF m = 0 → standF m doc at_ known = (standingF m doc at_ known, 0) := by
          intro m h
          unfold standF
          rw [if_neg (show ¬ checkF m ≠ 0 by simp [h]), if_neg (by rw [within_two, w1, w4, w5]; simp)]
        have hco : ∀ m, checkF m = 0 → countingF m doc begun think at_ known = ((standingF m doc at_ known).filter fun y => !(decide (y.f1 < begun) || decide (wrap64 (at_ - y.f1) < think)), 0) := by
          intro m h
          unfold countingF
          rw [if_neg (show ¬ checkF m ≠ 0 by simp [h]), if_neg (by rw [within_four, w1, w2, w3, w4, w5]; simp)]
        have hse : standingF (addF l x).1 doc at_ known = standingF l doc at_ known := by rw [hm]; exact standing_more hcx
        simp only [Bool.false_eq_true, if_false, Option.bind_some, hst l hck, hst _ hcm, hco l hck, hco _ hcm, hse, if_true]
        have hle := stand_len l doc at_ known
        rw [same_r _ (by omega) _ (by omega), same_r _ (Nat.le_trans (List.length_filter_le _ _) (by omega)) _ (Nat.lt_of_le_of_lt (List.length_filter_le _ _) (by omega))]
        simp
    by_cases he : (addF l x).2 = 0
    · rw [if_pos he]
      by_cases hk : x.f2 ≤ known
      · rw [if_pos hk]
        by_cases hat : x.f1 ≤ at_
        · rw [if_pos hat]
          refine hj _ fun h => ⟨?_, he⟩
          unfold countsF
          simp at h
          simp [h]
        · rw [if_neg hat]
          exact hj _ fun _ => ⟨by unfold countsF; simp [hat], he⟩
      · rw [if_neg hk]
        exact hj _ fun _ => ⟨by unfold countsF; simp [hk], he⟩
    · rw [if_neg he]
      exact hj _ fun h => by cases h
end Go.Proofs.Ytcpheagandpacaa.T
