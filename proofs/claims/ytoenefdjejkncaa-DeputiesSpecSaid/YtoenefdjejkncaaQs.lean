/-
A region inside a fence that draws its order, and is cut into parts: each part reads, and ends in one operation that all before it lead to and all behind it wait for. One walk in the order of the text serves every order. No condition beyond the premises.
-/
import Derived.Sort.QuietIn
import Derived.StillTail
import Derived.TacticsIn
import Derived.KernelRfl
namespace Go.Proofs.Ytoenefdjejkncaa.W
open Go
set_option linter.unusedVariables false
namespace Qs
section
variable {F : Fence} {n : Nat} {P : Program} {ops : Array Oper} {md : Region.Mode} {C : World → Prop}
/-- what is listed when the first k operations are over -/
def lis (m : Nat) : Nat → Array Bool
  | 0 => Array.replicate m false
  | k + 1 => (lis m k).setIfInBounds k true
theorem lis_size (m : Nat) : ∀ k, (lis m k).size = m
  | 0 => by simp [lis]
  | k + 1 => by simp [lis, lis_size m k]
theorem lis_tail (m : Nat) : ∀ k t, k ≤ t → t < m → (lis m k).getD t true = false
  | 0, t, _, ht => getD_in (by simpa [lis] using ht) (getD_replicate_false _ _)
  | k + 1, t, hk, ht => by
    simp only [lis]
    rw [getD_set_ne true (by omega)]
    exact lis_tail m k t (by omega) ht
/-- all operations behind number N lead back to it or to one behind it -/
def descB (md : Region.Mode) (ops : Array Oper) (N : Nat) : Bool :=
  (List.range ops.size).all fun t => decide (t ≤ N) || (List.range t).any fun j => decide (N ≤ j) && Region.waitsFor md ops t j
/-- what is not listed and what it waits for -/
structure Inv (md : Region.Mode) (ops : Array Oper) (N : Nat) (listed : Array Bool) : Prop where
  size : listed.size = ops.size
  closed : ∀ j oj, ops[j]? = some oj → listed.getD j false = true → ∀ e ∈ oj.after, Region.binds md e = true → listed.getD e.on false = true
  tail : ∀ t, N ≤ t → t < ops.size → listed.getD t true = false
theorem Inv.set {N i : Nat} {listed : Array Bool} (inv : Inv md ops N listed) (hi : i ∈ Region.ready md ops listed) (hin : i < N) : Inv md ops N (listed.setIfInBounds i true) := by
  obtain ⟨_, oi, hoi, hall⟩ := mem_ready.1 hi
  refine ⟨by simp [inv.size], fun j oj hj hl e he hb => ?_, fun t ht ht' => by rw [getD_set_ne true (by omega)]; exact inv.tail t ht ht'⟩
  by_cases hij : i = j
  · subst hij
    have : oj = oi := Option.some.inj (hj.symm.trans hoi)
    subst this
    exact getD_set_true (hall e he hb)
  · rw [getD_set_ne false hij] at hl
    exact getD_set_true (inv.closed j oj hj hl e he hb)
theorem waits {N : Nat} {listed : Array Bool} (hs : Region.sinkB md ops N = true) (hc : descB md ops N = true) (inv : Inv md ops N listed) :
    ∀ (d i : Nat), N - i = d → i < N → listed.getD i true = false → ∀ t, N ≤ t → t ∉ Region.ready md ops listed := by
  intro d
  induction d using Nat.strongRecOn with
  | _ d ih =>
    intro i hd hi hun t ht hr
    obtain ⟨_, ot, hot, hall⟩ := mem_ready.1 hr
    have htlt : t < ops.size := (Array.getElem?_eq_some_iff.1 hot).1
    by_cases htn : t = N
    · subst htn
      obtain ⟨j, hj, hj2⟩ := List.any_eq_true.1 (List.all_eq_true.1 hs i (List.mem_range.2 hi))
      simp only [Bool.and_eq_true, decide_eq_true_eq] at hj2
      obtain ⟨oj, hoj, e, he, hb, hon⟩ := Region.waitsFor_spec hj2.2
      have hjle : j ≤ t := by have := List.mem_range.1 hj; omega
      by_cases hjt : j = t
      · subst hjt
        have : oj = ot := Option.some.inj (hoj.symm.trans hot)
        subst this
        have h2 := hall e he hb
        rw [hon, getD_both hun] at h2
        cases h2
      · cases hl : listed.getD j false with
        | true =>
          have h2 := inv.closed j oj hoj hl e he hb
          rw [hon, getD_both hun] at h2
          cases h2
        | false =>
          have hjs : j < listed.size := by rw [inv.size]; omega
          exact ih (t - j) (by omega) j rfl (by omega) (getD_in hjs hl) t (Nat.le_refl _) hr
    · have h1 := List.all_eq_true.1 hc t (List.mem_range.2 htlt)
      simp only [Bool.or_eq_true, decide_eq_true_eq] at h1
      rcases h1 with h1 | h1
      · omega
      · obtain ⟨j, hj, hj2⟩ := List.any_eq_true.1 h1
        have hjt := List.mem_range.1 hj
        simp only [Bool.and_eq_true, decide_eq_true_eq] at hj2
        obtain ⟨o', ho', e, he, hb, hon⟩ := Region.waitsFor_spec hj2.2
        have : o' = ot := Option.some.inj (ho'.symm.trans hot)
        subst this
        have h2 := hall e he hb
        rw [hon, getD_both (inv.tail j hj2.1 (by omega))] at h2
        cases h2
/-- the operations from where we are to number N, in whatever order -/
def HeadIn (F : Fence) (n : Nat) (P : Program) (md : Region.Mode) (ops : Array Oper) (C : World → Prop) (N : Nat) (L : Array Bool → Act → Prop) : Nat → Array Bool → Act → Prop
  | 0, listed, a => L listed a
  | f + 1, listed, a => Region.ready md ops listed ≠ [] ∧ ∀ i ∈ Region.ready md ops listed, i < N ∧ qOpIn F n P ops C i (HeadIn F n P md ops C N L f (listed.setIfInBounds i true)) a
theorem any_of_head {N g : Nat} {L : Array Bool → Act → Prop} {Q' : Exit → Act → World → Prop} (hro : F.round = none) (hL : ∀ listed a w, C w → L listed a → wpAnyIn F n P md ops Q' g listed a w) :
    ∀ (f : Nat) (listed : Array Bool) (a : Act) (w : World), C w → HeadIn F n P md ops C N L f listed a → wpAnyIn F n P md ops Q' (f + g) listed a w
  | 0, listed, a, w, hw, h => by rw [Nat.zero_add]; exact hL _ _ _ hw h
  | f + 1, listed, a, w, hw, h => by
    rw [show f + 1 + g = (f + g) + 1 by omega]
    exact ⟨fun h0 => absurd h0 h.1, fun i hi => wpOpIn_of_qOpIn hro hw (fun a' w' hw' h' => any_of_head hro hL f _ a' w' hw' h') (h.2 i hi).2⟩
theorem head_first {N i : Nat} {oi : Oper} {v : Value} {L : Array Bool → Act → Prop} (hi : ops[i]? = some oi) (hsel : ∀ (j : Nat) (o : Oper) cs b, ops[j]? = some o → o.op ≠ .select cs b)
    (hs : Region.sinkB md ops N = true) (hc : descB md ops N = true) (hin : i < N)
    (hdone : ∀ listed a, L listed a → ∀ j ∈ Region.ready md ops listed, N ≤ j) :
    ∀ (f : Nat) (listed : Array Bool) (a : Act), Inv md ops N listed →
      (∀ j oj, ops[j]? = some oj → j ≠ i → listed.getD j true = false → (∀ e ∈ oj.after, Region.binds md e = true → e.on ≠ i) → oi.apart ops oj = true) →
      i ∈ Region.ready md ops listed → YieldsQuiet F n P ops C oi v a →
      HeadIn F n P md ops C N L f (listed.setIfInBounds i true) (a.put oi.dst v) → HeadIn F n P md ops C N L (f + 1) listed a := by
  intro f
  induction f with
  | zero =>
    intro listed a inv _ hr hy H
    refine ⟨fun h => (by rw [h] at hr; cases hr), fun j hj => ?_⟩
    have hjn : j < N := Nat.lt_of_not_le fun h => waits hs hc inv _ i rfl hin (mem_ready.1 hr).1 j h hj
    refine ⟨hjn, ?_⟩
    by_cases hji : j = i
    · subst hji; exact hy.qOpIn hi H
    · have := hdone _ _ H j (ready_mono hj hji)
      omega
  | succ f ih =>
    intro listed a inv hfree hr hy H
    have hun := (mem_ready.1 hr).1
    refine ⟨fun h => (by rw [h] at hr; cases hr), fun j hj => ?_⟩
    have hjn : j < N := Nat.lt_of_not_le fun h => waits hs hc inv _ i rfl hin hun j h hj
    refine ⟨hjn, ?_⟩
    by_cases hji : j = i
    · subst hji; exact hy.qOpIn hi H
    · have h1 := (H.2 j (ready_mono hj hji)).2
      obtain ⟨hjun, oj, hoj, hall⟩ := mem_ready.1 hj
      have hnot : ∀ e ∈ oj.after, Region.binds md e = true → e.on ≠ i := fun e he hb heq => by
        have h3 := hall e he hb
        rw [heq, getD_both hun] at h3
        cases h3
      have h2 := qOpIn_put hoj (hfree j oj hoj hji hjun hnot) (fun cs b => hsel i oi cs b hi) (fun cs b => hsel j oj cs b hoj) hy h1
      refine qOpIn_mono (fun a' h3 => ih (listed.setIfInBounds j true) a' (inv.set hj hjn) (fun k ok hk hki hk1 hno => ?_) (ready_mono hr (Ne.symm hji)) h3.1 ?_) h2
      · refine hfree k ok hk hki ?_ hno
        by_cases hjk : j = k
        · subst hjk; exact hjun
        · rw [getD_set_ne true hjk] at hk1; exact hk1
      · rw [Array.setIfInBounds_comm _ _ hji]
        exact h3.2
/-- from number k on, f operations may come up in the order of the text, each free of all that does not wait for it -/
def freeB (md : Region.Mode) (ops : Array Oper) (m : Nat) : Nat → Nat → Bool
  | 0, _ => true
  | f + 1, k => (Region.ready md ops (lis m k)).contains k && Region.free md ops (lis m k) k && freeB md ops m f (k + 1)
theorem head_lex {N : Nat} {Lq : Act → Prop} (hsel : Region.noSelect ops = true) (hs : Region.sinkB md ops N = true) (hc : descB md ops N = true) (hrd : ∀ j ∈ Region.ready md ops (lis ops.size N), N ≤ j) :
    ∀ (l : List Oper) (k : Nat) (a : Act), (∀ j, j < l.length → l[j]? = ops[k + j]?) → k + l.length = N → Inv md ops N (lis ops.size k) →
    freeB md ops ops.size l.length k = true → wpQuietIn F n P ops C Lq l a →
    HeadIn F n P md ops C N (fun listed' a' => listed' = lis ops.size N ∧ Lq a') l.length (lis ops.size k) a
  | [], k, a, _, hk, _, hB, h => by
    obtain rfl : k = N := by simpa using hk
    exact ⟨rfl, h⟩
  | o :: l, k, a, hl, hk, inv, hB, h => by
    have h0 : ops[k]? = some o := by simpa using (hl 0 (by simp)).symm
    simp only [List.length_cons, freeB, Bool.and_eq_true] at hB
    obtain ⟨⟨hr, hf⟩, hB'⟩ := hB
    have hkn : k < N := by simp only [List.length_cons] at hk; omega
    have hr' : k ∈ Region.ready md ops (lis ops.size k) := by simpa using hr
    have hst : qOpIn F n P ops C k (wpQuietIn F n P ops C Lq l) a := by unfold qOpIn; simp only [h0]; exact h
    obtain ⟨v, hy, hK⟩ := yieldsQuiet_of_qOpIn h0 hst
    exact head_first h0 (Region.noSelect_spec hsel) hs hc hkn (fun listed' a' hL => by rw [hL.1]; exact hrd) l.length (lis ops.size k) a inv (Region.free_spec h0 hf) hr' hy
      (head_lex hsel hs hc hrd l (k + 1) _ (fun j hj => by have := hl (j + 1) (by simp; omega); simpa [Nat.add_assoc, Nat.add_comm 1 j] using this) (by simp only [List.length_cons] at hk; omega) (inv.set hr' hkn) hB' hK)
/-- the last part: reads to the end -/
def LastB (md : Region.Mode) (ops : Array Oper) (k : Nat) : Bool := Region.noSelect ops && Region.lexFrom md ops (ops.size - k) k (lis ops.size k)
theorem any_last {k : Nat} {Q : Exit → Act → World → Prop} {a : Act} {w : World} (hro : F.round = none) (hk : k ≤ ops.size) (hB : LastB md ops k = true)
    (h : wpQuietIn F n P ops (fun w' => ∃ n, w' = w.drewN n) (fun a' => ∀ w', (∃ n, w' = w.drewN n) → Q .normal a' w') (ops.toList.drop k) a) (w1 : World) (hw : ∃ n, w1 = w.drewN n) :
    wpAnyIn F n P md ops Q (ops.size - k) (lis ops.size k) a w1 := by
  simp only [LastB, Bool.and_eq_true] at hB
  have hlen : (ops.toList.drop k).length = ops.size - k := by simp
  have := wpAnyQIn_lex (F := F) (n := n) (P := P) (C := fun w' => ∃ n, w' = w.drewN n) (Q := fun a' => ∀ w', (∃ n, w' = w.drewN n) → Q .normal a' w') (md := md) hB.1 (ops.toList.drop k) k (lis ops.size k) a (fun j => by simp [List.getElem?_drop]) (by rw [hlen]; exact hB.2) h
  rw [hlen] at this
  exact wpAnyIn_of_quiet (Q := fun a' => ∀ w', (∃ n, w' = w.drewN n) → Q .normal a' w') hro (fun _ w' hw' h => h w' hw') _ _ _ _ hw this
/-- a part: reads from number k on, then operation N -/
def PartB (md : Region.Mode) (ops : Array Oper) (k N : Nat) : Bool :=
  Region.noSelect ops && decide (k ≤ N) && decide (N < ops.size) && Region.sinkB md ops N && descB md ops N && decide (Region.ready md ops (lis ops.size N) = [N]) && freeB md ops ops.size (N - k) k
theorem any_part {k N : Nat} {Q : Exit → Act → World → Prop} {a : Act} {w : World} (hro : F.round = none) (hB : PartB md ops k N = true) (hinv : ∀ j oj, ops[j]? = some oj → (lis ops.size k).getD j false = true → ∀ e ∈ oj.after, Region.binds md e = true → (lis ops.size k).getD e.on false = true)
    (K : Act → World → Prop) (hK : ∀ a' w', K a' w' → wpAnyIn F n P md ops Q (ops.size - (N + 1)) (lis ops.size (N + 1)) a' w')
    (h : wpQuietIn F n P ops (fun w' => ∃ n, w' = w.drewN n) (fun a' => ∀ w', (∃ n, w' = w.drewN n) → wpOpIn F n P ops Q N K a' w') ((ops.toList.drop k).take (N - k)) a) (w1 : World) (hw : ∃ n, w1 = w.drewN n) :
    wpAnyIn F n P md ops Q (ops.size - k) (lis ops.size k) a w1 := by
  simp only [PartB, Bool.and_eq_true, decide_eq_true_eq] at hB
  obtain ⟨⟨⟨⟨⟨⟨hsel, hkN⟩, hN⟩, hs⟩, hc⟩, hrd⟩, hf⟩ := hB
  have hlen : ((ops.toList.drop k).take (N - k)).length = N - k := by simp; omega
  have inv : Inv md ops N (lis ops.size k) := ⟨lis_size _ _, hinv, fun t ht ht' => lis_tail _ _ _ (by omega) ht'⟩
  have H := head_lex (F := F) (n := n) (P := P) (C := fun w' => ∃ n, w' = w.drewN n) (md := md) hsel hs hc (fun j hj => by rw [hrd] at hj; simp at hj; omega) ((ops.toList.drop k).take (N - k)) k a
    (fun j hj => by rw [hlen] at hj; simp [List.getElem?_drop, hj]) (by rw [hlen]; omega) inv (by rw [hlen]; exact hf) h
  have := any_of_head (Q' := Q) (g := ops.size - N) hro (fun listed a' w' hw' hL => by
    obtain ⟨rfl, hq⟩ := hL
    rw [show ops.size - N = ops.size - (N + 1) + 1 by omega]
    refine ⟨fun h1 => (by rw [hrd] at h1; cases h1), fun i hi => ?_⟩
    rw [hrd] at hi
    obtain rfl : i = N := by simpa using hi
    exact wpOpIn_mono (fun a'' w'' hk => hK a'' w'' hk) (hq w' hw')) _ _ _ _ hw H
  rw [hlen, show N - k + (ops.size - N) = ops.size - k by omega] at this
  exact this
/-- is all listed that a listed one waits for? -/
def closedB (md : Region.Mode) (ops : Array Oper) (k : Nat) : Bool :=
  (List.range ops.size).all fun j => !(lis ops.size k).getD j false || match ops[j]? with | none => true | some oj => oj.after.all fun e => !Region.binds md e || (lis ops.size k).getD e.on false
theorem closed_of {k : Nat} (h : closedB md ops k = true) : ∀ j oj, ops[j]? = some oj → (lis ops.size k).getD j false = true → ∀ e ∈ oj.after, Region.binds md e = true → (lis ops.size k).getD e.on false = true := by
  intro j oj hj hl e he hb
  have hjs : j < ops.size := (Array.getElem?_eq_some_iff.1 hj).1
  have h1 := List.all_eq_true.1 h j (List.mem_range.2 hjs)
  rw [hl, hj] at h1
  simp only [Bool.not_true, Bool.false_or] at h1
  have h2 := Array.all_eq_true'.1 h1 e he
  rw [hb] at h2
  simpa using h2
/-- **The parts, one behind the other.** -/
theorem region_start {id : Nat} {Q : Exit → Act → World → Prop} {a : Act} {w : World} {l : List Oper} (hm : P.follows .mixedOrders = true)
    (h : wpAnyIn F n P .any l.toArray Q (l.toArray.size - 0) (lis l.toArray.size 0) a w.drew) : (Code.region id l.toArray true).wpIn F n P Q a w :=
  wpIn_region_any hm h
/-- the operation that ends a part -/
theorem op_step {Q : Exit → Act → World → Prop} {N : Nat} {o : Oper} {K : Act → World → Prop} {a : Act} {w : World} (h0 : ops[N]? = some o) (hw : Region.wanted o (yielded ops a.tmps) = true)
    (h : ∀ K' : Act → World → Prop, (∀ a w, K a w → K' a w) → o.wpIn F n P a w K' Q) : wpOpIn F n P ops Q N K a w := by
  unfold wpOpIn
  simp only [h0, hw, if_true]
  exact h K (fun _ _ h => h)
end
end Qs
end Go.Proofs.Ytoenefdjejkncaa.W
