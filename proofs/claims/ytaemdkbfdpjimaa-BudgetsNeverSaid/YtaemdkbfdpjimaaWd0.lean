/-
A region inside a fence that draws its order, reads, and ends in one call: one walk in the order of the text serves every order. No condition beyond the premises.
The iterator of used of the package budgets, by a walk: it yields the values of the uses that count. Condition: its boxes and the row are read.
-/
import Derived.Sort.QuietIn
import Derived.StillTail
import Derived.TacticsIn
import Derived.KernelRfl
import Derived.Test.YtaemdkbfdpjimaaIt
import Derived.Test.YtaemdkbfdpjimaaS
import Derived.Shelf.RegionOpen
import Derived.Outline
namespace Go.Proofs.Ytaemdkbfdpjimaa.W
open Go
set_option linter.unusedVariables false
section
variable {F : Fence} {n : Nat} {P : Program} {ops : Array Oper} {md : Region.Mode} {C : World → Prop}
/-- the operations ahead of number N, in whatever order -/
def HeadIn (F : Fence) (n : Nat) (P : Program) (md : Region.Mode) (ops : Array Oper) (C : World → Prop) (N : Nat) (L : Array Bool → Act → Prop) : Nat → Array Bool → Act → Prop
  | 0, listed, a => L listed a
  | f + 1, listed, a => Region.ready md ops listed ≠ [] ∧ ∀ i ∈ Region.ready md ops listed, i < N ∧ qOpIn F n P ops C i (HeadIn F n P md ops C N L f (listed.setIfInBounds i true)) a
theorem any_of_head {N g : Nat} {L : Array Bool → Act → Prop} {Q' : Exit → Act → World → Prop} (hro : F.round = none) (hL : ∀ listed a w, C w → L listed a → wpAnyIn F n P md ops Q' g listed a w) :
    ∀ (f : Nat) (listed : Array Bool) (a : Act) (w : World), C w → HeadIn F n P md ops C N L f listed a → wpAnyIn F n P md ops Q' (f + g) listed a w
  | 0, listed, a, w, hw, h => by rw [Nat.zero_add]; exact hL _ _ _ hw h
  | f + 1, listed, a, w, hw, h => by
    rw [show f + 1 + g = (f + g) + 1 by omega]
    exact ⟨fun h0 => absurd h0 h.1, fun i hi => wpOpIn_of_qOpIn hro hw (fun a' w' hw' h' => any_of_head hro hL f _ a' w' hw' h') (h.2 i hi).2⟩
theorem head_first {N i : Nat} {oi : Oper} {v : Value} {L : Array Bool → Act → Prop} (hi : ops[i]? = some oi) (hsel : ∀ (j : Nat) (o : Oper) cs b, ops[j]? = some o → o.op ≠ .select cs b)
    (hs : Region.sinkB md ops N = true) (hc : Region.chainB md ops N = true) (hn : N < ops.size) (hin : i < N)
    (hdone : ∀ listed a, L listed a → ∀ j ∈ Region.ready md ops listed, N ≤ j) :
    ∀ (f : Nat) (listed : Array Bool) (a : Act), HeadInv md ops N listed →
      (∀ j oj, ops[j]? = some oj → j ≠ i → listed.getD j true = false → (∀ e ∈ oj.after, Region.binds md e = true → e.on ≠ i) → oi.apart ops oj = true) →
      i ∈ Region.ready md ops listed → YieldsQuiet F n P ops C oi v a →
      HeadIn F n P md ops C N L f (listed.setIfInBounds i true) (a.put oi.dst v) → HeadIn F n P md ops C N L (f + 1) listed a := by
  intro f
  induction f with
  | zero =>
    intro listed a inv _ hr hy H
    refine ⟨fun h => (by rw [h] at hr; cases hr), fun j hj => ?_⟩
    have hjn : j < N := Nat.lt_of_not_le fun h => tail_waits hs hc hn inv _ i rfl hin (mem_ready.1 hr).1 j h hj
    refine ⟨hjn, ?_⟩
    by_cases hji : j = i
    · subst hji; exact hy.qOpIn hi H
    · have := hdone _ _ H j (ready_mono hj hji)
      omega
  | succ f ih =>
    intro listed a inv hfree hr hy H
    have hun := (mem_ready.1 hr).1
    refine ⟨fun h => (by rw [h] at hr; cases hr), fun j hj => ?_⟩
    have hjn : j < N := Nat.lt_of_not_le fun h => tail_waits hs hc hn inv _ i rfl hin hun j h hj
    refine ⟨hjn, ?_⟩
    by_cases hji : j = i
    · subst hji; exact hy.qOpIn hi H
    · have h1 := (H.2 j (ready_mono hj hji)).2
      obtain ⟨hjun, oj, hoj, hall⟩ := mem_ready.1 hj
      have hnot : ∀ e ∈ oj.after, Region.binds md e = true → e.on ≠ i := fun e he hb heq => by
        have h3 := hall e he hb
        rw [heq, getD_both hun] at h3
        cases h3
      have h2 := qOpIn_put hoj (hfree j oj hoj hji hjun hnot) (fun cs b => hsel i oi cs b hi) (fun cs b => hsel j oj cs b hoj) hy h1
      refine qOpIn_mono (fun a' h3 => ih (listed.setIfInBounds j true) a' (inv.set hj hjn) (fun k ok hk hki hk1 hno => ?_) (ready_mono hr (Ne.symm hji)) h3.1 ?_) h2
      · refine hfree k ok hk hki ?_ hno
        by_cases hjk : j = k
        · subst hjk; exact hjun
        · rw [getD_set_ne true hjk] at hk1; exact hk1
      · rw [Array.setIfInBounds_comm _ _ hji]
        exact h3.2
theorem any_of_seq {Q' : Exit → Act → World → Prop} : ∀ (l : List Oper) (k : Nat) (listed : Array Bool) (a : Act) (w : World), (∀ j, l[j]? = ops[k + j]?) →
    Region.seqB md ops l.length k listed = true → wpListIn F n P ops Q' l a w → wpAnyIn F n P md ops Q' l.length listed a w
  | [], _, _, _, _, _, hB, h => ⟨by simpa [Region.seqB] using hB, h⟩
  | o :: l, k, listed, a, w, hl, hB, h => by
    have h0 : ops[k]? = some o := by simpa using (hl 0).symm
    simp only [List.length_cons, Region.seqB, Bool.and_eq_true, decide_eq_true_eq] at hB
    refine ⟨fun h1 => (by rw [hB.1] at h1; cases h1), fun i hi => ?_⟩
    rw [hB.1] at hi
    obtain rfl : i = k := by simpa using hi
    have hw : wpOpIn F n P ops Q' i (wpListIn F n P ops Q' l) a w := by unfold wpOpIn; simp only [h0]; exact h
    exact wpOpIn_mono (fun a' w' h' => any_of_seq l (i + 1) _ a' w' (fun j => by have := hl (j + 1); simpa [Nat.add_assoc, Nat.add_comm 1 j] using this) hB.2 h') hw
theorem head_lex {N g : Nat} {Lq : Act → Prop} (hsel : Region.noSelect ops = true) (hs : Region.sinkB md ops N = true) (hc : Region.chainB md ops N = true) (hn : N < ops.size) :
    ∀ (l : List Oper) (k : Nat) (listed : Array Bool) (a : Act), (∀ j, j < l.length → l[j]? = ops[k + j]?) → k + l.length = N → HeadInv md ops N listed →
    Region.lexHead md ops g l.length k listed = true → wpQuietIn F n P ops C Lq l a →
    HeadIn F n P md ops C N (fun listed' a' => Region.seqB md ops g N listed' = true ∧ Lq a') l.length listed a
  | [], k, listed, a, _, hk, _, hB, h => by
    obtain rfl : k = N := by simpa using hk
    exact ⟨by simpa [Region.lexHead] using hB, h⟩
  | o :: l, k, listed, a, hl, hk, inv, hB, h => by
    have h0 : ops[k]? = some o := by simpa using (hl 0 (by simp)).symm
    simp only [List.length_cons, Region.lexHead, Bool.and_eq_true] at hB
    obtain ⟨⟨hr, hf⟩, hB'⟩ := hB
    have hkn : k < N := by simp only [List.length_cons] at hk; omega
    have hr' : k ∈ Region.ready md ops listed := by simpa using hr
    have hst : qOpIn F n P ops C k (wpQuietIn F n P ops C Lq l) a := by unfold qOpIn; simp only [h0]; exact h
    obtain ⟨v, hy, hK⟩ := yieldsQuiet_of_qOpIn h0 hst
    exact head_first h0 (Region.noSelect_spec hsel) hs hc hn hkn (fun listed' a' hL => seqB_ready hL.1) l.length listed a inv (Region.free_spec h0 hf) hr' hy
      (head_lex hsel hs hc hn l (k + 1) _ _ (fun j hj => by have := hl (j + 1) (by simp; omega); simpa [Nat.add_assoc, Nat.add_comm 1 j] using this) (by simp only [List.length_cons] at hk; omega) (inv.set hr' hkn) hB' hK)
/-- reads, then one call (number N), then what waits for it -/
theorem region_tail {id : Nat} {Q : Exit → Act → World → Prop} {a : Act} {w : World} {l : List Oper} (N : Nat) (hro : F.round = none) (hm : P.follows .mixedOrders = true) (hB : Region.lexTailB .any l.toArray N = true)
    (h : wpQuietIn F n P l.toArray (fun w' => ∃ n, w' = w.drewN n) (fun a' => ∀ w', (∃ n, w' = w.drewN n) → wpListIn F n P l.toArray Q (l.drop N) a' w') (l.take N) a) : (Code.region id l.toArray true).wpIn F n P Q a w := by
  simp only [Region.lexTailB, Bool.and_eq_true, decide_eq_true_eq] at hB
  obtain ⟨⟨⟨⟨hsel, hn⟩, hs⟩, hc⟩, hlex⟩ := hB
  have hn' : N < l.length := by simpa using hn
  have htl : (l.take N).length = N := by simp; omega
  have hdl : (l.drop N).length = l.toArray.size - N := by simp
  have inv0 : HeadInv .any l.toArray N (Array.replicate l.toArray.size false) :=
    ⟨by simp, fun j oj _ hl => (by rw [getD_replicate_false] at hl; cases hl), fun t _ ht => getD_in (by simpa using ht) (getD_replicate_false _ _)⟩
  have H := head_lex (F := F) (n := n) (P := P) (C := fun w' => ∃ n, w' = w.drewN n) (md := .any) (g := l.toArray.size - N) hsel hs hc hn (l.take N) 0 _ a (fun j hj => by
    have hj' : j < N := by rw [htl] at hj; exact hj
    simp [hj']) (by simpa using htl) inv0 (by rw [htl]; exact hlex) h
  refine wpIn_region_any hm ?_
  have := any_of_head (Q' := Q) (g := l.toArray.size - N) hro (fun listed a' w' hw' hL => by
    have := any_of_seq (md := .any) (Q' := Q) (l.drop N) N listed a' w' (fun j => by simp [List.getElem?_drop]) (by rw [hdl]; exact hL.1) (hL.2 w' hw')
    rwa [hdl] at this) _ _ _ { w with drawn := w.drawn + 1 } ⟨1, rfl⟩ H
  rw [htl, show N + (l.toArray.size - N) = l.toArray.size by omega] at this
  exact this
end
end Go.Proofs.Ytaemdkbfdpjimaa.W

namespace Go.Proofs.Ytaemdkbfdpjimaa.W
open Go.RowKit Go.Proofs.YtaemdkbfdpjimaaW.PrintWords Go.Proofs.YtaemdkbfdpjimaaW.PrintLast Go.Proofs.YtaemdkbfdpjimaaW.PrintMore Go.Proofs.Ytaemdkbfdpjimaa.P
open S (usedF)
set_option linter.unusedVariables false
attribute [local go_sem] Oper.semAt_some
namespace Rm
theorem asked_wide {P : Program} {o : Oper} {a : Act} {C : World → Prop} : Oper.askedIn Fence.wide P o a C = True := eq_true (fun _ _ _ _ => trivial)
attribute [local go_sem ↓] asked_wide
theorem at_49 {w : World} {A : Option Addr} {n : Nat} {xs : List S49} (h : Kd.C k49 w A n xs) (k : Nat) (hk : k < n) :
    ∃ ad, A = some ad ∧ w.cell? (ad.add (k * 5)) = some (.int .i64 (xs.getD k z49).f0) ∧ w.cell? ⟨(ad.add (k * 5)).block, (ad.add (k * 5)).off + 1, none⟩ = some (.int .i64 (xs.getD k z49).f1) ∧ w.cell? ⟨(ad.add (k * 5)).block, (ad.add (k * 5)).off + 2, none⟩ = some (.int .i64 (xs.getD k z49).f2) ∧ w.cell? ⟨(ad.add (k * 5)).block, (ad.add (k * 5)).off + 3, none⟩ = some (.int .i64 (xs.getD k z49).f3) ∧ w.cell? ⟨(ad.add (k * 5)).block, (ad.add (k * 5)).off + 4, none⟩ = some (.int .i64 (xs.getD k z49).f4) := by
  have := at_T49 h (k : Int) (by omega) (by omega)
  simpa [rd_T49] using this
theorem C_keep49 {K : Nat → Prop} {W W' : World} {A : Option Addr} {n : Nat} {l : List S49} (h : Kd.C k49 W A n l) (hk : Keep K W W') (hA : ∀ ad, A = some ad → 0 < n → K ad.block) : Kd.C k49 W' A n l := by
  obtain ⟨h1, h2, h3⟩ := h
  refine ⟨h1, h2, fun hn => ?_⟩
  obtain ⟨ad, e, hc⟩ := h3 hn
  refine ⟨ad, e, fun j p hj => ?_⟩
  obtain ⟨c, hl, hK, hcell⟩ := hc j p hj
  have hcs := k49_open hK
  refine ⟨c, hl, by rw [hcs]; exact k49_mk W' p, fun i u hu => ?_⟩
  have hb : ∀ q, (ad.add q).block = ad.block := fun q => by unfold Addr.add; split <;> rfl
  exact (World.cell?_of_block (w := W) (by rw [hb]; exact hk _ (hA ad e hn))).trans (hcell i u hu)
theorem row_lt {w : World} {ad : Addr} {l : List S49} (hr : Kd.C k49 w (some ad) l.length l) (hl : 0 < l.length) : ad.block < w.heap.size := by
  obtain ⟨ad', e, h⟩ := at_49 hr 0 hl
  cases e
  have := World.block_lt_of_cell? _ _ h.1
  unfold Addr.add at this
  split at this <;> exact this
theorem one_cell {W : World} {b : Nat} {v : Value} {t : TypeId} (h : W.heap[b]? = some (.cells #[v] t (0, 0))) : W.cell? ⟨b, 0, none⟩ = some v := by simp [World.cell?, h]
def bc (b : S24) : Array Value := #[.int .i64 b.f0, .int .i64 b.f1, .int .i64 b.f2, .int .i64 b.f3, .int .i64 b.f4, .int .i64 b.f5, .int .i64 b.f6, .bool b.f7]
/-- what the iterator's boxes hold -/
structure Boxes (W : World) (b0 b1 b2 b3 : Nat) (b : S24) (A : Option Addr) (n c : Nat) (at_ known : Int) : Prop where
  h0 : W.heap[b0]? = some (.cells (bc b) 24 (0, 0))
  h1 : W.heap[b1]? = some (.cells #[.slice A n c] 33 (0, 0))
  h2 : W.heap[b2]? = some (.cells #[.int .i64 at_] 3 (0, 0))
  h3 : W.heap[b3]? = some (.cells #[.int .i64 known] 3 (0, 0))
def InK (b0 b1 b2 b3 : Nat) (A : Option Addr) (n : Nat) (k : Nat) : Prop := k = b0 ∨ k = b1 ∨ k = b2 ∨ k = b3 ∨ ∃ ad, A = some ad ∧ 0 < n ∧ k = ad.block
theorem Boxes.keep {W W' : World} {b0 b1 b2 b3 n c : Nat} {b : S24} {A : Option Addr} {at_ known : Int} (h : Boxes W b0 b1 b2 b3 b A n c at_ known) (hk : Keep (InK b0 b1 b2 b3 A n) W W') : Boxes W' b0 b1 b2 b3 b A n c at_ known :=
  ⟨(hk _ (.inl rfl)).trans h.h0, (hk _ (.inr (.inl rfl))).trans h.h1, (hk _ (.inr (.inr (.inl rfl)))).trans h.h2, (hk _ (.inr (.inr (.inr (.inl rfl))))).trans h.h3⟩
theorem ink_lt {W0 : World} {b0 b1 b2 b3 : Nat} {b : S24} {A : Option Addr} {c : Nat} {l : List S49} {at_ known : Int} (hB : Boxes W0 b0 b1 b2 b3 b A l.length c at_ known) (hr : Kd.C k49 W0 A l.length l) (k : Nat) (hk : InK b0 b1 b2 b3 A l.length k) : k < W0.heap.size := by
  rcases hk with rfl | rfl | rfl | rfl | ⟨ad, rfl, hl, rfl⟩
  · exact (Array.getElem?_eq_some_iff.1 hB.h0).1
  · exact (Array.getElem?_eq_some_iff.1 hB.h1).1
  · exact (Array.getElem?_eq_some_iff.1 hB.h2).1
  · exact (Array.getElem?_eq_some_iff.1 hB.h3).1
  · exact row_lt hr hl
theorem grown_none {w w' : World} (hb : Below w.heap.size w w') : w.grownBy w' none := ⟨hb.os, hb.tape, hb.output, hb.size, fun k hk _ => hb.block k hk⟩
/-- the uses, each with the proof that it is one of them -/
abbrev Us (u : List S49) := { x : S49 // x ∈ u }
def enc {u : List S49} (x : Us u) : Array Value := #[.int .i64 x.1.f2]
def upto {u : List S49} (p : S49 → Bool) (k : Nat) : List (Us u) := (u.attach.take k).filter fun x => p x.1
theorem upto_succ {u : List S49} (p : S49 → Bool) (k : Nat) (h : k < u.length) : upto (u := u) p (k + 1) = upto p k ++ (if p u[k] = true then [⟨u[k], List.getElem_mem h⟩] else []) := by
  unfold upto
  have hl : k < u.attach.length := by simpa using h
  rw [List.take_succ_eq_append_getElem hl, List.filter_append]
  congr 1
  simp only [List.getElem_attach]
  by_cases hp : p u[k] = true <;> simp [hp]
theorem upto_len {u : List S49} (p : S49 → Bool) (k : Nat) : (upto (u := u) p k).length ≤ k := Nat.le_trans (List.length_filter_le _ _) (List.length_take_le _ _)
theorem upto_all {u : List S49} (p : S49 → Bool) : upto (u := u) p u.length = u.attach.filter fun x => p x.1 := by
  unfold upto
  rw [List.take_of_length_le (by simp)]
theorem upto_out {u : List S49} (p : S49 → Bool) : ((u.attach.filter fun x => p x.1).map (·.1)) = u.filter p := by
  have h : (u.attach.filter (p ∘ Subtype.val)).map Subtype.val = (u.attach.map Subtype.val).filter p := (List.filter_map ..).symm
  rw [List.attach_map_subtype_val] at h
  exact h
set_option maxHeartbeats 4000000 in
set_option maxRecDepth 100000 in
theorem iter_stops (n : Nat) (b0 b1 b2 b3 : Nat) (b : S24) (A : Option Addr) (c : Nat) (l : List S49) (at_ known : Int) (w0 : World) (hB : Boxes w0 b0 b1 b2 b3 b A l.length c at_ known) (hr : Kd.C k49 w0 A l.length l) (hn : l.length ≤ 9223372036854775807)
    (hp : 1 ≤ b.f4) :
    SeqStopsK Fence.wide n Try.prog 48 #[.pointer (some ⟨b1, 0, none⟩), .pointer (some ⟨b3, 0, none⟩), .pointer (some ⟨b0, 0, none⟩), .pointer (some ⟨b2, 0, none⟩)] enc (Keep (InK b0 b1 b2 b3 A l.length)) (fun ys : List (Us l) => ys = l.attach.filter fun x => usedF b at_ known x.1) (fun _ => True) l.length w0 := by
  intro ly J Jx W hW hJ hJx hY h0
  have hlt : ∀ k, InK b0 b1 b2 b3 A l.length k → k < w0.heap.size := ink_lt hB hr
  have HB := pk hB
  have HR := pk hr
  have hw0 : W.cell? ⟨b1, 0, none⟩ = some (.slice A l.length c) := one_cell ((hW.block b1 (Array.getElem?_eq_some_iff.1 hB.h1).1).trans hB.h1)
  clear hB hr
  refine callsIn_of_wp Try.func48 rfl trivial ?_ rfl
  simp only [Try.ntmps48, List.size_toArray, List.length_cons, List.length_nil, Nat.reduceAdd, Nat.reduceSub, Array.replicate_succ, Array.replicate_zero, List.push_toArray, List.append_toArray, List.nil_append, List.cons_append]
  gi_wp2_with fail
  gi_loopw [10] (fun i wr => ∃ k : Nat, k ≤ l.length ∧ i = .int .i64 k ∧ Hid (J (upto (usedF b at_ known) k) wr ∧ Keep (InK b0 b1 b2 b3 A l.length) W wr) ) (fun i _ => l.length - (intOf i).toNat)
  case atStart => exact ⟨0, Nat.zero_le _, rfl, ⟨by simpa [upto] using h0, Keep.refl _ _⟩⟩
  case round =>
    obtain ⟨k, hk, rfl, HJ⟩ := hrel
    by_cases hlt2 : k < l.length
    · have hKW : Keep (InK b0 b1 b2 b3 A l.length) w0 wr := (Keep.of_below hW hlt).trans HJ.out.2
      have hBw := HB.out.keep hKW
      obtain ⟨ad, hA, hcells⟩ := at_49 (C_keep49 HR.out hKW (fun ad e hl => .inr (.inr (.inr (.inr ⟨ad, e, hl, rfl⟩))))) k hlt2
      have hmem : l[k] ∈ l := List.getElem_mem hlt2
      generalize hx : l.getD k z49 = x at hcells
      have hget : l[k] = x := by rw [← hx, List.getD_eq_getElem?_getD, List.getElem?_eq_getElem hlt2]; rfl
      have hxm : x ∈ l := by rw [← hget]; exact hmem
      have hup : upto (u := l) (usedF b at_ known) (k + 1) = upto (usedF b at_ known) k ++ (if usedF b at_ known x = true then [⟨x, hxm⟩] else []) := by
        rw [upto_succ _ _ hlt2]
        simp only [hget]
      have Hup := pk hup
      clear hx hget hmem hup
      have hlk : ∀ q, InK b0 b1 b2 b3 A l.length q → q < wr.heap.size := fun q hq => by
        have h1 := hlt q hq
        have h2 := hKW q hq
        rw [Array.getElem?_eq_getElem h1] at h2
        exact (Array.getElem?_eq_some_iff.1 h2).1
      have q0 := hlk b0 (.inl rfl)
      have q2 := hlk b2 (.inr (.inr (.inl rfl)))
      have q3 := hlk b3 (.inr (.inr (.inr (.inl rfl))))
      have hb8 : ∀ o j, (wr.alloc o).cell? ⟨b0, j, none⟩ = (bc b)[j]? := fun o j => cell_of_row (wr.alloc o) b0 j _ 24 (0, 0) ((Below.heap_alloc wr o _ q0).trans hBw.h0)
      have hb3 : ∀ o, (wr.alloc o).cell? ⟨b0, 3, none⟩ = some (.int .i64 b.f3) := fun o => hb8 o 3
      have hb4 : ∀ o, (wr.alloc o).cell? ⟨b0, 4, none⟩ = some (.int .i64 b.f4) := fun o => hb8 o 4
      have hc1 : ∀ o, (wr.alloc o).cell? ⟨b2, 0, none⟩ = some (.int .i64 at_) := fun o => (World.cell?_alloc_lt wr o _ q2).trans (one_cell hBw.h2)
      have hc2 : ∀ o, (wr.alloc o).cell? ⟨b3, 0, none⟩ = some (.int .i64 known) := fun o => (World.cell?_alloc_lt wr o _ q3).trans (one_cell hBw.h3)
      have Hlk := pk hlk
      have HKW := pk hKW
      clear hb8 hlk hKW hBw
      subst hA
      have hJa : ∀ o n, J (upto (usedF b at_ known) k) ((wr.alloc o).drewN n) := fun o n => hJ _ _ _ none HJ.out.1 (grown_none (pw_below_drewN ((Below.refl _ wr).alloc (Nat.le_refl _) _) _)) (by simp)
      have HJa := pk hJa
      clear hJa
      have hskip : usedF b at_ known x = false → ∀ o n, J (upto (usedF b at_ known) (k + 1)) ((wr.alloc o).drewN n) ∧ Keep (InK b0 b1 b2 b3 (some ad) l.length) W ((wr.alloc o).drewN n) := by
        intro h o n
        refine ⟨?_, (HJ.out.2.alloc Hlk.out o).trans (fun _ _ => rfl)⟩
        rw [Hup.out, h]
        simpa using HJa.out o n
      have Hskip := pk hskip
      clear hskip
      by_cases hx4 : x.f4 ≤ known
      · have g4 : decide (x.f4 ≤ known) = true := by simp [hx4]
        by_cases hk1 : b.f3 = -1
        · have g3 : (b.f3 == -1) = true := by simp [hk1]
          by_cases hd : wrap64 (Int.tdiv x.f3 b.f4) = wrap64 (Int.tdiv at_ b.f4)
          · have g5 : (wrap64 (Int.tdiv x.f3 b.f4) == wrap64 (Int.tdiv at_ b.f4)) = true := by simp [hd]
            have g7 : decide (wrap64 (Int.tdiv x.f3 b.f4) = wrap64 (Int.tdiv at_ b.f4)) = true := by simp [hd]
            have g8 : decide (b.f3 = -1) = true := by simp [hk1]
            have hyes : usedF b at_ known x = true := by simp [usedF, hx4, hk1, hd]
            replace hd := pk hd
            replace hk1 := pk hk1
            have hup : upto (u := l) (usedF b at_ known) (k + 1) = upto (usedF b at_ known) k ++ [⟨x, hxm⟩] := by rw [Hup.out, if_pos hyes]
            have Hupy := pk hup
            clear hup hyes
            gi_wp2_with fail
            refine region_tail 32 rfl (by kernel_rfl) (by kernel_rfl) ?_
            simp only [List.take_succ_cons, List.take_zero, List.drop_succ_cons, List.drop_zero]
            repeat (gi_big_quiet_step (fail))
            refine wpQuietIn_nil ?_
            intro _ hw'
            obtain ⟨nq, hw''⟩ := hw'
            subst hw''
            obtain ⟨fn, tmps, assign, body, hy, hR⟩ := hY _ ⟨x, hxm⟩ ((wr.alloc (.cells #[.int .i64 x.f0, .int .i64 x.f1, .int .i64 x.f2, .int .i64 x.f3, .int .i64 x.f4] 49)).drewN nq) (HJa.out _ nq) (by
              have := (upto_len (u := l) (usedF b at_ known) k); omega)
            dsimp only [enc] at hy
            gi_wp2_with fail
            refine ⟨fun h => (by cases h), hR.mono ?_⟩
            rintro e W3 (⟨rfl, hJ3, hk3⟩ | ⟨rfl, hJx3⟩)
            · have HJ3 := pk hJ3
              have Hk3 := pk hk3
              clear hJ3 hk3
              gi_wp2_with fail
              go_roundw
              case rel => exact ⟨k + 1, by omega, by go_num, ⟨by rw [Hupy.out]; exact HJ3.out, ((HJ.out.2.alloc Hlk.out _).trans (fun _ _ => rfl)).trans Hk3.out⟩⟩
              case measure => simp [intOf]; omega
            · have HJx3 := pk hJx3
              clear hJx3
              gi_wp2_with fail
              refine bodyPost_ret (results_none rfl _ _ _) rfl ?_
              exact ⟨⟨_, rfl⟩, .inr ⟨_, trivial, HJx3.out⟩⟩
          · have g5 : (wrap64 (Int.tdiv x.f3 b.f4) == wrap64 (Int.tdiv at_ b.f4)) = false := by simp [hd]
            have hno : usedF b at_ known x = false := by simp [usedF, hd]
            have Hno := pk hno
            replace hd := pk hd
            replace hk1 := pk hk1
            clear hno
            gi_wp2_with fail
            gi_quiet (fail)
            gi_wp2_with fail
            go_roundw
            case rel => exact ⟨k + 1, by omega, by go_num, Hskip.out Hno.out _ _⟩
            case measure => simp [intOf]; omega
        · have g3 : (b.f3 == -1) = false := by simpa using hk1
          by_cases hk2 : b.f3 = x.f1
          · have g6 : (b.f3 == x.f1) = true := by simp [hk2]
            by_cases hd : wrap64 (Int.tdiv x.f3 b.f4) = wrap64 (Int.tdiv at_ b.f4)
            · have g5 : (wrap64 (Int.tdiv x.f3 b.f4) == wrap64 (Int.tdiv at_ b.f4)) = true := by simp [hd]
              have hyes : usedF b at_ known x = true := by simp [usedF, hx4, hk2, hd]
              replace hd := pk hd
              replace hk2 := pk hk2
              have hup : upto (u := l) (usedF b at_ known) (k + 1) = upto (usedF b at_ known) k ++ [⟨x, hxm⟩] := by rw [Hup.out, if_pos hyes]
              have Hupy := pk hup
              clear hup hyes
              gi_wp2_with fail
              refine region_tail 32 rfl (by kernel_rfl) (by kernel_rfl) ?_
              simp only [List.take_succ_cons, List.take_zero, List.drop_succ_cons, List.drop_zero]
              repeat (gi_big_quiet_step (fail))
              refine wpQuietIn_nil ?_
              intro _ hw'
              obtain ⟨nq, hw''⟩ := hw'
              subst hw''
              obtain ⟨fn, tmps, assign, body, hy, hR⟩ := hY _ ⟨x, hxm⟩ ((wr.alloc (.cells #[.int .i64 x.f0, .int .i64 x.f1, .int .i64 x.f2, .int .i64 x.f3, .int .i64 x.f4] 49)).drewN nq) (HJa.out _ nq) (by
                have := (upto_len (u := l) (usedF b at_ known) k); omega)
              dsimp only [enc] at hy
              gi_wp2_with fail
              refine ⟨fun h => (by cases h), hR.mono ?_⟩
              rintro e W3 (⟨rfl, hJ3, hk3⟩ | ⟨rfl, hJx3⟩)
              · have HJ3 := pk hJ3
                have Hk3 := pk hk3
                clear hJ3 hk3
                gi_wp2_with fail
                go_roundw
                case rel => exact ⟨k + 1, by omega, by go_num, ⟨by rw [Hupy.out]; exact HJ3.out, ((HJ.out.2.alloc Hlk.out _).trans (fun _ _ => rfl)).trans Hk3.out⟩⟩
                case measure => simp [intOf]; omega
              · have HJx3 := pk hJx3
                clear hJx3
                gi_wp2_with fail
                refine bodyPost_ret (results_none rfl _ _ _) rfl ?_
                exact ⟨⟨_, rfl⟩, .inr ⟨_, trivial, HJx3.out⟩⟩
            · have g5 : (wrap64 (Int.tdiv x.f3 b.f4) == wrap64 (Int.tdiv at_ b.f4)) = false := by simp [hd]
              have hno : usedF b at_ known x = false := by simp [usedF, hd]
              have Hno := pk hno
              replace hd := pk hd
              replace hk2 := pk hk2
              clear hno
              gi_wp2_with fail
              gi_quiet (fail)
              gi_wp2_with fail
              go_roundw
              case rel => exact ⟨k + 1, by omega, by go_num, Hskip.out Hno.out _ _⟩
              case measure => simp [intOf]; omega
          · have g6 : (b.f3 == x.f1) = false := by simpa using hk2
            have hno : usedF b at_ known x = false := by simp [usedF, hk1, hk2]
            have Hno := pk hno
            clear hno
            gi_wp2_with fail
            gi_quiet (fail)
            gi_wp2_with fail
            go_roundw
            case rel => exact ⟨k + 1, by omega, by go_num, Hskip.out Hno.out _ _⟩
            case measure => simp [intOf]; omega
      · have hno : usedF b at_ known x = false := by simp [usedF, hx4]
        have Hno := pk hno
        have g4 : decide (x.f4 ≤ known) = false := by simp [hx4]
        clear hno
        gi_wp2_with fail
        gi_quiet (fail)
        gi_wp2_with fail
        go_roundw
        case rel => exact ⟨k + 1, by omega, by go_num, Hskip.out Hno.out _ _⟩
        case measure => simp [intOf]; omega
    · obtain rfl : k = l.length := by omega
      gi_wp2_with fail
      go_end0
      exact ⟨⟨_, rfl⟩, .inl ⟨_, by rw [upto_all], HJ.out.1⟩⟩
end Rm
end Go.Proofs.Ytaemdkbfdpjimaa.W
