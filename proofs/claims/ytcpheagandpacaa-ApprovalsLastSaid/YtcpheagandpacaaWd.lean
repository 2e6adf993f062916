/-
Package approvals: the closure of Counting and slices.IndexFunc with it, by a walk. No condition beyond the row's being read and the captured variables' cells.
Package approvals: slices.DeleteFunc on a row of the call's own, with the closure of Counting, by a walk.
Counting of the package approvals, by a walk: Check, within, standing and DeleteFunc by their contracts. Condition: the row is read.
-/
import Derived.Test.YtcpheagandpacaaIt
import Derived.Test.YtcpheagandpacaaS
import Derived.Test.YtcpheagandpacaaWk
import Derived.Test.YtcpheagandpacaaWc
import Derived.Test.YtcpheagandpacaaWa
import Derived.Test.YtcpheagandpacaaU
import Derived.Test.YtcpheagandpacaaP0
namespace Go.Proofs.Ytcpheagandpacaa.W
open Go.RowKit Go.Proofs.YtcpheagandpacaaW.PrintWords Go.Proofs.YtcpheagandpacaaW.PrintLast Go.Proofs.YtcpheagandpacaaW.PrintMore Go.Proofs.Ytcpheagandpacaa.P
set_option linter.unusedVariables false
namespace Dl
def outP (begun think at_ : Int) (y : S24) : Bool := decide (y.f1 < begun) || decide (wrap64 (at_ - y.f1) < think)
/-- the cells of the three captured variables -/
structure Caps (w : World) (q0 q1 q2 : Nat) (begun at_ think : Int) : Prop where
  h0 : w.cell? ⟨q0, 0, none⟩ = some (.int .i64 begun)
  h1 : w.cell? ⟨q1, 0, none⟩ = some (.int .i64 at_)
  h2 : w.cell? ⟨q2, 0, none⟩ = some (.int .i64 think)
theorem lt_of_cell {w : World} {b o : Nat} {v : Value} (h : w.cell? ⟨b, o, none⟩ = some v) : b < w.heap.size := World.block_lt_of_cell? _ _ h
theorem Caps.below {w w' : World} {q0 q1 q2 : Nat} {begun at_ think : Int} (h : Caps w q0 q1 q2 begun at_ think) (hb : Below w.heap.size w w') : Caps w' q0 q1 q2 begun at_ think :=
  ⟨(hb.cell (p := ⟨q0, 0, none⟩) (lt_of_cell h.h0)).trans h.h0, (hb.cell (p := ⟨q1, 0, none⟩) (lt_of_cell h.h1)).trans h.h1, (hb.cell (p := ⟨q2, 0, none⟩) (lt_of_cell h.h2)).trans h.h2⟩
theorem clos_any (a0 : Int) (a1 : Int) (a2 : Int) (a3 : Int) (a4 : Int) (a5 : Int) (a6 : Int) (a7 : Bool) (q0 q1 q2 : Nat) (begun at_ think : Int) (w : World) (hc : Caps w q0 q1 q2 begun at_ think) :
    Calls Try.prog 39 #[.agg #[.int .i64 a0, .int .i64 a1, .int .i64 a2, .int .i64 a3, .int .i64 a4, .int .i64 a5, .int .i64 a6, .bool a7], .pointer (some ⟨q0, 0, none⟩), .pointer (some ⟨q1, 0, none⟩), .pointer (some ⟨q2, 0, none⟩)] w fun e w' => e = .returned (.bool (outP begun think at_ ⟨a0, a1, a2, a3, a4, a5, a6, a7⟩)) ∧ Below w.heap.size w w' := by
  have hb0 : Below w.heap.size w (w.alloc (.cells #[.int .i64 a0, .int .i64 a1, .int .i64 a2, .int .i64 a3, .int .i64 a4, .int .i64 a5, .int .i64 a6, .bool a7] 24)) := (Below.refl _ _).alloc (Nat.le_refl _) _
  obtain ⟨h0, h1, h2⟩ := hc.below hb0
  clear hc hb0
  by_cases hl : a1 < begun
  · go_enter Try.func39, Try.ntmps39
    go_wp2
    go_ret
    exact ⟨by simp [outP, hl], (Below.refl _ _).alloc (Nat.le_refl _) _⟩
  · go_enter Try.func39, Try.ntmps39
    go_wp2
    go_ret
    exact ⟨by simp [outP]; omega, (Below.refl _ _).alloc (Nat.le_refl _) _⟩
theorem pre_succ {p : S24 → Bool} {l : List S24} {k : Nat} {x : S24} (h : ∀ a, a < k → p (l.getD a z24) = false) (hx : l.getD k z24 = x) (ho : p x = false) : ∀ a, a < k + 1 → p (l.getD a z24) = false := by
  intro a ha
  rcases Nat.lt_or_ge a k with h1 | h1
  · exact h a h1
  · have e : a = k := by omega
    rw [e, hx]; exact ho
def IdxPost (p : S24 → Bool) (l : List S24) (w : World) (e : Ending) (w' : World) : Prop :=
  ∃ k, k ≤ l.length ∧ (∀ a, a < k → p (l.getD a z24) = false) ∧ (k < l.length → p (l.getD k z24) = true) ∧ e = .returned (.int .i64 (if k < l.length then (k : Int) else -1)) ∧ Below w.heap.size w w'
theorem idx_any (l : List S24) (q0 q1 q2 : Nat) (begun at_ think : Int) (A : Option Addr) (c : Nat) (w : World) (hc : Caps w q0 q1 q2 begun at_ think) (hr : Kd.C k24 w A l.length l) :
    Calls Try.prog 49 #[.slice A l.length c, .func (.func 39) #[] #[.pointer (some ⟨q0, 0, none⟩), .pointer (some ⟨q1, 0, none⟩), .pointer (some ⟨q2, 0, none⟩)]] w (IdxPost (outP begun think at_) l w) := by
  have hn : l.length ≤ 9223372036854775807 := hr.2.1
  have HC := pk hc
  have HR := pk hr
  clear hc hr
  go_enter Try.func49, Try.ntmps49
  go_wp2_with fail
  go_loopw [8] (fun i wr => ∃ k : Nat, k ≤ l.length ∧ i = .int .i64 k ∧ Hid ((∀ a, a < k → outP begun think at_ (l.getD a z24) = false) ∧ Below w.heap.size w wr)) (fun i _ => l.length - (intOf i).toNat)
  case atStart => exact ⟨0, Nat.zero_le _, rfl, fun a h => by omega, Below.refl _ _⟩
  case round =>
    obtain ⟨k, hk, rfl, hh⟩ := hrel
    have Hh := pk hh.out
    clear hh
    by_cases hlt : k < l.length
    · obtain ⟨ad, hA, hcells⟩ := at_24 (Kd.C_below HR.out Hh.out.2) k hlt
      subst hA
      generalize hx : l.getD k z24 = x at hcells
      have Hx := pk hx
      clear hx
      go_wp2_with fail
      refine (clos_any x.f0 x.f1 x.f2 x.f3 x.f4 x.f5 x.f6 x.f7 q0 q1 q2 begun at_ think _ (HC.out.below Hh.out.2)).mono ?_
      rintro e w1 ⟨rfl, hb1⟩
      have Hb1 := pk (Hh.out.2.trans (hb1.mono Hh.out.2.size))
      clear hb1
      cases ho : outP begun think at_ x with
      | true =>
        have ho' : outP begun think at_ ⟨x.f0, x.f1, x.f2, x.f3, x.f4, x.f5, x.f6, x.f7⟩ = true := ho
        go_wp2_with fail
        go_ret
        exact ⟨k, by omega, Hh.out.1, fun _ => by rw [Hx.out]; exact ho, by rw [if_pos hlt]; rfl, Hb1.out⟩
      | false =>
        have ho' : outP begun think at_ ⟨x.f0, x.f1, x.f2, x.f3, x.f4, x.f5, x.f6, x.f7⟩ = false := ho
        go_wp2_with fail
        go_roundw
        case rel => exact ⟨k + 1, by omega, by go_num, pre_succ Hh.out.1 Hx.out ho, Hb1.out⟩
        case measure => simp [intOf]; omega
    · go_wp2_with fail
      go_ret
      exact ⟨k, hk, Hh.out.1, fun h => absurd h hlt, by rw [if_neg hlt]; rfl, Hh.out.2⟩
end Dl
end Go.Proofs.Ytcpheagandpacaa.W

namespace Go.Proofs.Ytcpheagandpacaa.W
open Go.RowKit Go.Proofs.YtcpheagandpacaaW.PrintWords Go.Proofs.YtcpheagandpacaaW.PrintLast Go.Proofs.YtcpheagandpacaaW.PrintMore Go.Proofs.Ytcpheagandpacaa.P
set_option linter.unusedVariables false
namespace Dl
theorem run_clear_rowN {P : Program} (w : World) (t e ty : TypeId) (z : Value) (ht : P.underlying t = some (.slice e)) (hv : ∀ w, (zeroValue e).run P w = .ok z w) (g o n c : Nat) (cur : List Value) (tt : TypeId) (hn : 0 < n)
    (hg : w.heap[g]? = some (.cells cur.toArray tt (0, 0))) (hfit : o + (Builtin.zeroCells z.cells n).toList.length ≤ cur.length) (h1 : ∀ v ∈ (Builtin.zeroCells z.cells n).toList, v.oneCell' = true) :
    (Builtin.clear_ #[t] ty #[.slice (some ⟨g, o, none⟩) n c]).run P w = .ok (.tuple #[]) (w.setRow g (spl cur o (Builtin.zeroCells z.cells n).toList).toArray) := by
  have hst := run_storeCells_at P g o tt (Builtin.zeroCells z.cells n).toList 0 cur.toArray w hg (by simpa using hfit) h1
  obtain ⟨m, rfl⟩ : ∃ m, n = m + 1 := ⟨n - 1, by omega⟩
  simp [Builtin.clear_, run_underlying ht, hv] at hst ⊢
  rw [hst]
  simp [spl]
/-- clear, where its run is known. -/
theorem wp_clear_run {P : Program} (w : World) {o : Oper} {a : Act} {K : Act → World → Prop} {Q : Exit → Act → World → Prop} (d : Operand) (t : TypeId)
    (ho : o.op = .call { callee := .builtin .clear, args := #[d], argTypes := #[t] }) (v : Value) (hd : a.eval d = v) {v' : Value} {w' : World}
    (hr : (Builtin.clear_ #[t] o.type #[v]).run P w = .ok v' w') (h : K (a.put o.dst v') w') : o.wp P a w K Q := by
  unfold Oper.wp execOp
  simp only [ho, resolve, invoke, builtin, Sem.run_bind, Sem.run_pure, Result.andThen_ok, List.map_toArray, List.map_cons, List.map_nil, hd, hr]
  exact h
theorem wpList_clear_run {P : Program} (w : World) {ops : Array Oper} {rest : List Oper} {o : Oper} {a : Act} {Q : Exit → Act → World → Prop} (hgd : o.guard = none) (d : Operand) (t : TypeId)
    (ho : o.op = .call { callee := .builtin .clear, args := #[d], argTypes := #[t] }) (v : Value) (hd : a.eval d = v) {v' : Value} {w' : World}
    (hr : (Builtin.clear_ #[t] o.type #[v]).run P w = .ok v' w') (h : wpList P ops Q rest (a.put o.dst v') w') : wpList P ops Q (o :: rest) a w :=
  wpList_plain hgd fun _ hK => wp_clear_run w d t ho v hd hr (hK _ _ h)
theorem chain_row (w : World) (g o : Nat) (x : S24) (cur : List Value) (hg : w.heap[g]? = some (.cells cur.toArray 24 (0, 0))) (h : o + 8 ≤ cur.length) :
    ((((((((w.setCell ⟨g, o, none⟩ (.int .i64 x.f0)).setCell ⟨g, o + 1, none⟩ (.int .i64 x.f1)).setCell ⟨g, o + 2, none⟩ (.int .i64 x.f2)).setCell ⟨g, o + 3, none⟩ (.int .i64 x.f3)).setCell ⟨g, o + 4, none⟩ (.int .i64 x.f4)).setCell ⟨g, o + 5, none⟩ (.int .i64 x.f5)).setCell ⟨g, o + 6, none⟩ (.int .i64 x.f6)).setCell ⟨g, o + 7, none⟩ (.bool x.f7)) = w.setRow g (spl cur o (cs24 x)).toArray := by
  have h1 := run_storeCells_at Try.prog g o 24 (cs24 x) 0 cur.toArray w hg (by simpa [cs24_len] using h) (cs24_one x)
  have hc : ∀ q, q < 8 → ∃ v, w.cell? ⟨g, o + q, none⟩ = some v := fun q hq => by
    rw [cell_of_row w g (o + q) _ 24 (0, 0) hg]
    exact ⟨cur[o + q]'(by omega), by rw [List.getElem?_toArray]; exact List.getElem?_eq_getElem (by omega)⟩
  have hf : ∀ q, w.frozen? ⟨g, q, none⟩ = false := fun q => by simp [World.frozen?, hg]
  obtain ⟨v0, hv0⟩ := hc 0 (by omega)
  obtain ⟨v1, hv1⟩ := hc 1 (by omega)
  obtain ⟨v2, hv2⟩ := hc 2 (by omega)
  obtain ⟨v3, hv3⟩ := hc 3 (by omega)
  obtain ⟨v4, hv4⟩ := hc 4 (by omega)
  obtain ⟨v5, hv5⟩ := hc 5 (by omega)
  obtain ⟨v6, hv6⟩ := hc 6 (by omega)
  obtain ⟨v7, hv7⟩ := hc 7 (by omega)
  rw [Nat.add_zero] at hv0
  have h2 : (storeCells ⟨g, o, none⟩ (cs24 x) 0).run Try.prog w = .ok () (((((((((w.setCell ⟨g, o, none⟩ (.int .i64 x.f0)).setCell ⟨g, o + 1, none⟩ (.int .i64 x.f1)).setCell ⟨g, o + 2, none⟩ (.int .i64 x.f2)).setCell ⟨g, o + 3, none⟩ (.int .i64 x.f3)).setCell ⟨g, o + 4, none⟩ (.int .i64 x.f4)).setCell ⟨g, o + 5, none⟩ (.int .i64 x.f5)).setCell ⟨g, o + 6, none⟩ (.int .i64 x.f6)).setCell ⟨g, o + 7, none⟩ (.bool x.f7))) := by
    clear h1 hg hc
    simp only [cs24]
    go_simp
  rw [h1] at h2
  simp only [Result.ok.injEq, true_and] at h2
  rw [← h2]
  simp [spl]
theorem len_filter_take {p : S24 → Bool} {l : List S24} {m : Nat} {x : S24} (hm : m < l.length) (hx : l.getD m z24 = x) :
    (l.take (m + 1)).filter p = if p x = true then (l.take m).filter p ++ [x] else (l.take m).filter p := by
  have e : l[m] = x := by rw [← hx, List.getD_eq_getElem?_getD, List.getElem?_eq_getElem hm]; rfl
  rw [List.take_succ_eq_append_getElem hm, List.filter_append, e]
  by_cases h : p x = true
  · rw [if_pos h]; simp [h]
  · rw [if_neg h]; simp [h]
/-- the block of the row between two rounds: what is kept so far, and what is still to come -/
def Blk (keep : S24 → Bool) (l : List S24) (g cap m : Nat) (W : World) : Prop :=
  ∃ cur : List Value, W.heap[g]? = some (.cells cur.toArray 24 (0, 0)) ∧ cur.length = cap * 8 ∧ cur.take (((l.take m).filter keep).length * 8) = cl24 ((l.take m).filter keep) ∧ ∀ q, m * 8 ≤ q → q < l.length * 8 → cur[q]? = (cl24 l)[q]?
theorem cl_at (l : List S24) (m q : Nat) (hm : m < l.length) (hq : q < 8) : (cl24 l)[m * 8 + q]? = (cs24 (l.getD m z24))[q]? := by
  have e : l = l.take m ++ l[m] :: l.drop (m + 1) := by rw [List.getElem_cons_drop, List.take_append_drop]
  have h1 : (cl24 (l.take m)).length = m * 8 := by rw [cl24_len, List.length_take, Nat.min_eq_left (by omega)]
  rw [show l.getD m z24 = l[m] by rw [List.getD_eq_getElem?_getD, List.getElem?_eq_getElem hm]; rfl]
  conv => lhs; rw [e, cl24_append, cl24_cons]
  rw [List.getElem?_append_right (by omega), h1, Nat.add_sub_cancel_left, List.getElem?_append_left (by rw [cs24_len]; exact hq)]
theorem Blk.cells {keep : S24 → Bool} {l : List S24} {g cap m : Nat} {W : World} (h : Blk keep l g cap m W) (hm : m < l.length) (q : Nat) (hq : q < 8) : W.cell? ⟨g, m * 8 + q, none⟩ = (cs24 (l.getD m z24))[q]? := by
  obtain ⟨cur, h1, h2, h3, h4⟩ := h
  rw [cell_of_row W g _ _ 24 (0, 0) h1, List.getElem?_toArray, h4 _ (by omega) (by omega), cl_at l m q hm hq]
theorem Blk.some {keep : S24 → Bool} {l : List S24} {g cap m : Nat} {W : World} (h : Blk keep l g cap m W) (hc : l.length ≤ cap) (k : Nat) (hk : k < l.length) (q : Nat) (hq : q < 8) : ∃ v, W.cell? ⟨g, k * 8 + q, none⟩ = Option.some v := by
  obtain ⟨cur, h1, h2, h3, h4⟩ := h
  have hl : k * 8 + q < cur.length := by omega
  exact ⟨cur[k * 8 + q], by rw [cell_of_row W g _ _ 24 (0, 0) h1, List.getElem?_toArray]; exact List.getElem?_eq_getElem hl⟩
theorem Blk.drop {keep : S24 → Bool} {l : List S24} {g cap m : Nat} {W : World} (h : Blk keep l g cap m W) (hm : m < l.length) (hk : keep (l.getD m z24) = false) : Blk keep l g cap (m + 1) W := by
  obtain ⟨cur, h1, h2, h3, h4⟩ := h
  refine ⟨cur, h1, h2, ?_, fun q hq => h4 q (by omega)⟩
  rw [len_filter_take hm rfl, if_neg (by rw [hk]; simp)]
  exact h3
theorem Blk.keepOne {keep : S24 → Bool} {l : List S24} {g cap m : Nat} {W : World} (h : Blk keep l g cap m W) (hc : l.length ≤ cap) (hm : m < l.length) (x : S24) (hx : l.getD m z24 = x) (hk : keep x = true) (k : Nat) (hkk : ((l.take m).filter keep).length = k) :
    ∃ cur : List Value, W.heap[g]? = Option.some (.cells cur.toArray 24 (0, 0)) ∧ k * 8 + 8 ≤ cur.length ∧ Blk keep l g cap (m + 1) (W.setRow g (spl cur (k * 8) (cs24 x)).toArray) := by
  obtain ⟨cur, h1, h2, h3, h4⟩ := h
  have hkm : k ≤ m := by rw [← hkk]; exact Nat.le_trans (List.length_filter_le _ _) (by rw [List.length_take]; omega)
  rw [hkk] at h3
  have hfit : k * 8 + (cs24 x).length ≤ cur.length := by rw [cs24_len]; omega
  refine ⟨cur, h1, by omega, _, setRow_heap _ g _ _ 24 _ h1, by rw [spl_len _ _ _ hfit, h2], ?_, fun q hq hq2 => ?_⟩
  · rw [len_filter_take hm hx, if_pos hk, List.length_append, hkk, cl24_append, show cl24 [x] = cs24 x by simp [cl24]]
    have l1 : (cur.take (k * 8)).length = k * 8 := by rw [List.length_take]; omega
    unfold spl
    rw [List.take_append_of_le_length (by rw [List.length_append, l1, cs24_len]; simp; omega), List.take_of_length_le (by rw [List.length_append, l1, cs24_len]; simp; omega), h3]
  · rw [← h4 q (by omega) hq2]
    have l1 : (cur.take (k * 8)).length = k * 8 := by rw [List.length_take]; omega
    unfold spl
    rw [List.getElem?_append_right (by rw [List.length_append, l1, cs24_len]; omega), List.length_append, l1, cs24_len, List.getElem?_drop]
    congr 1
    omega
theorem C_of_own {W : World} {base : Nat} {g n cap : Nat} {l : List S24} (h : W.ownsRow base 24 8 (.slice (some ⟨g, 0, none⟩) n cap) l.length (cl24 l)) (hn : l.length ≤ 4096) : Kd.C k24 W (some ⟨g, 0, none⟩) l.length l := by
  refine ⟨rfl, by omega, fun h0 => ⟨_, rfl, fun j p hj => ⟨cs24 p, cs24_len p, k24.K_of_M (k24_mkM W base (fun _ => True) p), fun i u hi => ?_⟩⟩⟩
  rcases h.2 with ⟨h1, _⟩ | ⟨g', cap', cur, h1, _, hg, _, _, _, ht⟩
  · cases h1
  · cases h1
    obtain ⟨hjl, he⟩ := List.getElem?_eq_some_iff.1 hj
    have hil : i < 8 := by have := (List.getElem?_eq_some_iff.1 hi).1; rwa [cs24_len] at this
    have h2 := cl_at l j i hjl hil
    rw [show l.getD j z24 = p by rw [List.getD_eq_getElem?_getD, hj]; rfl, hi, ← ht, List.getElem?_take] at h2
    show W.cell? ((⟨g, 0, none⟩ : Addr).add (j * 8 + i)) = some u
    rw [show (⟨g, 0, none⟩ : Addr).add (j * 8 + i) = ⟨g, j * 8 + i, none⟩ by rw [Addr.add_lit]; simp, cell_of_row W g _ _ 24 (0, 0) hg]
    split at h2
    · simpa using h2
    · cases h2
theorem own_below {W W' : World} {base n : Nat} {v : Value} {xs : List Value} (h : W.ownsRow base 24 8 v n xs) (hb : Below W.heap.size W W') : W'.ownsRow base 24 8 v n xs :=
  h.kept (row := none) ⟨hb.os, hb.tape, hb.output, hb.size, fun k hk _ => hb.block k hk⟩ (by cases v.ownBlock <;> simp)
theorem Caps.row {w : World} {q0 q1 q2 g : Nat} {begun at_ think : Int} (h : Caps w q0 q1 q2 begun at_ think) (hg : g ≠ q0 ∧ g ≠ q1 ∧ g ≠ q2) (cs : Array Value) : Caps (w.setRow g cs) q0 q1 q2 begun at_ think := by
  have hk : ∀ q v, g ≠ q → w.cell? ⟨q, 0, none⟩ = some v → (w.setRow g cs).cell? ⟨q, 0, none⟩ = some v := fun q v hne hv => by
    have e := setRow_other w g q cs (fun e => hne e.symm)
    unfold World.cell? at hv ⊢
    simp only at hv ⊢
    rw [e]; exact hv
  exact ⟨hk _ _ hg.1 h.h0, hk _ _ hg.2.1 h.h1, hk _ _ hg.2.2 h.h2⟩
def z24cells : Array Value := #[.int .i64 z24.f0, .int .i64 z24.f1, .int .i64 z24.f2, .int .i64 z24.f3, .int .i64 z24.f4, .int .i64 z24.f5, .int .i64 z24.f6, .bool z24.f7]
theorem zeros_one (n : Nat) : ∀ v ∈ (Builtin.zeroCells z24cells n).toList, v.oneCell' = true := by
  intro v hv
  simp only [Builtin.zeroCells, Array.toList_map, List.mem_map] at hv
  obtain ⟨i, _, rfl⟩ := hv
  have h8 : z24cells.size = 8 := rfl
  have hi : i % z24cells.size < z24cells.size := Nat.mod_lt _ (by rw [h8]; omega)
  rw [getElem!_pos z24cells _ hi]
  have hall : ∀ v ∈ z24cells.toList, v.oneCell' = true := cs24_one z24
  exact hall _ (by simp)
def keepF (begun think at_ : Int) (y : S24) : Bool := !outP begun think at_ y
def DelPost (keep : S24 → Bool) (l : List S24) (base : Nat) (w : World) (e : Ending) (w' : World) : Prop :=
  ∃ v, e = .returned v ∧ w'.ownsRow base 24 8 v (l.filter keep).length (cl24 (l.filter keep)) ∧ Below base w w'
theorem filter_all {p : S24 → Bool} {l : List S24} (h : ∀ a, a < l.length → p (l.getD a z24) = true) : l.filter p = l := by
  rw [List.filter_eq_self]
  intro x hx
  obtain ⟨i, hi, rfl⟩ := List.getElem_of_mem hx
  have := h i hi
  rwa [List.getD_eq_getElem?_getD, List.getElem?_eq_getElem hi] at this
theorem filter_take_all {p : S24 → Bool} {l : List S24} {k : Nat} (hk : k ≤ l.length) (h : ∀ a, a < k → p (l.getD a z24) = true) : (l.take k).filter p = l.take k := by
  refine filter_all fun a ha => ?_
  rw [List.length_take] at ha
  have := h a (by omega)
  rwa [List.getD_eq_getElem?_getD, List.getElem?_take_of_lt (by omega), ← List.getD_eq_getElem?_getD]
set_option maxHeartbeats 2000000 in
theorem del_any (l : List S24) (hn : l.length ≤ 4096) (q0 q1 q2 : Nat) (begun at_ think : Int) (A : Option Addr) (c : Nat) (w : World) (base : Nat) (hb0 : base ≤ w.heap.size) (hc : Caps w q0 q1 q2 begun at_ think) (hq : q0 < base ∧ q1 < base ∧ q2 < base)
    (ho : w.ownsRow base 24 8 (.slice A l.length c) l.length (cl24 l)) :
    Calls Try.prog 38 #[.slice A l.length c, .func (.func 39) #[] #[.pointer (some ⟨q0, 0, none⟩), .pointer (some ⟨q1, 0, none⟩), .pointer (some ⟨q2, 0, none⟩)]] w (DelPost (keepF begun think at_) l base w) := by
  have hr : Kd.C k24 w A l.length l := by
    rcases ho.2 with ⟨h1, h2⟩ | ⟨g, cap, cur, h1, hrest⟩
    · obtain rfl : l = [] := List.eq_nil_of_length_eq_zero h2
      exact ⟨rfl, by simp, fun h => absurd h (Nat.lt_irrefl 0)⟩
    · cases h1
      exact C_of_own ho hn
  have HO := pk ho
  have HC := pk hc
  have HQ := pk hq
  have HB0 := pk hb0
  have hix := idx_any l q0 q1 q2 begun at_ think A c w hc hr
  clear hr ho hc hq hb0
  go_enter Try.func38, Try.ntmps38
  go_wp2_with fail
  refine hix.mono ?_
  rintro e w1 ⟨k, hk, hpre, hat, rfl, hb1⟩
  have HP := pk hpre
  have HA := pk hat
  have HB1 := pk hb1
  clear hix hpre hat hb1
  by_cases hkl : k < l.length
  · rw [if_pos hkl]
    obtain ⟨g, rfl, hbg, cur, hgw, hlc, hcm, hcs, htk⟩ : ∃ g, A = some ⟨g, 0, none⟩ ∧ base ≤ g ∧ ∃ cur : Array Value, w1.heap[g]? = some (.cells cur 24 (0, 0)) ∧ l.length ≤ c ∧ c ≤ maxLen ∧ cur.size = c * 8 ∧ cur.toList.take (l.length * 8) = cl24 l := by
      rcases (own_below HO.out HB1.out).2 with ⟨h1, h2⟩ | ⟨g, cap, cur, h1, h2, h3, h4, h5, h6, h7⟩
      · omega
      · cases h1
        exact ⟨g, rfl, h2, cur, h3, h4, h5, h6, h7⟩
    have hfk : (l.take (k + 1)).filter (keepF begun think at_) = l.take k := by
      rw [len_filter_take hkl rfl, if_neg (by unfold keepF; rw [HA.out hkl]; simp)]
      exact filter_take_all hk fun a ha => by unfold keepF; rw [HP.out a ha]; rfl
    have hblk : Blk (keepF begun think at_) l g c (k + 1) w1 := by
      refine ⟨cur.toList, by simpa using hgw, by simpa using hcs, ?_, fun q _ hq => ?_⟩
      · rw [hfk, List.length_take, Nat.min_eq_left (by omega), ← cl24_take, ← htk, List.take_take, Nat.min_eq_left (by omega)]
      · rw [← htk, List.getElem?_take_of_lt hq]
    have hlk : ((l.take (k + 1)).filter (keepF begun think at_)).length = k := by rw [hfk, List.length_take]; omega
    have HBlk := pk hblk
    have Hlk := pk hlk
    have Hbg := pk hbg
    have Hcm := pk hcm
    have Hlc := pk hlc
    clear hgw hcs htk hfk hblk hlk cur hcm hbg hlc
    go_wp2_with fail
    go_loopw [5, 6] (fun vi vj wr => ∃ i m : Nat, vi = .int .i64 i ∧ vj = .int .i64 m ∧ ((l.take m).filter (keepF begun think at_)).length = i ∧ i < m ∧ m ≤ l.length ∧ Hid (Blk (keepF begun think at_) l g c m wr ∧ Below base w wr ∧ Caps wr q0 q1 q2 begun at_ think)) (fun _ vj _ => l.length - (intOf vj).toNat)
    case atStart => exact ⟨k, k + 1, rfl, by go_num, Hlk.out, by omega, by omega, HBlk.out, HB1.out.mono HB0.out, HC.out.below HB1.out⟩
    case round =>
      obtain ⟨i, m, rfl, rfl, him, hlt, hml, hh⟩ := hrel
      have Hh := pk hh.out
      have Him := pk him
      clear hh him
      by_cases hm : m < l.length
      · generalize hx : l.getD m z24 = x
        have hcl := fun q hq => Hh.out.1.cells hm q hq
        rw [hx] at hcl
        have hy0 : wr.cell? ⟨g, m * 8, none⟩ = some (.int .i64 x.f0) := hcl 0 (by omega)
        have hy1 : wr.cell? ⟨g, m * 8 + 1, none⟩ = some (.int .i64 x.f1) := hcl 1 (by omega)
        have hy2 : wr.cell? ⟨g, m * 8 + 2, none⟩ = some (.int .i64 x.f2) := hcl 2 (by omega)
        have hy3 : wr.cell? ⟨g, m * 8 + 3, none⟩ = some (.int .i64 x.f3) := hcl 3 (by omega)
        have hy4 : wr.cell? ⟨g, m * 8 + 4, none⟩ = some (.int .i64 x.f4) := hcl 4 (by omega)
        have hy5 : wr.cell? ⟨g, m * 8 + 5, none⟩ = some (.int .i64 x.f5) := hcl 5 (by omega)
        have hy6 : wr.cell? ⟨g, m * 8 + 6, none⟩ = some (.int .i64 x.f6) := hcl 6 (by omega)
        have hy7 : wr.cell? ⟨g, m * 8 + 7, none⟩ = some (.bool x.f7) := hcl 7 (by omega)
        have Hx := pk hx
        clear hcl hx
        go_wp2_with fail
        refine (clos_any x.f0 x.f1 x.f2 x.f3 x.f4 x.f5 x.f6 x.f7 q0 q1 q2 begun at_ think _ (Hh.out.2.2.below ((Below.refl _ _).alloc (Nat.le_refl _) _))).mono ?_
        rintro e w2 ⟨rfl, hb2⟩
        have hX := (hb2.block wr.heap.size (by simp)).trans (Go.heap_alloc_new wr _)
        have hB : ∀ b, b < wr.heap.size → w2.heap[b]? = wr.heap[b]? := fun b h => (hb2.block b (by simp; omega)).trans (Below.heap_alloc wr _ b h)
        have hbel : Below wr.heap.size wr w2 := ((Below.refl _ _).alloc (Nat.le_refl _) _).trans (hb2.mono (by simp))
        have hgl : g < wr.heap.size := by obtain ⟨cur, h1, _⟩ := Hh.out.1; exact (Array.getElem?_eq_some_iff.1 h1).1
        have hblk2 : Blk (keepF begun think at_) l g c m w2 := by obtain ⟨cur, h1, h2⟩ := Hh.out.1; exact ⟨cur, (hB g hgl).trans h1, h2⟩
        have hcl := fun j => cell_of_row w2 wr.heap.size j _ 24 (0, 0) hX
        have hz0 : w2.cell? ⟨wr.heap.size, 0, none⟩ = some (.int .i64 x.f0) := hcl 0
        have hz1 : w2.cell? ⟨wr.heap.size, 1, none⟩ = some (.int .i64 x.f1) := hcl 1
        have hz2 : w2.cell? ⟨wr.heap.size, 2, none⟩ = some (.int .i64 x.f2) := hcl 2
        have hz3 : w2.cell? ⟨wr.heap.size, 3, none⟩ = some (.int .i64 x.f3) := hcl 3
        have hz4 : w2.cell? ⟨wr.heap.size, 4, none⟩ = some (.int .i64 x.f4) := hcl 4
        have hz5 : w2.cell? ⟨wr.heap.size, 5, none⟩ = some (.int .i64 x.f5) := hcl 5
        have hz6 : w2.cell? ⟨wr.heap.size, 6, none⟩ = some (.int .i64 x.f6) := hcl 6
        have hz7 : w2.cell? ⟨wr.heap.size, 7, none⟩ = some (.bool x.f7) := hcl 7
        have HBlk2 := pk hblk2
        have HBel2 := pk (Hh.out.2.1.trans (hbel.mono (Nat.le_trans HB0.out Hh.out.2.1.size)))
        have HCaps2 := pk (Hh.out.2.2.below hbel)
        clear hcl hX hB hbel hblk2 hb2 hgl
        cases ho : outP begun think at_ x with
        | true =>
          have ho' : outP begun think at_ ⟨x.f0, x.f1, x.f2, x.f3, x.f4, x.f5, x.f6, x.f7⟩ = true := ho
          have Ho := pk ho
          clear ho
          go_wp2_with fail
          refine ⟨⟨_, _, _, _, _, _, _, _, _, _, _, _, _, _, _, _, _, _, _, _, _, _, _, ?rel, rfl⟩, ?measure⟩
          case rel => exact ⟨i, m + 1, rfl, by go_num, by rw [len_filter_take hm Hx.out, if_neg (by unfold keepF; rw [Ho.out]; simp)]; exact Him.out, by omega, by omega, HBlk2.out.drop hm (by rw [Hx.out]; unfold keepF; rw [Ho.out]; rfl), HBel2.out, HCaps2.out⟩
          case measure => simp [intOf]; omega
        | false =>
          have ho' : outP begun think at_ ⟨x.f0, x.f1, x.f2, x.f3, x.f4, x.f5, x.f6, x.f7⟩ = false := ho
          have Ho := pk ho
          clear ho
          obtain ⟨cur, hgc, hfit, hkeep⟩ := HBlk2.out.keepOne Hlc.out hm x Hx.out (by unfold keepF; rw [Ho.out]; rfl) i Him.out
          have hds := fun q hq => HBlk2.out.some Hlc.out i (by omega) q hq
          obtain ⟨d0, hd0⟩ := hds 0 (by omega)
          obtain ⟨d1, hd1⟩ := hds 1 (by omega)
          obtain ⟨d2, hd2⟩ := hds 2 (by omega)
          obtain ⟨d3, hd3⟩ := hds 3 (by omega)
          obtain ⟨d4, hd4⟩ := hds 4 (by omega)
          obtain ⟨d5, hd5⟩ := hds 5 (by omega)
          obtain ⟨d6, hd6⟩ := hds 6 (by omega)
          obtain ⟨d7, hd7⟩ := hds 7 (by omega)
          rw [Nat.add_zero] at hd0
          have hfr : ∀ q, w2.frozen? ⟨g, q, none⟩ = false := fun q => by simp [World.frozen?, hgc]
          have Hch := pk (chain_row w2 g (i * 8) x cur hgc hfit)
          have Hkeep := pk hkeep
          have Hgc := pk hgc
          clear hgc hfit hkeep hds
          go_wp2_with fail
          refine ⟨⟨_, _, _, _, _, _, _, _, _, _, _, _, _, _, _, _, _, _, _, _, _, _, _, ?rel, rfl⟩, ?measure⟩
          case rel =>
            refine ⟨i + 1, m + 1, by go_num, by go_num, by rw [len_filter_take hm Hx.out, if_pos (by unfold keepF; rw [Ho.out]; rfl), List.length_append, Him.out]; rfl, by omega, by omega, ?_⟩
            rw [Hch.out]
            exact ⟨Hkeep.out, below_row HBel2.out Hbg.out _, HCaps2.out.row (by have := HQ.out; have := Hbg.out; omega) _⟩
          case measure => simp [intOf]; omega
      · obtain rfl : m = l.length := by omega
        obtain ⟨cur, h1, h2, h3, _⟩ := Hh.out.1
        rw [List.take_length] at h3 
        have hi0 : 0 < l.length - i := by omega
        have him := Him.out
        rw [List.take_length] at him
        rw [him] at h3
        have hzl : (Builtin.zeroCells z24cells (l.length - i)).toList.length = (l.length - i) * 8 := by rw [Array.length_toList, size_zeroCells]; rfl
        have hcr := run_clear_rowN (P := Try.prog) wr 22 24 0 (.agg z24cells) Try.underlying22 (fun w => by kernel_rfl) g (i * 8) (l.length - i) (c - i) cur 24 hi0 h1 (by
          show i * 8 + (Builtin.zeroCells z24cells (l.length - i)).toList.length ≤ _
          have := Hlc.out
          rw [hzl]; omega) (fun v hv => zeros_one (l.length - i) v hv)
        have Hcr := pk hcr
        have Hfin := pk (show i * 8 ≤ cur.length by have := Hlc.out; omega)
        have Hown : Pk ((wr.setRow g (spl cur (i * 8) (Builtin.zeroCells z24cells (l.length - i)).toList).toArray).ownsRow base 24 8 (.slice (some ⟨g, 0, none⟩) i c) i (cl24 (l.filter (keepF begun think at_)))) := pk (by
          refine ⟨by rw [cl24_len, him], .inr ⟨g, c, _, rfl, Hbg.out, setRow_heap _ g _ _ 24 _ h1, by have := Hlc.out; omega, Hcm.out, ?_, ?_⟩⟩
          · rw [List.size_toArray, spl_len _ _ _ (by rw [hzl]; have := Hlc.out; omega), h2]
          · have l1 : (cur.take (i * 8)).length = i * 8 := by rw [List.length_take]; have := Hlc.out; omega
            show (spl _ _ _).take _ = _
            unfold spl
            rw [List.append_assoc, List.take_append_of_le_length (by omega), List.take_of_length_le (by omega), h3])
        have Hbel := pk (below_row Hh.out.2.1 Hbg.out (spl cur (i * 8) (Builtin.zeroCells z24cells (l.length - i)).toList).toArray)
        have Hhim := pk him
        clear hcr h1 h2 h3 hzl him Hh
        have hcr := Hcr.out
        have hci : ¬ c = i := by have := Hlc.out; omega
        have hic : i ≤ c := by have := Hlc.out; omega
        go_wp2_with fail
        go_ret
        exact ⟨_, rfl, by rw [Hhim.out]; exact Hown.out, Hbel.out⟩
  · rw [if_neg hkl]
    go_wp2_with fail
    go_ret
    have e : l.filter (keepF begun think at_) = l := filter_all fun a ha => by unfold keepF; rw [HP.out a (by omega)]; rfl
    refine ⟨_, rfl, ?_, HB1.out.mono HB0.out⟩
    rw [e]
    exact own_below HO.out HB1.out
end Dl
end Go.Proofs.Ytcpheagandpacaa.W

namespace Go.Proofs.Ytcpheagandpacaa.W
open Go.RowKit Go.Proofs.YtcpheagandpacaaW.PrintWords Go.Proofs.YtcpheagandpacaaW.PrintLast Go.Proofs.YtcpheagandpacaaW.PrintMore Go.Proofs.Ytcpheagandpacaa.P
open S (checkF withinF standingF countingF)
set_option linter.unusedVariables false
namespace Cn
def Post (l : List S24) (doc begun think at_ known : Int) (w : World) (e : Ending) (w' : World) : Prop :=
  ∃ v0_ : Value, e = .returned (.tuple #[v0_, .int .i64 (countingF l doc begun think at_ known).2]) ∧ Kd.R k24 24 w' w.heap.size (fun _ => True) v0_ (countingF l doc begun think at_ known).1 ∧ Below w.heap.size w w'
theorem post_err {l : List S24} {doc begun think at_ known r : Int} {w w' : World} (h : countingF l doc begun think at_ known = ([], r)) (hb : Below w.heap.size w w') : Post l doc begun think at_ known w (.returned (.tuple #[.slice none 0 0, .int .i64 r])) w' := by
  unfold Post
  rw [h]
  exact ⟨_, rfl, Kd.R_nil _ _ _ _ _, hb⟩
theorem below_box {B : Nat} {w w' : World} (h : Below B w w') (hB : B ≤ w.heap.size) (o : Obj) : Below B w (w'.alloc o) := h.alloc (Nat.le_trans hB h.size) o
theorem ints_row1 (w : World) (a : Int) : ∀ i : Nat, i < [a].length → ∃ ad, some (⟨w.heap.size, 0, none⟩ : Addr) = some ad ∧ (w.alloc (.cells #[.int .i64 a] 3)).cell? (ad.add i) = some (.int .i64 ([a].getD i 0)) := by
  intro i hi
  refine ⟨_, rfl, ?_⟩
  rw [Addr.add_lit, Nat.zero_add, cell_of_row _ _ i _ 3 (0, 0) (Go.heap_alloc_new w _)]
  match i, hi with
  | 0, _ => rfl
theorem ints_row4 (w : World) (a b c d : Int) : ∀ i : Nat, i < [a, b, c, d].length → ∃ ad, some (⟨w.heap.size, 0, none⟩ : Addr) = some ad ∧ (w.alloc (.cells #[.int .i64 a, .int .i64 b, .int .i64 c, .int .i64 d] 3)).cell? (ad.add i) = some (.int .i64 ([a, b, c, d].getD i 0)) := by
  intro i hi
  refine ⟨_, rfl, ?_⟩
  rw [Addr.add_lit, Nat.zero_add, cell_of_row _ _ i _ 3 (0, 0) (Go.heap_alloc_new w _)]
  match i, hi with
  | 0, _ => rfl
  | 1, _ => rfl
  | 2, _ => rfl
  | 3, _ => rfl
theorem one_box {W : World} {b : Nat} {v : Value} {t : TypeId} (h : W.heap[b]? = some (.cells #[v] t (0, 0))) : W.cell? ⟨b, 0, none⟩ = some v := by simp [World.cell?, h]
set_option maxHeartbeats 4000000 in
theorem counting_any (A : Option Addr) (c : Nat) (l : List S24) (doc begun think at_ known : Int) (w : World) (hr : Kd.C k24 w A l.length l) (hc : l.length ≤ c) :
    Calls Try.prog 17 #[.slice A l.length c, .int .i64 doc, .int .i64 begun, .int .i64 think, .int .i64 at_, .int .i64 known] w (Post l doc begun think at_ known w) := by
  have hck := U.check_f l (l.length + 1) (by omega)
  obtain ⟨W0, hW0⟩ : ∃ W0, ((w.alloc (.cells #[.int .i64 begun] 3)).alloc (.cells #[.int .i64 think] 3)).alloc (.cells #[.int .i64 at_] 3) = W0 := ⟨_, rfl⟩
  have hb0 : Below w.heap.size w W0 := by
    rw [← hW0]
    exact below_box (below_box (below_box (Below.refl _ _) (Nat.le_refl _) _) (Nat.le_refl _) _) (Nat.le_refl _) _
  have hbx : W0.heap[w.heap.size]? = some (.cells #[.int .i64 begun] 3 (0, 0)) ∧ W0.heap[w.heap.size + 1]? = some (.cells #[.int .i64 think] 3 (0, 0)) ∧ W0.heap[w.heap.size + 1 + 1]? = some (.cells #[.int .i64 at_] 3 (0, 0)) := by
    rw [← hW0]
    refine ⟨?_, ?_, ?_⟩
    all_goals (show (((w.heap.push _).push _).push _)[_]? = _; simp only [Array.getElem?_push, Array.size_push]; repeat (first | rfl | rw [if_pos trivial] | rw [if_pos (by omega)] | rw [if_neg (by omega)]))
  have hr0 : Kd.C k24 W0 A l.length l := Kd.C_below hr hb0
  obtain ⟨ck, hckr⟩ : ∃ ck, checkF l = ck := ⟨_, rfl⟩
  rw [hckr] at hck
  have Hb0 := pk hb0
  have Hbx := pk hbx
  have Hr0 := pk hr0
  have Hck := pk hck
  have Hckr := pk hckr
  have Hc := pk hc
  have hsW : W0.heap.size = w.heap.size + 1 + 1 + 1 := by rw [← hW0]; simp
  clear hb0 hbx hr0 hck hckr hr hc
  go_enter Try.func17, Try.ntmps17
  go_wp2_with fail
  clear hW0
  refine (approvals_Check.calls _ A c l ck _ Hr0.out Hc.out Hck.out).mono ?_
  rintro e w1 ⟨rfl, hb1⟩
  have Hb1 := pk hb1
  clear hb1
  by_cases h0 : ck = 0
  · subst h0
    obtain ⟨hn, _, _⟩ := U.check_ok Hckr.out
    have hnb : ∀ q v, q < w1.heap.size → w1.heap[q]? = some v → w1.heap[q]? = some v := fun _ _ _ h => h
    have hx1 : w1.heap[w.heap.size]? = some (.cells #[.int .i64 begun] 3 (0, 0)) ∧ w1.heap[w.heap.size + 1]? = some (.cells #[.int .i64 think] 3 (0, 0)) ∧ w1.heap[w.heap.size + 1 + 1]? = some (.cells #[.int .i64 at_] 3 (0, 0)) :=
      ⟨(Hb1.out.block _ (by omega)).trans Hbx.out.1, (Hb1.out.block _ (by omega)).trans Hbx.out.2.1, (Hb1.out.block _ (by omega)).trans Hbx.out.2.2⟩
    have Hx1 := pk hx1
    have Hbw1 := pk (Hb0.out.trans (Hb1.out.mono (by omega)))
    have Hr1 := pk (Kd.C_below Hr0.out Hb1.out)
    have hs1 : w.heap.size + 1 + 1 < w1.heap.size := (Array.getElem?_eq_some_iff.1 hx1.2.2).1
    clear hx1 hnb Hbx Hb0 Hb1 Hr0 Hck hsW
    go_wp2_with fail
    refine (within_any [doc] 4095 (some ⟨w1.heap.size, 0, none⟩) 1 _ (by simp) (ints_row1 w1 doc)).mono ?_
    rintro e w2 ⟨rfl, hb2⟩
    have hB2 : Below w1.heap.size w1 w2 := ((Below.refl _ _).alloc (Nat.le_refl _) _).trans (hb2.mono (by simp))
    have hx2 : w2.heap[w.heap.size]? = some (.cells #[.int .i64 begun] 3 (0, 0)) ∧ w2.heap[w.heap.size + 1]? = some (.cells #[.int .i64 think] 3 (0, 0)) ∧ w2.heap[w.heap.size + 1 + 1]? = some (.cells #[.int .i64 at_] 3 (0, 0)) :=
      ⟨(hB2.block _ (by omega)).trans Hx1.out.1, (hB2.block _ (by omega)).trans Hx1.out.2.1, (hB2.block _ (by omega)).trans Hx1.out.2.2⟩
    have Hx2 := pk hx2
    have Hbw2 := pk (Hbw1.out.trans (hB2.mono (by omega)))
    have Hr2 := pk (Kd.C_below Hr1.out hB2)
    have hs2 : w.heap.size + 1 + 1 < w2.heap.size := (Array.getElem?_eq_some_iff.1 hx2.2.2).1
    have hc0 := one_box hx2.1
    have hc1 := one_box hx2.2.1
    have hc2 := one_box hx2.2.2
    clear hx2 hB2 hb2 Hx1 Hbw1 Hr1 hs1
    obtain ⟨i1, hi1⟩ : ∃ i1, (!([doc].any (S.outB 4095))) = i1 := ⟨_, rfl⟩
    have Hi1 := pk (show withinF 4095 [doc] = i1 from hi1)
    rw [hi1]
    clear hi1
    cases i1 with
    | false =>
      go_wp2_with fail
      go_ret2
      exact post_err (by unfold countingF; rw [Hckr.out, if_neg (by simp), if_pos (.inl Hi1.out)]) Hbw2.out
    | true =>
      go_wp2_with fail
      refine (within_any [begun, think, at_, known] 1099511627775 (some ⟨w2.heap.size, 0, none⟩) 4 _ (by simp) (ints_row4 w2 begun think at_ known)).mono ?_
      rintro e w3 ⟨rfl, hb3⟩
      have hB3 : Below w2.heap.size w2 w3 := ((Below.refl _ _).alloc (Nat.le_refl _) _).trans (hb3.mono (by simp))
      have hx3 : w3.heap[w.heap.size]? = some (.cells #[.int .i64 begun] 3 (0, 0)) ∧ w3.heap[w.heap.size + 1]? = some (.cells #[.int .i64 think] 3 (0, 0)) ∧ w3.heap[w.heap.size + 1 + 1]? = some (.cells #[.int .i64 at_] 3 (0, 0)) :=
        ⟨(hB3.block _ (by omega)).trans Hx2.out.1, (hB3.block _ (by omega)).trans Hx2.out.2.1, (hB3.block _ (by omega)).trans Hx2.out.2.2⟩
      have Hx3 := pk hx3
      have Hbw3 := pk (Hbw2.out.trans (hB3.mono (by omega)))
      have Hr3 := pk (Kd.C_below Hr2.out hB3)
      have hs3 : w.heap.size + 1 + 1 < w3.heap.size := (Array.getElem?_eq_some_iff.1 hx3.2.2).1
      clear hc0 hc1 hc2
      have hc2 := one_box hx3.2.2
      clear hx3 hB3 hb3 Hx2 Hbw2 Hr2 hs2
      obtain ⟨i2, hi2⟩ : ∃ i2, (!([begun, think, at_, known].any (S.outB 1099511627775))) = i2 := ⟨_, rfl⟩
      have Hi2 := pk (show withinF 1099511627775 [begun, think, at_, known] = i2 from hi2)
      rw [hi2]
      clear hi2
      cases i2 with
      | false =>
        go_wp2_with fail
        go_ret2
        exact post_err (by unfold countingF; rw [Hckr.out, if_neg (by simp), if_pos (.inr Hi2.out)]) Hbw3.out
      | true =>
        go_wp2_with fail
        refine (standing_hook A c l doc at_ known _ Hr3.out hn).mono ?_
        rintro e w4 ⟨v4, rfl, hR4, hb4⟩
        have hown := own_of_R24 hR4
        obtain ⟨A4, c4, rfl⟩ : ∃ A4 c4, v4 = .slice A4 (standingF l doc at_ known).length c4 := by
          rcases hown.2 with ⟨rfl, h1⟩ | ⟨g, cap, cur, rfl, _⟩
          · exact ⟨none, 0, by rw [h1]⟩
          · exact ⟨_, _, rfl⟩
        have hcaps : Dl.Caps w4 w.heap.size (w.heap.size + 1 + 1) (w.heap.size + 1) begun at_ think :=
          ⟨one_box ((hb4.block _ (by omega)).trans Hx3.out.1), one_box ((hb4.block _ (by omega)).trans Hx3.out.2.2), one_box ((hb4.block _ (by omega)).trans Hx3.out.2.1)⟩
        have hle : (standingF l doc at_ known).length ≤ 4096 := Nat.le_trans (Nat.le_trans (List.length_filter_le _ _) (List.length_filter_le _ _)) hn
        have hdel := Dl.del_any (standingF l doc at_ known) hle _ _ _ begun at_ think A4 c4 w4 w3.heap.size hb4.size hcaps ⟨by omega, by omega, by omega⟩ hown
        have Hbw4 := pk (Hbw3.out.trans (hb4.mono (by omega)))
        have Hdel := pk hdel
        clear hR4 hown hcaps hdel hb4 hc2
        go_wp2_with fail
        refine Hdel.out.mono ?_
        rintro e w5 ⟨v5, rfl, hown5, hb5⟩
        have hown6 := pk hown5
        have hb6 := pk hb5
        clear hown5 hb5
        obtain ⟨A5, n5, c5, rfl⟩ : ∃ A5 n5 c5, v5 = .slice A5 n5 c5 := by
          rcases hown6.out.2 with ⟨rfl, h1⟩ | ⟨g, cap, cur, rfl, _⟩
          · exact ⟨_, _, _, rfl⟩
          · exact ⟨_, _, _, rfl⟩
        go_wp2_with fail
        go_ret2
        have he : countingF l doc begun think at_ known = ((standingF l doc at_ known).filter (Dl.keepF begun think at_), 0) := by
          unfold countingF
          rw [Hckr.out, if_neg (by simp), if_neg (by rw [Hi1.out, Hi2.out]; simp)]
          rfl
        unfold Post
        rw [he]
        exact ⟨_, rfl, R24_of_own (own_weaken hown6.out (by omega)) (fun _ _ => trivial), Hbw4.out.trans (hb6.out.mono (by omega))⟩
  · have hq : (ck == 0) = false := by simpa using h0
    go_wp2_with fail
    go_ret2
    exact post_err (by unfold countingF; rw [Hckr.out, if_pos h0]) (Hb0.out.trans (Hb1.out.mono (by omega)))
end Cn
theorem counting_hook (A0 : Option Addr) (c0 : Nat) (l0 : List S24) (a1 a2 a3 a4 a5 : Int) (w : World) (hr0 : Kd.C k24 w A0 l0.length l0) (hc0 : l0.length ≤ c0) :
    Calls Try.prog 17 #[.slice A0 l0.length c0, .int .i64 a1, .int .i64 a2, .int .i64 a3, .int .i64 a4, .int .i64 a5] w fun e w' => ∃ v0_ : Value, e = .returned (.tuple #[v0_, .int .i64 (S.countingF l0 a1 a2 a3 a4 a5).2]) ∧ Kd.R k24 24 w' w.heap.size (fun _ => True) v0_ (S.countingF l0 a1 a2 a3 a4 a5).1 ∧ Below w.heap.size w w' :=
  Cn.counting_any A0 c0 l0 a1 a2 a3 a4 a5 w hr0 hc0
end Go.Proofs.Ytcpheagandpacaa.W

-- FOLDED: the printed part of the function that is given by hand
-- Written by drive.py (a session's program over the kit's print). Not trusted: Lean checks it.
namespace Go.Proofs.Ytcpheagandpacaa.P
open Go.RowKit Go.Proofs.YtcpheagandpacaaW.PrintWords Go.Proofs.YtcpheagandpacaaW.PrintLast Go.Proofs.YtcpheagandpacaaW.PrintMore
attribute [local go_sem] max2_int min2_int max_two min_two max_three min_three max_four min_four   -- for this text's walks alone
set_option linter.unusedVariables false
set_option linter.unusedSimpArgs false

/-! ### approvals_Counting: function 17 -/
-- HOOK Derived.Test.YtcpheagandpacaaWd
def approvals_Counting.f (l0 : List (S24)) (a1 : Int) (a2 : Int) (a3 : Int) (a4 : Int) (a5 : Int) : Option ((List (S24)) × Int) := some (S.countingF l0 a1 a2 a3 a4 a5)
theorem approvals_Counting.calls (A0 : Option Addr) (c0 : Nat) (l0 : List (S24)) (a1 : Int) (a2 : Int) (a3 : Int) (a4 : Int) (a5 : Int) (r1 : List (S24)) (r2 : Int) (w : World) (hr0 : Kd.C k24 w A0 l0.length l0) (hc0 : l0.length ≤ c0) (h : approvals_Counting.f l0 a1 a2 a3 a4 a5 = some (r1, r2)) :
    Calls Try.prog 17 #[.slice A0 l0.length c0, .int .i64 a1, .int .i64 a2, .int .i64 a3, .int .i64 a4, .int .i64 a5] w (fun e w' => ∃ v0_ : Value, e = .returned (.tuple #[v0_, .int .i64 r2]) ∧ Kd.R k24 24 w' w.heap.size (fun _ => True) v0_ r1 ∧ Below w.heap.size w w') := by
  unfold approvals_Counting.f at h
  simp only [Option.some.injEq] at h
  have h0_ := congrArg (fun p_ => p_.1) h
  have h1_ := congrArg (fun p_ => p_.2) h
  dsimp only at h0_ h1_
  subst h0_ h1_
  exact W.counting_hook A0 c0 l0 a1 a2 a3 a4 a5 w hr0 hc0
end Go.Proofs.Ytcpheagandpacaa.P
