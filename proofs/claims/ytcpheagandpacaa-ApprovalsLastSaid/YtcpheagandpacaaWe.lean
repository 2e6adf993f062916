/-
The sanity examples of package signatorylaw28, by a walk: every call by its contract at the examples' own rows. No condition.
-/
import Derived.Test.YtcpheagandpacaaWb
import Derived.Test.YtcpheagandpacaaP5
import Derived.Test.YtcpheagandpacaaP8
import Derived.Test.YtcpheagandpacaaWd
import Derived.Test.YtcpheagandpacaaP6
import Derived.Test.YtcpheagandpacaaP11
import Derived.Test.YtcpheagandpacaaP12
import Derived.Test.YtcpheagandpacaaIt
import Derived.Test.YtcpheagandpacaaP0
namespace Go.Proofs.Ytcpheagandpacaa.W
open Go.RowKit Go.Proofs.YtcpheagandpacaaW.PrintWords Go.Proofs.YtcpheagandpacaaW.PrintLast Go.Proofs.YtcpheagandpacaaW.PrintMore Go.Proofs.Ytcpheagandpacaa.P
set_option linter.unusedVariables false
namespace Sn
def g0 : S24 := ⟨1, 5, 0, 0, 0, 0, 0, false⟩
def g1 : S24 := ⟨2, 9, 0, 0, 0, 0, 0, true⟩
def b0 : S24 := ⟨1, 5, 0, 0, 3, 4, 0, false⟩
def b1 : S24 := ⟨2, 5, 0, 0, 3, 3, 0, false⟩
def l1 : S24 := ⟨2, 12, 0, 0, 0, 0, 0, true⟩
def big : S24 := ⟨0, 0, 0, 4096, 0, 0, 0, false⟩
def far : S24 := ⟨0, 0, 0, 0, 64, 0, 0, false⟩
/-- a part of a row laid in a block is read -/
theorem C_block {W : World} {b : Nat} (p l m : List S24) (hb : W.heap[b]? = some (.cells (cl24 (p ++ l ++ m)).toArray 24 (0, 0))) (hn : l.length ≤ 4096) : Kd.C k24 W (some ⟨b, p.length * 8, none⟩) l.length l := by
  refine ⟨rfl, by omega, fun h0 => ⟨_, rfl, fun j x hj => ⟨cs24 x, cs24_len x, k24.K_of_M (k24_mkM W 0 (fun _ => True) x), fun i u hi => ?_⟩⟩⟩
  obtain ⟨hjl, he⟩ := List.getElem?_eq_some_iff.1 hj
  have hil : i < 8 := by have := (List.getElem?_eq_some_iff.1 hi).1; rwa [cs24_len] at this
  show W.cell? ((⟨b, p.length * 8, none⟩ : Addr).add (j * 8 + i)) = some u
  rw [Addr.add_lit, cell_of_row W b _ _ 24 (0, 0) hb, List.getElem?_toArray, List.append_assoc, cl24_append, List.getElem?_append_right (by rw [cl24_len]; omega), cl24_len, Nat.add_sub_cancel_left, cl24_append,
    List.getElem?_append_left (by rw [cl24_len]; omega)]
  have e : l = l.take j ++ x :: l.drop (j + 1) := by rw [← he, List.getElem_cons_drop, List.take_append_drop]
  have h1 : (cl24 (l.take j)).length = j * 8 := by rw [cl24_len, List.length_take, Nat.min_eq_left (by omega)]
  rw [e, cl24_append, cl24_cons, List.getElem?_append_right (by omega), h1, Nat.add_sub_cancel_left, List.getElem?_append_left (by rw [cs24_len]; exact hil)]
  exact hi
theorem own_shape {W : World} {base n : Nat} {v : Value} {xs : List Value} (h : W.ownsRow base 24 8 v n xs) (hn : 0 < n) : ∃ g c, v = .slice (some ⟨g, 0, none⟩) n c ∧ n ≤ c := by
  rcases h.2 with ⟨_, h2⟩ | ⟨g, cap, cur, h1, _, _, h4, _⟩
  · omega
  · exact ⟨g, cap, h1, h4⟩
theorem ints_row (w : World) (l : List Int) (hl : l.length ≤ 4096) : Kd.C (Kd.int .i64) (w.alloc (.cells (l.map (Value.int .i64)).toArray 3)) (some ⟨w.heap.size, 0, none⟩) l.length l := by
  refine Kd.C_of_reads (d := 0) ⟨rfl, by omega, fun _ => ⟨_, rfl, fun j hj => ?_⟩⟩
  rw [Addr.add_lit, Nat.zero_add, cell_of_row _ _ j _ 3 (0, 0) (Go.heap_alloc_new w _), List.getElem?_toArray, List.getElem?_map, List.getElem?_eq_getElem hj, List.getD_eq_getElem?_getD, List.getElem?_eq_getElem hj]
  rfl
theorem e1 : approvals_Add.f [g1] 1 5 0 0 0 0 0 false = some ([g0, g1], 0) := by kernel_rfl
theorem e2 : approvals_Add.f [g0, g1] 1 5 0 0 0 0 0 false = some ([], 151) := by kernel_rfl
theorem e3 : approvals_Add.f [] 0 0 0 0 64 0 0 false = some ([], 280) := by kernel_rfl
theorem e4 : approvals_Standing.f 10 [] (-1) 0 0 = some ([], 1) := by kernel_rfl
theorem e5 : approvals_Counting.f [] 0 0 (-1) 0 0 = some ([], 1) := by kernel_rfl
theorem e6 : signatoryref28_Same.f 10 [g0, g1] [g0, g1] = some true := by kernel_rfl
theorem e7 : approvals_Check.f 10 [g0, g1] = some 0 := by kernel_rfl
theorem e8 : approvals_Check.f 10 [big] = some 280 := by kernel_rfl
theorem e9 : signatorylaw28_stand.f 10 [] 0 [] = some true := by kernel_rfl
theorem e10 : signatorylaw28_stand.f 10 [g0, g1] 8 [1] = some true := by kernel_rfl
theorem e11 : signatorylaw28_stand.f 10 [g0, g1] 9 [] = some true := by kernel_rfl
theorem e12 : signatorylaw28_stand.f 10 [b0, b1] 5 [1, 2] = some true := by kernel_rfl
theorem e13 : signatorylaw28_count.f [b0, b1] 0 10 14 [] = some true := by kernel_rfl
theorem e14 : signatorylaw28_count.f [b0, b1] 0 10 15 [1, 2] = some true := by kernel_rfl
theorem e15 : signatorylaw28_count.f [b0, b1] 6 0 15 [] = some true := by kernel_rfl
theorem e16 : signatorylaw28_count.f [g0, l1] 0 10 15 [] = some true := by kernel_rfl
/-- the three rows of the examples -/
structure Three (w W : World) : Prop where
  h0 : W.heap[w.heap.size]? = some (.cells (cl24 [g0, g1]).toArray 24 (0, 0))
  h1 : W.heap[w.heap.size + 1]? = some (.cells (cl24 [b0, b1]).toArray 24 (0, 0))
  h2 : W.heap[w.heap.size + 1 + 1]? = some (.cells (cl24 [g0, l1]).toArray 24 (0, 0))
  hb : Below w.heap.size w W
theorem Three.lt {w W : World} (h : Three w W) : w.heap.size + 1 + 1 < W.heap.size := (Array.getElem?_eq_some_iff.1 h.h2).1
theorem Three.next {w W W' : World} (h : Three w W) (hb : Below W.heap.size W W') : Three w W' :=
  ⟨(hb.block _ (by have := h.lt; omega)).trans h.h0, (hb.block _ (by have := h.lt; omega)).trans h.h1, (hb.block _ (by have := h.lt; omega)).trans h.h2, h.hb.trans (hb.mono (by have := h.lt; omega))⟩
theorem Three.drew {w W : World} (h : Three w W) : Three w W.drew := ⟨h.h0, h.h1, h.h2, below_drew h.hb⟩
theorem Three.gone {w W : World} (h : Three w W) : Kd.C k24 W (some ⟨w.heap.size, 0, none⟩) [g0, g1].length [g0, g1] := C_block [] [g0, g1] [] h.h0 (by simp)
theorem Three.rest {w W : World} (h : Three w W) : Kd.C k24 W (some ⟨w.heap.size, 8, none⟩) [g1].length [g1] := C_block [g0] [g1] [] h.h0 (by simp)
theorem Three.both {w W : World} (h : Three w W) : Kd.C k24 W (some ⟨w.heap.size + 1, 0, none⟩) [b0, b1].length [b0, b1] := C_block [] [b0, b1] [] h.h1 (by simp)
theorem Three.late {w W : World} (h : Three w W) : Kd.C k24 W (some ⟨w.heap.size + 1 + 1, 0, none⟩) [g0, l1].length [g0, l1] := C_block [] [g0, l1] [] h.h2 (by simp)
set_option maxHeartbeats 8000000 in
set_option maxRecDepth 100000 in
theorem sane_any (w : World) : Calls Try.prog 8 #[] w fun e w' => e = .returned (.bool true) ∧ Below w.heap.size w w' := by
  obtain ⟨W0, hW0⟩ : ∃ W0, ((w.alloc (.cells #[.int .i64 g0.f0, .int .i64 g0.f1, .int .i64 g0.f2, .int .i64 g0.f3, .int .i64 g0.f4, .int .i64 g0.f5, .int .i64 g0.f6, .bool g0.f7, .int .i64 g1.f0, .int .i64 g1.f1, .int .i64 g1.f2, .int .i64 g1.f3, .int .i64 g1.f4, .int .i64 g1.f5, .int .i64 g1.f6, .bool g1.f7] 24)).alloc (.cells #[.int .i64 b0.f0, .int .i64 b0.f1, .int .i64 b0.f2, .int .i64 b0.f3, .int .i64 b0.f4, .int .i64 b0.f5, .int .i64 b0.f6, .bool b0.f7, .int .i64 b1.f0, .int .i64 b1.f1, .int .i64 b1.f2, .int .i64 b1.f3, .int .i64 b1.f4, .int .i64 b1.f5, .int .i64 b1.f6, .bool b1.f7] 24)).alloc (.cells #[.int .i64 g0.f0, .int .i64 g0.f1, .int .i64 g0.f2, .int .i64 g0.f3, .int .i64 g0.f4, .int .i64 g0.f5, .int .i64 g0.f6, .bool g0.f7, .int .i64 l1.f0, .int .i64 l1.f1, .int .i64 l1.f2, .int .i64 l1.f3, .int .i64 l1.f4, .int .i64 l1.f5, .int .i64 l1.f6, .bool l1.f7] 24) = W0 := ⟨_, rfl⟩
  have h3 : Three w W0 := by
    rw [← hW0]
    refine ⟨?_, ?_, ?_, ?_⟩
    · show (((w.heap.push _).push _).push _)[_]? = _; simp only [Array.getElem?_push, Array.size_push]; repeat (first | rfl | rw [if_pos trivial] | rw [if_pos (by omega)] | rw [if_neg (by omega)])
    · show (((w.heap.push _).push _).push _)[_]? = _; simp only [Array.getElem?_push, Array.size_push]; repeat (first | rfl | rw [if_pos trivial] | rw [if_pos (by omega)] | rw [if_neg (by omega)])
    · show (((w.heap.push _).push _).push _)[_]? = _; simp only [Array.getElem?_push, Array.size_push]; repeat (first | rfl | rw [if_pos trivial] | rw [if_pos (by omega)] | rw [if_neg (by omega)])
    · exact (((Below.refl _ _).alloc (Nat.le_refl _) _).alloc (by simp) _).alloc (by simp; omega) _
  have H3 := pk h3
  clear h3
  simp only [g0, g1, b0, b1, l1] at hW0
  go_enter Try.func8, Try.ntmps8
  go_wp2_with fail
  clear hW0
  have hcl := fun j => cell_of_row W0 w.heap.size j _ 24 (0, 0) H3.out.h0
  have hy0 : W0.cell? ⟨w.heap.size, 0, none⟩ = some (.int .i64 1) := hcl 0
  have hy1 : W0.cell? ⟨w.heap.size, 1, none⟩ = some (.int .i64 5) := hcl 1
  have hy2 : W0.cell? ⟨w.heap.size, 2, none⟩ = some (.int .i64 0) := hcl 2
  have hy3 : W0.cell? ⟨w.heap.size, 3, none⟩ = some (.int .i64 0) := hcl 3
  have hy4 : W0.cell? ⟨w.heap.size, 4, none⟩ = some (.int .i64 0) := hcl 4
  have hy5 : W0.cell? ⟨w.heap.size, 5, none⟩ = some (.int .i64 0) := hcl 5
  have hy6 : W0.cell? ⟨w.heap.size, 6, none⟩ = some (.int .i64 0) := hcl 6
  have hy7 : W0.cell? ⟨w.heap.size, 7, none⟩ = some (.bool false) := hcl 7
  clear hcl
  go_region_with (go_at_call 10; refine (approvals_Add.calls (some ⟨w.heap.size, 8, none⟩) 1 [g1] 1 5 0 0 0 0 0 false [g0, g1] 0 _ H3.out.drew.rest (by simp) e1).mono ?_; rintro e w1 ⟨v1, rfl, hR1, hb1⟩; have H31 := pk (H3.out.drew.next hb1); have Hl1 := pk (own_of_R24 hR1); clear hR1 hb1 hy0 hy1 hy2 hy3 hy4 hy5 hy6 hy7)
  obtain ⟨gv, cv, hv1, hcv⟩ := own_shape Hl1.out (by simp)
  subst hv1
  have hcl := fun j => cell_of_row w1 w.heap.size j _ 24 (0, 0) H31.out.h0
  have hy0 : w1.cell? ⟨w.heap.size, 0, none⟩ = some (.int .i64 1) := hcl 0
  have hy1 : w1.cell? ⟨w.heap.size, 1, none⟩ = some (.int .i64 5) := hcl 1
  have hy2 : w1.cell? ⟨w.heap.size, 2, none⟩ = some (.int .i64 0) := hcl 2
  have hy3 : w1.cell? ⟨w.heap.size, 3, none⟩ = some (.int .i64 0) := hcl 3
  have hy4 : w1.cell? ⟨w.heap.size, 4, none⟩ = some (.int .i64 0) := hcl 4
  have hy5 : w1.cell? ⟨w.heap.size, 5, none⟩ = some (.int .i64 0) := hcl 5
  have hy6 : w1.cell? ⟨w.heap.size, 6, none⟩ = some (.int .i64 0) := hcl 6
  have hy7 : w1.cell? ⟨w.heap.size, 7, none⟩ = some (.bool false) := hcl 7
  clear hcl
  go_wp2_with fail
  refine (approvals_Add.calls (some ⟨w.heap.size, 0, none⟩) 2 [g0, g1] 1 5 0 0 0 0 0 false [] 151 _ H31.out.gone (by simp) e2).mono ?_
  rintro e w2 ⟨v2, rfl, _, hb2⟩
  have H32 := pk (H31.out.next hb2)
  have Hl2 := pk (Dl.own_below Hl1.out hb2)
  clear hb2
  clear hy0 hy1 hy2 hy3 hy4 hy5 hy6 hy7
  go_wp2_with fail
  refine (approvals_Add.calls none 0 [] 0 0 0 0 64 0 0 false [] 280 _ (Kd.C_nil _ _) (by simp) e3).mono ?_
  rintro e w3 ⟨v3, rfl, _, hb3⟩
  have H33 := pk (H32.out.next hb3)
  have Hl3 := pk (Dl.own_below Hl2.out hb3)
  clear hb3
  go_wp2_with fail
  refine (approvals_Standing.calls 10 none 0 [] (-1) 0 0 [] 1 _ (Kd.C_nil _ _) (by simp) e4).mono ?_
  rintro e w4 ⟨v4, rfl, _, hb4⟩
  have H34 := pk (H33.out.next hb4)
  have Hl4 := pk (Dl.own_below Hl3.out hb4)
  clear hb4
  go_wp2_with fail
  refine (approvals_Counting.calls none 0 [] 0 0 (-1) 0 0 [] 1 _ (Kd.C_nil _ _) (by simp) e5).mono ?_
  rintro e w5 ⟨v5, rfl, _, hb5⟩
  have H35 := pk (H34.out.next hb5)
  have Hl5 := pk (Dl.own_below Hl4.out hb5)
  clear hb5
  go_wp2_with fail
  refine (signatoryref28_Same.calls 10 (some ⟨gv, 0, none⟩) cv [g0, g1] (some ⟨w.heap.size, 0, none⟩) 2 [g0, g1] true _ (Dl.C_of_own Hl5.out (by simp)) hcv H35.out.gone (by simp) e6).mono ?_
  rintro e w6 ⟨rfl, hb6⟩
  have H36 := pk (H35.out.next hb6.below)
  have Hl6 := pk (Dl.own_below Hl5.out hb6.below)
  clear hb6
  go_wp2_with fail
  refine (approvals_Check.calls 10 (some ⟨w.heap.size, 0, none⟩) 2 [g0, g1] 0 _ H36.out.gone (by simp) e7).mono ?_
  rintro e w7 ⟨rfl, hb7⟩
  have H37 := pk (H36.out.next hb7)
  have Hl7 := pk (Dl.own_below Hl6.out hb7)
  clear hb7
  go_wp2_with fail
  refine (approvals_Check.calls 10 (some ⟨w7.heap.size, 0, none⟩) 1 [big] 280 _ (C_block [] [big] [] (Go.heap_alloc_new w7 _) (by simp)) (by simp) e8).mono ?_
  rintro e w8 ⟨rfl, hb8⟩
  have H38 := pk (H37.out.next (((Below.refl _ _).alloc (Nat.le_refl _) _).trans (hb8.mono (by simp))))
  clear hb8
  go_wp2_with fail
  refine (signatorylaw28_stand.calls 10 none 0 [] 0 none 0 [] true _ (Kd.C_nil _ _) (by simp) (Kd.C_nil _ _) (by simp) e9).mono ?_
  rintro e w9 ⟨rfl, hb9⟩
  have H39 := pk (H38.out.next hb9)
  clear hb9
  go_wp2_with fail
  refine (signatorylaw28_stand.calls 10 (some ⟨w.heap.size, 0, none⟩) 2 [g0, g1] 8 (some ⟨w9.heap.size, 0, none⟩) 1 [1] true _ (H39.out.next ((Below.refl _ _).alloc (Nat.le_refl _) _)).gone (by simp) (ints_row w9 [1] (by simp)) (by simp) e10).mono ?_
  rintro e w10 ⟨rfl, hb10⟩
  have H310 := pk (H39.out.next (((Below.refl _ _).alloc (Nat.le_refl _) _).trans (hb10.mono (by simp))))
  clear hb10
  go_wp2_with fail
  refine (signatorylaw28_stand.calls 10 (some ⟨w.heap.size, 0, none⟩) 2 [g0, g1] 9 none 0 [] true _ H310.out.gone (by simp) (Kd.C_nil _ _) (by simp) e11).mono ?_
  rintro e w11 ⟨rfl, hb11⟩
  have H311 := pk (H310.out.next hb11)
  clear hb11
  go_wp2_with fail
  refine (signatorylaw28_stand.calls 10 (some ⟨w.heap.size + 1, 0, none⟩) 2 [b0, b1] 5 (some ⟨w11.heap.size, 0, none⟩) 2 [1, 2] true _ (H311.out.next ((Below.refl _ _).alloc (Nat.le_refl _) _)).both (by simp) (ints_row w11 [1, 2] (by simp)) (by simp) e12).mono ?_
  rintro e w12 ⟨rfl, hb12⟩
  have H312 := pk (H311.out.next (((Below.refl _ _).alloc (Nat.le_refl _) _).trans (hb12.mono (by simp))))
  clear hb12
  go_wp2_with fail
  refine (signatorylaw28_count.calls (some ⟨w.heap.size + 1, 0, none⟩) 2 [b0, b1] 0 10 14 none 0 [] true _ H312.out.both (by simp) (Kd.C_nil _ _) (by simp) e13).mono ?_
  rintro e w13 ⟨rfl, hb13⟩
  have H313 := pk (H312.out.next hb13)
  clear hb13
  go_wp2_with fail
  refine (signatorylaw28_count.calls (some ⟨w.heap.size + 1, 0, none⟩) 2 [b0, b1] 0 10 15 (some ⟨w13.heap.size, 0, none⟩) 2 [1, 2] true _ (H313.out.next ((Below.refl _ _).alloc (Nat.le_refl _) _)).both (by simp) (ints_row w13 [1, 2] (by simp)) (by simp) e14).mono ?_
  rintro e w14 ⟨rfl, hb14⟩
  have H314 := pk (H313.out.next (((Below.refl _ _).alloc (Nat.le_refl _) _).trans (hb14.mono (by simp))))
  clear hb14
  go_wp2_with fail
  refine (signatorylaw28_count.calls (some ⟨w.heap.size + 1, 0, none⟩) 2 [b0, b1] 6 0 15 none 0 [] true _ H314.out.both (by simp) (Kd.C_nil _ _) (by simp) e15).mono ?_
  rintro e w15 ⟨rfl, hb15⟩
  have H315 := pk (H314.out.next hb15)
  clear hb15
  go_wp2_with fail
  refine (signatorylaw28_count.calls (some ⟨w.heap.size + 1 + 1, 0, none⟩) 2 [g0, l1] 0 10 15 none 0 [] true _ H315.out.late (by simp) (Kd.C_nil _ _) (by simp) e16).mono ?_
  rintro e w16 ⟨rfl, hb16⟩
  have H316 := pk (H315.out.next hb16)
  clear hb16
  go_wp2_with fail
  go_ret
  exact ⟨rfl, H316.out.hb⟩
end Sn
theorem sane_hook (w : World) : Calls Try.prog 8 #[] w fun e w' => e = .returned (.bool true) ∧ Below w.heap.size w w' := Sn.sane_any w
end Go.Proofs.Ytcpheagandpacaa.W

-- FOLDED: the printed part of the function that is given by hand
-- Written by drive.py (a session's program over the kit's print). Not trusted: Lean checks it.
namespace Go.Proofs.Ytcpheagandpacaa.P
open Go.RowKit Go.Proofs.YtcpheagandpacaaW.PrintWords Go.Proofs.YtcpheagandpacaaW.PrintLast Go.Proofs.YtcpheagandpacaaW.PrintMore
attribute [local go_sem] max2_int min2_int max_two min_two max_three min_three max_four min_four   -- for this text's walks alone
set_option linter.unusedVariables false
set_option linter.unusedSimpArgs false

/-! ### signatorylaw28_sane: function 8 -/
-- HOOK Derived.Test.YtcpheagandpacaaWe
def signatorylaw28_sane.f  : Option (Bool) := some (true)
theorem signatorylaw28_sane.calls  (r : Bool) (w : World) (h : signatorylaw28_sane.f  = some r) :
    Calls Try.prog 8 #[] w (fun e w' => e = .returned (.bool r) ∧ Below w.heap.size w w') := by
  unfold signatorylaw28_sane.f at h
  simp only [Option.some.injEq] at h
  subst h
  exact W.sane_hook w
end Go.Proofs.Ytcpheagandpacaa.P
