/-
right of the package budgets, by a walk: seven calls of between. No condition.
-/
import Derived.Test.YtaemdkbfdpjimaaWu
import Derived.Test.YtaemdkbfdpjimaaP0
namespace Go.Proofs.Ytaemdkbfdpjimaa.W
open Go.RowKit Go.Proofs.YtaemdkbfdpjimaaW.PrintWords Go.Proofs.YtaemdkbfdpjimaaW.PrintLast Go.Proofs.YtaemdkbfdpjimaaW.PrintMore Go.Proofs.Ytaemdkbfdpjimaa.P
open S (betweenF rightF)
set_option linter.unusedVariables false
namespace Rt
structure Xb (w : World) (x : S24) (W : World) : Prop where
  blk : W.heap[w.heap.size]? = some (.cells #[.int .i64 x.f0, .int .i64 x.f1, .int .i64 x.f2, .int .i64 x.f3, .int .i64 x.f4, .int .i64 x.f5, .int .i64 x.f6, .bool x.f7] 24 (0, 0))
  bel : Below w.heap.size w W
theorem Xb.next {w : World} {x : S24} {W W' : World} (h : Xb w x W) (hb : Below W.heap.size W W') : Xb w x W' := ⟨(hb.block _ (Array.getElem?_eq_some_iff.1 h.blk).1).trans h.blk, below_step h.bel hb⟩
theorem Xb.new (w : World) (x : S24) : Xb w x (w.alloc (.cells #[.int .i64 x.f0, .int .i64 x.f1, .int .i64 x.f2, .int .i64 x.f3, .int .i64 x.f4, .int .i64 x.f5, .int .i64 x.f6, .bool x.f7] 24)) := ⟨Go.heap_alloc_new w _, (Below.refl _ _).alloc (Nat.le_refl _) _⟩
set_option maxHeartbeats 4000000 in
theorem right_any (x : S24) (w : World) : Calls Try.prog 26 #[.agg #[.int .i64 x.f0, .int .i64 x.f1, .int .i64 x.f2, .int .i64 x.f3, .int .i64 x.f4, .int .i64 x.f5, .int .i64 x.f6, .bool x.f7]] w fun e w' => e = .returned (.bool (rightF x)) ∧ Below w.heap.size w w' := by
  have K := pk (Xb.new w x)
  cases hg : x.f7 with
  | true =>
    rw [hg] at K
    have Hg := pk hg
    cases h0 : betweenF 0 1048576 [x.f0] with
    | false =>
      go_enter Try.func26, Try.ntmps26
      go_wp2_with (go_at_call 33; (first | (with_reducible refine (Us.btw1 _ _ _ _ (by assumption) _ _ (by simp)).mono ?_) | (with_reducible refine (Us.btw2 _ _ _ _ _ (by assumption) _ _ (by simp)).mono ?_)); rintro e w2 ⟨rfl, hb⟩; have n0 := pk (K.out.next hb); clear K hb; have K := n0; clear n0; (try clear hy0 hy1 hy2 hy3 hy4 hy5 hy6); have hcl := fun j => cell_of_row w2 w.heap.size j _ 24 (0, 0) K.out.blk; have hy0 : w2.cell? ⟨w.heap.size, 0, none⟩ = some (.int .i64 x.f0) := hcl 0; have hy1 : w2.cell? ⟨w.heap.size, 1, none⟩ = some (.int .i64 x.f1) := hcl 1; have hy2 : w2.cell? ⟨w.heap.size, 2, none⟩ = some (.int .i64 x.f2) := hcl 2; have hy3 : w2.cell? ⟨w.heap.size, 3, none⟩ = some (.int .i64 x.f3) := hcl 3; have hy4 : w2.cell? ⟨w.heap.size, 4, none⟩ = some (.int .i64 x.f4) := hcl 4; have hy5 : w2.cell? ⟨w.heap.size, 5, none⟩ = some (.int .i64 x.f5) := hcl 5; have hy6 : w2.cell? ⟨w.heap.size, 6, none⟩ = some (.int .i64 x.f6) := hcl 6; clear hcl)
      go_ret
      exact ⟨Us.ret_bool (by unfold rightF; simp [Hg.out, h0]), K.out.bel⟩
    | true =>
      cases h1 : betweenF 0 1099511627775 [x.f1, x.f2] with
      | false =>
        go_enter Try.func26, Try.ntmps26
        go_wp2_with (go_at_call 33; (first | (with_reducible refine (Us.btw1 _ _ _ _ (by assumption) _ _ (by simp)).mono ?_) | (with_reducible refine (Us.btw2 _ _ _ _ _ (by assumption) _ _ (by simp)).mono ?_)); rintro e w2 ⟨rfl, hb⟩; have n0 := pk (K.out.next hb); clear K hb; have K := n0; clear n0; (try clear hy0 hy1 hy2 hy3 hy4 hy5 hy6); have hcl := fun j => cell_of_row w2 w.heap.size j _ 24 (0, 0) K.out.blk; have hy0 : w2.cell? ⟨w.heap.size, 0, none⟩ = some (.int .i64 x.f0) := hcl 0; have hy1 : w2.cell? ⟨w.heap.size, 1, none⟩ = some (.int .i64 x.f1) := hcl 1; have hy2 : w2.cell? ⟨w.heap.size, 2, none⟩ = some (.int .i64 x.f2) := hcl 2; have hy3 : w2.cell? ⟨w.heap.size, 3, none⟩ = some (.int .i64 x.f3) := hcl 3; have hy4 : w2.cell? ⟨w.heap.size, 4, none⟩ = some (.int .i64 x.f4) := hcl 4; have hy5 : w2.cell? ⟨w.heap.size, 5, none⟩ = some (.int .i64 x.f5) := hcl 5; have hy6 : w2.cell? ⟨w.heap.size, 6, none⟩ = some (.int .i64 x.f6) := hcl 6; clear hcl)
        go_ret
        exact ⟨Us.ret_bool (by unfold rightF; simp [Hg.out, h0, h1]), K.out.bel⟩
      | true =>
        cases h2 : betweenF (-1) 15 [x.f3] with
        | false =>
          go_enter Try.func26, Try.ntmps26
          go_wp2_with (go_at_call 33; (first | (with_reducible refine (Us.btw1 _ _ _ _ (by assumption) _ _ (by simp)).mono ?_) | (with_reducible refine (Us.btw2 _ _ _ _ _ (by assumption) _ _ (by simp)).mono ?_)); rintro e w2 ⟨rfl, hb⟩; have n0 := pk (K.out.next hb); clear K hb; have K := n0; clear n0; (try clear hy0 hy1 hy2 hy3 hy4 hy5 hy6); have hcl := fun j => cell_of_row w2 w.heap.size j _ 24 (0, 0) K.out.blk; have hy0 : w2.cell? ⟨w.heap.size, 0, none⟩ = some (.int .i64 x.f0) := hcl 0; have hy1 : w2.cell? ⟨w.heap.size, 1, none⟩ = some (.int .i64 x.f1) := hcl 1; have hy2 : w2.cell? ⟨w.heap.size, 2, none⟩ = some (.int .i64 x.f2) := hcl 2; have hy3 : w2.cell? ⟨w.heap.size, 3, none⟩ = some (.int .i64 x.f3) := hcl 3; have hy4 : w2.cell? ⟨w.heap.size, 4, none⟩ = some (.int .i64 x.f4) := hcl 4; have hy5 : w2.cell? ⟨w.heap.size, 5, none⟩ = some (.int .i64 x.f5) := hcl 5; have hy6 : w2.cell? ⟨w.heap.size, 6, none⟩ = some (.int .i64 x.f6) := hcl 6; clear hcl)
          go_ret
          exact ⟨Us.ret_bool (by unfold rightF; simp [Hg.out, h0, h1, h2]), K.out.bel⟩
        | true =>
          cases h3 : betweenF 1 1099511627776 [x.f4] with
          | false =>
            go_enter Try.func26, Try.ntmps26
            go_wp2_with (go_at_call 33; (first | (with_reducible refine (Us.btw1 _ _ _ _ (by assumption) _ _ (by simp)).mono ?_) | (with_reducible refine (Us.btw2 _ _ _ _ _ (by assumption) _ _ (by simp)).mono ?_)); rintro e w2 ⟨rfl, hb⟩; have n0 := pk (K.out.next hb); clear K hb; have K := n0; clear n0; (try clear hy0 hy1 hy2 hy3 hy4 hy5 hy6); have hcl := fun j => cell_of_row w2 w.heap.size j _ 24 (0, 0) K.out.blk; have hy0 : w2.cell? ⟨w.heap.size, 0, none⟩ = some (.int .i64 x.f0) := hcl 0; have hy1 : w2.cell? ⟨w.heap.size, 1, none⟩ = some (.int .i64 x.f1) := hcl 1; have hy2 : w2.cell? ⟨w.heap.size, 2, none⟩ = some (.int .i64 x.f2) := hcl 2; have hy3 : w2.cell? ⟨w.heap.size, 3, none⟩ = some (.int .i64 x.f3) := hcl 3; have hy4 : w2.cell? ⟨w.heap.size, 4, none⟩ = some (.int .i64 x.f4) := hcl 4; have hy5 : w2.cell? ⟨w.heap.size, 5, none⟩ = some (.int .i64 x.f5) := hcl 5; have hy6 : w2.cell? ⟨w.heap.size, 6, none⟩ = some (.int .i64 x.f6) := hcl 6; clear hcl)
            go_ret
            exact ⟨Us.ret_bool (by unfold rightF; simp [Hg.out, h0, h1, h2, h3]), K.out.bel⟩
          | true =>
            cases h4 : betweenF 0 0 [x.f5] with
            | false =>
              go_enter Try.func26, Try.ntmps26
              go_wp2_with (go_at_call 33; (first | (with_reducible refine (Us.btw1 _ _ _ _ (by assumption) _ _ (by simp)).mono ?_) | (with_reducible refine (Us.btw2 _ _ _ _ _ (by assumption) _ _ (by simp)).mono ?_)); rintro e w2 ⟨rfl, hb⟩; have n0 := pk (K.out.next hb); clear K hb; have K := n0; clear n0; (try clear hy0 hy1 hy2 hy3 hy4 hy5 hy6); have hcl := fun j => cell_of_row w2 w.heap.size j _ 24 (0, 0) K.out.blk; have hy0 : w2.cell? ⟨w.heap.size, 0, none⟩ = some (.int .i64 x.f0) := hcl 0; have hy1 : w2.cell? ⟨w.heap.size, 1, none⟩ = some (.int .i64 x.f1) := hcl 1; have hy2 : w2.cell? ⟨w.heap.size, 2, none⟩ = some (.int .i64 x.f2) := hcl 2; have hy3 : w2.cell? ⟨w.heap.size, 3, none⟩ = some (.int .i64 x.f3) := hcl 3; have hy4 : w2.cell? ⟨w.heap.size, 4, none⟩ = some (.int .i64 x.f4) := hcl 4; have hy5 : w2.cell? ⟨w.heap.size, 5, none⟩ = some (.int .i64 x.f5) := hcl 5; have hy6 : w2.cell? ⟨w.heap.size, 6, none⟩ = some (.int .i64 x.f6) := hcl 6; clear hcl)
              go_ret
              exact ⟨Us.ret_bool (by unfold rightF; simp [Hg.out, h0, h1, h2, h3, h4]), K.out.bel⟩
            | true =>
              cases h5 : betweenF 0 0 [x.f6] with
              | false =>
                go_enter Try.func26, Try.ntmps26
                go_wp2_with (go_at_call 33; (first | (with_reducible refine (Us.btw1 _ _ _ _ (by assumption) _ _ (by simp)).mono ?_) | (with_reducible refine (Us.btw2 _ _ _ _ _ (by assumption) _ _ (by simp)).mono ?_)); rintro e w2 ⟨rfl, hb⟩; have n0 := pk (K.out.next hb); clear K hb; have K := n0; clear n0; (try clear hy0 hy1 hy2 hy3 hy4 hy5 hy6); have hcl := fun j => cell_of_row w2 w.heap.size j _ 24 (0, 0) K.out.blk; have hy0 : w2.cell? ⟨w.heap.size, 0, none⟩ = some (.int .i64 x.f0) := hcl 0; have hy1 : w2.cell? ⟨w.heap.size, 1, none⟩ = some (.int .i64 x.f1) := hcl 1; have hy2 : w2.cell? ⟨w.heap.size, 2, none⟩ = some (.int .i64 x.f2) := hcl 2; have hy3 : w2.cell? ⟨w.heap.size, 3, none⟩ = some (.int .i64 x.f3) := hcl 3; have hy4 : w2.cell? ⟨w.heap.size, 4, none⟩ = some (.int .i64 x.f4) := hcl 4; have hy5 : w2.cell? ⟨w.heap.size, 5, none⟩ = some (.int .i64 x.f5) := hcl 5; have hy6 : w2.cell? ⟨w.heap.size, 6, none⟩ = some (.int .i64 x.f6) := hcl 6; clear hcl)
                go_ret
                exact ⟨Us.ret_bool (by unfold rightF; simp [Hg.out, h0, h1, h2, h3, h4, h5]), K.out.bel⟩
              | true =>
                go_enter Try.func26, Try.ntmps26
                go_wp2_with (go_at_call 33; (first | (with_reducible refine (Us.btw1 _ _ _ _ (by assumption) _ _ (by simp)).mono ?_) | (with_reducible refine (Us.btw2 _ _ _ _ _ (by assumption) _ _ (by simp)).mono ?_)); rintro e w2 ⟨rfl, hb⟩; have n0 := pk (K.out.next hb); clear K hb; have K := n0; clear n0; (try clear hy0 hy1 hy2 hy3 hy4 hy5 hy6); have hcl := fun j => cell_of_row w2 w.heap.size j _ 24 (0, 0) K.out.blk; have hy0 : w2.cell? ⟨w.heap.size, 0, none⟩ = some (.int .i64 x.f0) := hcl 0; have hy1 : w2.cell? ⟨w.heap.size, 1, none⟩ = some (.int .i64 x.f1) := hcl 1; have hy2 : w2.cell? ⟨w.heap.size, 2, none⟩ = some (.int .i64 x.f2) := hcl 2; have hy3 : w2.cell? ⟨w.heap.size, 3, none⟩ = some (.int .i64 x.f3) := hcl 3; have hy4 : w2.cell? ⟨w.heap.size, 4, none⟩ = some (.int .i64 x.f4) := hcl 4; have hy5 : w2.cell? ⟨w.heap.size, 5, none⟩ = some (.int .i64 x.f5) := hcl 5; have hy6 : w2.cell? ⟨w.heap.size, 6, none⟩ = some (.int .i64 x.f6) := hcl 6; clear hcl)
                go_ret
                exact ⟨Us.ret_bool (by unfold rightF; simp [Hg.out, h0, h1, h2, h3, h4, h5]), K.out.bel⟩
  | false =>
    rw [hg] at K
    have Hg := pk hg
    cases h0 : betweenF 0 1048576 [x.f0] with
    | false =>
      go_enter Try.func26, Try.ntmps26
      go_wp2_with (go_at_call 33; (first | (with_reducible refine (Us.btw1 _ _ _ _ (by assumption) _ _ (by simp)).mono ?_) | (with_reducible refine (Us.btw2 _ _ _ _ _ (by assumption) _ _ (by simp)).mono ?_)); rintro e w2 ⟨rfl, hb⟩; have n0 := pk (K.out.next hb); clear K hb; have K := n0; clear n0; (try clear hy0 hy1 hy2 hy3 hy4 hy5 hy6); have hcl := fun j => cell_of_row w2 w.heap.size j _ 24 (0, 0) K.out.blk; have hy0 : w2.cell? ⟨w.heap.size, 0, none⟩ = some (.int .i64 x.f0) := hcl 0; have hy1 : w2.cell? ⟨w.heap.size, 1, none⟩ = some (.int .i64 x.f1) := hcl 1; have hy2 : w2.cell? ⟨w.heap.size, 2, none⟩ = some (.int .i64 x.f2) := hcl 2; have hy3 : w2.cell? ⟨w.heap.size, 3, none⟩ = some (.int .i64 x.f3) := hcl 3; have hy4 : w2.cell? ⟨w.heap.size, 4, none⟩ = some (.int .i64 x.f4) := hcl 4; have hy5 : w2.cell? ⟨w.heap.size, 5, none⟩ = some (.int .i64 x.f5) := hcl 5; have hy6 : w2.cell? ⟨w.heap.size, 6, none⟩ = some (.int .i64 x.f6) := hcl 6; clear hcl)
      go_ret
      exact ⟨Us.ret_bool (by unfold rightF; simp [Hg.out, h0]), K.out.bel⟩
    | true =>
      cases h1 : betweenF 0 1099511627775 [x.f1, x.f2] with
      | false =>
        go_enter Try.func26, Try.ntmps26
        go_wp2_with (go_at_call 33; (first | (with_reducible refine (Us.btw1 _ _ _ _ (by assumption) _ _ (by simp)).mono ?_) | (with_reducible refine (Us.btw2 _ _ _ _ _ (by assumption) _ _ (by simp)).mono ?_)); rintro e w2 ⟨rfl, hb⟩; have n0 := pk (K.out.next hb); clear K hb; have K := n0; clear n0; (try clear hy0 hy1 hy2 hy3 hy4 hy5 hy6); have hcl := fun j => cell_of_row w2 w.heap.size j _ 24 (0, 0) K.out.blk; have hy0 : w2.cell? ⟨w.heap.size, 0, none⟩ = some (.int .i64 x.f0) := hcl 0; have hy1 : w2.cell? ⟨w.heap.size, 1, none⟩ = some (.int .i64 x.f1) := hcl 1; have hy2 : w2.cell? ⟨w.heap.size, 2, none⟩ = some (.int .i64 x.f2) := hcl 2; have hy3 : w2.cell? ⟨w.heap.size, 3, none⟩ = some (.int .i64 x.f3) := hcl 3; have hy4 : w2.cell? ⟨w.heap.size, 4, none⟩ = some (.int .i64 x.f4) := hcl 4; have hy5 : w2.cell? ⟨w.heap.size, 5, none⟩ = some (.int .i64 x.f5) := hcl 5; have hy6 : w2.cell? ⟨w.heap.size, 6, none⟩ = some (.int .i64 x.f6) := hcl 6; clear hcl)
        go_ret
        exact ⟨Us.ret_bool (by unfold rightF; simp [Hg.out, h0, h1]), K.out.bel⟩
      | true =>
        cases h2 : betweenF (-1) 15 [x.f3] with
        | false =>
          go_enter Try.func26, Try.ntmps26
          go_wp2_with (go_at_call 33; (first | (with_reducible refine (Us.btw1 _ _ _ _ (by assumption) _ _ (by simp)).mono ?_) | (with_reducible refine (Us.btw2 _ _ _ _ _ (by assumption) _ _ (by simp)).mono ?_)); rintro e w2 ⟨rfl, hb⟩; have n0 := pk (K.out.next hb); clear K hb; have K := n0; clear n0; (try clear hy0 hy1 hy2 hy3 hy4 hy5 hy6); have hcl := fun j => cell_of_row w2 w.heap.size j _ 24 (0, 0) K.out.blk; have hy0 : w2.cell? ⟨w.heap.size, 0, none⟩ = some (.int .i64 x.f0) := hcl 0; have hy1 : w2.cell? ⟨w.heap.size, 1, none⟩ = some (.int .i64 x.f1) := hcl 1; have hy2 : w2.cell? ⟨w.heap.size, 2, none⟩ = some (.int .i64 x.f2) := hcl 2; have hy3 : w2.cell? ⟨w.heap.size, 3, none⟩ = some (.int .i64 x.f3) := hcl 3; have hy4 : w2.cell? ⟨w.heap.size, 4, none⟩ = some (.int .i64 x.f4) := hcl 4; have hy5 : w2.cell? ⟨w.heap.size, 5, none⟩ = some (.int .i64 x.f5) := hcl 5; have hy6 : w2.cell? ⟨w.heap.size, 6, none⟩ = some (.int .i64 x.f6) := hcl 6; clear hcl)
          go_ret
          exact ⟨Us.ret_bool (by unfold rightF; simp [Hg.out, h0, h1, h2]), K.out.bel⟩
        | true =>
          cases h3 : betweenF 1 1099511627776 [x.f4] with
          | false =>
            go_enter Try.func26, Try.ntmps26
            go_wp2_with (go_at_call 33; (first | (with_reducible refine (Us.btw1 _ _ _ _ (by assumption) _ _ (by simp)).mono ?_) | (with_reducible refine (Us.btw2 _ _ _ _ _ (by assumption) _ _ (by simp)).mono ?_)); rintro e w2 ⟨rfl, hb⟩; have n0 := pk (K.out.next hb); clear K hb; have K := n0; clear n0; (try clear hy0 hy1 hy2 hy3 hy4 hy5 hy6); have hcl := fun j => cell_of_row w2 w.heap.size j _ 24 (0, 0) K.out.blk; have hy0 : w2.cell? ⟨w.heap.size, 0, none⟩ = some (.int .i64 x.f0) := hcl 0; have hy1 : w2.cell? ⟨w.heap.size, 1, none⟩ = some (.int .i64 x.f1) := hcl 1; have hy2 : w2.cell? ⟨w.heap.size, 2, none⟩ = some (.int .i64 x.f2) := hcl 2; have hy3 : w2.cell? ⟨w.heap.size, 3, none⟩ = some (.int .i64 x.f3) := hcl 3; have hy4 : w2.cell? ⟨w.heap.size, 4, none⟩ = some (.int .i64 x.f4) := hcl 4; have hy5 : w2.cell? ⟨w.heap.size, 5, none⟩ = some (.int .i64 x.f5) := hcl 5; have hy6 : w2.cell? ⟨w.heap.size, 6, none⟩ = some (.int .i64 x.f6) := hcl 6; clear hcl)
            go_ret
            exact ⟨Us.ret_bool (by unfold rightF; simp [Hg.out, h0, h1, h2, h3]), K.out.bel⟩
          | true =>
            cases h4 : betweenF 0 1048576 [x.f5] with
            | false =>
              go_enter Try.func26, Try.ntmps26
              go_wp2_with (go_at_call 33; (first | (with_reducible refine (Us.btw1 _ _ _ _ (by assumption) _ _ (by simp)).mono ?_) | (with_reducible refine (Us.btw2 _ _ _ _ _ (by assumption) _ _ (by simp)).mono ?_)); rintro e w2 ⟨rfl, hb⟩; have n0 := pk (K.out.next hb); clear K hb; have K := n0; clear n0; (try clear hy0 hy1 hy2 hy3 hy4 hy5 hy6); have hcl := fun j => cell_of_row w2 w.heap.size j _ 24 (0, 0) K.out.blk; have hy0 : w2.cell? ⟨w.heap.size, 0, none⟩ = some (.int .i64 x.f0) := hcl 0; have hy1 : w2.cell? ⟨w.heap.size, 1, none⟩ = some (.int .i64 x.f1) := hcl 1; have hy2 : w2.cell? ⟨w.heap.size, 2, none⟩ = some (.int .i64 x.f2) := hcl 2; have hy3 : w2.cell? ⟨w.heap.size, 3, none⟩ = some (.int .i64 x.f3) := hcl 3; have hy4 : w2.cell? ⟨w.heap.size, 4, none⟩ = some (.int .i64 x.f4) := hcl 4; have hy5 : w2.cell? ⟨w.heap.size, 5, none⟩ = some (.int .i64 x.f5) := hcl 5; have hy6 : w2.cell? ⟨w.heap.size, 6, none⟩ = some (.int .i64 x.f6) := hcl 6; clear hcl)
              go_ret
              exact ⟨Us.ret_bool (by unfold rightF; simp [Hg.out, h0, h1, h2, h3, h4]), K.out.bel⟩
            | true =>
              cases h5 : betweenF 0 1099511627776 [x.f6] with
              | false =>
                go_enter Try.func26, Try.ntmps26
                go_wp2_with (go_at_call 33; (first | (with_reducible refine (Us.btw1 _ _ _ _ (by assumption) _ _ (by simp)).mono ?_) | (with_reducible refine (Us.btw2 _ _ _ _ _ (by assumption) _ _ (by simp)).mono ?_)); rintro e w2 ⟨rfl, hb⟩; have n0 := pk (K.out.next hb); clear K hb; have K := n0; clear n0; (try clear hy0 hy1 hy2 hy3 hy4 hy5 hy6); have hcl := fun j => cell_of_row w2 w.heap.size j _ 24 (0, 0) K.out.blk; have hy0 : w2.cell? ⟨w.heap.size, 0, none⟩ = some (.int .i64 x.f0) := hcl 0; have hy1 : w2.cell? ⟨w.heap.size, 1, none⟩ = some (.int .i64 x.f1) := hcl 1; have hy2 : w2.cell? ⟨w.heap.size, 2, none⟩ = some (.int .i64 x.f2) := hcl 2; have hy3 : w2.cell? ⟨w.heap.size, 3, none⟩ = some (.int .i64 x.f3) := hcl 3; have hy4 : w2.cell? ⟨w.heap.size, 4, none⟩ = some (.int .i64 x.f4) := hcl 4; have hy5 : w2.cell? ⟨w.heap.size, 5, none⟩ = some (.int .i64 x.f5) := hcl 5; have hy6 : w2.cell? ⟨w.heap.size, 6, none⟩ = some (.int .i64 x.f6) := hcl 6; clear hcl)
                go_ret
                exact ⟨Us.ret_bool (by unfold rightF; simp [Hg.out, h0, h1, h2, h3, h4, h5]), K.out.bel⟩
              | true =>
                go_enter Try.func26, Try.ntmps26
                go_wp2_with (go_at_call 33; (first | (with_reducible refine (Us.btw1 _ _ _ _ (by assumption) _ _ (by simp)).mono ?_) | (with_reducible refine (Us.btw2 _ _ _ _ _ (by assumption) _ _ (by simp)).mono ?_)); rintro e w2 ⟨rfl, hb⟩; have n0 := pk (K.out.next hb); clear K hb; have K := n0; clear n0; (try clear hy0 hy1 hy2 hy3 hy4 hy5 hy6); have hcl := fun j => cell_of_row w2 w.heap.size j _ 24 (0, 0) K.out.blk; have hy0 : w2.cell? ⟨w.heap.size, 0, none⟩ = some (.int .i64 x.f0) := hcl 0; have hy1 : w2.cell? ⟨w.heap.size, 1, none⟩ = some (.int .i64 x.f1) := hcl 1; have hy2 : w2.cell? ⟨w.heap.size, 2, none⟩ = some (.int .i64 x.f2) := hcl 2; have hy3 : w2.cell? ⟨w.heap.size, 3, none⟩ = some (.int .i64 x.f3) := hcl 3; have hy4 : w2.cell? ⟨w.heap.size, 4, none⟩ = some (.int .i64 x.f4) := hcl 4; have hy5 : w2.cell? ⟨w.heap.size, 5, none⟩ = some (.int .i64 x.f5) := hcl 5; have hy6 : w2.cell? ⟨w.heap.size, 6, none⟩ = some (.int .i64 x.f6) := hcl 6; clear hcl)
                go_ret
                exact ⟨Us.ret_bool (by unfold rightF; simp [Hg.out, h0, h1, h2, h3, h4, h5]), K.out.bel⟩
end Rt
theorem right_hook (a0 : Int) (a1 : Int) (a2 : Int) (a3 : Int) (a4 : Int) (a5 : Int) (a6 : Int) (a7 : Bool) (w : World) : Calls Try.prog 26 #[.agg #[.int .i64 a0, .int .i64 a1, .int .i64 a2, .int .i64 a3, .int .i64 a4, .int .i64 a5, .int .i64 a6, .bool a7]] w fun e w' => e = .returned (.bool (S.rightF ⟨a0, a1, a2, a3, a4, a5, a6, a7⟩)) ∧ Below w.heap.size w w' := Rt.right_any ⟨a0, a1, a2, a3, a4, a5, a6, a7⟩ w
end Go.Proofs.Ytaemdkbfdpjimaa.W

-- FOLDED: the printed part of the function that is given by hand
-- Written by drive.py (a session's program over the kit's print). Not trusted: Lean checks it.
namespace Go.Proofs.Ytaemdkbfdpjimaa.P
open Go.RowKit Go.Proofs.YtaemdkbfdpjimaaW.PrintWords Go.Proofs.YtaemdkbfdpjimaaW.PrintLast Go.Proofs.YtaemdkbfdpjimaaW.PrintMore
attribute [local go_sem] max2_int min2_int max_two min_two max_three min_three max_four min_four   -- for this text's walks alone
set_option linter.unusedVariables false
set_option linter.unusedSimpArgs false

/-! ### budgets_right: function 26 -/
-- HOOK Derived.Test.YtaemdkbfdpjimaaWv
def budgets_right.f (a0_0 : Int) (a0_1 : Int) (a0_2 : Int) (a0_3 : Int) (a0_4 : Int) (a0_5 : Int) (a0_6 : Int) (a0_7 : Bool) : Option (Bool) := some (S.rightF ⟨a0_0, a0_1, a0_2, a0_3, a0_4, a0_5, a0_6, a0_7⟩)
theorem budgets_right.calls (a0_0 : Int) (a0_1 : Int) (a0_2 : Int) (a0_3 : Int) (a0_4 : Int) (a0_5 : Int) (a0_6 : Int) (a0_7 : Bool) (r : Bool) (w : World) (h : budgets_right.f a0_0 a0_1 a0_2 a0_3 a0_4 a0_5 a0_6 a0_7 = some r) :
    Calls Try.prog 26 #[.agg #[.int .i64 a0_0, .int .i64 a0_1, .int .i64 a0_2, .int .i64 a0_3, .int .i64 a0_4, .int .i64 a0_5, .int .i64 a0_6, .bool a0_7]] w (fun e w' => e = .returned (.bool r) ∧ Below w.heap.size w w') := by
  unfold budgets_right.f at h
  simp only [Option.some.injEq] at h
  subst h
  exact W.right_hook a0_0 a0_1 a0_2 a0_3 a0_4 a0_5 a0_6 a0_7 w
end Go.Proofs.Ytaemdkbfdpjimaa.P
