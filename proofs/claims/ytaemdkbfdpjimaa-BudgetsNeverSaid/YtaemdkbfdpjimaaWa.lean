/-
Package budgets: between, by a walk of ContainsFunc, IndexFunc and the closure. No condition beyond the row's being read.
-/
import Derived.Test.YtaemdkbfdpjimaaS
import Derived.Lib.Hide
import Derived.Test.YtaemdkbfdpjimaaP0
namespace Go.Proofs.Ytaemdkbfdpjimaa.W
open Go.RowKit Go.Proofs.YtaemdkbfdpjimaaW.PrintWords Go.Proofs.YtaemdkbfdpjimaaW.PrintLast Go.Proofs.YtaemdkbfdpjimaaW.PrintMore Go.Proofs.Ytaemdkbfdpjimaa.P
set_option linter.unusedVariables false
theorem ret_bool {a b : Bool} (h : a = b) : Ending.returned (.bool a) = .returned (.bool b) := by rw [h]
open S (outB)
theorem within1_any (n a m : Int) (B C : Nat) (w : World) (hc : w.cell? ⟨B,0,none⟩ = some (.int .i64 a)) (hd : w.cell? ⟨C,0,none⟩ = some (.int .i64 m)) :
    Calls Try.prog 46 #[.int .i64 n, .pointer (some ⟨B,0,none⟩), .pointer (some ⟨C,0,none⟩)] w fun e w' => e = .returned (.bool (outB a m n)) ∧ w = w' := by
  by_cases h : n < a
  · go_enter Try.func46, Try.ntmps46
    go_wp2
    go_ret
    exact ⟨by simp [outB, h], rfl⟩
  · go_enter Try.func46, Try.ntmps46
    go_wp2
    go_ret
    exact ⟨by simp [outB]; omega, rfl⟩

/-- where the first number beyond lies. -/
def IdxPost (l : List Int) (a m : Int) (w : World) (e : Ending) (w' : World) : Prop := (∃ r : Int, e = .returned (.int .i64 r) ∧ decide (0 ≤ r) = l.any (outB a m)) ∧ w = w'

theorem any_take_succ (p : Int → Bool) (l : List Int) (k : Nat) (h : k < l.length) : (l.take (k + 1)).any p = ((l.take k).any p || p l[k]) := by
  rw [List.take_succ_eq_append_getElem h, List.any_append]; simp
theorem any_of_at (p : Int → Bool) (l : List Int) (k : Nat) (h : k < l.length) (hp : p l[k] = true) : l.any p = true := List.any_eq_true.2 ⟨_, List.getElem_mem h, hp⟩

set_option maxHeartbeats 400000 in
theorem idx_any (l : List Int) (a m : Int) (B C : Nat) (A : Option Addr) (c : Nat) (w : World) (hc : w.cell? ⟨B,0,none⟩ = some (.int .i64 a)) (hd : w.cell? ⟨C,0,none⟩ = some (.int .i64 m)) (hn : l.length ≤ 9223372036854775807)
    (hr : ∀ i : Nat, i < l.length → ∃ ad, A = some ad ∧ w.cell? (ad.add i) = some (.int .i64 (l.getD i 0))) :
    Calls Try.prog 50 #[.slice A l.length c, .func (.func 46) #[] #[.pointer (some ⟨B,0,none⟩), .pointer (some ⟨C,0,none⟩)]] w (IdxPost l a m w) := by
  go_enter Try.func50, Try.ntmps50
  go_wp2_with fail
  go_loop [5, 8, 9, 10, 11, 12, 13, 14, 15, 16, 18] (fun _ i _ _ _ _ _ _ _ _ _ => ∃ k : Nat, k ≤ l.length ∧ i = .int .i64 k ∧ (l.take k).any (outB a m) = false) (fun _ i _ _ _ _ _ _ _ _ _ => l.length - (intOf i).toNat)
  case atStart => exact ⟨0, Nat.zero_le _, rfl, rfl⟩
  case round =>
    obtain ⟨k, hk, rfl, hpre⟩ := hrel
    have Hpre := Lib.hid hpre
    clear hpre
    by_cases hlt : k < l.length
    · obtain ⟨ad, rfl, hcell⟩ := hr k hlt
      clear hr
      go_wp2_with (go_at_call 46; refine (within1_any _ _ _ _ _ _ hc hd).mono ?_; rintro e w' ⟨rfl, rfl⟩)
      · have hb : outB a m l[k] = true := by assumption
        go_ret
        exact ⟨⟨_, rfl, by rw [any_of_at _ _ _ hlt hb]; simp⟩, rfl⟩
      · have hb : outB a m l[k] = false := by assumption
        go_round
        case rel => exact ⟨k + 1, by omega, by go_num, by rw [any_take_succ _ _ _ hlt, Hpre.out, hb]; rfl⟩
        case measure => simp [intOf]; omega
    · go_wp2
      go_ret
      have e : k = l.length := by omega
      subst e
      exact ⟨⟨_, rfl, by have := Hpre.out; rw [List.take_length] at this; rw [this]; rfl⟩, rfl⟩

theorem cont_any (l : List Int) (a m : Int) (B C : Nat) (A : Option Addr) (c : Nat) (w : World) (hc : w.cell? ⟨B,0,none⟩ = some (.int .i64 a)) (hd : w.cell? ⟨C,0,none⟩ = some (.int .i64 m)) (hn : l.length ≤ 9223372036854775807)
    (hr : ∀ i : Nat, i < l.length → ∃ ad, A = some ad ∧ w.cell? (ad.add i) = some (.int .i64 (l.getD i 0))) :
    Calls Try.prog 45 #[.slice A l.length c, .func (.func 46) #[] #[.pointer (some ⟨B,0,none⟩), .pointer (some ⟨C,0,none⟩)]] w fun e w' => e = .returned (.bool (l.any (outB a m))) ∧ w = w' := by
  go_enter Try.func45, Try.ntmps45
  go_wp2_with fail
  refine (idx_any l a m B C A c _ hc hd hn hr).mono ?_
  rintro e w' ⟨⟨r, rfl, hh⟩, rfl⟩
  have Hh := Lib.hid hh
  clear hh
  go_wp2_with fail
  go_ret
  exact ⟨ret_bool Hh.out, rfl⟩

theorem between_any (l : List Int) (a m : Int) (A : Option Addr) (c : Nat) (w : World) (hn : l.length ≤ 9223372036854775807)
    (hr : ∀ i : Nat, i < l.length → ∃ ad, A = some ad ∧ w.cell? (ad.add i) = some (.int .i64 (l.getD i 0))) :
    Calls Try.prog 33 #[.int .i64 a, .int .i64 m, .slice A l.length c] w fun e w' => e = .returned (.bool (!l.any (outB a m))) ∧ Below w.heap.size w w' := by
  go_enter Try.func33, Try.ntmps33
  have hr1 : ∀ i : Nat, i < l.length → ∃ ad, A = some ad ∧ ((w.alloc (.cells #[.int .i64 a] 3)).alloc (.cells #[.int .i64 m] 3)).cell? (ad.add i) = some (.int .i64 (l.getD i 0)) := fun i hi => by
    obtain ⟨ad, e, h⟩ := hr i hi
    have hb := World.block_lt_of_cell? _ _ h
    exact ⟨ad, e, (World.cell?_alloc_lt _ _ _ (by simp; omega)).trans ((World.cell?_alloc_lt _ _ _ hb).trans h)⟩
  clear hr
  go_wp2_with fail
  refine (cont_any l a m w.heap.size (w.heap.size + 1) A c _ (by simp) (by simp) hn hr1).mono ?_
  rintro e w' ⟨rfl, rfl⟩
  go_wp2_with fail
  go_ret
  exact ⟨rfl, ((Below.refl _ _).alloc (Nat.le_refl _) _).alloc (by simp) _⟩

theorem between_hook (a0 a1 : Int) (A2 : Option Addr) (c2 : Nat) (l2 : List Int) (w : World) (hr2 : Kd.C (Kd.int .i64) w A2 l2.length l2) (hc2 : l2.length ≤ c2) :
    Calls Try.prog 33 #[.int .i64 a0, .int .i64 a1, .slice A2 l2.length c2] w fun e w' => e = .returned (.bool (S.betweenF a0 a1 l2)) ∧ Below w.heap.size w w' :=
  between_any l2 a0 a1 A2 c2 w hr2.2.1 fun i hi => by
    obtain ⟨ad, e, h⟩ := Kd.at_int hr2 (i : Int) (by omega) (by omega)
    exact ⟨ad, e, by simpa [rd] using h⟩
end Go.Proofs.Ytaemdkbfdpjimaa.W

-- FOLDED: the printed part of the function that is given by hand
-- Written by drive.py (a session's program over the kit's print). Not trusted: Lean checks it.
namespace Go.Proofs.Ytaemdkbfdpjimaa.P
open Go.RowKit Go.Proofs.YtaemdkbfdpjimaaW.PrintWords Go.Proofs.YtaemdkbfdpjimaaW.PrintLast Go.Proofs.YtaemdkbfdpjimaaW.PrintMore
attribute [local go_sem] max2_int min2_int max_two min_two max_three min_three max_four min_four   -- for this text's walks alone
set_option linter.unusedVariables false
set_option linter.unusedSimpArgs false

/-! ### budgets_between: function 33 -/
-- HOOK Derived.Test.YtaemdkbfdpjimaaWa
def budgets_between.f (a0 : Int) (a1 : Int) (l2 : List Int) : Option (Bool) := some (S.betweenF a0 a1 l2)
theorem budgets_between.calls (a0 : Int) (a1 : Int) (A2 : Option Addr) (c2 : Nat) (l2 : List Int) (r : Bool) (w : World) (hr2 : Kd.C (Kd.int .i64) w A2 l2.length l2) (hc2 : l2.length ≤ c2) (h : budgets_between.f a0 a1 l2 = some r) :
    Calls Try.prog 33 #[.int .i64 a0, .int .i64 a1, .slice A2 l2.length c2] w (fun e w' => e = .returned (.bool r) ∧ Below w.heap.size w w') := by
  unfold budgets_between.f at h
  simp only [Option.some.injEq] at h
  subst h
  exact W.between_hook a0 a1 A2 c2 l2 w hr2 hc2
end Go.Proofs.Ytaemdkbfdpjimaa.P
