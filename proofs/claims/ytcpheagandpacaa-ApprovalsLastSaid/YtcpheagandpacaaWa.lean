/-
Package approvals: within, by a walk of ContainsFunc, IndexFunc and the closure. No condition beyond the row's being read.
-/
import Derived.Test.YtcpheagandpacaaS
import Derived.Lib.Hide
import Derived.Test.YtcpheagandpacaaP0
namespace Go.Proofs.Ytcpheagandpacaa.W
open Go.RowKit Go.Proofs.YtcpheagandpacaaW.PrintWords Go.Proofs.YtcpheagandpacaaW.PrintLast Go.Proofs.YtcpheagandpacaaW.PrintMore Go.Proofs.Ytcpheagandpacaa.P
set_option linter.unusedVariables false
theorem ret_bool {a b : Bool} (h : a = b) : Ending.returned (.bool a) = .returned (.bool b) := by rw [h]
open S (outB)
theorem within1_any (n m : Int) (B : Nat) (w : World) (hc : w.cell? ⟨B,0,none⟩ = some (.int .i64 m)) :
    Calls Try.prog 46 #[.int .i64 n, .pointer (some ⟨B,0,none⟩)] w fun e w' => e = .returned (.bool (outB m n)) ∧ w = w' := by
  by_cases h : n < 0
  · go_enter Try.func46, Try.ntmps46
    go_wp2
    go_ret
    exact ⟨by simp [outB, h], rfl⟩
  · have h0 : ¬ n < 0 := h
    go_enter Try.func46, Try.ntmps46
    go_wp2
    go_ret
    exact ⟨by simp [outB]; omega, rfl⟩

/-- where the first number beyond lies. -/
def IdxPost (l : List Int) (m : Int) (w : World) (e : Ending) (w' : World) : Prop := (∃ r : Int, e = .returned (.int .i64 r) ∧ decide (0 ≤ r) = l.any (outB m)) ∧ w = w'

theorem any_take_succ (p : Int → Bool) (l : List Int) (k : Nat) (h : k < l.length) : (l.take (k + 1)).any p = ((l.take k).any p || p l[k]) := by
  rw [List.take_succ_eq_append_getElem h, List.any_append]; simp
theorem any_of_at (p : Int → Bool) (l : List Int) (k : Nat) (h : k < l.length) (hp : p l[k] = true) : l.any p = true := List.any_eq_true.2 ⟨_, List.getElem_mem h, hp⟩

set_option maxHeartbeats 400000 in
theorem idx_any (l : List Int) (m : Int) (B : Nat) (A : Option Addr) (c : Nat) (w : World) (hc : w.cell? ⟨B,0,none⟩ = some (.int .i64 m)) (hn : l.length ≤ 9223372036854775807)
    (hr : ∀ i : Nat, i < l.length → ∃ ad, A = some ad ∧ w.cell? (ad.add i) = some (.int .i64 (l.getD i 0))) :
    Calls Try.prog 51 #[.slice A l.length c, .func (.func 46) #[] #[.pointer (some ⟨B,0,none⟩)]] w (IdxPost l m w) := by
  go_enter Try.func51, Try.ntmps51
  go_wp2_with fail
  go_loop [5, 8, 9, 10, 11, 12, 13, 14, 15, 16, 18] (fun _ i _ _ _ _ _ _ _ _ _ => ∃ k : Nat, k ≤ l.length ∧ i = .int .i64 k ∧ (l.take k).any (outB m) = false) (fun _ i _ _ _ _ _ _ _ _ _ => l.length - (intOf i).toNat)
  case atStart => exact ⟨0, Nat.zero_le _, rfl, rfl⟩
  case round =>
    obtain ⟨k, hk, rfl, hpre⟩ := hrel
    have Hpre := Lib.hid hpre
    clear hpre
    by_cases hlt : k < l.length
    · obtain ⟨ad, rfl, hcell⟩ := hr k hlt
      clear hr
      go_wp2_with (go_at_call 46; refine (within1_any _ _ _ _ hc).mono ?_; rintro e w' ⟨rfl, rfl⟩)
      · have hb : outB m l[k] = true := by assumption
        go_ret
        exact ⟨⟨_, rfl, by rw [any_of_at _ _ _ hlt hb]; simp⟩, rfl⟩
      · have hb : outB m l[k] = false := by assumption
        go_round
        case rel => exact ⟨k + 1, by omega, by go_num, by rw [any_take_succ _ _ _ hlt, Hpre.out, hb]; rfl⟩
        case measure => simp [intOf]; omega
    · go_wp2
      go_ret
      have e : k = l.length := by omega
      subst e
      exact ⟨⟨_, rfl, by have := Hpre.out; rw [List.take_length] at this; rw [this]; rfl⟩, rfl⟩

theorem cont_any (l : List Int) (m : Int) (B : Nat) (A : Option Addr) (c : Nat) (w : World) (hc : w.cell? ⟨B,0,none⟩ = some (.int .i64 m)) (hn : l.length ≤ 9223372036854775807)
    (hr : ∀ i : Nat, i < l.length → ∃ ad, A = some ad ∧ w.cell? (ad.add i) = some (.int .i64 (l.getD i 0))) :
    Calls Try.prog 45 #[.slice A l.length c, .func (.func 46) #[] #[.pointer (some ⟨B,0,none⟩)]] w fun e w' => e = .returned (.bool (l.any (outB m))) ∧ w = w' := by
  go_enter Try.func45, Try.ntmps45
  go_wp2_with fail
  refine (idx_any l m B A c _ hc hn hr).mono ?_
  rintro e w' ⟨⟨r, rfl, hh⟩, rfl⟩
  have Hh := Lib.hid hh
  clear hh
  go_wp2_with fail
  go_ret
  exact ⟨ret_bool Hh.out, rfl⟩

theorem within_any (l : List Int) (m : Int) (A : Option Addr) (c : Nat) (w : World) (hn : l.length ≤ 9223372036854775807)
    (hr : ∀ i : Nat, i < l.length → ∃ ad, A = some ad ∧ w.cell? (ad.add i) = some (.int .i64 (l.getD i 0))) :
    Calls Try.prog 33 #[.int .i64 m, .slice A l.length c] w fun e w' => e = .returned (.bool (!l.any (outB m))) ∧ Below w.heap.size w w' := by
  go_enter Try.func33, Try.ntmps33
  have hr1 : ∀ i : Nat, i < l.length → ∃ ad, A = some ad ∧ (w.alloc (.cells #[.int .i64 m] 3)).cell? (ad.add i) = some (.int .i64 (l.getD i 0)) := fun i hi => by
    obtain ⟨ad, e, h⟩ := hr i hi
    exact ⟨ad, e, (World.cell?_alloc_lt _ _ _ (World.block_lt_of_cell? _ _ h)).trans h⟩
  clear hr
  go_wp2_with fail
  refine (cont_any l m w.heap.size A c _ (by simp) hn hr1).mono ?_
  rintro e w' ⟨rfl, rfl⟩
  go_wp2_with fail
  go_ret
  exact ⟨rfl, (Below.refl _ _).alloc (Nat.le_refl _) _⟩

theorem within_hook (a0 : Int) (A1 : Option Addr) (c1 : Nat) (l1 : List Int) (w : World) (hr1 : Kd.C (Kd.int .i64) w A1 l1.length l1) (hc1 : l1.length ≤ c1) :
    Calls Try.prog 33 #[.int .i64 a0, .slice A1 l1.length c1] w fun e w' => e = .returned (.bool (S.withinF a0 l1)) ∧ Below w.heap.size w w' :=
  within_any l1 a0 A1 c1 w hr1.2.1 fun i hi => by
    obtain ⟨ad, e, h⟩ := Kd.at_int hr1 (i : Int) (by omega) (by omega)
    exact ⟨ad, e, by simpa [rd] using h⟩
end Go.Proofs.Ytcpheagandpacaa.W

-- FOLDED: the printed part of the function that is given by hand
-- Written by drive.py (a session's program over the kit's print). Not trusted: Lean checks it.
namespace Go.Proofs.Ytcpheagandpacaa.P
open Go.RowKit Go.Proofs.YtcpheagandpacaaW.PrintWords Go.Proofs.YtcpheagandpacaaW.PrintLast Go.Proofs.YtcpheagandpacaaW.PrintMore
attribute [local go_sem] max2_int min2_int max_two min_two max_three min_three max_four min_four   -- for this text's walks alone
set_option linter.unusedVariables false
set_option linter.unusedSimpArgs false

/-! ### approvals_within: function 33 -/
-- HOOK Derived.Test.YtcpheagandpacaaWa
def approvals_within.f (a0 : Int) (l1 : List Int) : Option (Bool) := some (S.withinF a0 l1)
theorem approvals_within.calls (a0 : Int) (A1 : Option Addr) (c1 : Nat) (l1 : List Int) (r : Bool) (w : World) (hr1 : Kd.C (Kd.int .i64) w A1 l1.length l1) (hc1 : l1.length ≤ c1) (h : approvals_within.f a0 l1 = some r) :
    Calls Try.prog 33 #[.int .i64 a0, .slice A1 l1.length c1] w (fun e w' => e = .returned (.bool r) ∧ Below w.heap.size w w') := by
  unfold approvals_within.f at h
  simp only [Option.some.injEq] at h
  subst h
  exact W.within_hook a0 A1 c1 l1 w hr1 hc1
end Go.Proofs.Ytcpheagandpacaa.P
