/-
stands of the package signatoryref18, by a walk: a loop of comparisons. Condition: the row is read, the index lies in it.
-/
import Derived.Test.YtaemdkbfdpjimaaIt
import Derived.Test.YtaemdkbfdpjimaaV4
import Derived.Test.YtaemdkbfdpjimaaP18
import Derived.Test.YtaemdkbfdpjimaaP0
namespace Go.Proofs.Ytaemdkbfdpjimaa.W
open Go.RowKit Go.Proofs.YtaemdkbfdpjimaaW.PrintWords Go.Proofs.YtaemdkbfdpjimaaW.PrintLast Go.Proofs.YtaemdkbfdpjimaaW.PrintMore Go.Proofs.Ytaemdkbfdpjimaa.P
open S (sameSubj)
open V (afterB knownB standsB)
set_option linter.unusedVariables false
namespace Ss
theorem ret_bool {a b : Bool} (h : a = b) : Ending.returned (.bool a) = .returned (.bool b) := by rw [h]
theorem counts_f (x : S24) (at_ known : Int) : signatoryref18_counts.f x.f0 x.f1 x.f2 x.f3 x.f4 x.f5 x.f6 x.f7 at_ known = some (knownB at_ known x) := by
  unfold signatoryref18_counts.f knownB
  by_cases h : x.f1 ≤ at_ <;> simp [h]
theorem counts_any (x : S24) (at_ known : Int) (b : Bool) (h : knownB at_ known x = b) (w : World) : Calls Try.prog 51 #[.agg #[.int .i64 x.f0, .int .i64 x.f1, .int .i64 x.f2, .int .i64 x.f3, .int .i64 x.f4, .int .i64 x.f5, .int .i64 x.f6, .bool x.f7], .int .i64 at_, .int .i64 known] w fun e w' => e = .returned (.bool b) ∧ Below w.heap.size w w' :=
  signatoryref18_counts.calls x.f0 x.f1 x.f2 x.f3 x.f4 x.f5 x.f6 x.f7 at_ known b w (by rw [counts_f, h])
def later (at_ known : Int) (x z : S24) : Bool := sameSubj z x && knownB at_ known z && afterB z x
/-- what stands between two rounds -/
def J (w : World) (x : S24) (l : List S24) (at_ known : Int) (k : Nat) (W : World) : Prop :=
  ((l.take k).any (later at_ known x)) = false ∧ W.heap[w.heap.size]? = some (.cells #[.int .i64 x.f0, .int .i64 x.f1, .int .i64 x.f2, .int .i64 x.f3, .int .i64 x.f4, .int .i64 x.f5, .int .i64 x.f6, .bool x.f7] 24 (0, 0)) ∧ Below w.heap.size w W
set_option maxHeartbeats 4000000 in
theorem stands_any (A : Option Addr) (c : Nat) (l : List S24) (i : Nat) (hi : i < l.length) (at_ known : Int) (w : World) (hr : Kd.C k24 w A l.length l) :
    Calls Try.prog 47 #[.slice A l.length c, .int .i64 (i : Int), .int .i64 at_, .int .i64 known] w fun e w' => e = .returned (.bool (standsB l at_ known (l.getD i z24))) ∧ Below w.heap.size w w' := by
  have hn := hr.2.1
  obtain ⟨ad0, hA, hcells⟩ := at_24 hr i hi
  generalize hx : l.getD i z24 = x at hcells
  have HR := pk hr
  clear hr
  subst hA
  replace hx := pk hx
  have HS : Pk (standsB l at_ known x = (!x.f7 && knownB at_ known x && !(l.any (later at_ known x)))) := pk rfl
  cases hf7 : x.f7 with
  | true =>
    simp only [hf7] at hcells
    replace hf7 := pk hf7
    go_enter Try.func47, Try.ntmps47
    go_wp2_with fail
    go_ret
    exact ⟨ret_bool (by rw [HS.out, hf7.out]; rfl), (Below.refl _ _).alloc (Nat.le_refl _) _⟩
  | false =>
    cases hkn : knownB at_ known x with
    | false =>
      replace hkn := pk hkn
      have hc := counts_any x at_ known false hkn.out
      rw [hf7] at hc
      simp only [hf7] at hcells
      replace hf7 := pk hf7
      have HC := pk hc
      clear hc
      go_enter Try.func47, Try.ntmps47
      go_wp2_with fail
      refine (HC.out _).mono ?_
      rintro e w1 ⟨rfl, hb⟩
      have Hb := pk hb
      clear hb
      go_wp2_with fail
      go_ret
      exact ⟨ret_bool (by rw [HS.out, hkn.out]; simp), ((Below.refl _ _).alloc (Nat.le_refl _) _).trans (Hb.out.mono (by simp))⟩
    | true =>
      replace hkn := pk hkn
      have hc := counts_any x at_ known true hkn.out
      rw [hf7] at hc
      simp only [hf7] at hcells
      have HC := pk hc
      have hX0 : ∀ W : World, Below (w.heap.size + 1) (w.alloc (.cells #[.int .i64 x.f0, .int .i64 x.f1, .int .i64 x.f2, .int .i64 x.f3, .int .i64 x.f4, .int .i64 x.f5, .int .i64 x.f6, .bool false] 24)) W → W.heap[w.heap.size]? = some (.cells #[.int .i64 x.f0, .int .i64 x.f1, .int .i64 x.f2, .int .i64 x.f3, .int .i64 x.f4, .int .i64 x.f5, .int .i64 x.f6, .bool x.f7] 24 (0, 0)) := by
        intro W hW
        rw [hf7]
        exact (hW.block _ (by omega)).trans (Go.heap_alloc_new w _)
      replace hf7 := pk hf7
      have HX0 := pk hX0
      clear hc hX0
      go_enter Try.func47, Try.ntmps47
      go_wp2_with fail
      refine (HC.out _).mono ?_
      rintro e w1 ⟨rfl, hb⟩
      have HX1 := pk (HX0.out w1 (by simpa using hb))
      have Hb := pk (((Below.refl _ w).alloc (Nat.le_refl _) _).trans (hb.mono (by simp)))
      clear hb HX0
      go_wp2_with fail
      go_loopw [10] (fun v wr => ∃ k : Nat, k ≤ l.length ∧ v = .int .i64 k ∧ Hid (J w x l at_ known k wr)) (fun v _ => l.length - (intOf v).toNat)
      case atStart => exact ⟨0, Nat.zero_le _, rfl, by simp, HX1.out, Hb.out⟩
      case round =>
        obtain ⟨k, hk, rfl, hh⟩ := hrel
        have Hh := pk hh.out
        clear hh
        have hwr := Hh.out.2.2.size
        by_cases hlt : k < l.length
        · obtain ⟨ad, hA, hcells2⟩ := at_24 (Kd.C_below HR.out Hh.out.2.2) k hlt
          generalize hy : l.getD k z24 = y at hcells2
          have hget : l[k] = y := by rw [← hy, List.getD_eq_getElem?_getD, List.getElem?_eq_getElem hlt]; rfl
          have hts : (l.take (k + 1)).any (later at_ known x) = later at_ known x y := by rw [List.take_succ_eq_append_getElem hlt, List.any_append, Hh.out.1, hget]; simp
          have hal : later at_ known x y = true → l.any (later at_ known x) = true := fun h => List.any_eq_true.2 ⟨l[k], List.getElem_mem hlt, by rw [hget]; exact h⟩
          cases hA
          have hX := Hh.out.2.1
          have hlX : w.heap.size < wr.heap.size := (Array.getElem?_eq_some_iff.1 hX).1
          have hcl := fun o j => cell_of_row (wr.alloc o) w.heap.size j _ 24 (0, 0) ((Below.heap_alloc wr o _ hlX).trans hX)
          have hx0 : ∀ o, (wr.alloc o).cell? ⟨w.heap.size, 0, none⟩ = some (.int .i64 x.f0) := fun o => hcl o 0
          have hx1 : ∀ o, (wr.alloc o).cell? ⟨w.heap.size, 1, none⟩ = some (.int .i64 x.f1) := fun o => hcl o 1
          have hx2 : ∀ o, (wr.alloc o).cell? ⟨w.heap.size, 2, none⟩ = some (.int .i64 x.f2) := fun o => hcl o 2
          have hx3 : ∀ o, (wr.alloc o).cell? ⟨w.heap.size, 3, none⟩ = some (.int .i64 x.f3) := fun o => hcl o 3
          have hx4 : ∀ o, (wr.alloc o).cell? ⟨w.heap.size, 4, none⟩ = some (.int .i64 x.f4) := fun o => hcl o 4
          have hx5 : ∀ o, (wr.alloc o).cell? ⟨w.heap.size, 5, none⟩ = some (.int .i64 x.f5) := fun o => hcl o 5
          have hx6 : ∀ o, (wr.alloc o).cell? ⟨w.heap.size, 6, none⟩ = some (.int .i64 x.f6) := fun o => hcl o 6
          have hx7 : ∀ o, (wr.alloc o).cell? ⟨w.heap.size, 7, none⟩ = some (.bool x.f7) := fun o => hcl o 7
          clear hcl hX hget hy
          replace hts := pk hts
          replace hal := pk hal
          have Hnext : Pk (∀ W, Below wr.heap.size wr W → later at_ known x y = false → J w x l at_ known (k + 1) W) := pk fun W hW hl => ⟨by rw [hts.out, hl], (hW.block _ hlX).trans Hh.out.2.1, below_step Hh.out.2.2 hW⟩
          by_cases h3 : y.f3 = x.f3
          · have g3 : (y.f3 == x.f3) = true := by simp [h3]
            replace h3 := pk h3
            by_cases h4 : y.f4 = x.f4
            · have g4 : (y.f4 == x.f4) = true := by simp [h4]
              replace h4 := pk h4
              cases hkn2 : knownB at_ known y with
              | false =>
                replace hkn2 := pk hkn2
                have Hl : Pk (later at_ known x y = false) := pk (by simp [later, hkn2.out])
                have HC2 := pk (counts_any y at_ known false hkn2.out)
                go_wp2_with fail
                refine (HC2.out _).mono ?_
                rintro e w2 ⟨rfl, hb2⟩
                have Hb2 := pk (((Below.refl _ wr).alloc (Nat.le_refl _) _).trans (hb2.mono (by simp)))
                have hX2 : w2.heap[w.heap.size]? = some (.cells #[.int .i64 x.f0, .int .i64 x.f1, .int .i64 x.f2, .int .i64 x.f3, .int .i64 x.f4, .int .i64 x.f5, .int .i64 x.f6, .bool x.f7] 24 (0, 0)) := (Hb2.out.block _ hlX).trans Hh.out.2.1
                have hY2 : w2.heap[wr.heap.size]? = some (.cells #[.int .i64 y.f0, .int .i64 y.f1, .int .i64 y.f2, .int .i64 y.f3, .int .i64 y.f4, .int .i64 y.f5, .int .i64 y.f6, .bool y.f7] 24 (0, 0)) := (hb2.block _ (by simp)).trans (Go.heap_alloc_new wr _)
                have hclx := fun j => cell_of_row w2 w.heap.size j _ 24 (0, 0) hX2
                have hcly := fun j => cell_of_row w2 wr.heap.size j _ 24 (0, 0) hY2
                have hp0 : w2.cell? ⟨w.heap.size, 0, none⟩ = some (.int .i64 x.f0) := hclx 0
                have hp1 : w2.cell? ⟨w.heap.size, 1, none⟩ = some (.int .i64 x.f1) := hclx 1
                have hp2 : w2.cell? ⟨w.heap.size, 2, none⟩ = some (.int .i64 x.f2) := hclx 2
                have hp3 : w2.cell? ⟨w.heap.size, 3, none⟩ = some (.int .i64 x.f3) := hclx 3
                have hp4 : w2.cell? ⟨w.heap.size, 4, none⟩ = some (.int .i64 x.f4) := hclx 4
                have hp5 : w2.cell? ⟨w.heap.size, 5, none⟩ = some (.int .i64 x.f5) := hclx 5
                have hp6 : w2.cell? ⟨w.heap.size, 6, none⟩ = some (.int .i64 x.f6) := hclx 6
                have hp7 : w2.cell? ⟨w.heap.size, 7, none⟩ = some (.bool x.f7) := hclx 7
                have hq0 : w2.cell? ⟨wr.heap.size, 0, none⟩ = some (.int .i64 y.f0) := hcly 0
                have hq1 : w2.cell? ⟨wr.heap.size, 1, none⟩ = some (.int .i64 y.f1) := hcly 1
                have hq2 : w2.cell? ⟨wr.heap.size, 2, none⟩ = some (.int .i64 y.f2) := hcly 2
                have hq3 : w2.cell? ⟨wr.heap.size, 3, none⟩ = some (.int .i64 y.f3) := hcly 3
                have hq4 : w2.cell? ⟨wr.heap.size, 4, none⟩ = some (.int .i64 y.f4) := hcly 4
                have hq5 : w2.cell? ⟨wr.heap.size, 5, none⟩ = some (.int .i64 y.f5) := hcly 5
                have hq6 : w2.cell? ⟨wr.heap.size, 6, none⟩ = some (.int .i64 y.f6) := hcly 6
                have hq7 : w2.cell? ⟨wr.heap.size, 7, none⟩ = some (.bool y.f7) := hcly 7
                clear hclx hcly hX2 hY2 hb2
                go_wp2_with fail
                go_roundw
                case rel => exact ⟨k + 1, by omega, by go_num, Hnext.out _ Hb2.out Hl.out⟩
                case measure => simp [intOf]; omega
              | true =>
                replace hkn2 := pk hkn2
                by_cases h1 : y.f1 > x.f1
                · have Hl : Pk (l.any (later at_ known x) = true) := pk (hal.out (by simp [later, sameSubj, afterB, h3.out, h4.out, hkn2.out, show x.f1 < y.f1 from h1]))
                  have HC2 := pk (counts_any y at_ known true hkn2.out)
                  go_wp2_with fail
                  refine (HC2.out _).mono ?_
                  rintro e w2 ⟨rfl, hb2⟩
                  have Hb2 := pk (((Below.refl _ wr).alloc (Nat.le_refl _) _).trans (hb2.mono (by simp)))
                  have hX2 : w2.heap[w.heap.size]? = some (.cells #[.int .i64 x.f0, .int .i64 x.f1, .int .i64 x.f2, .int .i64 x.f3, .int .i64 x.f4, .int .i64 x.f5, .int .i64 x.f6, .bool x.f7] 24 (0, 0)) := (Hb2.out.block _ hlX).trans Hh.out.2.1
                  have hY2 : w2.heap[wr.heap.size]? = some (.cells #[.int .i64 y.f0, .int .i64 y.f1, .int .i64 y.f2, .int .i64 y.f3, .int .i64 y.f4, .int .i64 y.f5, .int .i64 y.f6, .bool y.f7] 24 (0, 0)) := (hb2.block _ (by simp)).trans (Go.heap_alloc_new wr _)
                  have hclx := fun j => cell_of_row w2 w.heap.size j _ 24 (0, 0) hX2
                  have hcly := fun j => cell_of_row w2 wr.heap.size j _ 24 (0, 0) hY2
                  have hp0 : w2.cell? ⟨w.heap.size, 0, none⟩ = some (.int .i64 x.f0) := hclx 0
                  have hp1 : w2.cell? ⟨w.heap.size, 1, none⟩ = some (.int .i64 x.f1) := hclx 1
                  have hp2 : w2.cell? ⟨w.heap.size, 2, none⟩ = some (.int .i64 x.f2) := hclx 2
                  have hp3 : w2.cell? ⟨w.heap.size, 3, none⟩ = some (.int .i64 x.f3) := hclx 3
                  have hp4 : w2.cell? ⟨w.heap.size, 4, none⟩ = some (.int .i64 x.f4) := hclx 4
                  have hp5 : w2.cell? ⟨w.heap.size, 5, none⟩ = some (.int .i64 x.f5) := hclx 5
                  have hp6 : w2.cell? ⟨w.heap.size, 6, none⟩ = some (.int .i64 x.f6) := hclx 6
                  have hp7 : w2.cell? ⟨w.heap.size, 7, none⟩ = some (.bool x.f7) := hclx 7
                  have hq0 : w2.cell? ⟨wr.heap.size, 0, none⟩ = some (.int .i64 y.f0) := hcly 0
                  have hq1 : w2.cell? ⟨wr.heap.size, 1, none⟩ = some (.int .i64 y.f1) := hcly 1
                  have hq2 : w2.cell? ⟨wr.heap.size, 2, none⟩ = some (.int .i64 y.f2) := hcly 2
                  have hq3 : w2.cell? ⟨wr.heap.size, 3, none⟩ = some (.int .i64 y.f3) := hcly 3
                  have hq4 : w2.cell? ⟨wr.heap.size, 4, none⟩ = some (.int .i64 y.f4) := hcly 4
                  have hq5 : w2.cell? ⟨wr.heap.size, 5, none⟩ = some (.int .i64 y.f5) := hcly 5
                  have hq6 : w2.cell? ⟨wr.heap.size, 6, none⟩ = some (.int .i64 y.f6) := hcly 6
                  have hq7 : w2.cell? ⟨wr.heap.size, 7, none⟩ = some (.bool y.f7) := hcly 7
                  clear hclx hcly hX2 hY2 hb2
                  go_wp2_with fail
                  go_ret
                  exact ⟨ret_bool (by rw [HS.out, Hl.out]; simp), below_step Hh.out.2.2 Hb2.out⟩
                · by_cases h2 : y.f1 = x.f1
                  · have g2 : (y.f1 == x.f1) = true := by simp [h2]
                    have g1 : ¬ x.f1 < y.f1 := by omega
                    replace h2 := pk h2
                    by_cases h0 : y.f0 > x.f0
                    · have Hl : Pk (l.any (later at_ known x) = true) := pk (hal.out (by simp [later, sameSubj, afterB, h3.out, h4.out, hkn2.out, h2.out, show x.f0 < y.f0 from h0]))
                      have HC2 := pk (counts_any y at_ known true hkn2.out)
                      go_wp2_with fail
                      refine (HC2.out _).mono ?_
                      rintro e w2 ⟨rfl, hb2⟩
                      have Hb2 := pk (((Below.refl _ wr).alloc (Nat.le_refl _) _).trans (hb2.mono (by simp)))
                      have hX2 : w2.heap[w.heap.size]? = some (.cells #[.int .i64 x.f0, .int .i64 x.f1, .int .i64 x.f2, .int .i64 x.f3, .int .i64 x.f4, .int .i64 x.f5, .int .i64 x.f6, .bool x.f7] 24 (0, 0)) := (Hb2.out.block _ hlX).trans Hh.out.2.1
                      have hY2 : w2.heap[wr.heap.size]? = some (.cells #[.int .i64 y.f0, .int .i64 y.f1, .int .i64 y.f2, .int .i64 y.f3, .int .i64 y.f4, .int .i64 y.f5, .int .i64 y.f6, .bool y.f7] 24 (0, 0)) := (hb2.block _ (by simp)).trans (Go.heap_alloc_new wr _)
                      have hclx := fun j => cell_of_row w2 w.heap.size j _ 24 (0, 0) hX2
                      have hcly := fun j => cell_of_row w2 wr.heap.size j _ 24 (0, 0) hY2
                      have hp0 : w2.cell? ⟨w.heap.size, 0, none⟩ = some (.int .i64 x.f0) := hclx 0
                      have hp1 : w2.cell? ⟨w.heap.size, 1, none⟩ = some (.int .i64 x.f1) := hclx 1
                      have hp2 : w2.cell? ⟨w.heap.size, 2, none⟩ = some (.int .i64 x.f2) := hclx 2
                      have hp3 : w2.cell? ⟨w.heap.size, 3, none⟩ = some (.int .i64 x.f3) := hclx 3
                      have hp4 : w2.cell? ⟨w.heap.size, 4, none⟩ = some (.int .i64 x.f4) := hclx 4
                      have hp5 : w2.cell? ⟨w.heap.size, 5, none⟩ = some (.int .i64 x.f5) := hclx 5
                      have hp6 : w2.cell? ⟨w.heap.size, 6, none⟩ = some (.int .i64 x.f6) := hclx 6
                      have hp7 : w2.cell? ⟨w.heap.size, 7, none⟩ = some (.bool x.f7) := hclx 7
                      have hq0 : w2.cell? ⟨wr.heap.size, 0, none⟩ = some (.int .i64 y.f0) := hcly 0
                      have hq1 : w2.cell? ⟨wr.heap.size, 1, none⟩ = some (.int .i64 y.f1) := hcly 1
                      have hq2 : w2.cell? ⟨wr.heap.size, 2, none⟩ = some (.int .i64 y.f2) := hcly 2
                      have hq3 : w2.cell? ⟨wr.heap.size, 3, none⟩ = some (.int .i64 y.f3) := hcly 3
                      have hq4 : w2.cell? ⟨wr.heap.size, 4, none⟩ = some (.int .i64 y.f4) := hcly 4
                      have hq5 : w2.cell? ⟨wr.heap.size, 5, none⟩ = some (.int .i64 y.f5) := hcly 5
                      have hq6 : w2.cell? ⟨wr.heap.size, 6, none⟩ = some (.int .i64 y.f6) := hcly 6
                      have hq7 : w2.cell? ⟨wr.heap.size, 7, none⟩ = some (.bool y.f7) := hcly 7
                      clear hclx hcly hX2 hY2 hb2
                      go_wp2_with fail
                      go_ret
                      exact ⟨ret_bool (by rw [HS.out, Hl.out]; simp), below_step Hh.out.2.2 Hb2.out⟩
                    · have g0 : ¬ x.f0 < y.f0 := by omega
                      have Hl : Pk (later at_ known x y = false) := pk (by simp [later, afterB, h2.out, g0])
                      have HC2 := pk (counts_any y at_ known true hkn2.out)
                      go_wp2_with fail
                      refine (HC2.out _).mono ?_
                      rintro e w2 ⟨rfl, hb2⟩
                      have Hb2 := pk (((Below.refl _ wr).alloc (Nat.le_refl _) _).trans (hb2.mono (by simp)))
                      have hX2 : w2.heap[w.heap.size]? = some (.cells #[.int .i64 x.f0, .int .i64 x.f1, .int .i64 x.f2, .int .i64 x.f3, .int .i64 x.f4, .int .i64 x.f5, .int .i64 x.f6, .bool x.f7] 24 (0, 0)) := (Hb2.out.block _ hlX).trans Hh.out.2.1
                      have hY2 : w2.heap[wr.heap.size]? = some (.cells #[.int .i64 y.f0, .int .i64 y.f1, .int .i64 y.f2, .int .i64 y.f3, .int .i64 y.f4, .int .i64 y.f5, .int .i64 y.f6, .bool y.f7] 24 (0, 0)) := (hb2.block _ (by simp)).trans (Go.heap_alloc_new wr _)
                      have hclx := fun j => cell_of_row w2 w.heap.size j _ 24 (0, 0) hX2
                      have hcly := fun j => cell_of_row w2 wr.heap.size j _ 24 (0, 0) hY2
                      have hp0 : w2.cell? ⟨w.heap.size, 0, none⟩ = some (.int .i64 x.f0) := hclx 0
                      have hp1 : w2.cell? ⟨w.heap.size, 1, none⟩ = some (.int .i64 x.f1) := hclx 1
                      have hp2 : w2.cell? ⟨w.heap.size, 2, none⟩ = some (.int .i64 x.f2) := hclx 2
                      have hp3 : w2.cell? ⟨w.heap.size, 3, none⟩ = some (.int .i64 x.f3) := hclx 3
                      have hp4 : w2.cell? ⟨w.heap.size, 4, none⟩ = some (.int .i64 x.f4) := hclx 4
                      have hp5 : w2.cell? ⟨w.heap.size, 5, none⟩ = some (.int .i64 x.f5) := hclx 5
                      have hp6 : w2.cell? ⟨w.heap.size, 6, none⟩ = some (.int .i64 x.f6) := hclx 6
                      have hp7 : w2.cell? ⟨w.heap.size, 7, none⟩ = some (.bool x.f7) := hclx 7
                      have hq0 : w2.cell? ⟨wr.heap.size, 0, none⟩ = some (.int .i64 y.f0) := hcly 0
                      have hq1 : w2.cell? ⟨wr.heap.size, 1, none⟩ = some (.int .i64 y.f1) := hcly 1
                      have hq2 : w2.cell? ⟨wr.heap.size, 2, none⟩ = some (.int .i64 y.f2) := hcly 2
                      have hq3 : w2.cell? ⟨wr.heap.size, 3, none⟩ = some (.int .i64 y.f3) := hcly 3
                      have hq4 : w2.cell? ⟨wr.heap.size, 4, none⟩ = some (.int .i64 y.f4) := hcly 4
                      have hq5 : w2.cell? ⟨wr.heap.size, 5, none⟩ = some (.int .i64 y.f5) := hcly 5
                      have hq6 : w2.cell? ⟨wr.heap.size, 6, none⟩ = some (.int .i64 y.f6) := hcly 6
                      have hq7 : w2.cell? ⟨wr.heap.size, 7, none⟩ = some (.bool y.f7) := hcly 7
                      clear hclx hcly hX2 hY2 hb2
                      go_wp2_with fail
                      go_roundw
                      case rel => exact ⟨k + 1, by omega, by go_num, Hnext.out _ Hb2.out Hl.out⟩
                      case measure => simp [intOf]; omega
                  · have g2 : (y.f1 == x.f1) = false := by simpa using h2
                    have g1 : ¬ x.f1 < y.f1 := by omega
                    have Hl : Pk (later at_ known x y = false) := pk (by simp [later, afterB, h2, g1])
                    have HC2 := pk (counts_any y at_ known true hkn2.out)
                    go_wp2_with fail
                    refine (HC2.out _).mono ?_
                    rintro e w2 ⟨rfl, hb2⟩
                    have Hb2 := pk (((Below.refl _ wr).alloc (Nat.le_refl _) _).trans (hb2.mono (by simp)))
                    have hX2 : w2.heap[w.heap.size]? = some (.cells #[.int .i64 x.f0, .int .i64 x.f1, .int .i64 x.f2, .int .i64 x.f3, .int .i64 x.f4, .int .i64 x.f5, .int .i64 x.f6, .bool x.f7] 24 (0, 0)) := (Hb2.out.block _ hlX).trans Hh.out.2.1
                    have hY2 : w2.heap[wr.heap.size]? = some (.cells #[.int .i64 y.f0, .int .i64 y.f1, .int .i64 y.f2, .int .i64 y.f3, .int .i64 y.f4, .int .i64 y.f5, .int .i64 y.f6, .bool y.f7] 24 (0, 0)) := (hb2.block _ (by simp)).trans (Go.heap_alloc_new wr _)
                    have hclx := fun j => cell_of_row w2 w.heap.size j _ 24 (0, 0) hX2
                    have hcly := fun j => cell_of_row w2 wr.heap.size j _ 24 (0, 0) hY2
                    have hp0 : w2.cell? ⟨w.heap.size, 0, none⟩ = some (.int .i64 x.f0) := hclx 0
                    have hp1 : w2.cell? ⟨w.heap.size, 1, none⟩ = some (.int .i64 x.f1) := hclx 1
                    have hp2 : w2.cell? ⟨w.heap.size, 2, none⟩ = some (.int .i64 x.f2) := hclx 2
                    have hp3 : w2.cell? ⟨w.heap.size, 3, none⟩ = some (.int .i64 x.f3) := hclx 3
                    have hp4 : w2.cell? ⟨w.heap.size, 4, none⟩ = some (.int .i64 x.f4) := hclx 4
                    have hp5 : w2.cell? ⟨w.heap.size, 5, none⟩ = some (.int .i64 x.f5) := hclx 5
                    have hp6 : w2.cell? ⟨w.heap.size, 6, none⟩ = some (.int .i64 x.f6) := hclx 6
                    have hp7 : w2.cell? ⟨w.heap.size, 7, none⟩ = some (.bool x.f7) := hclx 7
                    have hq0 : w2.cell? ⟨wr.heap.size, 0, none⟩ = some (.int .i64 y.f0) := hcly 0
                    have hq1 : w2.cell? ⟨wr.heap.size, 1, none⟩ = some (.int .i64 y.f1) := hcly 1
                    have hq2 : w2.cell? ⟨wr.heap.size, 2, none⟩ = some (.int .i64 y.f2) := hcly 2
                    have hq3 : w2.cell? ⟨wr.heap.size, 3, none⟩ = some (.int .i64 y.f3) := hcly 3
                    have hq4 : w2.cell? ⟨wr.heap.size, 4, none⟩ = some (.int .i64 y.f4) := hcly 4
                    have hq5 : w2.cell? ⟨wr.heap.size, 5, none⟩ = some (.int .i64 y.f5) := hcly 5
                    have hq6 : w2.cell? ⟨wr.heap.size, 6, none⟩ = some (.int .i64 y.f6) := hcly 6
                    have hq7 : w2.cell? ⟨wr.heap.size, 7, none⟩ = some (.bool y.f7) := hcly 7
                    clear hclx hcly hX2 hY2 hb2
                    go_wp2_with fail
                    go_roundw
                    case rel => exact ⟨k + 1, by omega, by go_num, Hnext.out _ Hb2.out Hl.out⟩
                    case measure => simp [intOf]; omega
            · have g4 : (y.f4 == x.f4) = false := by simpa using h4
              have Hl : Pk (later at_ known x y = false) := pk (by simp [later, sameSubj, h4])
              go_wp2_with fail
              go_roundw
              case rel => exact ⟨k + 1, by omega, by go_num, Hnext.out _ ((Below.refl _ wr).alloc (Nat.le_refl _) _) Hl.out⟩
              case measure => simp [intOf]; omega
          · have g3 : (y.f3 == x.f3) = false := by simpa using h3
            have Hl : Pk (later at_ known x y = false) := pk (by simp [later, sameSubj, h3])
            go_wp2_with fail
            go_roundw
            case rel => exact ⟨k + 1, by omega, by go_num, Hnext.out _ ((Below.refl _ wr).alloc (Nat.le_refl _) _) Hl.out⟩
            case measure => simp [intOf]; omega
        · obtain rfl : k = l.length := by omega
          go_wp2_with fail
          go_ret
          have h := Hh.out.1
          rw [List.take_length] at h
          exact ⟨ret_bool (by rw [HS.out, hf7.out, hkn.out, h]; rfl), Hh.out.2.2⟩
end Ss
theorem stands_hook (A0 : Option Addr) (c0 : Nat) (l0 : List S24) (a1 a2 a3 : Int) (w : World) (hr0 : Kd.C k24 w A0 l0.length l0) (hg : 0 ≤ a1 ∧ a1 < (l0.length : Int)) :
    Calls Try.prog 47 #[.slice A0 l0.length c0, .int .i64 a1, .int .i64 a2, .int .i64 a3] w fun e w' => e = .returned (.bool (V.standsB l0 a2 a3 (rd_T24 l0 a1))) ∧ Below w.heap.size w w' := by
  obtain ⟨h0, h1⟩ := hg
  obtain ⟨i, rfl⟩ : ∃ i : Nat, a1 = i := ⟨a1.toNat, by omega⟩
  exact Ss.stands_any A0 c0 l0 i (by omega) a2 a3 w hr0
end Go.Proofs.Ytaemdkbfdpjimaa.W

-- FOLDED: the printed part of the function that is given by hand
-- Written by drive.py (a session's program over the kit's print). Not trusted: Lean checks it.
namespace Go.Proofs.Ytaemdkbfdpjimaa.P
open Go.RowKit Go.Proofs.YtaemdkbfdpjimaaW.PrintWords Go.Proofs.YtaemdkbfdpjimaaW.PrintLast Go.Proofs.YtaemdkbfdpjimaaW.PrintMore
attribute [local go_sem] max2_int min2_int max_two min_two max_three min_three max_four min_four   -- for this text's walks alone
set_option linter.unusedVariables false
set_option linter.unusedSimpArgs false

/-! ### signatoryref18_stands: function 47 -/
-- HOOK Derived.Test.YtaemdkbfdpjimaaWs
def signatoryref18_stands.f (l0 : List (S24)) (a1 : Int) (a2 : Int) (a3 : Int) : Option (Bool) := if 0 ≤ a1 ∧ a1 < (l0.length : Int) then some (V.standsB l0 a2 a3 (rd_T24 l0 a1)) else none
theorem signatoryref18_stands.calls (A0 : Option Addr) (c0 : Nat) (l0 : List (S24)) (a1 : Int) (a2 : Int) (a3 : Int) (r : Bool) (w : World) (hr0 : Kd.C k24 w A0 l0.length l0) (hc0 : l0.length ≤ c0) (h : signatoryref18_stands.f l0 a1 a2 a3 = some r) :
    Calls Try.prog 47 #[.slice A0 l0.length c0, .int .i64 a1, .int .i64 a2, .int .i64 a3] w (fun e w' => e = .returned (.bool r) ∧ Below w.heap.size w w') := by
  unfold signatoryref18_stands.f at h
  split at h
  rotate_left
  · cases h
  rename_i hg
  simp only [Option.some.injEq] at h
  subst h
  exact W.stands_hook A0 c0 l0 a1 a2 a3 w hr0 hg
end Go.Proofs.Ytaemdkbfdpjimaa.P
