/-
numbered, by a walk. Condition: both rows are read.
-/
import Derived.Test.YtcpheagandpacaaWk
import Derived.Test.YtcpheagandpacaaS
import Derived.Test.YtcpheagandpacaaP0
namespace Go.Proofs.Ytcpheagandpacaa.W
open Go.RowKit Go.Proofs.YtcpheagandpacaaW.PrintWords Go.Proofs.YtcpheagandpacaaW.PrintLast Go.Proofs.YtcpheagandpacaaW.PrintMore Go.Proofs.Ytcpheagandpacaa.P
set_option linter.unusedVariables false
namespace Nu
theorem ret_bool {a b : Bool} (h : a = b) : Ending.returned (.bool a) = .returned (.bool b) := by rw [h]
theorem at_ {w : World} {A : Option Addr} {n : Nat} {xs : List S24} (h : Kd.C k24 w A n xs) (k : Nat) (hk : k < n) :
    ∃ ad, A = some ad ∧ w.cell? (ad.add (k * 8)) = some (.int .i64 (xs.getD k z24).f0) ∧ w.cell? ⟨(ad.add (k * 8)).block, (ad.add (k * 8)).off + 1, none⟩ = some (.int .i64 (xs.getD k z24).f1) ∧ w.cell? ⟨(ad.add (k * 8)).block, (ad.add (k * 8)).off + 2, none⟩ = some (.int .i64 (xs.getD k z24).f2) ∧ w.cell? ⟨(ad.add (k * 8)).block, (ad.add (k * 8)).off + 3, none⟩ = some (.int .i64 (xs.getD k z24).f3) ∧ w.cell? ⟨(ad.add (k * 8)).block, (ad.add (k * 8)).off + 4, none⟩ = some (.int .i64 (xs.getD k z24).f4) ∧ w.cell? ⟨(ad.add (k * 8)).block, (ad.add (k * 8)).off + 5, none⟩ = some (.int .i64 (xs.getD k z24).f5) ∧ w.cell? ⟨(ad.add (k * 8)).block, (ad.add (k * 8)).off + 6, none⟩ = some (.int .i64 (xs.getD k z24).f6) ∧ w.cell? ⟨(ad.add (k * 8)).block, (ad.add (k * 8)).off + 7, none⟩ = some (.bool (xs.getD k z24).f7) := by
  have := at_T24 h (k : Int) (by omega) (by omega)
  simpa [rd_T24] using this
def Same (l : List S24) (m : List Int) (k : Nat) : Prop := ∀ a, a < k → (l.getD a z24).f0 = m.getD a 0
theorem same_all {l : List S24} {m : List Int} (hl : l.length = m.length) (h : Same l m l.length) : l.map (·.f0) = m := by
  refine List.ext_getElem (by simpa using hl) fun i h1 h2 => ?_
  have := h i (by simpa using h1)
  simp at h1
  simpa [List.getD_eq_getElem?_getD, List.getElem?_eq_getElem h1, List.getElem?_eq_getElem h2] using this
theorem not_same {l : List S24} {m : List Int} {k : Nat} (hl : l.length = m.length) (hk : k < l.length) (h : ¬ (l.getD k z24).f0 = m.getD k 0) : ¬ l.map (·.f0) = m := by
  rintro rfl
  simp [List.getD_eq_getElem?_getD, hk] at h
set_option maxHeartbeats 1000000 in
theorem num_any (A B : Option Addr) (c d : Nat) (l : List S24) (m : List Int) (w : World) (hr : Kd.C k24 w A l.length l) (hm : Kd.C (Kd.int .i64) w B m.length m) :
    Calls Try.prog 40 #[.slice A l.length c, .slice B m.length d] w fun e w' => e = .returned (.bool (decide (l.map (·.f0) = m))) ∧ Below w.heap.size w w' := by
  have hn := hr.2.1
  have HR := Lib.hid hr
  have HM := Lib.hid hm
  clear hr hm
  by_cases hl : l.length = m.length
  · have HL := Lib.hid hl
    have hne : ((l.length : Int) != (m.length : Int)) = false := by rw [hl]; simp
    have hne2 : (l.length == m.length) = true := by rw [hl]; simp
    clear hl
    go_enter Try.func40, Try.ntmps40
    go_wp2_with fail
    go_loopw [5, 6, 14, 15, 16, 17, 18, 19, 20, 21, 22, 23, 24, 25, 26] (fun _ _ v _ _ _ _ _ _ _ _ _ _ _ _ wr => ∃ k : Nat, k ≤ l.length ∧ v = .int .i64 k ∧ Hid (Same l m k) ∧ Below w.heap.size w wr) (fun _ _ v _ _ _ _ _ _ _ _ _ _ _ _ _ => l.length - (intOf v).toNat)
    case atStart => exact ⟨0, Nat.zero_le _, rfl, Lib.hid (fun a h => by omega), Below.refl _ _⟩
    case round =>
      obtain ⟨k, hk, rfl, HS, hb⟩ := hrel
      by_cases hlt : k < l.length
      · obtain ⟨ad, hA, hcells⟩ := at_ (Kd.C_below HR.out hb) k hlt
        subst hA
        obtain ⟨bd, hB, hcell⟩ := Kd.at_int (Kd.C_below HM.out hb) (k : Int) (by omega) (by have := HL.out; omega)
        subst hB
        have hkm : k < m.length := by have := HL.out; omega
        generalize hx : l.getD k z24 = x at hcells
        have Hx := Lib.hid hx
        clear hx
        have hcell2 : wr.cell? (bd.add k) = some (.int .i64 (rd m (k : Int))) := by simpa using hcell
        clear hcell
        have Hy : Hid (rd m (k : Int) = m.getD k 0) := by simp [Hid, rd]
        generalize rd m (k : Int) = y at hcell2 Hy
        have hall : ∀ o, (wr.alloc o).cell? (bd.add k) = some (.int .i64 y) := fun o => (World.cell?_alloc_lt wr o _ (World.block_lt_of_cell? _ _ hcell2)).trans hcell2
        have hsz := hb.size
        go_wp2_with fail
        by_cases hxy : x.f0 = y
        · have h1 : (x.f0 != y) = false := by simp [hxy]
          have h2 : (x.f0 == y) = true := by simp [hxy]
          have HXY := Lib.hid hxy
          clear hxy
          go_quiet (fail)
          go_wp2_with fail
          go_roundw
          case rel => exact ⟨k + 1, by omega, by go_num, Lib.hid (fun a ha => by
            rcases Nat.lt_or_ge a k with h3 | h3
            · exact HS.out a h3
            · obtain rfl : a = k := by omega
              rw [Hx.out, ← Hy.out]; exact HXY.out), by repeat (first | exact hb | exact below_alloc hb _ | refine pw_below_drewN ?_ _ | refine below_drew ?_)⟩
          case measure => simp [intOf]; omega
        · have h1 : (x.f0 != y) = true := by simp [hxy]
          have h2 : (x.f0 == y) = false := by simp [hxy]
          have HXY := Lib.hid hxy
          clear hxy
          go_quiet (fail)
          go_wp2_with fail
          go_ret
          exact ⟨ret_bool (by have := not_same HL.out hlt (by rw [Hx.out, ← Hy.out]; exact HXY.out); simp [this]), by repeat (first | exact hb | exact below_alloc hb _ | refine pw_below_drewN ?_ _ | refine below_drew ?_)⟩
      · obtain rfl : k = l.length := by omega
        go_wp2_with fail
        go_ret
        exact ⟨ret_bool (by have := same_all HL.out HS.out; simp [this]), hb⟩
  · have hne : ((l.length : Int) != (m.length : Int)) = true := by simp; omega
    have hne2 : (l.length == m.length) = false := by simpa using hl
    have hdec : decide (l.map (·.f0) = m) = false := by simp; rintro rfl; simp at hl
    have Hd := Lib.hid hdec
    clear hl hdec
    go_enter Try.func40, Try.ntmps40
    go_wp2_with fail
    go_ret
    exact ⟨ret_bool Hd.out.symm, Below.refl _ _⟩
end Nu
end Go.Proofs.Ytcpheagandpacaa.W

-- FOLDED: the printed part of the function that is given by hand
-- Written by drive.py (a session's program over the kit's print). Not trusted: Lean checks it.
namespace Go.Proofs.Ytcpheagandpacaa.P
open Go.RowKit Go.Proofs.YtcpheagandpacaaW.PrintWords Go.Proofs.YtcpheagandpacaaW.PrintLast Go.Proofs.YtcpheagandpacaaW.PrintMore
attribute [local go_sem] max2_int min2_int max_two min_two max_three min_three max_four min_four   -- for this text's walks alone
set_option linter.unusedVariables false
set_option linter.unusedSimpArgs false

/-! ### signatorylaw28_numbered: function 40 -/
-- HOOK Derived.Test.YtcpheagandpacaaWn
def signatorylaw28_numbered.f (l0 : List (S24)) (l1 : List Int) : Option (Bool) := some (decide (l0.map (fun x => x.f0) = l1))
theorem signatorylaw28_numbered.calls (A0 : Option Addr) (c0 : Nat) (l0 : List (S24)) (A1 : Option Addr) (c1 : Nat) (l1 : List Int) (r : Bool) (w : World) (hr0 : Kd.C k24 w A0 l0.length l0) (hc0 : l0.length ≤ c0) (hr1 : Kd.C (Kd.int .i64) w A1 l1.length l1) (hc1 : l1.length ≤ c1) (h : signatorylaw28_numbered.f l0 l1 = some r) :
    Calls Try.prog 40 #[.slice A0 l0.length c0, .slice A1 l1.length c1] w (fun e w' => e = .returned (.bool r) ∧ Below w.heap.size w w') := by
  unfold signatorylaw28_numbered.f at h
  simp only [Option.some.injEq] at h
  subst h
  exact W.Nu.num_any A0 A1 c0 c1 l0 l1 w hr0 hr1
end Go.Proofs.Ytcpheagandpacaa.P
