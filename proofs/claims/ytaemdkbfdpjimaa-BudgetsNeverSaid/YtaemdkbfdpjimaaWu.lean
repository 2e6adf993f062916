/-
uses of the package budgets, by a walk: a loop, a map of bools, calls of between. Condition: the row is read.
-/
import Derived.Test.YtaemdkbfdpjimaaIt
import Derived.Test.YtaemdkbfdpjimaaS
import Derived.Test.YtaemdkbfdpjimaaWa
import Derived.Outline
namespace Go.Proofs.Ytaemdkbfdpjimaa.W
open Go.RowKit Go.Proofs.YtaemdkbfdpjimaaW.PrintWords Go.Proofs.YtaemdkbfdpjimaaW.PrintLast Go.Proofs.YtaemdkbfdpjimaaW.PrintMore Go.Proofs.Ytaemdkbfdpjimaa.P
open S (betweenF useF usesF)
set_option linter.unusedVariables false
namespace Us
theorem at_49 {w : World} {A : Option Addr} {n : Nat} {xs : List S49} (h : Kd.C k49 w A n xs) (k : Nat) (hk : k < n) :
    ∃ ad, A = some ad ∧ w.cell? (ad.add (k * 5)) = some (.int .i64 (xs.getD k z49).f0) ∧ w.cell? ⟨(ad.add (k * 5)).block, (ad.add (k * 5)).off + 1, none⟩ = some (.int .i64 (xs.getD k z49).f1) ∧ w.cell? ⟨(ad.add (k * 5)).block, (ad.add (k * 5)).off + 2, none⟩ = some (.int .i64 (xs.getD k z49).f2) ∧ w.cell? ⟨(ad.add (k * 5)).block, (ad.add (k * 5)).off + 3, none⟩ = some (.int .i64 (xs.getD k z49).f3) ∧ w.cell? ⟨(ad.add (k * 5)).block, (ad.add (k * 5)).off + 4, none⟩ = some (.int .i64 (xs.getD k z49).f4) := by
  have := at_T49 h (k : Int) (by omega) (by omega)
  simpa [rd_T49] using this
theorem ints_row (w : World) (l : List Int) (hl : l.length ≤ 4096) : Kd.C (Kd.int .i64) (w.alloc (.cells (l.map (Value.int .i64)).toArray 3)) (some ⟨w.heap.size, 0, none⟩) l.length l := by
  refine Kd.C_of_reads (d := 0) ⟨rfl, by omega, fun _ => ⟨_, rfl, fun j hj => ?_⟩⟩
  rw [Addr.add_lit, Nat.zero_add, cell_of_row _ _ j _ 3 (0, 0) (Go.heap_alloc_new w _), List.getElem?_toArray, List.getElem?_map, List.getElem?_eq_getElem hj, List.getD_eq_getElem?_getD, List.getElem?_eq_getElem hj]
  rfl
theorem btw1 (a m n : Int) (b : Bool) (h : betweenF a m [n] = b) (w : World) (B : Nat) (hB : w.heap.size = B) :
    Calls Try.prog 33 #[.int .i64 a, .int .i64 m, .slice (some ⟨B, 0, none⟩) 1 1] (w.alloc (.cells #[.int .i64 n] 3)) fun e w' => e = .returned (.bool b) ∧ Below w.heap.size w w' := by
  subst hB
  refine (between_hook a m (some ⟨w.heap.size, 0, none⟩) 1 [n] _ (ints_row w [n] (by simp)) (by simp)).mono ?_
  rintro e w' ⟨rfl, hb⟩
  exact ⟨by rw [h], ((Below.refl _ _).alloc (Nat.le_refl _) _).trans (hb.mono (by simp))⟩
theorem btw2 (a m n p : Int) (b : Bool) (h : betweenF a m [n, p] = b) (w : World) (B : Nat) (hB : w.heap.size = B) :
    Calls Try.prog 33 #[.int .i64 a, .int .i64 m, .slice (some ⟨B, 0, none⟩) 2 2] (w.alloc (.cells #[.int .i64 n, .int .i64 p] 3)) fun e w' => e = .returned (.bool b) ∧ Below w.heap.size w w' := by
  subst hB
  refine (between_hook a m (some ⟨w.heap.size, 0, none⟩) 2 [n, p] _ (ints_row w [n, p] (by simp)) (by simp)).mono ?_
  rintro e w' ⟨rfl, hb⟩
  exact ⟨by rw [h], ((Below.refl _ _).alloc (Nat.le_refl _) _).trans (hb.mono (by simp))⟩
theorem law : MapLaw Try.prog 79 3 4 (Value.int .i64) Value.bool (.bool false) :=
  int_law Try.underlying79 Try.underlying3 (fun w => by kernel_rfl)
theorem ret_bool {a b : Bool} (h : a = b) : Ending.returned (.bool a) = .returned (.bool b) := by rw [h]
/-- what stands between two rounds -/
def J (w : World) (u : List S49) (k : Nat) (W : World) : Prop :=
  ∃ m : List (Int × Bool), IsMap (Value.int .i64) Value.bool W w.heap.size m ∧ (∀ n, mget m n = if n ∈ (u.take k).map (·.f0) then some true else none) ∧ usesF [] u = usesF (((u.take k).map (·.f0)).reverse) (u.drop k) ∧ Below w.heap.size w W
theorem put_below {w wr W W4 : World} (hb : Below w.heap.size w wr) (hW : Below wr.heap.size wr W) (hg : W.grownBy W4 (some w.heap.size)) : Below w.heap.size w W4 :=
  (hb.trans (hW.mono hb.size)).trans ⟨hg.os, hg.tape, hg.output, hg.size, fun k hk => hg.block k (Nat.lt_of_lt_of_le hk (Nat.le_trans hb.size hW.size)) (fun e => by cases e; omega)⟩
set_option maxHeartbeats 8000000 in
theorem uses_any (A : Option Addr) (c : Nat) (u : List S49) (hL : u.length ≤ 4096) (w : World) (hr : Kd.C k49 w A u.length u) :
    Calls Try.prog 38 #[.slice A u.length c] w fun e w' => e = .returned (.bool (usesF [] u)) ∧ Below w.heap.size w w' := by
  have hmm := @run_makeMap Try.prog
  have HR := pk hr
  clear hr
  go_enter Try.func38, Try.ntmps38
  go_wp2_with fail
  clear hmm
  go_loopw [9] (fun i wr => ∃ k : Nat, k ≤ u.length ∧ i = .int .i64 k ∧ Hid (J w u k wr)) (fun i _ => u.length - (intOf i).toNat)
  case atStart => exact ⟨0, Nat.zero_le _, rfl, [], IsMap.new w, fun n => by simp [mget], by simp, (Below.refl _ _).alloc (Nat.le_refl _) _⟩
  case round =>
    obtain ⟨k, hk, rfl, hh⟩ := hrel
    have Hh := pk hh.out
    clear hh
    by_cases hlt : k < u.length
    · obtain ⟨m, hm1, hm2, hus, hbW⟩ := Hh.out
      have hBm : w.heap.size < wr.heap.size := hm1.lt
      obtain ⟨ad, hA, hcells⟩ := at_49 (Kd.C_below HR.out hbW) k hlt
      generalize hx : u.getD k z49 = x at hcells
      have hget : u[k] = x := by rw [← hx, List.getD_eq_getElem?_getD, List.getElem?_eq_getElem hlt]; rfl
      have htk : u.take (k + 1) = u.take k ++ [x] := by rw [List.take_succ_eq_append_getElem hlt, hget]
      have hdr : u.drop k = x :: u.drop (k + 1) := by rw [List.drop_eq_getElem_cons hlt, hget]
      rw [hdr] at hus
      generalize hseen : (mget m x.f0).getD false = seen
      have hsn : seen = (((u.take k).map (·.f0)).reverse).contains x.f0 := by
        rw [← hseen, hm2, List.contains_eq_mem]
        by_cases h : x.f0 ∈ (u.take k).map (·.f0)
        · rw [if_pos h, decide_eq_true (List.mem_reverse.2 h)]; rfl
        · rw [if_neg h, decide_eq_false (fun e => h (List.mem_reverse.1 e))]; rfl
      have hlook : ∀ o, (Instr.lookup 79 (.map (some w.heap.size)) (.int .i64 x.f0) false).run Try.prog (wr.alloc o) = .ok (.bool seen) (wr.alloc o) := by
        intro o
        refine (run_look law (hm1.at_ (Below.heap_alloc wr o _ hBm)) x.f0).trans ?_
        rw [← hseen]
        cases mget m x.f0 <;> rfl
      have hput : ∀ W, Below wr.heap.size wr W → ∃ W4, (Instr.mapUpdate 79 (.map (some w.heap.size)) (.int .i64 x.f0) (.bool true)).run Try.prog W = .ok () W4 ∧ (seen = false → useF x = true → J w u (k + 1) W4) := by
        intro W hW
        obtain ⟨W4, h1, h2, h3, h4⟩ := run_put law (hm1.at_ (hW.block _ hBm)) x.f0 true
        refine ⟨W4, h1, fun hs0 hux => ⟨_, h2, fun n => ?_, ?_, put_below hbW hW h3⟩⟩
        · rw [mget_put, hm2, htk]
          by_cases h : x.f0 = n
          · subst h; simp
          · rw [if_neg h]; simp only [List.map_append, List.mem_append, List.map_cons, List.map_nil, List.mem_singleton]
            by_cases h' : n ∈ (u.take k).map (·.f0)
            · rw [if_pos h', if_pos (.inl h')]
            · rw [if_neg h', if_neg (by rintro (e | e); exact h' e; exact h e.symm)]
        · rw [hus]
          simp only [usesF]
          rw [← hsn, hs0, hux, htk]
          simp
      have hno : seen = true ∨ useF x = false → usesF [] u = false := by
        intro h
        rw [hus]
        simp only [usesF]
        rw [← hsn]
        rcases h with h | h
        · simp [h]
        · simp [h]
      have Hput := pk hput
      have Hno := pk hno
      have HbW := pk hbW
      clear hput hno hx hget htk hdr hus hsn hm2 hm1 hbW hseen
      subst hA
      cases hs : seen with
      | true =>
        simp only [hs] at hlook
        replace hs := pk hs
        go_wp2_with fail
        go_ret
        exact ⟨ret_bool (Hno.out (.inl hs.out)).symm, HbW.out.alloc (by omega) _⟩
      | false =>
        simp only [hs] at hlook
        replace hs := pk hs
        cases hh0 : betweenF 0 4095 [x.f0] with
        | false =>
          replace hh0 := pk hh0
          have h0 := hh0
          clear hh0
          go_wp2_with fail
          ((with_reducible refine (btw1 0 4095 x.f0 false h0.out _ _ (by simp)).mono ?_))
          rintro e w1 ⟨rfl, hb1⟩
          have q1 := pk (((Below.refl _ wr).alloc (Nat.le_refl _) _).trans (hb1.mono (by simp)))
          have B1 := pk ((hb1.block wr.heap.size (by simp)).trans (Go.heap_alloc_new wr _))
          have c1blk := B1.out
          have c1cl := fun j => cell_of_row w1 wr.heap.size j _ 49 (0, 0) c1blk
          have c1y0 : w1.cell? ⟨wr.heap.size, 0, none⟩ = some (.int .i64 x.f0) := c1cl 0
          have c1y1 : w1.cell? ⟨wr.heap.size, 1, none⟩ = some (.int .i64 x.f1) := c1cl 1
          have c1y2 : w1.cell? ⟨wr.heap.size, 2, none⟩ = some (.int .i64 x.f2) := c1cl 2
          have c1y3 : w1.cell? ⟨wr.heap.size, 3, none⟩ = some (.int .i64 x.f3) := c1cl 3
          have c1y4 : w1.cell? ⟨wr.heap.size, 4, none⟩ = some (.int .i64 x.f4) := c1cl 4
          clear c1cl
          clear c1blk hb1
          go_wp2_with fail
          go_ret
          exact ⟨ret_bool (Hno.out (.inr (by unfold useF; simp [h0.out]))).symm, HbW.out.trans (q1.out.mono (by omega))⟩
        | true =>
          replace hh0 := pk hh0
          have h0 := hh0
          clear hh0
          cases hh1 : betweenF 0 15 [x.f1] with
          | false =>
            replace hh1 := pk hh1
            have h1 := hh1
            clear hh1
            go_wp2_with fail
            ((with_reducible refine (btw1 0 4095 x.f0 true h0.out _ _ (by simp)).mono ?_))
            rintro e w1 ⟨rfl, hb1⟩
            have q1 := pk (((Below.refl _ wr).alloc (Nat.le_refl _) _).trans (hb1.mono (by simp)))
            have B1 := pk ((hb1.block wr.heap.size (by simp)).trans (Go.heap_alloc_new wr _))
            have c1blk := B1.out
            have c1cl := fun j => cell_of_row w1 wr.heap.size j _ 49 (0, 0) c1blk
            have c1y0 : w1.cell? ⟨wr.heap.size, 0, none⟩ = some (.int .i64 x.f0) := c1cl 0
            have c1y1 : w1.cell? ⟨wr.heap.size, 1, none⟩ = some (.int .i64 x.f1) := c1cl 1
            have c1y2 : w1.cell? ⟨wr.heap.size, 2, none⟩ = some (.int .i64 x.f2) := c1cl 2
            have c1y3 : w1.cell? ⟨wr.heap.size, 3, none⟩ = some (.int .i64 x.f3) := c1cl 3
            have c1y4 : w1.cell? ⟨wr.heap.size, 4, none⟩ = some (.int .i64 x.f4) := c1cl 4
            clear c1cl
            clear c1blk hb1
            go_wp2_with fail
            ((with_reducible refine (btw1 0 15 x.f1 false h1.out _ _ (by simp)).mono ?_))
            rintro e w2 ⟨rfl, hb2⟩
            have q2 := pk (q1.out.trans (hb2.mono q1.out.size))
            have B2 := pk ((hb2.block wr.heap.size (Array.getElem?_eq_some_iff.1 B1.out).1).trans B1.out)
            clear c1y0 c1y1 c1y2 c1y3 c1y4
            have c2blk := B2.out
            have c2cl := fun j => cell_of_row w2 wr.heap.size j _ 49 (0, 0) c2blk
            have c2y0 : w2.cell? ⟨wr.heap.size, 0, none⟩ = some (.int .i64 x.f0) := c2cl 0
            have c2y1 : w2.cell? ⟨wr.heap.size, 1, none⟩ = some (.int .i64 x.f1) := c2cl 1
            have c2y2 : w2.cell? ⟨wr.heap.size, 2, none⟩ = some (.int .i64 x.f2) := c2cl 2
            have c2y3 : w2.cell? ⟨wr.heap.size, 3, none⟩ = some (.int .i64 x.f3) := c2cl 3
            have c2y4 : w2.cell? ⟨wr.heap.size, 4, none⟩ = some (.int .i64 x.f4) := c2cl 4
            clear c2cl
            clear c2blk hb2
            go_wp2_with fail
            go_ret
            exact ⟨ret_bool (Hno.out (.inr (by unfold useF; simp [h0.out, h1.out]))).symm, HbW.out.trans (q2.out.mono (by omega))⟩
          | true =>
            replace hh1 := pk hh1
            have h1 := hh1
            clear hh1
            cases hh2 : betweenF 0 1099511627776 [x.f2] with
            | false =>
              replace hh2 := pk hh2
              have h2 := hh2
              clear hh2
              go_wp2_with fail
              ((with_reducible refine (btw1 0 4095 x.f0 true h0.out _ _ (by simp)).mono ?_))
              rintro e w1 ⟨rfl, hb1⟩
              have q1 := pk (((Below.refl _ wr).alloc (Nat.le_refl _) _).trans (hb1.mono (by simp)))
              have B1 := pk ((hb1.block wr.heap.size (by simp)).trans (Go.heap_alloc_new wr _))
              have c1blk := B1.out
              have c1cl := fun j => cell_of_row w1 wr.heap.size j _ 49 (0, 0) c1blk
              have c1y0 : w1.cell? ⟨wr.heap.size, 0, none⟩ = some (.int .i64 x.f0) := c1cl 0
              have c1y1 : w1.cell? ⟨wr.heap.size, 1, none⟩ = some (.int .i64 x.f1) := c1cl 1
              have c1y2 : w1.cell? ⟨wr.heap.size, 2, none⟩ = some (.int .i64 x.f2) := c1cl 2
              have c1y3 : w1.cell? ⟨wr.heap.size, 3, none⟩ = some (.int .i64 x.f3) := c1cl 3
              have c1y4 : w1.cell? ⟨wr.heap.size, 4, none⟩ = some (.int .i64 x.f4) := c1cl 4
              clear c1cl
              clear c1blk hb1
              go_wp2_with fail
              ((with_reducible refine (btw1 0 15 x.f1 true h1.out _ _ (by simp)).mono ?_))
              rintro e w2 ⟨rfl, hb2⟩
              have q2 := pk (q1.out.trans (hb2.mono q1.out.size))
              have B2 := pk ((hb2.block wr.heap.size (Array.getElem?_eq_some_iff.1 B1.out).1).trans B1.out)
              clear c1y0 c1y1 c1y2 c1y3 c1y4
              have c2blk := B2.out
              have c2cl := fun j => cell_of_row w2 wr.heap.size j _ 49 (0, 0) c2blk
              have c2y0 : w2.cell? ⟨wr.heap.size, 0, none⟩ = some (.int .i64 x.f0) := c2cl 0
              have c2y1 : w2.cell? ⟨wr.heap.size, 1, none⟩ = some (.int .i64 x.f1) := c2cl 1
              have c2y2 : w2.cell? ⟨wr.heap.size, 2, none⟩ = some (.int .i64 x.f2) := c2cl 2
              have c2y3 : w2.cell? ⟨wr.heap.size, 3, none⟩ = some (.int .i64 x.f3) := c2cl 3
              have c2y4 : w2.cell? ⟨wr.heap.size, 4, none⟩ = some (.int .i64 x.f4) := c2cl 4
              clear c2cl
              clear c2blk hb2
              go_wp2_with fail
              ((with_reducible refine (btw1 0 1099511627776 x.f2 false h2.out _ _ (by simp)).mono ?_))
              rintro e w3 ⟨rfl, hb3⟩
              have q3 := pk (q2.out.trans (hb3.mono q2.out.size))
              have B3 := pk ((hb3.block wr.heap.size (Array.getElem?_eq_some_iff.1 B2.out).1).trans B2.out)
              clear c2y0 c2y1 c2y2 c2y3 c2y4
              have c3blk := B3.out
              have c3cl := fun j => cell_of_row w3 wr.heap.size j _ 49 (0, 0) c3blk
              have c3y0 : w3.cell? ⟨wr.heap.size, 0, none⟩ = some (.int .i64 x.f0) := c3cl 0
              have c3y1 : w3.cell? ⟨wr.heap.size, 1, none⟩ = some (.int .i64 x.f1) := c3cl 1
              have c3y2 : w3.cell? ⟨wr.heap.size, 2, none⟩ = some (.int .i64 x.f2) := c3cl 2
              have c3y3 : w3.cell? ⟨wr.heap.size, 3, none⟩ = some (.int .i64 x.f3) := c3cl 3
              have c3y4 : w3.cell? ⟨wr.heap.size, 4, none⟩ = some (.int .i64 x.f4) := c3cl 4
              clear c3cl
              clear c3blk hb3
              go_wp2_with fail
              go_ret
              exact ⟨ret_bool (Hno.out (.inr (by unfold useF; simp [h0.out, h1.out, h2.out]))).symm, HbW.out.trans (q3.out.mono (by omega))⟩
            | true =>
              replace hh2 := pk hh2
              have h2 := hh2
              clear hh2
              cases hh3 : betweenF 0 1099511627775 [x.f3, x.f4] with
              | false =>
                replace hh3 := pk hh3
                have h3 := hh3
                clear hh3
                go_wp2_with fail
                ((with_reducible refine (btw1 0 4095 x.f0 true h0.out _ _ (by simp)).mono ?_))
                rintro e w1 ⟨rfl, hb1⟩
                have q1 := pk (((Below.refl _ wr).alloc (Nat.le_refl _) _).trans (hb1.mono (by simp)))
                have B1 := pk ((hb1.block wr.heap.size (by simp)).trans (Go.heap_alloc_new wr _))
                have c1blk := B1.out
                have c1cl := fun j => cell_of_row w1 wr.heap.size j _ 49 (0, 0) c1blk
                have c1y0 : w1.cell? ⟨wr.heap.size, 0, none⟩ = some (.int .i64 x.f0) := c1cl 0
                have c1y1 : w1.cell? ⟨wr.heap.size, 1, none⟩ = some (.int .i64 x.f1) := c1cl 1
                have c1y2 : w1.cell? ⟨wr.heap.size, 2, none⟩ = some (.int .i64 x.f2) := c1cl 2
                have c1y3 : w1.cell? ⟨wr.heap.size, 3, none⟩ = some (.int .i64 x.f3) := c1cl 3
                have c1y4 : w1.cell? ⟨wr.heap.size, 4, none⟩ = some (.int .i64 x.f4) := c1cl 4
                clear c1cl
                clear c1blk hb1
                go_wp2_with fail
                ((with_reducible refine (btw1 0 15 x.f1 true h1.out _ _ (by simp)).mono ?_))
                rintro e w2 ⟨rfl, hb2⟩
                have q2 := pk (q1.out.trans (hb2.mono q1.out.size))
                have B2 := pk ((hb2.block wr.heap.size (Array.getElem?_eq_some_iff.1 B1.out).1).trans B1.out)
                clear c1y0 c1y1 c1y2 c1y3 c1y4
                have c2blk := B2.out
                have c2cl := fun j => cell_of_row w2 wr.heap.size j _ 49 (0, 0) c2blk
                have c2y0 : w2.cell? ⟨wr.heap.size, 0, none⟩ = some (.int .i64 x.f0) := c2cl 0
                have c2y1 : w2.cell? ⟨wr.heap.size, 1, none⟩ = some (.int .i64 x.f1) := c2cl 1
                have c2y2 : w2.cell? ⟨wr.heap.size, 2, none⟩ = some (.int .i64 x.f2) := c2cl 2
                have c2y3 : w2.cell? ⟨wr.heap.size, 3, none⟩ = some (.int .i64 x.f3) := c2cl 3
                have c2y4 : w2.cell? ⟨wr.heap.size, 4, none⟩ = some (.int .i64 x.f4) := c2cl 4
                clear c2cl
                clear c2blk hb2
                go_wp2_with fail
                ((with_reducible refine (btw1 0 1099511627776 x.f2 true h2.out _ _ (by simp)).mono ?_))
                rintro e w3 ⟨rfl, hb3⟩
                have q3 := pk (q2.out.trans (hb3.mono q2.out.size))
                have B3 := pk ((hb3.block wr.heap.size (Array.getElem?_eq_some_iff.1 B2.out).1).trans B2.out)
                clear c2y0 c2y1 c2y2 c2y3 c2y4
                have c3blk := B3.out
                have c3cl := fun j => cell_of_row w3 wr.heap.size j _ 49 (0, 0) c3blk
                have c3y0 : w3.cell? ⟨wr.heap.size, 0, none⟩ = some (.int .i64 x.f0) := c3cl 0
                have c3y1 : w3.cell? ⟨wr.heap.size, 1, none⟩ = some (.int .i64 x.f1) := c3cl 1
                have c3y2 : w3.cell? ⟨wr.heap.size, 2, none⟩ = some (.int .i64 x.f2) := c3cl 2
                have c3y3 : w3.cell? ⟨wr.heap.size, 3, none⟩ = some (.int .i64 x.f3) := c3cl 3
                have c3y4 : w3.cell? ⟨wr.heap.size, 4, none⟩ = some (.int .i64 x.f4) := c3cl 4
                clear c3cl
                clear c3blk hb3
                go_wp2_with fail
                ((with_reducible refine (btw2 0 1099511627775 x.f3 x.f4 false h3.out _ _ (by simp)).mono ?_))
                rintro e w4 ⟨rfl, hb4⟩
                have q4 := pk (q3.out.trans (hb4.mono q3.out.size))
                have B4 := pk ((hb4.block wr.heap.size (Array.getElem?_eq_some_iff.1 B3.out).1).trans B3.out)
                clear c3y0 c3y1 c3y2 c3y3 c3y4
                have c4blk := B4.out
                have c4cl := fun j => cell_of_row w4 wr.heap.size j _ 49 (0, 0) c4blk
                have c4y0 : w4.cell? ⟨wr.heap.size, 0, none⟩ = some (.int .i64 x.f0) := c4cl 0
                have c4y1 : w4.cell? ⟨wr.heap.size, 1, none⟩ = some (.int .i64 x.f1) := c4cl 1
                have c4y2 : w4.cell? ⟨wr.heap.size, 2, none⟩ = some (.int .i64 x.f2) := c4cl 2
                have c4y3 : w4.cell? ⟨wr.heap.size, 3, none⟩ = some (.int .i64 x.f3) := c4cl 3
                have c4y4 : w4.cell? ⟨wr.heap.size, 4, none⟩ = some (.int .i64 x.f4) := c4cl 4
                clear c4cl
                clear c4blk hb4
                go_wp2_with fail
                go_ret
                exact ⟨ret_bool (Hno.out (.inr (by unfold useF; simp [h0.out, h1.out, h2.out, h3.out]))).symm, HbW.out.trans (q4.out.mono (by omega))⟩
              | true =>
                replace hh3 := pk hh3
                have h3 := hh3
                clear hh3
                go_wp2_with fail
                ((with_reducible refine (btw1 0 4095 x.f0 true h0.out _ _ (by simp)).mono ?_))
                rintro e w1 ⟨rfl, hb1⟩
                have q1 := pk (((Below.refl _ wr).alloc (Nat.le_refl _) _).trans (hb1.mono (by simp)))
                have B1 := pk ((hb1.block wr.heap.size (by simp)).trans (Go.heap_alloc_new wr _))
                have c1blk := B1.out
                have c1cl := fun j => cell_of_row w1 wr.heap.size j _ 49 (0, 0) c1blk
                have c1y0 : w1.cell? ⟨wr.heap.size, 0, none⟩ = some (.int .i64 x.f0) := c1cl 0
                have c1y1 : w1.cell? ⟨wr.heap.size, 1, none⟩ = some (.int .i64 x.f1) := c1cl 1
                have c1y2 : w1.cell? ⟨wr.heap.size, 2, none⟩ = some (.int .i64 x.f2) := c1cl 2
                have c1y3 : w1.cell? ⟨wr.heap.size, 3, none⟩ = some (.int .i64 x.f3) := c1cl 3
                have c1y4 : w1.cell? ⟨wr.heap.size, 4, none⟩ = some (.int .i64 x.f4) := c1cl 4
                clear c1cl
                clear c1blk hb1
                go_wp2_with fail
                ((with_reducible refine (btw1 0 15 x.f1 true h1.out _ _ (by simp)).mono ?_))
                rintro e w2 ⟨rfl, hb2⟩
                have q2 := pk (q1.out.trans (hb2.mono q1.out.size))
                have B2 := pk ((hb2.block wr.heap.size (Array.getElem?_eq_some_iff.1 B1.out).1).trans B1.out)
                clear c1y0 c1y1 c1y2 c1y3 c1y4
                have c2blk := B2.out
                have c2cl := fun j => cell_of_row w2 wr.heap.size j _ 49 (0, 0) c2blk
                have c2y0 : w2.cell? ⟨wr.heap.size, 0, none⟩ = some (.int .i64 x.f0) := c2cl 0
                have c2y1 : w2.cell? ⟨wr.heap.size, 1, none⟩ = some (.int .i64 x.f1) := c2cl 1
                have c2y2 : w2.cell? ⟨wr.heap.size, 2, none⟩ = some (.int .i64 x.f2) := c2cl 2
                have c2y3 : w2.cell? ⟨wr.heap.size, 3, none⟩ = some (.int .i64 x.f3) := c2cl 3
                have c2y4 : w2.cell? ⟨wr.heap.size, 4, none⟩ = some (.int .i64 x.f4) := c2cl 4
                clear c2cl
                clear c2blk hb2
                go_wp2_with fail
                ((with_reducible refine (btw1 0 1099511627776 x.f2 true h2.out _ _ (by simp)).mono ?_))
                rintro e w3 ⟨rfl, hb3⟩
                have q3 := pk (q2.out.trans (hb3.mono q2.out.size))
                have B3 := pk ((hb3.block wr.heap.size (Array.getElem?_eq_some_iff.1 B2.out).1).trans B2.out)
                clear c2y0 c2y1 c2y2 c2y3 c2y4
                have c3blk := B3.out
                have c3cl := fun j => cell_of_row w3 wr.heap.size j _ 49 (0, 0) c3blk
                have c3y0 : w3.cell? ⟨wr.heap.size, 0, none⟩ = some (.int .i64 x.f0) := c3cl 0
                have c3y1 : w3.cell? ⟨wr.heap.size, 1, none⟩ = some (.int .i64 x.f1) := c3cl 1
                have c3y2 : w3.cell? ⟨wr.heap.size, 2, none⟩ = some (.int .i64 x.f2) := c3cl 2
                have c3y3 : w3.cell? ⟨wr.heap.size, 3, none⟩ = some (.int .i64 x.f3) := c3cl 3
                have c3y4 : w3.cell? ⟨wr.heap.size, 4, none⟩ = some (.int .i64 x.f4) := c3cl 4
                clear c3cl
                clear c3blk hb3
                go_wp2_with fail
                ((with_reducible refine (btw2 0 1099511627775 x.f3 x.f4 true h3.out _ _ (by simp)).mono ?_))
                rintro e w4 ⟨rfl, hb4⟩
                have q4 := pk (q3.out.trans (hb4.mono q3.out.size))
                have B4 := pk ((hb4.block wr.heap.size (Array.getElem?_eq_some_iff.1 B3.out).1).trans B3.out)
                clear c3y0 c3y1 c3y2 c3y3 c3y4
                have c4blk := B4.out
                have c4cl := fun j => cell_of_row w4 wr.heap.size j _ 49 (0, 0) c4blk
                have c4y0 : w4.cell? ⟨wr.heap.size, 0, none⟩ = some (.int .i64 x.f0) := c4cl 0
                have c4y1 : w4.cell? ⟨wr.heap.size, 1, none⟩ = some (.int .i64 x.f1) := c4cl 1
                have c4y2 : w4.cell? ⟨wr.heap.size, 2, none⟩ = some (.int .i64 x.f2) := c4cl 2
                have c4y3 : w4.cell? ⟨wr.heap.size, 3, none⟩ = some (.int .i64 x.f3) := c4cl 3
                have c4y4 : w4.cell? ⟨wr.heap.size, 4, none⟩ = some (.int .i64 x.f4) := c4cl 4
                clear c4cl
                clear c4blk hb4
                obtain ⟨W4, hrun, hJ⟩ := Hput.out w4 q4.out
                have HJ := pk (hJ hs.out (by unfold useF; simp [h0.out, h1.out, h2.out, h3.out]))
                clear hJ
                go_wp2_with fail
                go_roundw
                case rel => exact ⟨k + 1, by omega, by go_num, HJ.out⟩
                case measure => simp [intOf]; omega
    · obtain rfl : k = u.length := by omega
      obtain ⟨m, hm1, hm2, hus, hbW⟩ := Hh.out
      have Hus := pk hus
      have HbW := pk hbW
      clear hm1 hm2 hus hbW Hh
      go_wp2_with fail
      go_ret
      exact ⟨ret_bool (by rw [Hus.out, List.drop_length]; rfl), HbW.out⟩
end Us
theorem uses_hook (A0 : Option Addr) (c0 : Nat) (l0 : List S49) (w : World) (hr0 : Kd.C k49 w A0 l0.length l0) (hg : l0.length ≤ 4096) :
    Calls Try.prog 38 #[.slice A0 l0.length c0] w fun e w' => e = .returned (.bool (S.usesF [] l0)) ∧ Below w.heap.size w w' := Us.uses_any A0 c0 l0 hg w hr0
end Go.Proofs.Ytaemdkbfdpjimaa.W
