/-
The sanity examples of package signatorylaw18, by a walk: every call by its contract at the examples' own rows. No condition.
-/
import Derived.Test.YtaemdkbfdpjimaaWb
import Derived.Test.YtaemdkbfdpjimaaP4
import Derived.Test.YtaemdkbfdpjimaaP8
import Derived.Test.YtaemdkbfdpjimaaWd
import Derived.Test.YtaemdkbfdpjimaaP5
import Derived.Test.YtaemdkbfdpjimaaP10
import Derived.Test.YtaemdkbfdpjimaaP11
import Derived.Test.YtaemdkbfdpjimaaP12
import Derived.Test.YtaemdkbfdpjimaaIt
import Derived.Test.YtaemdkbfdpjimaaWf
import Derived.Deep.DeepCutAuto
import Derived.Deep.RegionWith
import Derived.Test.YtaemdkbfdpjimaaP0
namespace Go.Proofs.Ytaemdkbfdpjimaa.W
open Go.RowKit Go.Proofs.YtaemdkbfdpjimaaW.PrintWords Go.Proofs.YtaemdkbfdpjimaaW.PrintLast Go.Proofs.YtaemdkbfdpjimaaW.PrintMore Go.Proofs.Ytaemdkbfdpjimaa.P
set_option linter.unusedVariables false
namespace Sn
def two : S24 := ⟨4, 0, 0, -1, 100, 2, 50, false⟩
def hour : S24 := ⟨2, 0, 0, 2, 10, 1, 0, false⟩
def one0 : S24 := ⟨4, 0, 0, -1, 1, 0, 0, false⟩
def bad : S24 := ⟨0, 0, 0, -1, 1, 1, 0, true⟩
def u1 : S49 := ⟨1, 0, 20, 100, 100⟩
def u2 : S49 := ⟨2, 0, 20, 150, 150⟩
theorem e1 : budgets_Room.f [] [] 0 5 0 0 = some (-1, true, 0) := by kernel_rfl
theorem e2 : budgets_Room.f [one0] [] 0 0 0 0 = some (4, false, 0) := by kernel_rfl
theorem e3 : budgets_Standing.f 10 [] 16 0 0 = some ([], 1) := by kernel_rfl
theorem e4 : signatorylaw18_two.f = some (4, 0, 0, -1, 100, 2, 50, false) := by kernel_rfl
theorem e5 : budgets_Add.f [two] 2 0 0 2 10 1 0 false = some ([hour, two], 0) := by kernel_rfl
theorem e6 : budgets_Standing.f 10 [hour, two] 2 7 7 = some ([hour, two], 0) := by kernel_rfl
theorem e7 : budgets_Standing.f 10 [hour, two] 1 7 7 = some ([two], 0) := by kernel_rfl
theorem e8 : budgets_Add.f [hour, two] 2 0 0 2 10 1 0 false = some ([], 151) := by kernel_rfl
theorem e9 : signatoryref18_Same.f 10 [hour, two] [hour, two] = some true := by kernel_rfl
theorem e10 : signatoryref18_Same.f 10 [two] [two] = some true := by kernel_rfl
theorem e11 : budgets_Check.f 10 [bad] = some 180 := by kernel_rfl
theorem e12 : budgets_Check.f 10 [hour, two] = some 0 := by kernel_rfl
theorem e13 : signatorylaw18_use.f 1 100 20 = some (1, 0, 20, 100, 100) := by kernel_rfl
theorem e14 : signatorylaw18_use.f 2 150 20 = some (2, 0, 20, 150, 150) := by kernel_rfl
theorem e15 : signatorylaw18_room.f [u1] 30 160 (-1) = some true := by kernel_rfl
theorem e16 : signatorylaw18_room.f [u1] 31 160 4 = some true := by kernel_rfl
theorem e17 : signatorylaw18_room.f [u1, u2] 0 199 4 = some true := by kernel_rfl
theorem e18 : signatorylaw18_room.f [u1, u2] 50 200 (-1) = some true := by kernel_rfl
/-- what stands behind the first Add: the row, the struct's own block -/
structure Both (w : World) (bh : Nat) (A : Option Addr) (c : Nat) (W : World) : Prop where
  cap : 2 ≤ c
  row : Kd.C k24 W A [hour, two].length [hour, two]
  blk : W.heap[bh]? = some (.cells (cl24 [hour]).toArray 24 (0, 0))
  bel : Below w.heap.size w W
theorem Both.next {w : World} {bh : Nat} {A : Option Addr} {c : Nat} {W W' : World} (h : Both w bh A c W) (hb : Below W.heap.size W W') : Both w bh A c W' :=
  ⟨h.cap, Kd.C_below h.row hb, (hb.block _ (Array.getElem?_eq_some_iff.1 h.blk).1).trans h.blk, below_step h.bel hb⟩
/-- what stands behind all calls of Standing -/
structure All (w : World) (bh : Nat) (A : Option Addr) (c : Nat) (A6 : Option Addr) (c6 : Nat) (A7 : Option Addr) (c7 : Nat) (W : World) : Prop where
  both : Both w bh A c W
  scap : 2 ≤ c6
  srow : Kd.C k24 W A6 2 [hour, two]
  tcap : 1 ≤ c7
  trow : Kd.C k24 W A7 1 [two]
theorem All.next {w : World} {bh : Nat} {A : Option Addr} {c : Nat} {A6 : Option Addr} {c6 : Nat} {A7 : Option Addr} {c7 : Nat} {W W' : World} (h : All w bh A c A6 c6 A7 c7 W) (hb : Below W.heap.size W W') : All w bh A c A6 c6 A7 c7 W' :=
  ⟨h.both.next hb, h.scap, Kd.C_below h.srow hb, h.tcap, Kd.C_below h.trow hb⟩
theorem new_row (W : World) (B : Nat) (hB : W.heap.size = B) (l : List S24) (hn : l.length ≤ 4096) : Kd.C k24 (W.alloc (.cells (cl24 l).toArray 24)) (some ⟨B, 0, none⟩) l.length l := by
  subst hB
  have := C_block (W := W.alloc (.cells (cl24 l).toArray 24)) (b := W.heap.size) [] l [] (by rw [Go.heap_alloc_new]; simp) hn
  simpa using this
theorem sameS (A B : Option Addr) (c d : Nat) (W : World) (h1 : Kd.C k24 W A 2 [hour, two]) (hc : 2 ≤ c) (h2 : Kd.C k24 W B 2 [hour, two]) (hd : 2 ≤ d) : Calls Try.prog 15 #[.slice A 2 c, .slice B 2 d] W fun e w' => e = .returned (.bool true) ∧ Below W.heap.size W w' :=
  (signatoryref18_Same.calls 10 A c [hour, two] B d [hour, two] true W h1 hc h2 hd e9).mono fun e w' h => ⟨h.1, h.2.below⟩
theorem sameT (A B : Option Addr) (c d : Nat) (W : World) (h1 : Kd.C k24 W A 1 [two]) (hc : 1 ≤ c) (h2 : Kd.C k24 W B 1 [two]) (hd : 1 ≤ d) : Calls Try.prog 15 #[.slice A 1 c, .slice B 1 d] W fun e w' => e = .returned (.bool true) ∧ Below W.heap.size W w' :=
  (signatoryref18_Same.calls 10 A c [two] B d [two] true W h1 hc h2 hd e10).mono fun e w' h => ⟨h.1, h.2.below⟩
theorem checkBad (B : Option Addr) (d : Nat) (W : World) (h : Kd.C k24 W B 1 [bad]) (hd : 1 ≤ d) : Calls Try.prog 13 #[.slice B 1 d] W fun e w' => e = .returned (.int .i64 180) ∧ Below W.heap.size W w' := budgets_Check.calls 10 B d [bad] 180 W h hd e11
theorem checkBoth (B : Option Addr) (d : Nat) (W : World) (h : Kd.C k24 W B 2 [hour, two]) (hd : 2 ≤ d) : Calls Try.prog 13 #[.slice B 2 d] W fun e w' => e = .returned (.int .i64 0) ∧ Below W.heap.size W w' := budgets_Check.calls 10 B d [hour, two] 0 W h hd e12
/-- the two uses in a block -/
def Uses (w : World) (bu : Nat) (W : World) : Prop := W.heap[bu]? = some (.cells (cl49 [u1, u2]).toArray 49 (0, 0)) ∧ Below w.heap.size w W
theorem Uses.next {w : World} {bu : Nat} {W W' : World} (h : Uses w bu W) (hb : Below W.heap.size W W') : Uses w bu W' := ⟨(hb.block _ (Array.getElem?_eq_some_iff.1 h.1).1).trans h.1, below_step h.2 hb⟩
theorem Uses.one {w : World} {bu : Nat} {W : World} (h : Uses w bu W) : Kd.C k49 W (some ⟨bu, 0, none⟩) [u1].length [u1] := C_block49 [] [u1] [u2] h.1 (by simp)
theorem Uses.two {w : World} {bu : Nat} {W : World} (h : Uses w bu W) : Kd.C k49 W (some ⟨bu, 0, none⟩) [u1, u2].length [u1, u2] := C_block49 [] [u1, u2] [] h.1 (by simp)
set_option maxHeartbeats 8000000 in
set_option maxRecDepth 100000 in
theorem sane_any (w : World) : Calls Try.prog 9 #[] w fun e w' => e = .returned (.bool true) ∧ Below w.heap.size w w' := by
  go_enter Try.func9, Try.ntmps9
  go_wp2_with fail
  refine (budgets_Room.calls none 0 [] none 0 [] 0 5 0 0 (-1) true 0 _ (Kd.C_nil _ _) (by simp) (Kd.C_nil _ _) (by simp) e1).mono ?_
  rintro e w1 ⟨rfl, hb⟩
  have HB1 := pk hb
  clear hb
  go_wp2_with fail
  refine (budgets_Room.calls (some ⟨w1.heap.size, 0, none⟩) 1 [one0] none 0 [] 0 0 0 0 4 false 0 _ (C_block [] [one0] [] (Go.heap_alloc_new w1 _) (by simp)) (by simp) (Kd.C_nil _ _) (by simp) e2).mono ?_
  rintro e w2 ⟨rfl, hb⟩
  have HB2 := pk (below_step (below_alloc HB1.out _) hb)
  clear hb
  go_wp2_with fail
  refine (budgets_Standing.calls 10 none 0 [] 16 0 0 [] 1 _ (Kd.C_nil _ _) (by simp) e3).mono ?_
  rintro e w3 ⟨v3, rfl, _, hb⟩
  have HB3 := pk (below_step HB2.out hb)
  clear hb
  go_upto_region 5 with fail
  go_cut [10, 11] (fun s10 s11 wx => ∃ A c, s10 = .slice A 2 c ∧ s11 = .int .i64 0 ∧ Hid (Both w w3.heap.size A c wx))
  case first =>
    go_region_with (first
      | (go_at_call 23; refine (signatorylaw18_two.calls _ _ _ _ _ _ _ _ _ e4).mono ?_; rintro e w4 ⟨rfl, hb⟩; have HB4 := pk hb; have HX := pk ((hb.block w3.heap.size (by simp)).trans (Go.heap_alloc_new w3 _)); have hcl := fun j => cell_of_row w4 w3.heap.size j _ 24 (0, 0) HX.out; have hy0 : w4.cell? ⟨w3.heap.size, 0, none⟩ = some (.int .i64 2) := hcl 0; have hy1 : w4.cell? ⟨w3.heap.size, 1, none⟩ = some (.int .i64 0) := hcl 1; have hy2 : w4.cell? ⟨w3.heap.size, 2, none⟩ = some (.int .i64 0) := hcl 2; have hy3 : w4.cell? ⟨w3.heap.size, 3, none⟩ = some (.int .i64 2) := hcl 3; have hy4 : w4.cell? ⟨w3.heap.size, 4, none⟩ = some (.int .i64 10) := hcl 4; have hy5 : w4.cell? ⟨w3.heap.size, 5, none⟩ = some (.int .i64 1) := hcl 5; have hy6 : w4.cell? ⟨w3.heap.size, 6, none⟩ = some (.int .i64 0) := hcl 6; have hy7 : w4.cell? ⟨w3.heap.size, 7, none⟩ = some (.bool false) := hcl 7; have hco := fun o j => cell_of_row (w4.alloc o) w3.heap.size j _ 24 (0, 0) ((Below.heap_alloc w4 o _ (Array.getElem?_eq_some_iff.1 HX.out).1).trans HX.out); have hz0 : ∀ o, (w4.alloc o).cell? ⟨w3.heap.size, 0, none⟩ = some (.int .i64 2) := fun o => hco o 0; have hz1 : ∀ o, (w4.alloc o).cell? ⟨w3.heap.size, 1, none⟩ = some (.int .i64 0) := fun o => hco o 1; have hz2 : ∀ o, (w4.alloc o).cell? ⟨w3.heap.size, 2, none⟩ = some (.int .i64 0) := fun o => hco o 2; have hz3 : ∀ o, (w4.alloc o).cell? ⟨w3.heap.size, 3, none⟩ = some (.int .i64 2) := fun o => hco o 3; have hz4 : ∀ o, (w4.alloc o).cell? ⟨w3.heap.size, 4, none⟩ = some (.int .i64 10) := fun o => hco o 4; have hz5 : ∀ o, (w4.alloc o).cell? ⟨w3.heap.size, 5, none⟩ = some (.int .i64 1) := fun o => hco o 5; have hz6 : ∀ o, (w4.alloc o).cell? ⟨w3.heap.size, 6, none⟩ = some (.int .i64 0) := fun o => hco o 6; have hz7 : ∀ o, (w4.alloc o).cell? ⟨w3.heap.size, 7, none⟩ = some (.bool false) := fun o => hco o 7; clear hcl hco hb)
      | (go_at_call 11; refine (budgets_Add.calls (some ⟨w4.heap.size, 0, none⟩) 1 [two] 2 0 0 2 10 1 0 false [hour, two] 0 _ (C_block [] [two] [] (Go.heap_alloc_new w4 _) (by simp)) (by simp) e5).mono ?_; rintro e w5 ⟨v5, rfl, hR5, hb⟩; obtain ⟨A5, c5, rfl, hc5, hC5⟩ := row_of_R hR5; have HN := pk (show Both w w3.heap.size A5 c5 w5 from ⟨hc5, hC5, (hb.block _ (by have := (Array.getElem?_eq_some_iff.1 HX.out).1; simp; omega)).trans ((Below.heap_alloc w4 _ _ (Array.getElem?_eq_some_iff.1 HX.out).1).trans HX.out), below_step (below_alloc (below_step (below_drew (below_alloc HB3.out _)) HB4.out) _) hb⟩); clear hR5 hC5 hc5 hb))
    all_goals (go_wp2_with fail; go_meet; exact ⟨_, _, rfl, rfl, HN.out⟩)
  case rest =>
    obtain ⟨A, c, rfl, rfl, hh⟩ := hcut
    have HN := pk hh.out
    clear hh
    go_wp2_with fail
    refine (budgets_Standing.calls 10 A c [hour, two] 2 7 7 [hour, two] 0 _ HN.out.row HN.out.cap e6).mono ?_
    rintro e w6 ⟨v6, rfl, hR, hb⟩
    obtain ⟨A6, c6, rfl, hc6, hC6⟩ := row_of_R hR
    have HN6 := pk (HN.out.next hb)
    have HC6 := pk hC6
    have Hc6 := pk hc6
    clear hR hb hC6 hc6 HN
    go_wp2_with fail
    refine (budgets_Standing.calls 10 A c [hour, two] 1 7 7 [two] 0 _ HN6.out.row HN6.out.cap e7).mono ?_
    rintro e w7 ⟨v7, rfl, hR, hb⟩
    obtain ⟨A7, c7, rfl, hc7, hC7⟩ := row_of_R hR
    have HA7 := pk (show All w w3.heap.size A c A6 c6 A7 c7 w7 from ⟨HN6.out.next hb, Hc6.out, Kd.C_below HC6.out hb, hc7, hC7⟩)
    clear hR hb hC7 hc7 HC6 Hc6 HN6
    have hcl := fun j => cell_of_row w7 w3.heap.size j _ 24 (0, 0) HA7.out.both.blk
    have hy0 : w7.cell? ⟨w3.heap.size, 0, none⟩ = some (.int .i64 2) := hcl 0
    have hy1 : w7.cell? ⟨w3.heap.size, 1, none⟩ = some (.int .i64 0) := hcl 1
    have hy2 : w7.cell? ⟨w3.heap.size, 2, none⟩ = some (.int .i64 0) := hcl 2
    have hy3 : w7.cell? ⟨w3.heap.size, 3, none⟩ = some (.int .i64 2) := hcl 3
    have hy4 : w7.cell? ⟨w3.heap.size, 4, none⟩ = some (.int .i64 10) := hcl 4
    have hy5 : w7.cell? ⟨w3.heap.size, 5, none⟩ = some (.int .i64 1) := hcl 5
    have hy6 : w7.cell? ⟨w3.heap.size, 6, none⟩ = some (.int .i64 0) := hcl 6
    have hy7 : w7.cell? ⟨w3.heap.size, 7, none⟩ = some (.bool false) := hcl 7
    clear hcl
    go_wp2_with fail
    refine (budgets_Add.calls A c [hour, two] 2 0 0 2 10 1 0 false [] 151 _ HA7.out.both.row HA7.out.both.cap e8).mono ?_
    rintro e w8 ⟨v8, rfl, hR, hb⟩
    have HA := pk (HA7.out.next hb)
    clear hR hb HA7 hy0 hy1 hy2 hy3 hy4 hy5 hy6 hy7
    have hcl := fun j => cell_of_row w8 w3.heap.size j _ 24 (0, 0) HA.out.both.blk
    have hy0 : w8.cell? ⟨w3.heap.size, 0, none⟩ = some (.int .i64 2) := hcl 0
    have hy1 : w8.cell? ⟨w3.heap.size, 1, none⟩ = some (.int .i64 0) := hcl 1
    have hy2 : w8.cell? ⟨w3.heap.size, 2, none⟩ = some (.int .i64 0) := hcl 2
    have hy3 : w8.cell? ⟨w3.heap.size, 3, none⟩ = some (.int .i64 2) := hcl 3
    have hy4 : w8.cell? ⟨w3.heap.size, 4, none⟩ = some (.int .i64 10) := hcl 4
    have hy5 : w8.cell? ⟨w3.heap.size, 5, none⟩ = some (.int .i64 1) := hcl 5
    have hy6 : w8.cell? ⟨w3.heap.size, 6, none⟩ = some (.int .i64 0) := hcl 6
    have hy7 : w8.cell? ⟨w3.heap.size, 7, none⟩ = some (.bool false) := hcl 7
    clear hcl
    go_upto_region 11 with fail
    go_cut [123] (fun s wx => s = .bool false ∧ Hid (Below w.heap.size w wx))
    case first =>
      go_region_with (first
        | (go_at_call 23; refine (signatorylaw18_two.calls _ _ _ _ _ _ _ _ _ e4).mono ?_; rintro e w9 ⟨rfl, hb⟩; have n0 := pk (HA.out.next (below_step (by repeat (first | exact Below.refl _ _ | refine below_alloc ?_ _ | refine below_drew ?_)) hb)); clear HA hb; have HA := n0; clear n0; have hco := fun o j => cell_of_row (w9.alloc o) w3.heap.size j _ 24 (0, 0) ((Below.heap_alloc w9 o _ (Array.getElem?_eq_some_iff.1 HA.out.both.blk).1).trans HA.out.both.blk); have hz0 : ∀ o, (w9.alloc o).cell? ⟨w3.heap.size, 0, none⟩ = some (.int .i64 2) := fun o => hco o 0; have hz1 : ∀ o, (w9.alloc o).cell? ⟨w3.heap.size, 1, none⟩ = some (.int .i64 0) := fun o => hco o 1; have hz2 : ∀ o, (w9.alloc o).cell? ⟨w3.heap.size, 2, none⟩ = some (.int .i64 0) := fun o => hco o 2; have hz3 : ∀ o, (w9.alloc o).cell? ⟨w3.heap.size, 3, none⟩ = some (.int .i64 2) := fun o => hco o 3; have hz4 : ∀ o, (w9.alloc o).cell? ⟨w3.heap.size, 4, none⟩ = some (.int .i64 10) := fun o => hco o 4; have hz5 : ∀ o, (w9.alloc o).cell? ⟨w3.heap.size, 5, none⟩ = some (.int .i64 1) := fun o => hco o 5; have hz6 : ∀ o, (w9.alloc o).cell? ⟨w3.heap.size, 6, none⟩ = some (.int .i64 0) := fun o => hco o 6; have hz7 : ∀ o, (w9.alloc o).cell? ⟨w3.heap.size, 7, none⟩ = some (.bool false) := fun o => hco o 7; clear hco; have hcl := fun j => cell_of_row w9 w3.heap.size j _ 24 (0, 0) HA.out.both.blk; have hx0 : w9.cell? ⟨w3.heap.size, 0, none⟩ = some (.int .i64 2) := hcl 0; have hx1 : w9.cell? ⟨w3.heap.size, 1, none⟩ = some (.int .i64 0) := hcl 1; have hx2 : w9.cell? ⟨w3.heap.size, 2, none⟩ = some (.int .i64 0) := hcl 2; have hx3 : w9.cell? ⟨w3.heap.size, 3, none⟩ = some (.int .i64 2) := hcl 3; have hx4 : w9.cell? ⟨w3.heap.size, 4, none⟩ = some (.int .i64 10) := hcl 4; have hx5 : w9.cell? ⟨w3.heap.size, 5, none⟩ = some (.int .i64 1) := hcl 5; have hx6 : w9.cell? ⟨w3.heap.size, 6, none⟩ = some (.int .i64 0) := hcl 6; have hx7 : w9.cell? ⟨w3.heap.size, 7, none⟩ = some (.bool false) := hcl 7; clear hcl)
        | (go_at_call 15; ((with_reducible refine (sameS A6 _ c6 _ _ ?_ HA.out.scap ?_ ?_).mono ?_); exact Kd.C_below HA.out.srow (by repeat (first | exact Below.refl _ _ | refine below_alloc ?_ _ | refine below_drew ?_)); exact new_row _ _ (by simp) [hour, two] (by simp); exact Nat.le_refl _); rintro e w10 ⟨rfl, hb⟩; have n0 := pk (HA.out.next (below_step (by repeat (first | exact Below.refl _ _ | refine below_alloc ?_ _ | refine below_drew ?_)) hb)); clear HA hb; have HA := n0; clear n0)
        | (go_at_call 15; ((with_reducible refine (sameT A7 _ c7 _ _ ?_ HA.out.tcap ?_ ?_).mono ?_); exact Kd.C_below HA.out.trow (by repeat (first | exact Below.refl _ _ | refine below_alloc ?_ _ | refine below_drew ?_)); exact new_row _ _ (by simp) [two] (by simp); exact Nat.le_refl _); rintro e w11 ⟨rfl, hb⟩; have n0 := pk (HA.out.next (below_step (by repeat (first | exact Below.refl _ _ | refine below_alloc ?_ _ | refine below_drew ?_)) hb)); clear HA hb; have HA := n0; clear n0)
        | (go_at_call 13; ((with_reducible refine (checkBad _ _ _ ?_ ?_).mono ?_); exact new_row _ _ (by simp) [bad] (by simp); exact Nat.le_refl _); rintro e w12 ⟨rfl, hb⟩; have n0 := pk (HA.out.next (below_step (by repeat (first | exact Below.refl _ _ | refine below_alloc ?_ _ | refine below_drew ?_)) hb)); clear HA hb; have HA := n0; clear n0)
        | (go_at_call 13; ((with_reducible refine (checkBoth A c _ ?_ HA.out.both.cap).mono ?_); exact Kd.C_below HA.out.both.row (by repeat (first | exact Below.refl _ _ | refine below_alloc ?_ _ | refine below_drew ?_))); rintro e w13 ⟨rfl, hb⟩; have n0 := pk (HA.out.next (below_step (by repeat (first | exact Below.refl _ _ | refine below_alloc ?_ _ | refine below_drew ?_)) hb)); clear HA hb; have HA := n0; clear n0))
      all_goals (go_wp2_with fail; go_meet; exact ⟨rfl, HA.out.both.bel⟩)
    case rest =>
      obtain ⟨rfl, hh⟩ := hcut
      have HB := pk hh.out
      clear hh HA hy0 hy1 hy2 hy3 hy4 hy5 hy6 hy7
      go_wp2_with fail
      refine (signatorylaw18_use.calls 1 100 20 _ _ _ _ _ _ e13).mono ?_
      rintro e w14 ⟨rfl, hb⟩
      have HB14 := pk (below_step HB.out hb)
      clear hb
      go_wp2_with fail
      refine (signatorylaw18_use.calls 2 150 20 _ _ _ _ _ _ e14).mono ?_
      rintro e w15 ⟨rfl, hb⟩
      have HU15 := pk (show Uses w w15.heap.size (w15.alloc (.cells (cl49 [u1, u2]).toArray 49)) from ⟨Go.heap_alloc_new _ _, below_alloc (below_step HB14.out hb) _⟩)
      clear hb
      go_wp2_with fail
      refine (signatorylaw18_room.calls (some ⟨w15.heap.size, 0, none⟩) 2 [u1] 30 160 (-1) true _ HU15.out.one (by simp) e15).mono ?_
      rintro e w16 ⟨rfl, hb⟩
      have HU16 := pk (HU15.out.next hb)
      clear hb
      go_wp2_with fail
      refine (signatorylaw18_room.calls (some ⟨w15.heap.size, 0, none⟩) 2 [u1] 31 160 4 true _ HU16.out.one (by simp) e16).mono ?_
      rintro e w17 ⟨rfl, hb⟩
      have HU17 := pk (HU16.out.next hb)
      clear hb
      go_wp2_with fail
      refine (signatorylaw18_room.calls (some ⟨w15.heap.size, 0, none⟩) 2 [u1, u2] 0 199 4 true _ HU17.out.two (by simp) e17).mono ?_
      rintro e w18 ⟨rfl, hb⟩
      have HU18 := pk (HU17.out.next hb)
      clear hb
      go_wp2_with fail
      refine (signatorylaw18_room.calls (some ⟨w15.heap.size, 0, none⟩) 2 [u1, u2] 50 200 (-1) true _ HU18.out.two (by simp) e18).mono ?_
      rintro e w19 ⟨rfl, hb⟩
      have HU19 := pk (HU18.out.next hb)
      clear hb
      go_wp2_with fail
      go_ret
      exact ⟨rfl, HU19.out.2⟩
end Sn
theorem sane_hook (w : World) : Calls Try.prog 9 #[] w fun e w' => e = .returned (.bool true) ∧ Below w.heap.size w w' := Sn.sane_any w
end Go.Proofs.Ytaemdkbfdpjimaa.W

-- FOLDED: the printed part of the function that is given by hand
-- Written by drive.py (a session's program over the kit's print). Not trusted: Lean checks it.
namespace Go.Proofs.Ytaemdkbfdpjimaa.P
open Go.RowKit Go.Proofs.YtaemdkbfdpjimaaW.PrintWords Go.Proofs.YtaemdkbfdpjimaaW.PrintLast Go.Proofs.YtaemdkbfdpjimaaW.PrintMore
attribute [local go_sem] max2_int min2_int max_two min_two max_three min_three max_four min_four   -- for this text's walks alone
set_option linter.unusedVariables false
set_option linter.unusedSimpArgs false

/-! ### signatorylaw18_sane: function 9 -/
-- HOOK Derived.Test.YtaemdkbfdpjimaaWe
def signatorylaw18_sane.f  : Option (Bool) := some (true)
theorem signatorylaw18_sane.calls  (r : Bool) (w : World) (h : signatorylaw18_sane.f  = some r) :
    Calls Try.prog 9 #[] w (fun e w' => e = .returned (.bool r) ∧ Below w.heap.size w w') := by
  unfold signatorylaw18_sane.f at h
  simp only [Option.some.injEq] at h
  subst h
  exact W.sane_hook w
end Go.Proofs.Ytaemdkbfdpjimaa.P
