/-
The sanity examples of package signatorylaw16, by a walk: every call by its contract at the examples' own rows. No condition.
-/
import Derived.Test.YtoenefdjejkncaaWb
import Derived.Test.YtoenefdjejkncaaP5
import Derived.Test.YtoenefdjejkncaaP12
import Derived.Test.YtoenefdjejkncaaP9
import Derived.Test.YtoenefdjejkncaaP11
import Derived.Test.YtoenefdjejkncaaP13
import Derived.Test.YtoenefdjejkncaaIt
import Derived.Test.YtoenefdjejkncaaWf
import Derived.Deep.DeepCutAuto
import Derived.Deep.RegionWith
import Derived.Deep.RegionHeld3
import Derived.Test.YtoenefdjejkncaaP0
namespace Go.Proofs.Ytoenefdjejkncaa.W
open Go.RowKit Go.Proofs.YtoenefdjejkncaaW.PrintWords Go.Proofs.YtoenefdjejkncaaW.PrintLast Go.Proofs.YtoenefdjejkncaaW.PrintMore Go.Proofs.Ytoenefdjejkncaa.P
set_option linter.unusedVariables false
namespace Sn
def d_a : S24 := ⟨4, 0, 0, 1099511627776, 1, 2, 0, (-1), 500, false⟩
def d_b : S24 := ⟨7, 0, 0, 1099511627776, 2, 3, 0, (-1), 100, false⟩
def d_c : S24 := ⟨5, 9, 0, 0, 2, 3, 0, (-1), 0, true⟩
def d_a0 : S24 := ⟨4, 0, 0, 1099511627776, 1, 2, 0, (-1), 0, false⟩
def d_bad : S24 := ⟨0, 0, 0, 1099511627776, 1, 1, 0, (-1), 0, false⟩
def two : List S24 := [d_a, d_b]
def more : List S24 := [d_a, d_c, d_b]
theorem e1 : signatorylaw16_lets.f 4 1 2 500 = some (4, 0, 0, 1099511627776, 1, 2, 0, (-1), 500, false) := by kernel_rfl
theorem e2 : signatorylaw16_lets.f 7 2 3 100 = some (7, 0, 0, 1099511627776, 2, 3, 0, (-1), 100, false) := by kernel_rfl
theorem e3 : signatorylaw16_chain.f [] 3 3 0 0 0 0 0 = some ([], true, 0) := by kernel_rfl
theorem e4 : signatorylaw16_proves.f [] 3 4 0 0 0 0 0 [] = some (false, 0) := by kernel_rfl
theorem e5 : signatorylaw16_proves.f two 1 3 0 0 100 0 0 [4, 7] = some (true, 0) := by kernel_rfl
theorem e6 : deputies_Add.f two 5 9 0 0 2 3 0 (-1) 0 true = some (more, 0) := by kernel_rfl
theorem e7 : signatorylaw16_lets.f 4 1 2 0 = some (4, 0, 0, 1099511627776, 1, 2, 0, (-1), 0, false) := by kernel_rfl
theorem e8 : deputies_Add.f two 4 0 0 1099511627776 1 2 0 (-1) 0 false = some ([], 151) := by kernel_rfl
theorem e9 : signatorylaw16_chain.f [] 64 0 0 0 0 0 0 = some ([], false, 1) := by kernel_rfl
theorem e10 : signatorylaw16_chain.f [] 3 4 0 0 0 0 0 = some ([], false, 0) := by kernel_rfl
theorem e11 : signatorylaw16_chain.f two 1 3 0 0 100 9 0 = some ([4, 7], true, 0) := by kernel_rfl
theorem e12 : signatorylaw16_chain.f two 1 3 0 0 101 9 0 = some ([], false, 0) := by kernel_rfl
theorem e13 : signatorylaw16_chain.f more 1 3 0 0 100 9 0 = some ([], false, 0) := by kernel_rfl
theorem e14 : signatorylaw16_chain.f more 1 3 0 0 100 8 0 = some ([4, 7], true, 0) := by kernel_rfl
theorem s0 : signatoryref16_SameInts.f 40 [] [] = some true := by kernel_rfl
theorem s2 : signatoryref16_SameInts.f 40 [4, 7] [4, 7] = some true := by kernel_rfl
theorem e15 : signatorylaw16_lets.f 0 1 1 0 = some (0, 0, 0, 1099511627776, 1, 1, 0, (-1), 0, false) := by kernel_rfl
theorem e16 : deputies_Check.f 40 [d_bad] = some 160 := by kernel_rfl
theorem e17 : deputies_Check.f 40 two = some 0 := by kernel_rfl
/-- the row of two, and what is below -/
structure Two (w : World) (b : Nat) (W : World) : Prop where
  blk : W.heap[b]? = some (.cells (cl24 two).toArray 24 (0, 0))
  bel : Below w.heap.size w W
theorem Two.next {w W W' : World} {b : Nat} (h : Two w b W) (hb : Below W.heap.size W W') : Two w b W' := ⟨(hb.block _ (Array.getElem?_eq_some_iff.1 h.blk).1).trans h.blk, below_step h.bel hb⟩
theorem Two.row {w W : World} {b : Nat} (h : Two w b W) : Kd.C k24 W (some ⟨b, 0, none⟩) two.length two := C_block [] two [] h.blk (by decide)
/-- the row of more besides -/
structure Mor (w : World) (b : Nat) (A : Option Addr) (c : Nat) (W : World) : Prop where
  two : Two w b W
  cap : 3 ≤ c
  row : Kd.C k24 W A more.length more
theorem Mor.next {w W W' : World} {b : Nat} {A : Option Addr} {c : Nat} (h : Mor w b A c W) (hb : Below W.heap.size W W') : Mor w b A c W' := ⟨h.two.next hb, h.cap, Kd.C_below h.row hb⟩
/-- the three questions in their blocks besides -/
structure Ask (w : World) (b : Nat) (A : Option Addr) (c : Nat) (b16 b17 b18 : Nat) (W : World) : Prop where
  mor : Mor w b A c W
  h16 : W.heap[b16]? = some (.cells #[.int .i64 1, .int .i64 3, .int .i64 0, .int .i64 0, .int .i64 100, .int .i64 9, .int .i64 0] 34 (0, 0))
  h17 : ∀ j v, ([.int .i64 1, .int .i64 3, .int .i64 0, .int .i64 0, .int .i64 101, .int .i64 9, .int .i64 0] : List Value)[j]? = some v → W.cell? ⟨b17, j, none⟩ = some v
  h18 : ∀ j v, ([.int .i64 1, .int .i64 3, .int .i64 0, .int .i64 0, .int .i64 100, .int .i64 8, .int .i64 0] : List Value)[j]? = some v → W.cell? ⟨b18, j, none⟩ = some v
theorem Ask.next {w W W' : World} {b : Nat} {A : Option Addr} {c b16 b17 b18 : Nat} (h : Ask w b A c b16 b17 b18 W) (hb : Below W.heap.size W W') : Ask w b A c b16 b17 b18 W' :=
  ⟨h.mor.next hb, (hb.block _ (Array.getElem?_eq_some_iff.1 h.h16).1).trans h.h16, fun j v e => (hb.cell (World.block_lt_of_cell? _ _ (h.h17 j v e))).trans (h.h17 j v e), fun j v e => (hb.cell (World.block_lt_of_cell? _ _ (h.h18 j v e))).trans (h.h18 j v e)⟩
theorem two_new (W : World) (o : Obj) : ((W.alloc o).alloc o).drew.heap[W.heap.size]? = some o ∧ ((W.alloc o).alloc o).drew.heap[W.heap.size + 1]? = some o ∧ Below W.heap.size W ((W.alloc o).alloc o).drew := by
  refine ⟨(Below.heap_alloc (W.alloc o) o _ (by simp)).trans (Go.heap_alloc_new W o), ?_, below_drew1 (below_alloc (below_alloc (Below.refl _ _) _) _)⟩
  have := Go.heap_alloc_new (W.alloc o) o
  rwa [World.size_alloc] at this
theorem free_row {w : World} {b : Nat} {cs : Array Value} {t : TypeId} (h : w.heap[b]? = some (.cells cs t (0, 0))) (j : Nat) : w.frozen? ⟨b, j, none⟩ = false := by
  simp [World.frozen?, h]
set_option maxHeartbeats 1000000 in
theorem is0 (A : Option Addr) (c : Nat) (l : List S24) (a0 a1 a2 a3 a4 a5 a6 : Int) (w : World) (hr : Kd.C k24 w A l.length l) (hc : l.length ≤ c)
    (hch : signatorylaw16_chain.f l a0 a1 a2 a3 a4 a5 a6 = some ([], false, 0)) :
    Calls Try.prog 24 #[.slice A l.length c, .agg #[.int .i64 a0, .int .i64 a1, .int .i64 a2, .int .i64 a3, .int .i64 a4, .int .i64 a5, .int .i64 a6], .slice none 0 0] w fun e w' => e = .returned (.bool true) ∧ Below w.heap.size w w' := by
  have HR := pk hr
  have Hc0 := pk hc
  have Hch := pk hch
  clear hr hc hch
  have HX0 : ∀ W, Below (w.alloc (.cells #[.int .i64 a0, .int .i64 a1, .int .i64 a2, .int .i64 a3, .int .i64 a4, .int .i64 a5, .int .i64 a6] 34)).heap.size (w.alloc (.cells #[.int .i64 a0, .int .i64 a1, .int .i64 a2, .int .i64 a3, .int .i64 a4, .int .i64 a5, .int .i64 a6] 34)) W → Below w.heap.size w W := fun W h => below_step (below_alloc (Below.refl _ _) _) h
  have HX := pk HX0
  clear HX0
  go_enter Try.func24, Try.ntmps24
  go_wp2_with fail
  refine (signatorylaw16_chain.calls A c l a0 a1 a2 a3 a4 a5 a6 [] false 0 _ (Kd.C_alloc HR.out _) Hc0.out Hch.out).mono ?_
  rintro e w1 ⟨v1, rfl, hR, hb⟩
  obtain ⟨A1, c1, rfl⟩ := Kd.R_slice hR
  have HB := pk (HX.out _ hb)
  have HC := pk (Kd.R_reads' hR).2.2
  have Hc := pk (Kd.R_reads' hR).2.1
  clear hR hb
  go_wp2_with fail
  refine (signatoryref16_SameInts.calls 40 A1 c1 [] none 0 [] true _ HC.out Hc.out (Kd.C_nil _ _) (by simp) s0).mono ?_
  rintro e w2 ⟨rfl, hd2⟩
  have HB2 := pk (below_step HB.out hd2.below)
  clear hd2
  go_wp2_with fail
  go_ret
  exact ⟨rfl, HB2.out⟩
set_option maxHeartbeats 1000000 in
theorem is2 (A : Option Addr) (c : Nat) (l : List S24) (a0 a1 a2 a3 a4 a5 a6 : Int) (B : Option Addr) (w : World) (hr : Kd.C k24 w A l.length l) (hc : l.length ≤ c) (hw : Kd.C (Kd.int .i64) w B 2 [4, 7])
    (hch : signatorylaw16_chain.f l a0 a1 a2 a3 a4 a5 a6 = some ([4, 7], true, 0)) :
    Calls Try.prog 24 #[.slice A l.length c, .agg #[.int .i64 a0, .int .i64 a1, .int .i64 a2, .int .i64 a3, .int .i64 a4, .int .i64 a5, .int .i64 a6], .slice B 2 2] w fun e w' => e = .returned (.bool true) ∧ Below w.heap.size w w' := by
  have HR := pk hr
  have Hc0 := pk hc
  have HW := pk hw
  clear hw
  have Hch := pk hch
  clear hr hc hch
  have HX0 : ∀ W, Below (w.alloc (.cells #[.int .i64 a0, .int .i64 a1, .int .i64 a2, .int .i64 a3, .int .i64 a4, .int .i64 a5, .int .i64 a6] 34)).heap.size (w.alloc (.cells #[.int .i64 a0, .int .i64 a1, .int .i64 a2, .int .i64 a3, .int .i64 a4, .int .i64 a5, .int .i64 a6] 34)) W → Below w.heap.size w W := fun W h => below_step (below_alloc (Below.refl _ _) _) h
  have HX := pk HX0
  clear HX0
  go_enter Try.func24, Try.ntmps24
  go_wp2_with fail
  refine (signatorylaw16_chain.calls A c l a0 a1 a2 a3 a4 a5 a6 [4, 7] true 0 _ (Kd.C_alloc HR.out _) Hc0.out Hch.out).mono ?_
  rintro e w1 ⟨v1, rfl, hR, hb⟩
  obtain ⟨A1, c1, rfl⟩ := Kd.R_slice hR
  have HB := pk (HX.out _ hb)
  have HC := pk (Kd.R_reads' hR).2.2
  have Hc := pk (Kd.R_reads' hR).2.1
  clear hR hb
  go_wp2_with fail
  refine (signatoryref16_SameInts.calls 40 A1 c1 [4, 7] B 2 [4, 7] true _ HC.out Hc.out (Kd.C_below HW.out HB.out) (by simp) s2).mono ?_
  rintro e w2 ⟨rfl, hd2⟩
  have HB2 := pk (below_step HB.out hd2.below)
  clear hd2
  go_wp2_with fail
  go_ret
  exact ⟨rfl, HB2.out⟩
set_option maxHeartbeats 8000000 in
set_option maxRecDepth 100000 in
theorem sane_any (w : World) : Calls Try.prog 9 #[] w fun e w' => e = .returned (.bool true) ∧ Below w.heap.size w w' := by
  go_enter Try.func9, Try.ntmps9
  go_wp2_with fail
  refine (signatorylaw16_lets.calls 4 1 2 500 _ _ _ _ _ _ _ _ _ _ _ e1).mono ?_
  rintro e w1 ⟨rfl, hb⟩
  have HB1 := pk hb
  clear hb
  go_wp2_with fail
  refine (signatorylaw16_lets.calls 7 2 3 100 _ _ _ _ _ _ _ _ _ _ _ e2).mono ?_
  rintro e w2 ⟨rfl, hb⟩
  have HT2 := pk (show Two w w2.heap.size (w2.alloc (.cells (cl24 two).toArray 24)) from ⟨Go.heap_alloc_new _ _, below_alloc (below_step HB1.out hb) _⟩)
  clear hb
  go_wp2_with fail
  refine (signatorylaw16_chain.calls none 0 [] 3 3 0 0 0 0 0 [] true 0 _ (Kd.C_nil _ _) (by simp) e3).mono ?_
  rintro e w3 ⟨v3, rfl, hR, hb⟩
  obtain ⟨A3, c3, rfl⟩ := Kd.R_slice hR
  have HT3 := pk (HT2.out.next hb)
  clear hR hb
  go_wp2_with fail
  refine (signatorylaw16_proves.calls none 0 [] 3 4 0 0 0 0 0 none 0 [] false 0 _ (Kd.C_nil _ _) (by simp) (Kd.C_nil _ _) (by simp) e4).mono ?_
  rintro e w4 ⟨rfl, hb⟩
  have HT4 := pk (HT3.out.next hb)
  clear hb
  go_wp2_with fail
  refine (signatorylaw16_proves.calls (some ⟨w2.heap.size, 0, none⟩) 2 two 1 3 0 0 100 0 0 (some ⟨w4.heap.size, 0, none⟩) 2 [4, 7] true 0 _ (Kd.C_alloc HT4.out.row _) (by decide) (ints_row w4 [4, 7] (by decide)) (by decide) e5).mono ?_
  rintro e w5 ⟨rfl, hb⟩
  have HT5 := pk (HT4.out.next (below_step (below_alloc (Below.refl _ _) _) hb))
  clear hb
  go_wp2_with fail
  refine (deputies_Add.calls (some ⟨w2.heap.size, 0, none⟩) 2 two 5 9 0 0 2 3 0 (-1) 0 true more 0 _ HT5.out.row (by decide) e6).mono ?_
  rintro e w6 ⟨v6, rfl, hR, hb⟩
  obtain ⟨A, c, e6, hc, hC⟩ := row_of_R hR
  rw [show more.length = 3 from rfl] at e6 hc
  subst e6
  have HM6 := pk (show Mor w w2.heap.size A c w6 from ⟨HT5.out.next hb, hc, hC⟩)
  clear hR hb hc hC
  go_wp2_with fail
  refine (signatorylaw16_lets.calls 4 1 2 0 _ _ _ _ _ _ _ _ _ _ _ e7).mono ?_
  rintro e w7 ⟨rfl, hb⟩
  have HM7 := pk (HM6.out.next hb)
  clear hb
  go_wp2_with fail
  refine (deputies_Add.calls (some ⟨w2.heap.size, 0, none⟩) 2 two 4 0 0 1099511627776 1 2 0 (-1) 0 false [] 151 _ HM7.out.two.row (by decide) e8).mono ?_
  rintro e w8 ⟨v8, rfl, hR, hb⟩
  have HM8 := pk (HM7.out.next hb)
  clear hR hb
  go_wp2_with fail
  refine (signatorylaw16_chain.calls none 0 [] 64 0 0 0 0 0 0 [] false 1 _ (Kd.C_nil _ _) (by simp) e9).mono ?_
  rintro e w9 ⟨v9, rfl, hR, hb⟩
  have HM9 := pk (HM8.out.next hb)
  clear hR hb HB1 HT2 HT3 HT4 HT5 HM6 HM7 HM8
  go_upto_region 11 with fail
  obtain ⟨W10, hW10⟩ : ∃ W10, w9.alloc (.cells #[.int .i64 1, .int .i64 3, .int .i64 0, .int .i64 0, .int .i64 100, .int .i64 9, .int .i64 0] 34) = W10 := ⟨_, rfl⟩
  obtain ⟨b16, hb16⟩ : ∃ b16, w9.heap.size = b16 := ⟨_, rfl⟩
  have hX10 : W10.heap[b16]? = some (.cells #[.int .i64 1, .int .i64 3, .int .i64 0, .int .i64 0, .int .i64 100, .int .i64 9, .int .i64 0] 34 (0, 0)) := by rw [← hW10, ← hb16]; exact Go.heap_alloc_new w9 _
  have HM10 := pk (show Mor w w2.heap.size A c W10 from by rw [← hW10]; exact HM9.out.next (below_alloc (Below.refl _ _) _))
  have hl16 : b16 < W10.heap.size := (Array.getElem?_eq_some_iff.1 hX10).1
  simp only [hW10, hb16]
  clear hW10 hb16 HM9
  go_cut [17, 18] (fun s17 s18 wx => ∃ b17 b18 : Nat, s17 = .pointer (some ⟨b17, 0, none⟩) ∧ s18 = .pointer (some ⟨b18, 0, none⟩) ∧ Hid (b17 ≠ b18 ∧ W10.heap.size ≤ b17 ∧ W10.heap.size ≤ b18 ∧ wx.heap[b17]? = some (.cells #[.int .i64 1, .int .i64 3, .int .i64 0, .int .i64 0, .int .i64 100, .int .i64 9, .int .i64 0] 34 (0, 0)) ∧ wx.heap[b18]? = some (.cells #[.int .i64 1, .int .i64 3, .int .i64 0, .int .i64 0, .int .i64 100, .int .i64 9, .int .i64 0] 34 (0, 0)) ∧ Below W10.heap.size W10 wx))
  case first =>
    have hcl := fun j => cell_of_row W10 b16 j _ 34 (0, 0) hX10
    have hq0 : W10.cell? ⟨b16, 0, none⟩ = some (.int .i64 1) := hcl 0
    have hq1 : W10.cell? ⟨b16, 1, none⟩ = some (.int .i64 3) := hcl 1
    have hq2 : W10.cell? ⟨b16, 2, none⟩ = some (.int .i64 0) := hcl 2
    have hq3 : W10.cell? ⟨b16, 3, none⟩ = some (.int .i64 0) := hcl 3
    have hq4 : W10.cell? ⟨b16, 4, none⟩ = some (.int .i64 100) := hcl 4
    have hq5 : W10.cell? ⟨b16, 5, none⟩ = some (.int .i64 9) := hcl 5
    have hq6 : W10.cell? ⟨b16, 6, none⟩ = some (.int .i64 0) := hcl 6
    clear hcl
    have hn0 := World.new_ne W10 _ hq0
    have hn1 := World.new_ne W10 _ hq1
    have hn2 := World.new_ne W10 _ hq2
    have hn3 := World.new_ne W10 _ hq3
    have hn4 := World.new_ne W10 _ hq4
    have hn5 := World.new_ne W10 _ hq5
    have hn6 := World.new_ne W10 _ hq6
    go_region_held3 (fun w' => w'.cell? ⟨b16, 0, none⟩ = some (.int .i64 1) ∧ w'.cell? ⟨b16, 1, none⟩ = some (.int .i64 3) ∧ w'.cell? ⟨b16, 2, none⟩ = some (.int .i64 0) ∧ w'.cell? ⟨b16, 3, none⟩ = some (.int .i64 0) ∧ w'.cell? ⟨b16, 4, none⟩ = some (.int .i64 100) ∧ w'.cell? ⟨b16, 5, none⟩ = some (.int .i64 9) ∧ w'.cell? ⟨b16, 6, none⟩ = some (.int .i64 0)) (go_keep) (fail)
    all_goals
      obtain ⟨n1, n2, n3⟩ := two_new W10 (.cells #[.int .i64 1, .int .i64 3, .int .i64 0, .int .i64 0, .int .i64 100, .int .i64 9, .int .i64 0] 34)
      go_wp2_with fail
      go_meet
      first
        | exact ⟨W10.heap.size, W10.heap.size + 1, rfl, rfl, by omega, by omega, by omega, n1, n2, n3⟩
        | exact ⟨W10.heap.size + 1, W10.heap.size, rfl, rfl, by omega, by omega, by omega, n2, n1, n3⟩
  case rest =>
    obtain ⟨b17, b18, rfl, rfl, hh⟩ := hcut
    obtain ⟨hne, hl7, hl8, h17, h18, hb⟩ := hh.out
    have H16 := pk ((hb.block _ hl16).trans hX10)
    have HM := pk (HM10.out.next hb)
    have hne2 : b18 ≠ b17 := fun e => hne e.symm
    have hcl7 := fun j => cell_of_row wc b17 j _ 34 (0, 0) h17
    have hcl8 := fun j => cell_of_row wc b18 j _ 34 (0, 0) h18
    have hp0 : wc.cell? ⟨b17, 0, none⟩ = some (.int .i64 1) := hcl7 0
    have hp1 : wc.cell? ⟨b17, 1, none⟩ = some (.int .i64 3) := hcl7 1
    have hp2 : wc.cell? ⟨b17, 2, none⟩ = some (.int .i64 0) := hcl7 2
    have hp3 : wc.cell? ⟨b17, 3, none⟩ = some (.int .i64 0) := hcl7 3
    have hp4 : wc.cell? ⟨b17, 4, none⟩ = some (.int .i64 100) := hcl7 4
    have hp5 : wc.cell? ⟨b17, 5, none⟩ = some (.int .i64 9) := hcl7 5
    have hp6 : wc.cell? ⟨b17, 6, none⟩ = some (.int .i64 0) := hcl7 6
    have hq0 : wc.cell? ⟨b18, 0, none⟩ = some (.int .i64 1) := hcl8 0
    have hq1 : wc.cell? ⟨b18, 1, none⟩ = some (.int .i64 3) := hcl8 1
    have hq2 : wc.cell? ⟨b18, 2, none⟩ = some (.int .i64 0) := hcl8 2
    have hq3 : wc.cell? ⟨b18, 3, none⟩ = some (.int .i64 0) := hcl8 3
    have hq4 : wc.cell? ⟨b18, 4, none⟩ = some (.int .i64 100) := hcl8 4
    have hq5 : wc.cell? ⟨b18, 5, none⟩ = some (.int .i64 9) := hcl8 5
    have hq6 : wc.cell? ⟨b18, 6, none⟩ = some (.int .i64 0) := hcl8 6
    have hf7 := fun j => free_row h17 j
    have hf8 := fun j => free_row h18 j
    have Hlt : Pk (w.heap.size ≤ b17 ∧ w.heap.size ≤ b18 ∧ b16 < b17 ∧ b16 < b18 ∧ w2.heap.size < W10.heap.size) := pk (by
      have h1 := HM10.out.two.bel.size
      have h2 := (Array.getElem?_eq_some_iff.1 HM10.out.two.blk).1
      omega)
    have HA : Pk (Ask w w2.heap.size A c b16 b17 b18 ((wc.setCell ⟨b17, 4, none⟩ (.int .i64 101)).setCell ⟨b18, 5, none⟩ (.int .i64 8))) := pk (by
      obtain ⟨k1, k2, k3, k4, k5⟩ := Hlt.out
      have hs : Below W10.heap.size wc ((wc.setCell ⟨b17, 4, none⟩ (.int .i64 101)).setCell ⟨b18, 5, none⟩ (.int .i64 8)) := ((Below.refl _ wc).setCell (show W10.heap.size ≤ b17 by omega) _).setCell (show W10.heap.size ≤ b18 by omega) _
      refine ⟨⟨⟨(hs.block _ (by omega)).trans HM.out.two.blk, (HM.out.two.bel.setCell (show w.heap.size ≤ b17 by omega) _).setCell (show w.heap.size ≤ b18 by omega) _⟩, HM.out.cap, Kd.C_below HM10.out.row (hb.trans hs)⟩, (hs.block _ hl16).trans H16.out, ?_, ?_⟩
      · have k0 : ((wc.setCell ⟨b17, 4, none⟩ (.int .i64 101)).setCell ⟨b18, 5, none⟩ (.int .i64 8)).cell? ⟨b17, 0, none⟩ = some (.int .i64 1) := by go_simp
        have k1 : ((wc.setCell ⟨b17, 4, none⟩ (.int .i64 101)).setCell ⟨b18, 5, none⟩ (.int .i64 8)).cell? ⟨b17, 1, none⟩ = some (.int .i64 3) := by go_simp
        have k2 : ((wc.setCell ⟨b17, 4, none⟩ (.int .i64 101)).setCell ⟨b18, 5, none⟩ (.int .i64 8)).cell? ⟨b17, 2, none⟩ = some (.int .i64 0) := by go_simp
        have k3 : ((wc.setCell ⟨b17, 4, none⟩ (.int .i64 101)).setCell ⟨b18, 5, none⟩ (.int .i64 8)).cell? ⟨b17, 3, none⟩ = some (.int .i64 0) := by go_simp
        have k4 : ((wc.setCell ⟨b17, 4, none⟩ (.int .i64 101)).setCell ⟨b18, 5, none⟩ (.int .i64 8)).cell? ⟨b17, 4, none⟩ = some (.int .i64 101) := by go_simp
        have k5 : ((wc.setCell ⟨b17, 4, none⟩ (.int .i64 101)).setCell ⟨b18, 5, none⟩ (.int .i64 8)).cell? ⟨b17, 5, none⟩ = some (.int .i64 9) := by go_simp
        have k6 : ((wc.setCell ⟨b17, 4, none⟩ (.int .i64 101)).setCell ⟨b18, 5, none⟩ (.int .i64 8)).cell? ⟨b17, 6, none⟩ = some (.int .i64 0) := by go_simp
        intro j v e
        match j, e with
        | 0, e => cases e; exact k0
        | 1, e => cases e; exact k1
        | 2, e => cases e; exact k2
        | 3, e => cases e; exact k3
        | 4, e => cases e; exact k4
        | 5, e => cases e; exact k5
        | 6, e => cases e; exact k6
        | n + 7, e => simp at e
      · have k0 : ((wc.setCell ⟨b17, 4, none⟩ (.int .i64 101)).setCell ⟨b18, 5, none⟩ (.int .i64 8)).cell? ⟨b18, 0, none⟩ = some (.int .i64 1) := by go_simp
        have k1 : ((wc.setCell ⟨b17, 4, none⟩ (.int .i64 101)).setCell ⟨b18, 5, none⟩ (.int .i64 8)).cell? ⟨b18, 1, none⟩ = some (.int .i64 3) := by go_simp
        have k2 : ((wc.setCell ⟨b17, 4, none⟩ (.int .i64 101)).setCell ⟨b18, 5, none⟩ (.int .i64 8)).cell? ⟨b18, 2, none⟩ = some (.int .i64 0) := by go_simp
        have k3 : ((wc.setCell ⟨b17, 4, none⟩ (.int .i64 101)).setCell ⟨b18, 5, none⟩ (.int .i64 8)).cell? ⟨b18, 3, none⟩ = some (.int .i64 0) := by go_simp
        have k4 : ((wc.setCell ⟨b17, 4, none⟩ (.int .i64 101)).setCell ⟨b18, 5, none⟩ (.int .i64 8)).cell? ⟨b18, 4, none⟩ = some (.int .i64 100) := by go_simp
        have k5 : ((wc.setCell ⟨b17, 4, none⟩ (.int .i64 101)).setCell ⟨b18, 5, none⟩ (.int .i64 8)).cell? ⟨b18, 5, none⟩ = some (.int .i64 8) := by go_simp
        have k6 : ((wc.setCell ⟨b17, 4, none⟩ (.int .i64 101)).setCell ⟨b18, 5, none⟩ (.int .i64 8)).cell? ⟨b18, 6, none⟩ = some (.int .i64 0) := by go_simp
        intro j v e
        match j, e with
        | 0, e => cases e; exact k0
        | 1, e => cases e; exact k1
        | 2, e => cases e; exact k2
        | 3, e => cases e; exact k3
        | 4, e => cases e; exact k4
        | 5, e => cases e; exact k5
        | 6, e => cases e; exact k6
        | n + 7, e => simp at e)
    clear hcl7 hcl8 h17 h18 hb hh HM HM10 hX10
    go_wp2_with fail
    clear hp0 hq0 hp1 hq1 hp2 hq2 hp3 hq3 hp4 hq4 hp5 hq5 hp6 hq6 hf7 hf8
    refine (is0 none 0 [] 3 4 0 0 0 0 0 _ (Kd.C_nil _ _) (by simp) e10).mono ?_
    rintro e w14 ⟨rfl, hb⟩
    have HA14 := pk (HA.out.next hb)
    clear hb
    have hcl := fun j => cell_of_row w14 b16 j _ 34 (0, 0) HA14.out.h16
    have hu0 : w14.cell? ⟨b16, 0, none⟩ = some (.int .i64 1) := hcl 0
    have hu1 : w14.cell? ⟨b16, 1, none⟩ = some (.int .i64 3) := hcl 1
    have hu2 : w14.cell? ⟨b16, 2, none⟩ = some (.int .i64 0) := hcl 2
    have hu3 : w14.cell? ⟨b16, 3, none⟩ = some (.int .i64 0) := hcl 3
    have hu4 : w14.cell? ⟨b16, 4, none⟩ = some (.int .i64 100) := hcl 4
    have hu5 : w14.cell? ⟨b16, 5, none⟩ = some (.int .i64 9) := hcl 5
    have hu6 : w14.cell? ⟨b16, 6, none⟩ = some (.int .i64 0) := hcl 6
    clear hcl
    go_wp2_with fail
    refine (is2 (some ⟨w2.heap.size, 0, none⟩) 2 two 1 3 0 0 100 9 0 (some ⟨w14.heap.size, 0, none⟩) _ (Kd.C_alloc HA14.out.mor.two.row _) (by decide) (ints_row w14 [4, 7] (by decide)) e11).mono ?_
    rintro e w15 ⟨rfl, hb⟩
    have HA15 := pk (HA14.out.next (below_step (below_alloc (Below.refl _ _) _) hb))
    clear hb
    clear hu0 hu1 hu2 hu3 hu4 hu5 hu6
    have hu0 : w15.cell? ⟨b17, 0, none⟩ = some (.int .i64 1) := HA15.out.h17 0 _ rfl
    have hu1 : w15.cell? ⟨b17, 1, none⟩ = some (.int .i64 3) := HA15.out.h17 1 _ rfl
    have hu2 : w15.cell? ⟨b17, 2, none⟩ = some (.int .i64 0) := HA15.out.h17 2 _ rfl
    have hu3 : w15.cell? ⟨b17, 3, none⟩ = some (.int .i64 0) := HA15.out.h17 3 _ rfl
    have hu4 : w15.cell? ⟨b17, 4, none⟩ = some (.int .i64 101) := HA15.out.h17 4 _ rfl
    have hu5 : w15.cell? ⟨b17, 5, none⟩ = some (.int .i64 9) := HA15.out.h17 5 _ rfl
    have hu6 : w15.cell? ⟨b17, 6, none⟩ = some (.int .i64 0) := HA15.out.h17 6 _ rfl
    go_wp2_with fail
    refine (is0 (some ⟨w2.heap.size, 0, none⟩) 2 two 1 3 0 0 101 9 0 _ HA15.out.mor.two.row (by decide) e12).mono ?_
    rintro e w16 ⟨rfl, hb⟩
    have HA16 := pk (HA15.out.next hb)
    clear hb
    clear hu0 hu1 hu2 hu3 hu4 hu5 hu6
    have hcl := fun j => cell_of_row w16 b16 j _ 34 (0, 0) HA16.out.h16
    have hu0 : w16.cell? ⟨b16, 0, none⟩ = some (.int .i64 1) := hcl 0
    have hu1 : w16.cell? ⟨b16, 1, none⟩ = some (.int .i64 3) := hcl 1
    have hu2 : w16.cell? ⟨b16, 2, none⟩ = some (.int .i64 0) := hcl 2
    have hu3 : w16.cell? ⟨b16, 3, none⟩ = some (.int .i64 0) := hcl 3
    have hu4 : w16.cell? ⟨b16, 4, none⟩ = some (.int .i64 100) := hcl 4
    have hu5 : w16.cell? ⟨b16, 5, none⟩ = some (.int .i64 9) := hcl 5
    have hu6 : w16.cell? ⟨b16, 6, none⟩ = some (.int .i64 0) := hcl 6
    clear hcl
    go_wp2_with fail
    refine (is0 A c more 1 3 0 0 100 9 0 _ HA16.out.mor.row HA16.out.mor.cap e13).mono ?_
    rintro e w17 ⟨rfl, hb⟩
    have HA17 := pk (HA16.out.next hb)
    clear hb
    clear hu0 hu1 hu2 hu3 hu4 hu5 hu6
    have hu0 : w17.cell? ⟨b18, 0, none⟩ = some (.int .i64 1) := HA17.out.h18 0 _ rfl
    have hu1 : w17.cell? ⟨b18, 1, none⟩ = some (.int .i64 3) := HA17.out.h18 1 _ rfl
    have hu2 : w17.cell? ⟨b18, 2, none⟩ = some (.int .i64 0) := HA17.out.h18 2 _ rfl
    have hu3 : w17.cell? ⟨b18, 3, none⟩ = some (.int .i64 0) := HA17.out.h18 3 _ rfl
    have hu4 : w17.cell? ⟨b18, 4, none⟩ = some (.int .i64 100) := HA17.out.h18 4 _ rfl
    have hu5 : w17.cell? ⟨b18, 5, none⟩ = some (.int .i64 8) := HA17.out.h18 5 _ rfl
    have hu6 : w17.cell? ⟨b18, 6, none⟩ = some (.int .i64 0) := HA17.out.h18 6 _ rfl
    go_wp2_with fail
    refine (is2 A c more 1 3 0 0 100 8 0 (some ⟨w17.heap.size, 0, none⟩) _ (Kd.C_alloc HA17.out.mor.row _) HA17.out.mor.cap (ints_row w17 [4, 7] (by decide)) e14).mono ?_
    rintro e w18 ⟨rfl, hb⟩
    have HA18 := pk (HA17.out.next (below_step (below_alloc (Below.refl _ _) _) hb))
    clear hb
    clear hu0 hu1 hu2 hu3 hu4 hu5 hu6
    go_wp2_with fail
    refine (signatorylaw16_lets.calls 0 1 1 0 _ _ _ _ _ _ _ _ _ _ _ e15).mono ?_
    rintro e w19 ⟨rfl, hb⟩
    have HA19 := pk (HA18.out.next hb)
    clear hb
    go_wp2_with fail
    refine (deputies_Check.calls 40 (some ⟨w19.heap.size, 0, none⟩) 1 [d_bad] 160 _ (C_block [] [d_bad] [] (Go.heap_alloc_new w19 _) (by simp)) (by simp) e16).mono ?_
    rintro e w20 ⟨rfl, hb⟩
    have HA20 := pk (HA19.out.next (below_step (below_alloc (Below.refl _ _) _) hb))
    clear hb
    go_wp2_with fail
    refine (deputies_Check.calls 40 (some ⟨w2.heap.size, 0, none⟩) 2 two 0 _ HA20.out.mor.two.row (by decide) e17).mono ?_
    rintro e w21 ⟨rfl, hb⟩
    have HA21 := pk (HA20.out.next hb)
    clear hb
    go_wp2_with fail
    go_ret
    exact ⟨rfl, HA21.out.mor.two.bel⟩
end Sn
theorem sane_hook (w : World) : Calls Try.prog 9 #[] w fun e w' => e = .returned (.bool true) ∧ Below w.heap.size w w' := Sn.sane_any w
end Go.Proofs.Ytoenefdjejkncaa.W

-- FOLDED: the printed part of the function that is given by hand
-- Written by drive.py (a session's program over the kit's print). Not trusted: Lean checks it.
namespace Go.Proofs.Ytoenefdjejkncaa.P
open Go.RowKit Go.Proofs.YtoenefdjejkncaaW.PrintWords Go.Proofs.YtoenefdjejkncaaW.PrintLast Go.Proofs.YtoenefdjejkncaaW.PrintMore
attribute [local go_sem] max2_int min2_int max_two min_two max_three min_three max_four min_four   -- for this text's walks alone
set_option linter.unusedVariables false
set_option linter.unusedSimpArgs false

/-! ### signatorylaw16_sane: function 9 -/
-- HOOK Derived.Test.YtoenefdjejkncaaWe
def signatorylaw16_sane.f  : Option (Bool) := some (true)
theorem signatorylaw16_sane.calls  (r : Bool) (w : World) (h : signatorylaw16_sane.f  = some r) :
    Calls Try.prog 9 #[] w (fun e w' => e = .returned (.bool r) ∧ Below w.heap.size w w') := by
  unfold signatorylaw16_sane.f at h
  simp only [Option.some.injEq] at h
  subst h
  exact W.sane_hook w
end Go.Proofs.Ytoenefdjejkncaa.P
