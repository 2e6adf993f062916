/-
Add of the package budgets, by a walk: BinarySearchFunc, Clone and Insert by their contracts. Condition: the row is read.
-/
import Derived.Test.YtaemdkbfdpjimaaWk
import Derived.Test.YtaemdkbfdpjimaaU
import Derived.Deep.RegionWith
import Derived.Test.YtaemdkbfdpjimaaP0
namespace Go.Proofs.Ytaemdkbfdpjimaa.W
open Go.RowKit Go.Proofs.YtaemdkbfdpjimaaW.PrintWords Go.Proofs.YtaemdkbfdpjimaaW.PrintLast Go.Proofs.YtaemdkbfdpjimaaW.PrintMore Go.Proofs.Ytaemdkbfdpjimaa.P
open S (place found checkF rightF addF)
set_option linter.unusedVariables false
theorem ret_int {k : IntKind} {a b : Int} (h : a = b) : Ending.returned (.int k a) = .returned (.int k b) := by rw [h]
theorem ret_tup2 {a b : Int} {c d : Bool} (h : a = b) (h2 : c = d) : Ending.returned (.tuple #[.int .i64 a, .bool c]) = .returned (.tuple #[.int .i64 b, .bool d]) := by rw [h, h2]
def cmpI (x y : Int) : Int := if x < y then -1 else if x > y then 1 else 0
theorem cmpI_neg (x y : Int) : decide (cmpI x y < 0) = decide (x < y) := by
  unfold cmpI
  by_cases h : x < y
  · rw [if_pos h]; simp [h]
  · rw [if_neg h]; by_cases h2 : x > y <;> simp [h, h2]
theorem cmpI_zero (x y : Int) : (cmpI x y == 0) = decide (x = y) := by
  unfold cmpI
  by_cases h : x < y
  · rw [if_pos h]; simp; omega
  · rw [if_neg h]
    by_cases h2 : x > y
    · rw [if_pos h2]; simp; omega
    · rw [if_neg h2]; simp; omega
theorem cmp_any (x y : Int) (w : World) : Calls Try.prog 29 #[.int .i64 x, .int .i64 y] w fun e w' => e = .returned (.int .i64 (cmpI x y)) ∧ w = w' := by
  rcases Int.lt_trichotomy x y with h | h | h
  · go_enter Try.func29, Try.ntmps29
    go_wp2
    go_ret
    exact ⟨ret_int (by unfold cmpI; rw [if_pos h]), rfl⟩
  · subst h
    go_enter Try.func29, Try.ntmps29
    go_wp2
    go_ret
    exact ⟨ret_int (by unfold cmpI; simp), rfl⟩
  · have h2 : ¬ x < y := by omega
    go_enter Try.func29, Try.ntmps29
    go_wp2
    go_ret
    exact ⟨ret_int (by unfold cmpI; rw [if_neg (by omega), if_pos h]), rfl⟩
theorem addc_any (a0 : Int) (a1 : Int) (a2 : Int) (a3 : Int) (a4 : Int) (a5 : Int) (a6 : Int) (a7 : Bool) (no : Int) (w : World) :
    Calls Try.prog 28 #[.agg #[.int .i64 a0, .int .i64 a1, .int .i64 a2, .int .i64 a3, .int .i64 a4, .int .i64 a5, .int .i64 a6, .bool a7], .int .i64 no] w fun e w' => e = .returned (.int .i64 (cmpI a0 no)) ∧ Below w.heap.size w w' := by
  go_enter Try.func28, Try.ntmps28
  go_wp2_with fail
  refine (cmp_any _ _ _).mono ?_
  rintro e w' ⟨rfl, rfl⟩
  go_wp2_with fail
  go_ret
  exact ⟨rfl, (Below.refl _ _).alloc (Nat.le_refl _) _⟩

/-- No's of a list are in order. -/
def Rising (l : List S24) : Prop := ∀ a b : Nat, a < b → b < l.length → (l.getD a z24).f0 < (l.getD b z24).f0
theorem place_of (l : List S24) (no : Int) : ∀ (i : Nat), i ≤ l.length → (∀ a, a < i → (l.getD a z24).f0 < no) → (i < l.length → no ≤ (l.getD i z24).f0) → place l no = i := by
  induction l with
  | nil => intro i hi _ _; simp at hi; simp [place, hi]
  | cons x l ih =>
    intro i hi h1 h2
    cases i with
    | zero =>
      have := h2 (by simp)
      simp at this
      unfold place
      rw [List.takeWhile_cons, if_neg (by simp; omega)]; rfl
    | succ i =>
      have h0 := h1 0 (by omega)
      simp at h0
      have := ih i (by simpa using hi) (fun a ha => by simpa using h1 (a + 1) (by omega)) (fun h => by simpa using h2 (by simpa using h))
      unfold place at this ⊢
      rw [List.takeWhile_cons, if_pos (by simpa using h0), List.length_cons, this]
def BsPost (l : List S24) (no : Int) (w : World) (e : Ending) (w' : World) : Prop := e = .returned (.tuple #[.int .i64 (place l no), .bool (found l no)]) ∧ Below w.heap.size w w'
def Lows (l : List S24) (no : Int) (i : Nat) : Prop := ∀ a, a < i → (l.getD a z24).f0 < no
def Highs (l : List S24) (no : Int) (j : Nat) : Prop := ∀ a, j ≤ a → a < l.length → no ≤ (l.getD a z24).f0
theorem lows_up {l : List S24} {no : Int} {h : Nat} (hs : Rising l) (hl : h < l.length) (hlt : (l.getD h z24).f0 < no) : Lows l no (h + 1) := fun a ha => by
  rcases Nat.lt_or_ge a h with h1 | h1
  · exact Int.lt_trans (hs a h h1 hl) hlt
  · obtain rfl : a = h := by omega
    exact hlt
theorem highs_down {l : List S24} {no : Int} {h : Nat} (hs : Rising l) (hge : no ≤ (l.getD h z24).f0) : Highs l no h := fun a h1 h2 => by
  rcases Nat.lt_or_ge h a with h3 | h3
  · exact Int.le_of_lt (Int.lt_of_le_of_lt hge (hs h a h3 h2))
  · obtain rfl : a = h := by omega
    exact hge
theorem at24 {w : World} {A : Option Addr} {n : Nat} {xs : List S24} (h : Kd.C k24 w A n xs) (k : Nat) (hk : k < n) :
    ∃ ad, A = some ad ∧ w.cell? (ad.add (k * 8)) = some (.int .i64 (xs.getD k z24).f0) ∧ w.cell? ⟨(ad.add (k * 8)).block, (ad.add (k * 8)).off + 1, none⟩ = some (.int .i64 (xs.getD k z24).f1) ∧ w.cell? ⟨(ad.add (k * 8)).block, (ad.add (k * 8)).off + 2, none⟩ = some (.int .i64 (xs.getD k z24).f2) ∧ w.cell? ⟨(ad.add (k * 8)).block, (ad.add (k * 8)).off + 3, none⟩ = some (.int .i64 (xs.getD k z24).f3) ∧ w.cell? ⟨(ad.add (k * 8)).block, (ad.add (k * 8)).off + 4, none⟩ = some (.int .i64 (xs.getD k z24).f4) ∧ w.cell? ⟨(ad.add (k * 8)).block, (ad.add (k * 8)).off + 5, none⟩ = some (.int .i64 (xs.getD k z24).f5) ∧ w.cell? ⟨(ad.add (k * 8)).block, (ad.add (k * 8)).off + 6, none⟩ = some (.int .i64 (xs.getD k z24).f6) ∧ w.cell? ⟨(ad.add (k * 8)).block, (ad.add (k * 8)).off + 7, none⟩ = some (.bool (xs.getD k z24).f7) := by
  have := at_T24 h (k : Int) (by omega) (by omega)
  simpa [rd_T24] using this
set_option maxHeartbeats 1000000 in
theorem bs_any (l : List S24) (no : Int) (A : Option Addr) (c : Nat) (w : World) (hn : l.length ≤ 4096) (hr : Kd.C k24 w A l.length l) (hs : Rising l) :
    Calls Try.prog 27 #[.slice A l.length c, .int .i64 no, .func (.func 28) #[] #[]] w (BsPost l no w) := by
  have HR := Lib.hid hr
  have HS := Lib.hid hs
  clear hr hs
  go_enter Try.func27, Try.ntmps27
  go_wp2_with fail
  go_loopw [9, 10, 11, 15, 16, 17, 18, 19, 20, 21, 22, 23, 24, 25, 26, 27, 28, 29, 30, 31, 32, 33, 34] (fun vi vj _ _ _ _ _ _ _ _ _ _ _ _ _ _ _ _ _ _ _ _ _ wr => ∃ i j : Nat, i ≤ j ∧ j ≤ l.length ∧ vi = .int .i64 i ∧ vj = .int .i64 j ∧ Hid (Lows l no i) ∧ Hid (Highs l no j) ∧ Below w.heap.size w wr)
     (fun vi vj _ _ _ _ _ _ _ _ _ _ _ _ _ _ _ _ _ _ _ _ _ _ => (intOf vj).toNat - (intOf vi).toNat)
  case atStart => exact ⟨0, l.length, by omega, by omega, rfl, rfl, Lib.hid (fun a ha => by omega), Lib.hid (fun a h1 h2 => by omega), Below.refl _ _⟩
  case round =>
    obtain ⟨i, j, hij, hj, rfl, rfl, HL, HH, hb⟩ := hrel
    by_cases hlt : i < j
    · obtain ⟨ad, hA, hcells⟩ := at24 (Kd.C_below HR.out hb) ((i + j) / 2) (by omega)
      subst hA
      generalize hx : l.getD ((i + j) / 2) z24 = x at hcells
      have Hx := Lib.hid hx
      clear hx
      have hsz := hb.size
      go_wp2_with fail
      refine (addc_any _ _ _ _ _ _ _ _ _ _).mono ?_
      rintro e w1 ⟨rfl, hb1⟩
      have hb2 : Below w.heap.size w w1 := hb.trans (hb1.mono hsz)
      clear hb1 hb
      by_cases hlt2 : x.f0 < no
      · have hc0 : cmpI x.f0 no < 0 := by have := cmpI_neg x.f0 no; simpa [hlt2] using this
        go_wp2_with fail
        go_roundw
        case rel => exact ⟨(i + j) / 2 + 1, j, by omega, hj, by go_num, rfl, Lib.hid (lows_up HS.out (by omega) (by rw [Hx.out]; exact hlt2)), HH, hb2⟩
        case measure => simp [intOf]; omega
      · have hc0 : ¬ cmpI x.f0 no < 0 := by have := cmpI_neg x.f0 no; simpa [hlt2] using this
        go_wp2_with fail
        go_roundw
        case rel => exact ⟨i, (i + j) / 2, by omega, by omega, rfl, by go_num, HL, Lib.hid (highs_down HS.out (by rw [Hx.out]; omega)), hb2⟩
        case measure => simp [intOf]; omega
    · obtain rfl : i = j := by omega
      have hp : place l no = i := place_of l no i hj HL.out (fun h => HH.out i (Nat.le_refl _) h)
      have Hp := Lib.hid hp
      clear hp
      have hsz := hb.size
      by_cases hl : i < l.length
      · obtain ⟨ad, hA, hcells⟩ := at24 (Kd.C_below HR.out hb) i hl
        subst hA
        generalize hx : l.getD i z24 = x at hcells
        have Hx := Lib.hid hx
        clear hx
        go_wp2_with fail
        refine (addc_any _ _ _ _ _ _ _ _ _ _).mono ?_
        rintro e w1 ⟨rfl, hb1⟩
        have hb2 : Below w.heap.size w w1 := hb.trans (hb1.mono hsz)
        clear hb1 hb
        go_wp2_with fail
        go_ret2
        exact ⟨ret_tup2 (by rw [Hp.out]) (by rw [cmpI_zero]; unfold found; rw [Hp.out, Hx.out]; simp [hl]), hb2⟩
      · go_wp2_with fail
        go_ret2
        exact ⟨ret_tup2 (by rw [Hp.out]) (by unfold found; rw [Hp.out]; simp [hl]), hb⟩

def AddPost (l : List S24) (x : S24) (w : World) (e : Ending) (w' : World) : Prop :=
  ∃ v, e = .returned (.tuple #[v, .int .i64 (addF l x).2]) ∧ Kd.R k24 24 w' w.heap.size (fun _ => True) v (addF l x).1 ∧ Below w.heap.size w w'
theorem add_err (l : List S24) (x : S24) (r : Int) (w w' : World) (h : addF l x = ([], r)) (hb : Below w.heap.size w w') : AddPost l x w (.returned (.tuple #[.slice none 0 0, .int .i64 r])) w' := by
  unfold AddPost
  rw [h]
  exact ⟨_, rfl, Kd.R_nil _ _ _ _ _, hb⟩
theorem fin_A {B : Nat} {w w3 w4 w5 : World} {o : Obj} (h : Below B w w3) (hB : B ≤ w3.heap.size) (h4 : Below w3.drew.heap.size w3.drew w4) (h5 : Below B (w4.alloc o) w5) : Below B w w5 :=
  ((h.drew.trans (h4.mono hB)).alloc (Nat.le_trans hB h4.size) o).trans h5
theorem fin_B {B : Nat} {w w3 w4 w5 : World} {o : Obj} (h : Below B w w3) (hB : B ≤ w3.heap.size) (h4 : Below (w3.alloc o).drew.heap.size (w3.alloc o).drew w4) (h5 : Below B w4 w5) : Below B w w5 :=
  (((h.alloc hB o).drew).trans (h4.mono (Nat.le_trans hB (by simp)))).trans h5
theorem fin_C {B : Nat} {w w3 w4 w5 : World} {o : Obj} (h : Below B w w3) (hB : B ≤ w3.heap.size) (h4 : Below (w3.drew.alloc o).heap.size (w3.drew.alloc o) w4) (h5 : Below B w4 w5) : Below B w w5 := fin_B h hB h4 h5
theorem own_apart_new {w4 : World} {b n : Nat} {v : Value} {xs : List Value} (h : w4.ownsRow b 24 8 v n xs) : v.ownBlock ≠ some w4.heap.size := fun e => by have := own_lt h _ e; omega
theorem own_apart_old {w4 : World} {b n g : Nat} {v : Value} {xs : List Value} (h : w4.ownsRow b 24 8 v n xs) (hg : g < b) : v.ownBlock ≠ some g := fun e => by have := own_base h _ e; omega
set_option maxHeartbeats 4000000 in
theorem add_any (A : Option Addr) (c : Nat) (l : List S24) (a0 : Int) (a1 : Int) (a2 : Int) (a3 : Int) (a4 : Int) (a5 : Int) (a6 : Int) (a7 : Bool) (w : World) (hr : Kd.C k24 w A l.length l) (hc : l.length ≤ c) :
    Calls Try.prog 11 #[.slice A l.length c, .agg #[.int .i64 a0, .int .i64 a1, .int .i64 a2, .int .i64 a3, .int .i64 a4, .int .i64 a5, .int .i64 a6, .bool a7]] w (AddPost l ⟨a0, a1, a2, a3, a4, a5, a6, a7⟩ w) := by
  have hck := U.check_f l (l.length + 2) (by omega)
  have hrt := U.right_f ⟨a0, a1, a2, a3, a4, a5, a6, a7⟩
  dsimp only at hrt
  have hr1 : Kd.C k24 (w.alloc (.cells #[.int .i64 a0, .int .i64 a1, .int .i64 a2, .int .i64 a3, .int .i64 a4, .int .i64 a5, .int .i64 a6, .bool a7] 24)) A l.length l := Kd.C_below hr ((Below.refl _ _).alloc (Nat.le_refl _) _)
  have hb0 : Below w.heap.size w (w.alloc (.cells #[.int .i64 a0, .int .i64 a1, .int .i64 a2, .int .i64 a3, .int .i64 a4, .int .i64 a5, .int .i64 a6, .bool a7] 24)) := (Below.refl _ _).alloc (Nat.le_refl _) _
  have hblk : (w.alloc (.cells #[.int .i64 a0, .int .i64 a1, .int .i64 a2, .int .i64 a3, .int .i64 a4, .int .i64 a5, .int .i64 a6, .bool a7] 24)).heap[w.heap.size]? = some (.cells #[.int .i64 a0, .int .i64 a1, .int .i64 a2, .int .i64 a3, .int .i64 a4, .int .i64 a5, .int .i64 a6, .bool a7] 24 (0, 0)) := Go.heap_alloc_new w _
  by_cases h0 : checkF l = 0
  · obtain ⟨hn, hpw, _⟩ := U.check_ok h0
    have hs : Rising l := U.rising_of hpw
    rw [h0] at hck
    obtain ⟨p, hp⟩ : ∃ p, place l a0 = p := ⟨_, rfl⟩
    obtain ⟨f, hf⟩ : ∃ f, found l a0 = f := ⟨_, rfl⟩
    obtain ⟨rt, hrt2⟩ : ∃ rt, rightF ⟨a0, a1, a2, a3, a4, a5, a6, a7⟩ = rt := ⟨_, rfl⟩
    rw [hrt2] at hrt
    have hpl : p ≤ l.length := by rw [← hp]; exact (List.takeWhile_sublist _).length_le
    have he : addF l ⟨a0, a1, a2, a3, a4, a5, a6, a7⟩ = if rt = false then ([], 180) else if f = true then ([], 151) else if l.length = 4096 then ([], 2) else (l.take p ++ ⟨a0, a1, a2, a3, a4, a5, a6, a7⟩ :: l.drop p, 0) := by
      unfold addF
      rw [if_neg (by simp [h0]), hrt2]
      dsimp only
      rw [hf, hp]
    have hbs := fun W hr => bs_any l a0 A c W hn hr hs
    unfold BsPost at hbs
    rw [hp, hf] at hbs
    have Hbs := Lib.hid hbs
    have He := Lib.hid he
    have Hrt := Lib.hid hrt
    have Hck := Lib.hid hck
    have Hb0 := Lib.hid hb0
    have Hblk := Lib.hid hblk
    have HR := Lib.hid hr1
    clear he hrt hck hb0 hblk hp hf hrt2 hr hr1 hbs hs h0 hpw
    go_enter Try.func11, Try.ntmps11
    go_wp2_with fail
    refine (budgets_Check.calls _ A c l 0 _ HR.out hc Hck.out).mono ?_
    rintro e w2 ⟨rfl, hb2⟩
    have HR2 := Lib.hid (Kd.C_below HR.out hb2)
    have Hb2 := Lib.hid (Hb0.out.trans (hb2.mono Hb0.out.size))
    have Hblk2 := Lib.hid ((hb2.block w.heap.size (by simp)).trans Hblk.out)
    clear hb2 Hblk Hck HR Hb0
    have hsz2 : w.heap.size < w2.heap.size := by have := (Array.getElem?_eq_some_iff.1 Hblk2.out).1; omega
    have hcl2 := fun j => cell_of_row w2 w.heap.size j _ 24 (0, 0) Hblk2.out
    have hx0 : w2.cell? ⟨w.heap.size, 0, none⟩ = some (.int .i64 a0) := hcl2 0
    have hx1 : w2.cell? ⟨w.heap.size, 1, none⟩ = some (.int .i64 a1) := hcl2 1
    have hx2 : w2.cell? ⟨w.heap.size, 2, none⟩ = some (.int .i64 a2) := hcl2 2
    have hx3 : w2.cell? ⟨w.heap.size, 3, none⟩ = some (.int .i64 a3) := hcl2 3
    have hx4 : w2.cell? ⟨w.heap.size, 4, none⟩ = some (.int .i64 a4) := hcl2 4
    have hx5 : w2.cell? ⟨w.heap.size, 5, none⟩ = some (.int .i64 a5) := hcl2 5
    have hx6 : w2.cell? ⟨w.heap.size, 6, none⟩ = some (.int .i64 a6) := hcl2 6
    have hx7 : w2.cell? ⟨w.heap.size, 7, none⟩ = some (.bool a7) := hcl2 7
    clear hcl2
    go_wp2_with fail
    refine (budgets_right.calls a0 a1 a2 a3 a4 a5 a6 a7 rt _ Hrt.out).mono ?_
    rintro e w1 ⟨rfl, hb1⟩
    have HR1 := Lib.hid (Kd.C_below HR2.out hb1)
    have Hb1 := Lib.hid (Hb2.out.trans (hb1.mono Hb2.out.size))
    have Hblk1 := Lib.hid ((hb1.block w.heap.size hsz2).trans Hblk2.out)
    clear hb1 Hblk2 HR2 Hb2 Hrt hsz2 hx0 hx1 hx2 hx3 hx4 hx5 hx6 hx7
    cases rt with
    | false =>
      go_wp2_with fail
      go_ret2
      exact add_err _ _ _ _ _ He.out Hb1.out
    | true =>
      have hsz1 : w.heap.size < w1.heap.size := by have := (Array.getElem?_eq_some_iff.1 Hblk1.out).1; omega
      have hcl1 := fun j => cell_of_row w1 w.heap.size j _ 24 (0, 0) Hblk1.out
      have hc0 : w1.cell? ⟨w.heap.size, 0, none⟩ = some (.int .i64 a0) := hcl1 0
      clear hcl1
      go_wp2_with fail
      refine (Hbs.out _ HR1.out).mono ?_
      rintro e w3 ⟨rfl, hb3⟩
      have HR3 := Lib.hid (Kd.C_below HR1.out hb3)
      have Hb3 := Lib.hid (Hb1.out.trans (hb3.mono Hb1.out.size))
      have Hblk3 := Lib.hid ((hb3.block w.heap.size hsz1).trans Hblk1.out)
      clear hb3 Hblk1 HR1 Hb1 Hbs hc0 hsz1
      cases f with
      | true =>
        go_wp2_with fail
        go_ret2
        exact add_err _ _ _ _ _ He.out Hb3.out
      | false =>
        by_cases hlm : l.length = 4096
        · have hq : ((l.length : Int) == 4096) = true := by simp [hlm]; 
          have He2 : addF l ⟨a0, a1, a2, a3, a4, a5, a6, a7⟩ = ([], 2) := by rw [He.out]; simp [hlm]
          have He3 := Lib.hid He2
          clear He He2 hlm
          go_wp2_with fail
          go_ret2
          exact add_err _ _ _ _ _ He3.out Hb3.out
        · have hq : ((l.length : Int) == 4096) = false := by simp; omega
          have He2 : addF l ⟨a0, a1, a2, a3, a4, a5, a6, a7⟩ = (l.take p ++ ⟨a0, a1, a2, a3, a4, a5, a6, a7⟩ :: l.drop p, 0) := by rw [He.out]; simp [hlm]
          have He3 := Lib.hid He2
          clear He He2 hlm
          have hcl3 := fun j => cell_of_row w3 w.heap.size j _ 24 (0, 0) Hblk3.out
          have hx0 : w3.cell? ⟨w.heap.size, 0, none⟩ = some (.int .i64 a0) := hcl3 0
          have hx1 : w3.cell? ⟨w.heap.size, 1, none⟩ = some (.int .i64 a1) := hcl3 1
          have hx2 : w3.cell? ⟨w.heap.size, 2, none⟩ = some (.int .i64 a2) := hcl3 2
          have hx3 : w3.cell? ⟨w.heap.size, 3, none⟩ = some (.int .i64 a3) := hcl3 3
          have hx4 : w3.cell? ⟨w.heap.size, 4, none⟩ = some (.int .i64 a4) := hcl3 4
          have hx5 : w3.cell? ⟨w.heap.size, 5, none⟩ = some (.int .i64 a5) := hcl3 5
          have hx6 : w3.cell? ⟨w.heap.size, 6, none⟩ = some (.int .i64 a6) := hcl3 6
          have hx7 : w3.cell? ⟨w.heap.size, 7, none⟩ = some (.bool a7) := hcl3 7
          clear hcl3
          have hsz3 : w.heap.size < w3.heap.size := (Array.getElem?_eq_some_iff.1 Hblk3.out).1
          have HRB : Hid (Kd.C k24 (w3.alloc (.cells #[.int .i64 a0, .int .i64 a1, .int .i64 a2, .int .i64 a3, .int .i64 a4, .int .i64 a5, .int .i64 a6, .bool a7] 24)).drew A l.length l) := Kd.C_below HR3.out (((Below.refl _ w3).alloc (Nat.le_refl _) _).drew)
          have HBB : Hid ((w3.alloc (.cells #[.int .i64 a0, .int .i64 a1, .int .i64 a2, .int .i64 a3, .int .i64 a4, .int .i64 a5, .int .i64 a6, .bool a7] 24)).drew.heap[w.heap.size]? = some (.cells #[.int .i64 a0, .int .i64 a1, .int .i64 a2, .int .i64 a3, .int .i64 a4, .int .i64 a5, .int .i64 a6, .bool a7] 24 (0, 0))) := (Below.heap_alloc w3 _ _ hsz3).trans Hblk3.out
          go_wp2_with fail
          go_region_with (first | (go_at_call 31; refine (clone_any l A c _ hn (by first | exact HR3.out | exact HRB.out)).mono ?_; rintro e w4 ⟨v, rfl, ho4, hb4⟩; have Hblk4 := Lib.hid ((hb4.block w.heap.size (by simp; omega)).trans (by first | exact Hblk3.out | exact HBB.out)); have hcl4 := fun j => cell_of_row w4 w.heap.size j _ 24 (0, 0) Hblk4.out; have hz0 : w4.cell? ⟨w.heap.size, 0, none⟩ = some (.int .i64 a0) := hcl4 0; have hz1 : w4.cell? ⟨w.heap.size, 1, none⟩ = some (.int .i64 a1) := hcl4 1; have hz2 : w4.cell? ⟨w.heap.size, 2, none⟩ = some (.int .i64 a2) := hcl4 2; have hz3 : w4.cell? ⟨w.heap.size, 3, none⟩ = some (.int .i64 a3) := hcl4 3; have hz4 : w4.cell? ⟨w.heap.size, 4, none⟩ = some (.int .i64 a4) := hcl4 4; have hz5 : w4.cell? ⟨w.heap.size, 5, none⟩ = some (.int .i64 a5) := hcl4 5; have hz6 : w4.cell? ⟨w.heap.size, 6, none⟩ = some (.int .i64 a6) := hcl4 6; have hz7 : w4.cell? ⟨w.heap.size, 7, none⟩ = some (.bool a7) := hcl4 7; clear hcl4; have Ho4 := Lib.hid ho4; have Hb4 := Lib.hid hb4; clear ho4 hb4) | (go_at_call 30; refine (ins_any l ⟨a0, a1, a2, a3, a4, a5, a6, a7⟩ p hpl hn v _ _ w.heap.size (by have := Hb4.out.size; simp at this ⊢; omega) (by first | exact Go.heap_alloc_new w4 _ | exact (Hb4.out.block w3.heap.size (by simp)).trans (Go.heap_alloc_new w3 _)) (by first | exact (own_weaken Ho4.out (by simp; omega)).alloc _ | exact own_weaken Ho4.out (by simp; omega)) (by first | exact own_apart_new Ho4.out | exact own_apart_old Ho4.out (by simp))).mono ?_; rintro e w5 ⟨v5, rfl, ho5, hb5⟩; have Hb5 : Hid (Below w.heap.size w w5) := (by first | exact fin_A Hb3.out (by omega) Hb4.out hb5 | exact fin_B Hb3.out (by omega) Hb4.out hb5 | exact fin_C Hb3.out (by omega) Hb4.out hb5); have Ho5 := Lib.hid ho5; clear ho5 hb5))
          all_goals
            go_wp2_with fail
            go_ret2
            unfold AddPost
            rw [He3.out]
            exact ⟨v5, rfl, R24_of_own (by rw [show (l.take p ++ (⟨a0, a1, a2, a3, a4, a5, a6, a7⟩ : S24) :: l.drop p).length = l.length + 1 by simp; omega]; exact Ho5.out) (fun _ _ => trivial), Hb5.out⟩
  · have he : addF l ⟨a0, a1, a2, a3, a4, a5, a6, a7⟩ = ([], checkF l) := by unfold addF; rw [if_pos h0]
    have He := Lib.hid he
    have Hb0 := Lib.hid hb0
    clear he hrt hblk hb0
    generalize hq : checkF l = q at *
    clear hq
    go_enter Try.func11, Try.ntmps11
    go_wp2_with fail
    refine (budgets_Check.calls _ A c l q _ hr1 hc hck).mono ?_
    rintro e w1 ⟨rfl, hb1⟩
    have hq2 : (q == 0) = false := by simpa using h0
    have hq3 : (q != 0) = true := by simpa using h0
    go_wp2_with fail
    go_ret2
    exact add_err _ _ _ _ _ He.out (Hb0.out.trans (hb1.mono Hb0.out.size))
theorem add_hook (A0 : Option Addr) (c0 : Nat) (l0 : List S24) (a0 : Int) (a1 : Int) (a2 : Int) (a3 : Int) (a4 : Int) (a5 : Int) (a6 : Int) (a7 : Bool) (w : World) (hr0 : Kd.C k24 w A0 l0.length l0) (hc0 : l0.length ≤ c0) :
    Calls Try.prog 11 #[.slice A0 l0.length c0, .agg #[.int .i64 a0, .int .i64 a1, .int .i64 a2, .int .i64 a3, .int .i64 a4, .int .i64 a5, .int .i64 a6, .bool a7]] w fun e w' => ∃ v0_ : Value, e = .returned (.tuple #[v0_, .int .i64 (S.addF l0 ⟨a0, a1, a2, a3, a4, a5, a6, a7⟩).2]) ∧ Kd.R k24 24 w' w.heap.size (fun _ => True) v0_ (S.addF l0 ⟨a0, a1, a2, a3, a4, a5, a6, a7⟩).1 ∧ Below w.heap.size w w' :=
  add_any A0 c0 l0 a0 a1 a2 a3 a4 a5 a6 a7 w hr0 hc0
end Go.Proofs.Ytaemdkbfdpjimaa.W

-- FOLDED: the printed part of the function that is given by hand
-- Written by drive.py (a session's program over the kit's print). Not trusted: Lean checks it.
namespace Go.Proofs.Ytaemdkbfdpjimaa.P
open Go.RowKit Go.Proofs.YtaemdkbfdpjimaaW.PrintWords Go.Proofs.YtaemdkbfdpjimaaW.PrintLast Go.Proofs.YtaemdkbfdpjimaaW.PrintMore
attribute [local go_sem] max2_int min2_int max_two min_two max_three min_three max_four min_four   -- for this text's walks alone
set_option linter.unusedVariables false
set_option linter.unusedSimpArgs false

/-! ### budgets_Add: function 11 -/
-- HOOK Derived.Test.YtaemdkbfdpjimaaWb
def budgets_Add.f (l0 : List (S24)) (a1_0 : Int) (a1_1 : Int) (a1_2 : Int) (a1_3 : Int) (a1_4 : Int) (a1_5 : Int) (a1_6 : Int) (a1_7 : Bool) : Option ((List (S24)) × Int) := some (S.addF l0 ⟨a1_0, a1_1, a1_2, a1_3, a1_4, a1_5, a1_6, a1_7⟩)
theorem budgets_Add.calls (A0 : Option Addr) (c0 : Nat) (l0 : List (S24)) (a1_0 : Int) (a1_1 : Int) (a1_2 : Int) (a1_3 : Int) (a1_4 : Int) (a1_5 : Int) (a1_6 : Int) (a1_7 : Bool) (r1 : List (S24)) (r2 : Int) (w : World) (hr0 : Kd.C k24 w A0 l0.length l0) (hc0 : l0.length ≤ c0) (h : budgets_Add.f l0 a1_0 a1_1 a1_2 a1_3 a1_4 a1_5 a1_6 a1_7 = some (r1, r2)) :
    Calls Try.prog 11 #[.slice A0 l0.length c0, .agg #[.int .i64 a1_0, .int .i64 a1_1, .int .i64 a1_2, .int .i64 a1_3, .int .i64 a1_4, .int .i64 a1_5, .int .i64 a1_6, .bool a1_7]] w (fun e w' => ∃ v0_ : Value, e = .returned (.tuple #[v0_, .int .i64 r2]) ∧ Kd.R k24 24 w' w.heap.size (fun _ => True) v0_ r1 ∧ Below w.heap.size w w') := by
  unfold budgets_Add.f at h
  simp only [Option.some.injEq] at h
  have h0_ := congrArg (fun p_ => p_.1) h
  have h1_ := congrArg (fun p_ => p_.2) h
  dsimp only at h0_ h1_
  subst h0_ h1_
  exact W.add_hook A0 c0 l0 a1_0 a1_1 a1_2 a1_3 a1_4 a1_5 a1_6 a1_7 w hr0 hc0
end Go.Proofs.Ytaemdkbfdpjimaa.P
