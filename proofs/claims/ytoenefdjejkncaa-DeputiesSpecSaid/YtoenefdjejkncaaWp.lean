/-
Proves of the package deputies, by a walk: a map of what covers, and a loop over the list. Condition: the rows are read.
-/
import Derived.Test.YtoenefdjejkncaaWd
import Derived.Test.YtoenefdjejkncaaP0
namespace Go.Proofs.Ytoenefdjejkncaa.W
open Go.RowKit Go.Proofs.YtoenefdjejkncaaW.PrintWords Go.Proofs.YtoenefdjejkncaaW.PrintLast Go.Proofs.YtoenefdjejkncaaW.PrintMore Go.Proofs.Ytoenefdjejkncaa.P
open S (checkF askF coverF upd byF leadF provesF)
set_option linter.unusedVariables false
attribute [local go_sem] Oper.semAt_some
namespace Pv
open Cv (Qn Boxes covering_any iter_stops itf ev enc InK row_lt ink_lt one_cell Yd)
open Ch (ask_f ask_check ei)
abbrev eb : Bool → Value := Value.bool
theorem blaw : MapLaw Try.prog 78 3 24 ei ev (ev z24) := int_law Try.underlying78 Try.underlying3 (fun w => by kernel_rfl)
theorem mlaw : MapLaw Try.prog 45 3 4 ei eb (.bool false) := int_law Try.underlying45 Try.underlying3 (fun w => by kernel_rfl)
/-- who has been met, as a map -/
def Jm (W0 : World) (met : List Int) (W : World) : Prop := ∃ m, IsMap ei eb W W0.heap.size m ∧ (∀ k, (mget m k).getD false = met.contains k) ∧ Below W0.heap.size W0 W
theorem Jm.below {W0 W W' : World} {f : List Int} (h : Jm W0 f W) (hb : Below W.heap.size W W') : Jm W0 f W' := by
  obtain ⟨m, h1, h2, h3⟩ := h
  exact ⟨m, h1.at_ (hb.block _ h1.lt), h2, below_step h3 hb⟩
theorem Jm.look {W0 W : World} {f : List Int} (h : Jm W0 f W) (k : Int) : (Instr.lookup 45 (.map (some W0.heap.size)) (.int .i64 k) false).run Try.prog W = .ok (.bool (f.contains k)) W := by
  obtain ⟨m, h1, h2, _⟩ := h
  refine (run_look mlaw h1 k).trans ?_
  rw [← h2 k]
  cases mget m k <;> rfl
theorem Jm.put {W0 W : World} {f : List Int} (h : Jm W0 f W) (k : Int) : ∃ W', (Instr.mapUpdate 45 (.map (some W0.heap.size)) (.int .i64 k) (.bool true)).run Try.prog W = .ok () W' ∧ Jm W0 (k :: f) W' ∧ ∀ q, q < W.heap.size → q ≠ W0.heap.size → W'.heap[q]? = W.heap[q]? := by
  obtain ⟨m, h1, h2, h3⟩ := h
  obtain ⟨W', hp, hm, hg, hs⟩ := run_put mlaw h1 k true
  refine ⟨W', hp, ⟨mput m k true, hm, fun p => ?_, h3.grown hg h3.size (fun q e => by cases e; exact Nat.le_refl _)⟩, fun q hq hne => hg.block q hq (fun e => hne (by cases e; rfl))⟩
  rw [mget_put, List.contains_cons]
  by_cases hk : k = p
  · subst hk; simp
  · rw [if_neg hk, h2 p]
    have : (p == k) = false := by simp; exact fun e => hk e.symm
    rw [this]; rfl
def byS (m : Int → Option S24) (x : S24) : Int → Option S24 := upd m x.f0 x
/-- what stands between two rounds of the range -/
def I1 (w W0 : World) (Bm : Nat) (pre : List S24) (W : World) : Prop :=
  ∃ m : List (Int × S24), IsMap ei ev W Bm m ∧ (∀ k, mget m k = pre.foldl byS (fun _ => none) k) ∧ (∀ k, k < W0.heap.size → k ≠ Bm → W.heap[k]? = W0.heap[k]?) ∧ W0.heap.size ≤ W.heap.size ∧ Below w.heap.size w W
theorem I1_own (w W0 : World) (Bm : Nat) (hm : Bm < W0.heap.size) (hw : w.heap.size ≤ W0.heap.size) : OwnFrom W0.heap.size (I1 w W0 Bm) := by
  rintro pre W W' row ⟨m, h1, h2, h3, hs, h4⟩ hg hr
  have hlt : ∀ k, row = some k → W0.heap.size ≤ k := fun k e => (hr k e).1
  have h4s := h4.size
  refine ⟨m, h1.at_ (hg.block Bm h1.lt (fun e => by have := hlt _ e.symm; omega)), h2, fun k hk hkm => ?_, Nat.le_trans hs hg.size, h4.grown hg h4s (fun k e => by have := hlt k e; omega)⟩
  have h5 := h3 k hk hkm
  rw [Array.getElem?_eq_getElem hk] at h5
  rw [hg.block k (Array.getElem?_eq_some_iff.1 h5).1 (fun e => by have := hlt _ e.symm; omega), h5, Array.getElem?_eq_getElem hk]
def Post (r : Bool × Int) (w : World) (e : Ending) (w' : World) : Prop := e = .returned (.tuple #[.bool r.1, .int .i64 r.2]) ∧ Below w.heap.size w w'
set_option maxHeartbeats 8000000 in
set_option maxRecDepth 100000 in
theorem proves_in (n : Nat) (hn5 : 5 ≤ n) (A : Option Addr) (c : Nat) (l : List S24) (from_ to_ o kd v t nn : Int) (P : Option Addr) (d : Nat) (path : List Int) (w : World) (hr : Kd.C k24 w A l.length l) (hc : l.length ≤ c) (hrp : Kd.C (Kd.int .i64) w P path.length path) (hcp : path.length ≤ d) :
    CallsIn Fence.wide n Try.prog 36 #[.slice A l.length c, .int .i64 from_, .int .i64 to_, .int .i64 o, .int .i64 kd, .int .i64 v, .int .i64 t, .int .i64 nn, .slice P path.length d] w (Post (provesF l from_ to_ o kd v t nn path) w) := by
  have h1n : 1 ≤ n := by omega
  have hask := ask_f l from_ to_ o kd v t nn (l.length + 2) (by omega)
  have hpro : provesF l from_ to_ o kd v t nn path = if askF l from_ to_ o kd v t nn ≠ 0 then (false, askF l from_ to_ o kd v t nn) else if 8 < path.length then (false, 0) else (leadF (byF (coverF l o kd v t nn)) to_ path [from_] from_, 0) := rfl
  have hck : askF l from_ to_ o kd v t nn = 0 → checkF l = 0 := ask_check
  generalize askF l from_ to_ o kd v t nn = ak at hask hpro hck
  have HR := pk hr
  have Hc := pk hc
  have HP := pk hrp
  have Hd := pk hcp
  have Hask := pk hask
  have Hpro := pk hpro
  have Hck := pk hck
  clear hr hc hrp hcp hask hpro hck
  have hX : ∀ W, Below (w.alloc (.cells #[.int .i64 o, .int .i64 kd, .int .i64 v, .int .i64 t, .int .i64 nn] 69)).heap.size (w.alloc (.cells #[.int .i64 o, .int .i64 kd, .int .i64 v, .int .i64 t, .int .i64 nn] 69)) W → W.heap[w.heap.size]? = some (.cells #[.int .i64 o, .int .i64 kd, .int .i64 v, .int .i64 t, .int .i64 nn] 69 (0, 0)) := fun W h => (h.block _ (by simp)).trans (Go.heap_alloc_new w _)
  have HX := pk hX
  clear hX
  refine callsIn_of_wp_marks Try.func36 rfl trivial ?_ rfl
  simp only [Try.ntmps36, List.size_toArray, List.length_cons, List.length_nil, Nat.reduceAdd, Nat.reduceSub, Array.replicate_succ, Array.replicate_zero, List.push_toArray, List.append_toArray, List.nil_append, List.cons_append]
  gi_wp2_with fail
  refine ⟨trivial, (callsIn_wide.2 (deputies_ask.calls _ A c l from_ to_ o kd v t nn ak _ (Kd.C_alloc HR.out _) Hc.out Hask.out)).mono ?_⟩
  rintro e w1 ⟨rfl, hb1⟩
  have HX1 := pk (HX.out w1 hb1)
  have HB1 := pk (((Below.refl w.heap.size w).alloc (Nat.le_refl _) _).trans (hb1.mono (by simp)))
  clear hb1 HX Hask
  by_cases h0 : ak = 0
  · subst h0
    have hL : l.length ≤ 4096 := (U.check_ok (Hck.out rfl)).1
    have Hpr : Pk (provesF l from_ to_ o kd v t nn path = if 8 < path.length then (false, 0) else (leadF (byF (coverF l o kd v t nn)) to_ path [from_] from_, 0)) := pk (by rw [Hpro.out]; rfl)
    clear Hpro Hck
    by_cases h8 : 8 < path.length
    · have Hp2 : Pk (provesF l from_ to_ o kd v t nn path = (false, 0)) := pk (by rw [Hpr.out, if_pos h8])
      clear Hpr
      gi_wp2_with fail
      exact ⟨.tuple #[.bool false, .int .i64 0], by simp [results, Try.results36, go_sem], by rw [Hp2.out]; exact ⟨rfl, HB1.out⟩⟩
    · have Hp2 : Pk (provesF l from_ to_ o kd v t nn path = (leadF (byF (coverF l o kd v t nn)) to_ path [from_] from_, 0)) := pk (by rw [Hpr.out, if_neg h8])
      clear Hpr
      have hw1 : w.heap.size < w1.heap.size := (Array.getElem?_eq_some_iff.1 HX1.out).1
      have hblk2 : ∀ o1 o2, ((w1.alloc o1).alloc o2).heap[w.heap.size]? = some (.cells #[.int .i64 o, .int .i64 kd, .int .i64 v, .int .i64 t, .int .i64 nn] 69 (0, 0)) := fun o1 o2 => (Below.heap_alloc _ o2 _ (by simp; omega)).trans ((Below.heap_alloc w1 o1 _ hw1).trans HX1.out)
      have hcx := fun o1 o2 j => cell_of_row ((w1.alloc o1).alloc o2) w.heap.size j _ 69 (0, 0) (hblk2 o1 o2)
      have hx0 : ∀ o1 o2, ((w1.alloc o1).alloc o2).cell? ⟨w.heap.size, 0, none⟩ = some (.int .i64 o) := fun o1 o2 => hcx o1 o2 0
      have hx1 : ∀ o1 o2, ((w1.alloc o1).alloc o2).cell? ⟨w.heap.size, 1, none⟩ = some (.int .i64 kd) := fun o1 o2 => hcx o1 o2 1
      have hx2 : ∀ o1 o2, ((w1.alloc o1).alloc o2).cell? ⟨w.heap.size, 2, none⟩ = some (.int .i64 v) := fun o1 o2 => hcx o1 o2 2
      have hx3 : ∀ o1 o2, ((w1.alloc o1).alloc o2).cell? ⟨w.heap.size, 3, none⟩ = some (.int .i64 t) := fun o1 o2 => hcx o1 o2 3
      have hx4 : ∀ o1 o2, ((w1.alloc o1).alloc o2).cell? ⟨w.heap.size, 4, none⟩ = some (.int .i64 nn) := fun o1 o2 => hcx o1 o2 4
      clear hcx hblk2
      have hmm := @run_makeMap Try.prog
      gi_wp2_with fail
      clear hmm hx0 hx1 hx2 hx3 hx4
      refine ⟨trivial, (callsIn_wide.2 (covering_any ⟨o, kd, v, t, nn⟩ A c l _ (Kd.C_alloc (Kd.C_alloc (Kd.C_below HR.out HB1.out) _) _))).mono ?_⟩
      rintro e W0 ⟨rfl, m, hm, hmg, hBx, hb2⟩
      rw [List.take_length] at hmg
      gi_wp2_with fail
      simp only [World.size_alloc] at hBx hm hb2
      have hbw1 : Below w1.heap.size w1 W0 := (((Below.refl w1.heap.size w1).alloc (Nat.le_refl _) _).alloc (by simp) _).trans (hb2.mono (by omega))
      have hbw : Below w.heap.size w W0 := below_step HB1.out hbw1
      have hM0 : W0.heap[w1.heap.size]? = some (.map #[] 0) := (hb2.block _ (by omega)).trans ((Below.heap_alloc _ _ _ (by simp)).trans (Go.heap_alloc_new w1 _))
      have hP0 : W0.heap[w1.heap.size + 1]? = some (.cells #[.map (some w1.heap.size)] 78 (0, 0)) := (hb2.block _ (by omega)).trans (by have h9 := Go.heap_alloc_new (w1.alloc (.map #[] 0)) (.cells #[.map (some w1.heap.size)] 78); rwa [World.size_alloc] at h9)
      have hr0 : Kd.C k24 W0 A l.length l := Kd.C_below HR.out hbw
      have hsz0 : w1.heap.size + 1 < W0.heap.size := (Array.getElem?_eq_some_iff.1 hP0).1
      have hKlt : ∀ k, InK (w1.heap.size + 1 + 1) A l.length k → k < W0.heap.size := ink_lt hBx hr0
      have hKne : ∀ k, InK (w1.heap.size + 1 + 1) A l.length k → k ≠ w1.heap.size := by
        rintro k (⟨h1, h2⟩ | ⟨ad, rfl, hl, rfl⟩)
        · omega
        · have := row_lt HR.out hl
          omega
      have hcov : l.filter (Yd l ⟨o, kd, v, t, nn⟩) = coverF l o kd v t nn := rfl
      refine wpIn_rangeFunc_ownH rfl h1n (gf := 55) (lb := #[.pointer (some ⟨w1.heap.size + 1 + 1 + 1, 0, none⟩), .pointer (some ⟨w1.heap.size + 1 + 1 + 4, 0, none⟩), .pointer (some ⟨w1.heap.size + 1 + 1 + 2, 0, none⟩), .pointer (some ⟨w1.heap.size + 1 + 1, 0, none⟩)]) rfl trivial (enters_of Try.func55 (by kernel_rfl) rfl)
        (iter_stops (n - 1) (w1.heap.size + 1 + 1) ⟨o, kd, v, t, nn⟩ A c l m W0 hBx hm hmg hr0 hr0.2.1) keepK_t (keepK_b hKlt) (Below.refl _ _) (fun _ => rfl) (I1 w W0 w1.heap.size) (fun _ _ _ => False)
        (I1_own w W0 w1.heap.size (by omega) (by omega)) (fun _ _ _ _ _ h _ _ => h) ?h0
        (fun x a' W => ∃ By, W0.heap.size ≤ By ∧ W.heap[By]? = some (.cells #[.int .i64 x.f0, .int .i64 x.f1, .int .i64 x.f2, .int .i64 x.f3, .int .i64 x.f4, .int .i64 x.f5, .int .i64 x.f6, .int .i64 x.f7, .int .i64 x.f8, .bool x.f9] 24 (0, 0)) ∧ a' = { tmps := #[.slice A l.length c, .int .i64 from_, .int .i64 to_, .int .i64 o, .int .i64 kd, .int .i64 v, .int .i64 t, .int .i64 nn, .slice P path.length d, undef, undef, undef, undef, undef, undef, undef, undef, undef, .bool false, .int .i64 0, .pointer (some ⟨w.heap.size, 0, none⟩), .pointer (some ⟨w1.heap.size + 1, 0, none⟩), .pointer (some ⟨By, 0, none⟩), undef, undef, undef, undef, undef, .int .i64 o, .int .i64 kd, .int .i64 v, .int .i64 t, .int .i64 nn, .agg #[.int .i64 o, .int .i64 kd, .int .i64 v, .int .i64 t, .int .i64 nn], .slice A l.length c, .int .i64 from_, .int .i64 to_, .agg #[.int .i64 o, .int .i64 kd, .int .i64 v, .int .i64 t, .int .i64 nn], .int .i64 0, .int .i64 0, .bool false, undef, .slice P path.length d, .int .i64 (path.length : Int), .bool (decide ((8 : Int) < (path.length : Int))), .map (some w1.heap.size), .agg #[.int .i64 o, .int .i64 kd, .int .i64 v, .int .i64 t, .int .i64 nn], .slice A l.length c, itf (w1.heap.size + 1 + 1), .agg #[.int .i64 x.f0, .int .i64 x.f1, .int .i64 x.f2, .int .i64 x.f3, .int .i64 x.f4, .int .i64 x.f5, .int .i64 x.f6, .int .i64 x.f7, .int .i64 x.f8, .bool x.f9], undef, undef, undef, undef, undef, undef, undef, undef, undef, undef, undef, undef, undef, undef, undef, undef, undef, undef, undef, undef, undef, undef, undef, undef, undef, undef, undef, undef, undef, undef, undef, undef, undef, undef, undef, undef, undef, undef, undef, undef, undef, undef], defers := [] })
        ?hAx ?assign ?body ?done ?stop
      case h0 => exact ⟨[], IsMap.nil hM0, fun y => rfl, fun _ _ _ => rfl, Nat.le_refl _, hbw⟩
      case hAx =>
        rintro x a' _ W W' row ⟨By, h1, h2, h3⟩ hg hr
        refine ⟨By, h1, (hg.block By (Array.getElem?_eq_some_iff.1 h2).1 (fun e => ?_)).trans h2, h3⟩
        obtain ⟨_, o, ho, hc⟩ := hr By e.symm
        rw [h2] at ho
        cases ho
        cases hc
      case assign =>
        intro ly pre x W K hI hK
        simp only [enc]
        gi_wp2_with fail
        exact hK _ _ ((KeepsOthers.alloc W _).from _) ((Keep.refl _ W).alloc (fun k hk => Nat.lt_of_lt_of_le (hKlt k hk) (by obtain ⟨_, _, _, _, h, _⟩ := hI; exact h)) _) ((I1_own w W0 w1.heap.size (by omega) (by omega)).alloc _ hI) ⟨W.heap.size, by obtain ⟨_, _, _, _, h, _⟩ := hI; exact h, Go.heap_alloc_new W _, rfl⟩
      case body =>
        rintro ly pre x a' W hl ⟨r, hr⟩ ⟨m1, hm1, hm2, hm3, hsz, hbW⟩ ⟨By, hBy, hblk, rfl⟩ hlen
        have hPW := one_cell ((hm3 _ (by omega) (by omega)).trans hP0)
        have hcl := fun j => cell_of_row W By j _ 24 (0, 0) hblk
        have hy0 : W.cell? ⟨By, 0, none⟩ = some (.int .i64 x.f0) := hcl 0
        have hy1 : W.cell? ⟨By, 1, none⟩ = some (.int .i64 x.f1) := hcl 1
        have hy2 : W.cell? ⟨By, 2, none⟩ = some (.int .i64 x.f2) := hcl 2
        have hy3 : W.cell? ⟨By, 3, none⟩ = some (.int .i64 x.f3) := hcl 3
        have hy4 : W.cell? ⟨By, 4, none⟩ = some (.int .i64 x.f4) := hcl 4
        have hy5 : W.cell? ⟨By, 5, none⟩ = some (.int .i64 x.f5) := hcl 5
        have hy6 : W.cell? ⟨By, 6, none⟩ = some (.int .i64 x.f6) := hcl 6
        have hy7 : W.cell? ⟨By, 7, none⟩ = some (.int .i64 x.f7) := hcl 7
        have hy8 : W.cell? ⟨By, 8, none⟩ = some (.int .i64 x.f8) := hcl 8
        have hy9 : W.cell? ⟨By, 9, none⟩ = some (.bool x.f9) := hcl 9
        obtain ⟨W4, hput, hm4, hg4, hs4⟩ := run_put blaw hm1 x.f0 x
        have hput2 : (Instr.mapUpdate 78 (.map (some w1.heap.size)) (.int .i64 x.f0) (.agg #[.int .i64 x.f0, .int .i64 x.f1, .int .i64 x.f2, .int .i64 x.f3, .int .i64 x.f4, .int .i64 x.f5, .int .i64 x.f6, .int .i64 x.f7, .int .i64 x.f8, .bool x.f9])).run Try.prog W = .ok () W4 := hput
        have hw1 : w.heap.size ≤ w1.heap.size := HB1.out.size
        have Hfin : Pk (KeepsFrom W0.heap.size W W4 ∧ Keep (InK (w1.heap.size + 1 + 1) A l.length) W W4 ∧ I1 w W0 w1.heap.size (pre ++ [x]) W4) := pk (by
          have h2 : ∀ k, k < W.heap.size → k ≠ w1.heap.size → W4.heap[k]? = W.heap[k]? := fun k hk hne => hg4.block k hk (fun e => hne (by cases e; rfl))
          refine ⟨⟨hg4.size, fun k o hk ho _ => (h2 k (Array.getElem?_eq_some_iff.1 ho).1 (by omega)).trans ho⟩, fun k hk => h2 k (Nat.lt_of_lt_of_le (hKlt k hk) hsz) (hKne k hk), ⟨_, hm4, fun k => ?_, fun k hk hne => (h2 k (Nat.lt_of_lt_of_le hk hsz) hne).trans (hm3 k hk hne), Nat.le_trans hsz hg4.size, hbW.grown hg4 hbW.size (fun k e => by cases e; exact hw1)⟩⟩
          rw [mget_put, List.foldl_append]
          simp only [List.foldl_cons, List.foldl_nil, byS, upd]
          rw [hm2 k])
        replace hKlt := pk hKlt; replace hKne := pk hKne; replace hb2 := pk hb2; replace hBx := pk hBx; replace hbw := pk hbw; replace hM0 := pk hM0; replace hP0 := pk hP0; replace hr0 := pk hr0; replace hsz0 := pk hsz0; replace hm1 := pk hm1; replace hm2 := pk hm2; replace hm3 := pk hm3; replace hsz := pk hsz; replace hbW := pk hbW; replace hBy := pk hBy; replace hlen := pk hlen; replace hm4 := pk hm4; replace hg4 := pk hg4; replace hs4 := pk hs4; replace hm := pk hm; replace hmg := pk hmg; replace hbw1 := pk hbw1
        clear hput hcl hblk hr hl
        gi_wp2_with fail
        exact Hfin.out
      case done =>
        rintro D xs W hD hxs ⟨m1, hm1, hm2, hm3, hsz, hbW⟩ hDel
        rw [hcov] at hxs
        subst hxs
        have hby : ∀ k, mget m1 k = byF (coverF l o kd v t nn) k := hm2
        obtain ⟨bf, hbf⟩ : ∃ bf, byF (coverF l o kd v t nn) = bf := ⟨_, rfl⟩
        rw [hbf] at hby Hp2
        have hPW := (hm3 _ (by omega) (by omega)).trans hP0
        have Hm1 := pk hm1
        have Hby := pk hby
        have HbW := pk hbW
        have HPW := pk hPW
        have HDel := pk hDel
        have HP2 := pk (Kd.C_below HP.out hbW)
        have hDlt : D < W.heap.size := (Array.getElem?_eq_some_iff.1 hDel).1
        have hDw : w.heap.size ≤ D := by omega
        have hPlt : w1.heap.size + 1 < W.heap.size := (Array.getElem?_eq_some_iff.1 hPW).1
        have Hout : Pk (∀ W' b, Below W.heap.size W W' → b = leadF bf to_ path [from_] from_ → Post (provesF l from_ to_ o kd v t nn path) w (.returned (.tuple #[.bool b, .int .i64 0])) (W'.putObj D (.deferred none))) := pk (fun W' b hb e => by
          rw [Hp2.out, e]
          have h1 := below_step HbW.out hb
          exact ⟨rfl, h1.grown (grownBy_putObj' W' D (.deferred none)) h1.size (fun k e => by cases e; exact hDw)⟩)
        replace hbf := pk hbf
        clear hm1 hm2 hm3 hsz hbW hDel hD hPW hby hKlt hKne hb2 hBx hbw hM0 hP0 hr0 hsz0 hm hmg hbw1 hcov HR Hc HB1 HP HX1 h8
        have hmm := @run_makeMap Try.prog
        have Hj0 : Pk (Jm W [] (W.alloc (.map #[] 0))) := pk ⟨[], IsMap.new W, fun p => rfl, (Below.refl _ _).alloc (Nat.le_refl _) _⟩
        obtain ⟨W5, hput0, hj5, _⟩ := Hj0.out.put from_
        have Hj5 := pk hj5
        clear hj5 Hj0
        gi_wp2_with fail
        clear hmm hput0
        gi_loopw [1, 59] (fun vf i wr => ∃ (j : Nat) (p : Int) (met : List Int), j ≤ path.length ∧ i = .int .i64 j ∧ vf = .int .i64 p ∧ Hid (Jm W met wr ∧ leadF bf to_ path [from_] from_ = leadF bf to_ (path.drop j) met p)) (fun _ i _ => path.length - (intOf i).toNat)
        case atStart => exact ⟨0, from_, [from_], Nat.zero_le _, rfl, rfl, Hj5.out, rfl⟩
        case round =>
          obtain ⟨j, p, met, hj, rfl, rfl, hh⟩ := hrel
          obtain ⟨hjm, hlead⟩ := hh.out
          have hbr : Below W.heap.size W wr := hjm.choose_spec.2.2
          have Hjm := pk hjm
          have Hlead := pk hlead
          have Hbr := pk hbr
          have hDr : wr.heap[D]? = some (.deferred (some [])) := (hbr.block _ hDlt).trans HDel.out
          have HDr := pk hDr
          clear hh hjm hlead hDr
          by_cases hlt : j < path.length
          · obtain ⟨ad, hA, hcell⟩ := Kd.at_int (Kd.C_below HP2.out hbr) (j : Int) (by omega) (by omega)
            have hrd : rd path (j : Int) = path[j] := by simp [rd, List.getD_eq_getElem?_getD, List.getElem?_eq_getElem hlt]
            rw [hrd, Int.toNat_natCast] at hcell
            have hdr : path.drop j = path[j] :: path.drop (j + 1) := List.drop_eq_getElem_cons hlt
            generalize path[j] = no at hcell hdr
            have Hl2 : Pk (leadF bf to_ path [from_] from_ = leadF bf to_ (no :: path.drop (j + 1)) met p) := pk (by rw [Hlead.out, hdr])
            have hbox := one_cell ((hbr.block _ hPlt).trans HPW.out)
            have hlook := (run_look_ok blaw (Hm1.out.at_ (hbr.block _ (by omega))) no)
            rw [Hby.out no] at hlook
            cases hA
            clear hdr hrd hbr
            cases hb : bf no with
            | none =>
              have hlook2 : (Instr.lookup 78 (.map (some w1.heap.size)) (.int .i64 no) true).run Try.prog wr = .ok (.tuple #[.agg #[(.int .i64 0), (.int .i64 0), (.int .i64 0), (.int .i64 0), (.int .i64 0), (.int .i64 0), (.int .i64 0), (.int .i64 0), (.int .i64 0), (.bool false)], .bool false]) wr := by rw [hb] at hlook; exact hlook
              have Hf : Pk (false = leadF bf to_ path [from_] from_) := pk (by rw [Hl2.out]; unfold leadF; rw [hb])
              replace hb := pk hb
              clear hlook
              gi_wp2_with fail
              refine ⟨by simp, .inl ⟨_, _, rfl, run_takeDeferred (show (wr.alloc _).heap[D]? = _ from (Below.heap_alloc wr _ _ (by have := Hbr.out.size; omega)).trans HDr.out), ?_⟩⟩
              exact ⟨.tuple #[.bool false, .int .i64 0], by simp [results, Try.results36, go_sem], Hout.out _ _ (below_alloc Hbr.out _) Hf.out⟩
            | some x =>
              have hlook2 : (Instr.lookup 78 (.map (some w1.heap.size)) (.int .i64 no) true).run Try.prog wr = .ok (.tuple #[.agg #[.int .i64 x.f0, .int .i64 x.f1, .int .i64 x.f2, .int .i64 x.f3, .int .i64 x.f4, .int .i64 x.f5, .int .i64 x.f6, .int .i64 x.f7, .int .i64 x.f8, .bool x.f9], .bool true]) wr := by rw [hb] at hlook; exact hlook
              have Hl3 : Pk (leadF bf to_ path [from_] from_ = if x.f4 = p ∧ met.contains x.f5 = false then leadF bf to_ (path.drop (j + 1)) (x.f5 :: met) x.f5 else false) := pk (by rw [Hl2.out, show leadF bf to_ (no :: path.drop (j + 1)) met p = (match bf no with | none => false | some x => if x.f4 = p ∧ met.contains x.f5 = false then leadF bf to_ (path.drop (j + 1)) (x.f5 :: met) x.f5 else false) from rfl, hb])
              have HDa : Pk (∀ o, (wr.alloc o).heap[D]? = some (.deferred (some []))) := pk (fun o => (Below.heap_alloc wr _ _ (by have := Hbr.out.size; omega)).trans HDr.out)
              replace hb := pk hb
              clear hlook
              by_cases h4 : x.f4 = p
              · have g4 : (x.f4 != p) = false := by simp [h4]
                have hlm := fun o' => (Hjm.out.below (below_alloc (Below.refl _ _) o')).look x.f5
                cases hct : met.contains x.f5 with
                | true =>
                  rw [hct] at hlm
                  have Hf : Pk (false = leadF bf to_ path [from_] from_) := pk (by rw [Hl3.out, if_neg (fun h => by have h2 := h.2; rw [hct] at h2; cases h2)])
                  replace h4 := pk h4
                  replace hct := pk hct
                  gi_wp2_with fail
                  refine ⟨by simp, .inl ⟨_, _, rfl, run_takeDeferred (HDa.out _), ?_⟩⟩
                  exact ⟨.tuple #[.bool false, .int .i64 0], by simp [results, Try.results36, go_sem], Hout.out _ _ (below_alloc Hbr.out _) Hf.out⟩
                | false =>
                  rw [hct] at hlm
                  have Hf : Pk (leadF bf to_ path [from_] from_ = leadF bf to_ (path.drop (j + 1)) (x.f5 :: met) x.f5) := pk (by rw [Hl3.out, if_pos ⟨h4, hct⟩])
                  obtain ⟨W9, hput9, hj9, hk9⟩ := (Hjm.out.below (W' := (wr.alloc (.cells #[.int .i64 x.f0, .int .i64 x.f1, .int .i64 x.f2, .int .i64 x.f3, .int .i64 x.f4, .int .i64 x.f5, .int .i64 x.f6, .int .i64 x.f7, .int .i64 x.f8, .bool x.f9] 24)).drew) (below_drew1 (below_alloc (Below.refl _ _) _))).put x.f5
                  have Hj9 := pk hj9
                  have hS9 : Pk (W9.cell? ⟨wr.heap.size, 5, none⟩ = some (.int .i64 x.f5)) := pk (cell_of_row W9 wr.heap.size 5 _ _ (0, 0) ((hk9 _ (show wr.heap.size < (wr.alloc _).heap.size by simp) (by have := Hbr.out.size; have h3 := Hjm.out.choose_spec.1.lt; omega)).trans (Go.heap_alloc_new wr (.cells #[.int .i64 x.f0, .int .i64 x.f1, .int .i64 x.f2, .int .i64 x.f3, .int .i64 x.f4, .int .i64 x.f5, .int .i64 x.f6, .int .i64 x.f7, .int .i64 x.f8, .bool x.f9] 24))))
                  replace h4 := pk h4
                  replace hct := pk hct
                  clear hj9 hk9
                  gi_wp2_with fail
                  refine wpIn_wide.2 ?_
                  go_region_held3 (fun w' => w'.cell? ⟨wr.heap.size, 5, none⟩ = some (.int .i64 x.f5)) (first | go_keep | exact hS9.out) (fail)
                  gi_wp2_with fail
                  go_roundw
                  case rel => exact ⟨j + 1, x.f5, x.f5 :: met, by omega, by go_num, rfl, Hj9.out, Hf.out⟩
                  case measure => simp [intOf]; omega
              · have g4 : (x.f4 != p) = true := by simpa using h4
                have Hf : Pk (false = leadF bf to_ path [from_] from_) := pk (by rw [Hl3.out, if_neg (by simp [h4])])
                replace h4 := pk h4
                gi_wp2_with fail
                refine ⟨by simp, .inl ⟨_, _, rfl, run_takeDeferred (HDa.out _), ?_⟩⟩
                exact ⟨.tuple #[.bool false, .int .i64 0], by simp [results, Try.results36, go_sem], Hout.out _ _ (below_alloc Hbr.out _) Hf.out⟩
          · obtain rfl : j = path.length := by omega
            have hl2 : leadF bf to_ path [from_] from_ = decide (p = to_) := by rw [Hlead.out, List.drop_length]; rfl
            by_cases hpt : p = to_
            · have g4 : (p == to_) = true := by simp [hpt]
              have Hf : Pk (true = leadF bf to_ path [from_] from_) := pk (by rw [hl2]; simp [hpt])
              replace hpt := pk hpt
              clear hl2
              gi_wp2_with fail
              refine ⟨by simp, .inl ⟨_, _, rfl, run_takeDeferred HDr.out, ?_⟩⟩
              exact ⟨.tuple #[.bool true, .int .i64 0], by simp [results, Try.results36, go_sem], Hout.out _ _ Hbr.out Hf.out⟩
            · have g4 : (p == to_) = false := by simpa using hpt
              have Hf : Pk (false = leadF bf to_ path [from_] from_) := pk (by rw [hl2]; simp [hpt])
              replace hpt := pk hpt
              clear hl2
              gi_wp2_with fail
              refine ⟨by simp, .inl ⟨_, _, rfl, run_takeDeferred HDr.out, ?_⟩⟩
              exact ⟨.tuple #[.bool false, .int .i64 0], by simp [results, Try.results36, go_sem], Hout.out _ _ Hbr.out Hf.out⟩
      case stop => rintro D c pre W _ _ h _; exact h.elim
  · have g0 : (ak != 0) = true := by simp [h0]
    have Hp2 : Pk (provesF l from_ to_ o kd v t nn path = (false, ak)) := pk (by rw [Hpro.out, if_pos h0])
    clear Hpro Hck
    replace h0 := pk h0
    gi_wp2_with fail
    exact ⟨.tuple #[.bool false, .int .i64 ak], by simp [results, Try.results36, go_sem], by rw [Hp2.out]; exact ⟨rfl, HB1.out⟩⟩
end Pv
theorem proves_hook (A0 : Option Addr) (c0 : Nat) (l0 : List S24) (a1 a2 a3 a4 a5 a6 a7 : Int) (A8 : Option Addr) (c8 : Nat) (l8 : List Int) (w : World) (hr0 : Kd.C k24 w A0 l0.length l0) (hc0 : l0.length ≤ c0) (hr8 : Kd.C (Kd.int .i64) w A8 l8.length l8) (hc8 : l8.length ≤ c8) :
    Calls Try.prog 36 #[.slice A0 l0.length c0, .int .i64 a1, .int .i64 a2, .int .i64 a3, .int .i64 a4, .int .i64 a5, .int .i64 a6, .int .i64 a7, .slice A8 l8.length c8] w (fun e w' => e = .returned (.tuple #[.bool (S.provesF l0 a1 a2 a3 a4 a5 a6 a7 l8).1, .int .i64 (S.provesF l0 a1 a2 a3 a4 a5 a6 a7 l8).2]) ∧ Below w.heap.size w w') :=
  callsIn_wide.1 (Pv.proves_in 5 (Nat.le_refl _) A0 c0 l0 a1 a2 a3 a4 a5 a6 a7 A8 c8 l8 w hr0 hc0 hr8 hc8)
end Go.Proofs.Ytoenefdjejkncaa.W

-- FOLDED: the printed part of the function that is given by hand
-- Written by drive.py (a session's program over the kit's print). Not trusted: Lean checks it.
namespace Go.Proofs.Ytoenefdjejkncaa.P
open Go.RowKit Go.Proofs.YtoenefdjejkncaaW.PrintWords Go.Proofs.YtoenefdjejkncaaW.PrintLast Go.Proofs.YtoenefdjejkncaaW.PrintMore
attribute [local go_sem] max2_int min2_int max_two min_two max_three min_three max_four min_four   -- for this text's walks alone
set_option linter.unusedVariables false
set_option linter.unusedSimpArgs false

/-! ### deputies_Proves: function 36 -/
-- HOOK Derived.Test.YtoenefdjejkncaaWp
def deputies_Proves.f (l0 : List (S24)) (a1 : Int) (a2 : Int) (a3 : Int) (a4 : Int) (a5 : Int) (a6 : Int) (a7 : Int) (l8 : List Int) : Option (Bool × Int) := some (S.provesF l0 a1 a2 a3 a4 a5 a6 a7 l8)
theorem deputies_Proves.calls (A0 : Option Addr) (c0 : Nat) (l0 : List (S24)) (a1 : Int) (a2 : Int) (a3 : Int) (a4 : Int) (a5 : Int) (a6 : Int) (a7 : Int) (A8 : Option Addr) (c8 : Nat) (l8 : List Int) (r1 : Bool) (r2 : Int) (w : World) (hr0 : Kd.C k24 w A0 l0.length l0) (hc0 : l0.length ≤ c0) (hr8 : Kd.C (Kd.int .i64) w A8 l8.length l8) (hc8 : l8.length ≤ c8) (h : deputies_Proves.f l0 a1 a2 a3 a4 a5 a6 a7 l8 = some (r1, r2)) :
    Calls Try.prog 36 #[.slice A0 l0.length c0, .int .i64 a1, .int .i64 a2, .int .i64 a3, .int .i64 a4, .int .i64 a5, .int .i64 a6, .int .i64 a7, .slice A8 l8.length c8] w (fun e w' => e = .returned (.tuple #[.bool r1, .int .i64 r2]) ∧ Below w.heap.size w w') := by
  unfold deputies_Proves.f at h
  simp only [Option.some.injEq] at h
  have h0_ := congrArg (fun p_ => p_.1) h
  have h1_ := congrArg (fun p_ => p_.2) h
  dsimp only at h0_ h1_
  subst h0_ h1_
  exact W.proves_hook A0 c0 l0 a1 a2 a3 a4 a5 a6 a7 A8 c8 l8 w hr0 hc0 hr8 hc8
end Go.Proofs.Ytoenefdjejkncaa.P
