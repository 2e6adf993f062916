/-
The law ApprovalsLast, by a walk of the law by hand over the contracts of what it calls: it returns true. Condition: the row is read.
-/
import Derived.Test.YtcpheagandpacaaP22
import Derived.Test.YtcpheagandpacaaP8
import Derived.Test.YtcpheagandpacaaP18
import Derived.Test.YtcpheagandpacaaWe
import Derived.Test.YtcpheagandpacaaOp
import Derived.Test.YtcpheagandpacaaV2
import Derived.Test.YtcpheagandpacaaV4
import Derived.Test.YtcpheagandpacaaVr
namespace Go.Proofs.Ytcpheagandpacaa.T
open Go.RowKit Go.Proofs.YtcpheagandpacaaW.PrintWords Go.Proofs.YtcpheagandpacaaW.PrintLast Go.Proofs.YtcpheagandpacaaW.PrintMore Go.Proofs.Ytcpheagandpacaa.P Go.Proofs.Ytcpheagandpacaa.W Go.Proofs.Ytcpheagandpacaa.S Go.Proofs.Ytcpheagandpacaa.U Go.Proofs.Ytcpheagandpacaa.V
set_option linter.unusedVariables false
namespace Last
theorem ret_bool {a b : Bool} (h : a = b) : Ending.returned (.bool a) = .returned (.bool b) := by rw [h]
theorem eq_run (x y : S24) (b : Bool) (h : decide (x = y) = b) : ∀ d w, (Op.equalIn (d + 2) 24 (.agg #[.int .i64 x.f0, .int .i64 x.f1, .int .i64 x.f2, .int .i64 x.f3, .int .i64 x.f4, .int .i64 x.f5, .int .i64 x.f6, .bool x.f7]) (.agg #[.int .i64 y.f0, .int .i64 y.f1, .int .i64 y.f2, .int .i64 y.f3, .int .i64 y.f4, .int .i64 y.f5, .int .i64 y.f6, .bool y.f7])).run Try.prog w = .ok b w := by
  intro d w
  rw [eqs24, eqdec24, h]
theorem row_of_R {W : World} {base : Nat} {ok : Nat → Prop} {v : Value} {l : List S24} (h : Kd.R k24 24 W base ok v l) : ∃ A c, v = .slice A l.length c ∧ l.length ≤ c ∧ Kd.C k24 W A l.length l := by
  obtain ⟨A, c, e⟩ := Kd.R_slice h
  subst e
  exact ⟨A, c, rfl, (Kd.R_reads' h).2.1, (Kd.R_reads' h).2.2⟩
theorem counts_any (x : S24) (at_ known : Int) (b : Bool) (h : knownB at_ known x = b) (w : World) : Calls Try.prog 20 #[.agg #[.int .i64 x.f0, .int .i64 x.f1, .int .i64 x.f2, .int .i64 x.f3, .int .i64 x.f4, .int .i64 x.f5, .int .i64 x.f6, .bool x.f7], .int .i64 at_, .int .i64 known] w fun e w' => e = .returned (.bool b) ∧ Below w.heap.size w w' :=
  signatoryref28_Counts.calls x.f0 x.f1 x.f2 x.f3 x.f4 x.f5 x.f6 x.f7 at_ known b w (by
    rw [← h]
    unfold signatoryref28_Counts.f knownB
    by_cases h : x.f1 ≤ at_ <;> simp [h])
theorem about_any (x y : S24) (b : Bool) (h : sameSubj y x = b) (w : World) : Calls Try.prog 21 #[.agg #[.int .i64 x.f0, .int .i64 x.f1, .int .i64 x.f2, .int .i64 x.f3, .int .i64 x.f4, .int .i64 x.f5, .int .i64 x.f6, .bool x.f7], .agg #[.int .i64 y.f0, .int .i64 y.f1, .int .i64 y.f2, .int .i64 y.f3, .int .i64 y.f4, .int .i64 y.f5, .int .i64 y.f6, .bool y.f7]] w fun e w' => e = .returned (.bool b) ∧ Below w.heap.size w w' :=
  signatoryref28_About.calls x.f0 x.f1 x.f2 x.f3 x.f4 x.f5 x.f6 x.f7 y.f0 y.f1 y.f2 y.f3 y.f4 y.f5 y.f6 y.f7 b w (by
    have hs : sameSubj y x = sameSubj x y := by
      rw [Bool.eq_iff_iff]
      unfold sameSubj
      simp only [Bool.and_eq_true, decide_eq_true_eq]
      constructor <;> rintro ⟨⟨⟨h1, h2⟩, h3⟩, h4⟩ <;> exact ⟨⟨⟨h1.symm, h2.symm⟩, h3.symm⟩, h4.symm⟩
    rw [← h, hs]
    unfold signatoryref28_About.f sameSubj
    by_cases h3 : x.f3 = y.f3 <;> by_cases h4 : x.f4 = y.f4 <;> by_cases h5 : x.f5 = y.f5 <;> by_cases h6 : x.f6 = y.f6 <;> simp [h3, h4, h5, h6])
theorem after_any (x y : S24) (b : Bool) (h : afterB x y = b) (w : World) : Calls Try.prog 22 #[.agg #[.int .i64 x.f0, .int .i64 x.f1, .int .i64 x.f2, .int .i64 x.f3, .int .i64 x.f4, .int .i64 x.f5, .int .i64 x.f6, .bool x.f7], .agg #[.int .i64 y.f0, .int .i64 y.f1, .int .i64 y.f2, .int .i64 y.f3, .int .i64 y.f4, .int .i64 y.f5, .int .i64 y.f6, .bool y.f7]] w fun e w' => e = .returned (.bool b) ∧ Below w.heap.size w w' :=
  signatoryref28_After.calls x.f0 x.f1 x.f2 x.f3 x.f4 x.f5 x.f6 x.f7 y.f0 y.f1 y.f2 y.f3 y.f4 y.f5 y.f6 y.f7 b w (by
    rw [← h]
    unfold signatoryref28_After.f afterB
    by_cases h : x.f1 > y.f1
    · simp [h]
    · by_cases h2 : x.f1 = y.f1
      · simp [h2]
      · simp [h, h2])
def later (at_ known : Int) (y z : S24) : Bool := knownB at_ known z && sameSubj z y && afterB z y
def stB (l : List S24) (doc at_ known : Int) (y : S24) : Bool := decide (y.f3 = doc) && (!y.f7 && knownB at_ known y && !(l.any (later at_ known y)))
theorem standing_st {l : List S24} (hp : l.Pairwise (fun a b => a.f0 < b.f0)) (doc at_ known : Int) : standingF l doc at_ known = l.filter (stB l doc at_ known) := standing_eq hp doc at_ known
/-- what is left reads as a list, in a world -/
def Left (w6 : World) (l : List S24) (doc at_ known : Int) (k : Nat) (v : Value) (W : World) : Prop :=
  (∃ A c, v = .slice A ((l.drop k).filter (stB l doc at_ known)).length c ∧ ((l.drop k).filter (stB l doc at_ known)).length ≤ c ∧ Kd.C k24 W A ((l.drop k).filter (stB l doc at_ known)).length ((l.drop k).filter (stB l doc at_ known))) ∧ Below w6.heap.size w6 W
/-- what stands between two rounds of the inner loop -/
def In (w1 : World) (l : List S24) (at_ known : Int) (y : S24) (j : Nat) (b : Bool) (W : World) : Prop := b = !((l.take j).any (later at_ known y)) ∧ Below w1.heap.size w1 W
theorem C_tail {W : World} {ad : Addr} {n : Nat} {x : S24} {m : List S24} (h : Kd.C k24 W (some ad) n (x :: m)) : Kd.C k24 W (some (ad.add 8)) m.length m := by
  obtain ⟨h1, h2, h3⟩ := h
  refine ⟨rfl, by simp at h1; omega, fun hn => ⟨_, rfl, fun j p hj => ?_⟩⟩
  obtain ⟨ad', e, hc⟩ := h3 (by rw [← h1]; simp)
  cases e
  obtain ⟨c, hl, hK, hcell⟩ := hc (j + 1) p (by simpa using hj)
  refine ⟨c, hl, hK, fun i u hu => ?_⟩
  have := hcell i u hu
  rw [Deep.add_add]
  rwa [show 8 + (j * k24.sz + i) = (j + 1) * k24.sz + i by show 8 + (j * 8 + i) = (j + 1) * 8 + i; omega]
theorem C_some {W : World} {A : Option Addr} {n : Nat} {x : S24} {m : List S24} (h : Kd.C k24 W A n (x :: m)) : ∃ ad, A = some ad := by
  obtain ⟨h1, _, h3⟩ := h
  obtain ⟨ad, e, _⟩ := h3 (by rw [← h1]; simp)
  exact ⟨ad, e⟩
theorem C_none_any {W : World} {A : Option Addr} : Kd.C k24 W A 0 [] := ⟨rfl, by simp, fun h => absurd h (by omega)⟩
theorem left_run (w : World) (A : Option Addr) (s : List S24) (c : Nat) (hs : s.length ≤ 4096) (h : Kd.C k24 w A s.length s) :
    ∃ v' w', (Builtin.append_ #[22, 22] 22 #[.slice (some ⟨w.heap.size, 0, none⟩) 0 0, .slice A s.length c]).run Try.prog (w.alloc (.cells #[] 24)) = .ok v' w' ∧ (∃ A4 c4, v' = .slice A4 s.length c4 ∧ s.length ≤ c4 ∧ Kd.C k24 w' A4 s.length s) ∧ Below w.heap.size w w' := by
  obtain ⟨i0, hi, hz0, hz1, hz2⟩ := info_parts info24
  have hb0 : Below w.heap.size w (w.alloc (.cells #[] 24)) := (Below.refl _ _).alloc (Nat.le_refl _) _
  cases A with
  | none =>
    have hl : s = [] := by
      rcases Nat.eq_zero_or_pos s.length with h0 | h0
      · exact List.eq_nil_of_length_eq_zero h0
      · obtain ⟨ad, e, _⟩ := cells_of_C24 h h0
        cases e
    subst hl
    refine ⟨.slice (some ⟨w.heap.size, 0, none⟩) 0 0, _, ?_, ⟨_, _, rfl, Nat.le_refl _, C_none_any⟩, hb0⟩
    simp [Builtin.append_, run_underlying Try.underlying22, sizeOf, typeInfo, hi, Builtin.lenOf, Builtin.firstCells, storeCells]
  | some ad =>
    have hcell : ∀ j u, (cl24 s)[j]? = some u → (w.alloc (.cells #[] 24)).cell? (ad.add j) = some u := by
      intro j u hu
      have hlt : 0 < s.length := by
        have := (List.getElem?_eq_some_iff.1 hu).1
        rw [cl24_len] at this
        omega
      obtain ⟨ad', e, h2⟩ := cells_of_C24 h hlt
      cases e
      have := h2 j u hu
      exact (World.cell?_alloc_lt _ _ _ (World.block_lt_of_cell? _ _ this)).trans this
    have hown : (w.alloc (.cells #[] 24)).ownsRow w.heap.size 24 8 (.slice (some ⟨w.heap.size, 0, none⟩) 0 0) 0 [] := by
      have := World.ownsRow_lit (base := w.heap.size) (e := 24) (size := 8) w #[] 0 (Nat.le_refl _) (by decide) rfl
      simpa using this
    obtain ⟨v', w1, hrun, hown1, hg, _⟩ := run_append_own (P := Try.prog) (w.alloc (.cells #[] 24)) w.heap.size 22 22 24 i0 _ 8 64 Try.underlying22 hi hz0 hz1 hz2 rfl (by decide) _ 0 [] hown ad s.length c (cl24 s) (cl24_len s) hcell (cl24_one s) (by simp only [maxLen]; omega) (by omega) (by simp)
    have hb1 : Below w.heap.size w w1 := hb0.grown hg (by simp) (by intro k hk; simp [Value.ownBlock] at hk; omega)
    rw [Nat.zero_add, List.nil_append] at hown1
    refine ⟨v', w1, hrun, ?_, hb1⟩
    rcases hown1.2 with ⟨rfl, h0⟩ | ⟨g, cap, cur, rfl, _, _, h4, _⟩
    · obtain rfl : s = [] := List.eq_nil_of_length_eq_zero h0
      exact ⟨none, 0, rfl, Nat.le_refl _, C_none_any⟩
    · exact ⟨_, cap, rfl, h4, Dl.C_of_own hown1 hs⟩
set_option maxHeartbeats 8000000 in
set_option maxRecDepth 100000 in
theorem last_any (A : Option Addr) (c : Nat) (l : List S24) (doc at_ known : Int) (w : World) (hr : Kd.C k24 w A l.length l) (hc : l.length ≤ c) :
    Calls Try.prog 5 #[.slice A l.length c, .int .i64 doc, .int .i64 at_, .int .i64 known] w fun e w' => e = .returned (.bool true) ∧ Below w.heap.size w w' := by
  have hright := right_l l doc [at_, known] (by simp) (l.length + 20) (by simp; omega)
  generalize hb : rightsB l doc [at_, known] = b at hright
  have HR := pk hr
  have Hc := pk hc
  have Hright := pk hright
  clear hr hc hright
  cases b with
  | false =>
    replace hb := pk hb
    go_enter Try.func5, Try.ntmps5
    go_wp2_with fail
    refine (sane_hook _).mono ?_
    rintro e w1 ⟨rfl, hb1⟩
    have HB1 := pk hb1
    clear hb1
    go_wp2_with fail
    refine (signatorylaw28_right.calls _ A c l doc (some ⟨w1.heap.size, 0, none⟩) 2 [at_, known] false _ (Kd.C_below HR.out (below_alloc HB1.out _)) Hc.out (Sn.ints_row w1 _ (by simp)) (by simp) Hright.out).mono ?_
    rintro e w2 ⟨rfl, hb2⟩
    have HB2 := pk (below_step (below_alloc HB1.out _) hb2)
    clear hb2
    go_wp2_with fail
    go_ret
    exact ⟨rfl, HB2.out⟩
  | true =>
    have hbb := hb
    unfold rightsB at hbb
    simp only [Bool.and_eq_true, List.all_cons, List.all_nil, decide_eq_true_eq, Bool.and_true] at hbb
    obtain ⟨⟨t5, t6⟩, hlen, hck, t0⟩ := hbb
    obtain ⟨hn, hp, hrt⟩ := check_ok hck
    have S1 : Pk (approvals_Standing.f (l.length + 20) l doc at_ known = some (standingF l doc at_ known, 0)) := pk (by
      rw [standing_p l doc at_ known _ (by omega)]
      unfold standF
      rw [if_neg (by simp [hck]), if_neg (by rw [within_two, t0, t5, t6]; simp)])
    rw [standing_st hp] at S1
    obtain ⟨s, hs⟩ : ∃ s, l.filter (stB l doc at_ known) = s := ⟨_, rfl⟩
    rw [hs] at S1
    have hsn : s.length ≤ 30 := by rw [← hs]; exact Nat.le_trans (List.length_filter_le _ _) hlen
    replace hs := pk hs
    clear hb t5 t6 hck t0 hp hrt
    go_enter Try.func5, Try.ntmps5
    go_wp2_with fail
    refine (sane_hook _).mono ?_
    rintro e w1 ⟨rfl, hb1⟩
    have HB1 := pk hb1
    clear hb1
    go_wp2_with fail
    refine (signatorylaw28_right.calls _ A c l doc (some ⟨w1.heap.size, 0, none⟩) 2 [at_, known] true _ (Kd.C_below HR.out (below_alloc HB1.out _)) Hc.out (Sn.ints_row w1 _ (by simp)) (by simp) Hright.out).mono ?_
    rintro e w2 ⟨rfl, hb2⟩
    have HB2 := pk (below_step (below_alloc HB1.out _) hb2)
    clear hb2
    go_wp2_with fail
    refine (approvals_Standing.calls _ A c l doc at_ known s 0 _ (Kd.C_below HR.out HB2.out) Hc.out S1.out).mono ?_
    rintro e w3 ⟨v3, rfl, hR, hb3⟩
    obtain ⟨A3, c3, rfl, hc3, hC⟩ := row_of_R hR
    have HC3 := pk hC
    have HB3 := pk (below_step HB2.out hb3)
    clear hR hC hb3 Hright S1
    have hap := left_run w3 A3 s c3 (by omega) HC3.out
    obtain ⟨v4, w4, hrun, ⟨A4, c4, rfl, hc4, hC4⟩, hb4⟩ := hap
    have Hr := pk hrun
    have H0 : Pk (Left w4 l doc at_ known 0 (.slice A4 s.length c4) w4) := pk ⟨⟨A4, c4, by rw [List.drop_zero, hs.out], by rw [List.drop_zero, hs.out]; exact hc4, by rw [List.drop_zero, hs.out]; exact hC4⟩, Below.refl _ _⟩
    have HB4 := pk (below_step HB3.out hb4)
    clear hrun hC4 hb4 HC3
    go_wp2_with (at_builtin; refine Lib.wpList_append_run _ rfl _ _ _ _ rfl _ _ rfl rfl _ _ Hr.out ?_)
    go_loopw [11, 41] (fun v i wr => ∃ k : Nat, k ≤ l.length ∧ i = .int .i64 k ∧ Hid (Left w4 l doc at_ known k v wr)) (fun _ i _ => l.length - (intOf i).toNat)
    case atStart => exact ⟨0, Nat.zero_le _, rfl, H0.out⟩
    case round =>
      obtain ⟨k, hk, rfl, hh⟩ := hrel
      obtain ⟨⟨Al, cl, rfl, hcl, hCl⟩, hb4⟩ := hh.out
      obtain ⟨wo, hwo⟩ : ∃ wo : World, wo = wr := ⟨_, rfl⟩
      subst hwo
      clear hh H0
      have Hcl := pk hcl
      have HCl := pk hCl
      have Hb4 := pk hb4
      clear hcl hCl hb4
      by_cases hlt : k < l.length
      · have hdr : l.drop k = l[k] :: l.drop (k + 1) := List.drop_eq_getElem_cons hlt
        obtain ⟨ad, hA, hcells⟩ := at_24 (Kd.C_below HR.out (below_step HB4.out Hb4.out)) k hlt
        generalize hy : l.getD k z24 = y at hcells
        have hget : l[k] = y := by rw [← hy, List.getD_eq_getElem?_getD, List.getElem?_eq_getElem hlt]; rfl
        rw [hget] at hdr
        have Hdr := pk hdr
        have Hskip : Pk (stB l doc at_ known y = false → (l.drop k).filter (stB l doc at_ known) = (l.drop (k + 1)).filter (stB l doc at_ known)) := pk (fun h => by rw [Hdr.out, List.filter_cons, if_neg (by simp [h])])
        have Hkeep : Pk (stB l doc at_ known y = true → (l.drop k).filter (stB l doc at_ known) = y :: (l.drop (k + 1)).filter (stB l doc at_ known)) := pk (fun h => by rw [Hdr.out, List.filter_cons, if_pos h])
        have Hnext : Pk (∀ W, stB l doc at_ known y = false → Below wo.heap.size wo W → Left w4 l doc at_ known (k + 1) (.slice Al ((l.drop k).filter (stB l doc at_ known)).length cl) W) := pk (fun W h hW => by
          refine ⟨⟨Al, cl, by rw [Hskip.out h], by rw [← Hskip.out h]; exact Hcl.out, ?_⟩, below_step Hb4.out hW⟩
          have := Kd.C_below HCl.out hW
          rwa [Hskip.out h] at this)
        clear hy hget hdr
        cases hA
        by_cases hd : y.f3 = doc
        · have gd : (y.f3 != doc) = false := by simp [hd]
          replace hd := pk hd
          cases hkn : knownB at_ known y with
          | false =>
            replace hkn := pk hkn
            have Hst := pk (show stB l doc at_ known y = false by unfold stB; rw [hkn.out]; simp)
            have HC := pk (counts_any y at_ known false hkn.out)
            go_wp2_with fail
            refine (HC.out _).mono ?_
            rintro e w5 ⟨rfl, hb5⟩
            have HB5 := pk (((Below.refl _ wo).alloc (Nat.le_refl _) _).trans (hb5.mono (by simp)))
            clear hb5
            go_wp2_with fail
            go_roundw
            case rel => exact ⟨k + 1, by omega, by go_num, Hnext.out _ Hst.out HB5.out⟩
            case measure => simp [intOf]; omega
          | true =>
            replace hkn := pk hkn
            have HC := pk (counts_any y at_ known true hkn.out)
            go_wp2_with fail
            refine (HC.out _).mono ?_
            rintro e w5 ⟨rfl, hb5⟩
            have HB5 := pk (((Below.refl _ wo).alloc (Nat.le_refl _) _).trans (hb5.mono (by simp)))
            have HY5 := pk ((hb5.block wo.heap.size (by simp)).trans (Go.heap_alloc_new wo _))
            have HR5 := pk (Kd.C_below HR.out (below_step (below_step HB4.out Hb4.out) HB5.out))
            clear hb5 HC
            go_wp2_with fail
            go_loopw [14, 58] (fun v i wr => ∃ (j : Nat) (b : Bool), j ≤ l.length ∧ i = .int .i64 j ∧ v = .bool b ∧ Hid (In w5 l at_ known y j b wr)) (fun _ i _ => l.length - (intOf i).toNat)
            case atStart => exact ⟨0, true, Nat.zero_le _, rfl, rfl, by simp, Below.refl _ _⟩
            case round =>
              obtain ⟨j, b, hj, rfl, rfl, hh⟩ := hrel
              have Hi := pk hh.out
              clear hh
              by_cases hjt : j < l.length
              · obtain ⟨ad2, hA2, hcells2⟩ := at_24 (Kd.C_below HR5.out Hi.out.2) j hjt
                generalize hz : l.getD j z24 = z at hcells2
                have hget : l[j] = z := by rw [← hz, List.getD_eq_getElem?_getD, List.getElem?_eq_getElem hjt]; rfl
                have hts : Pk ((l.take (j + 1)).any (later at_ known y) = ((l.take j).any (later at_ known y) || later at_ known y z)) := pk (by rw [List.take_succ_eq_append_getElem hjt, List.any_append, hget]; simp)
                clear hz hget
                cases hA2
                have hYi := (Hi.out.2.block _ (Array.getElem?_eq_some_iff.1 HY5.out).1).trans HY5.out
                have hlY : wo.heap.size < wr.heap.size := (Array.getElem?_eq_some_iff.1 hYi).1
                have HYi := pk hYi
                have hIn : Pk (∀ b' W, b' = (b && !(later at_ known y z)) → Below wr.heap.size wr W → In w5 l at_ known y (j + 1) b' W) := pk (fun b' W h hW => ⟨by rw [h, hts.out, Hi.out.1]; cases (l.take j).any (later at_ known y) <;> rfl, below_step Hi.out.2 hW⟩)
                clear hYi
                have hcl := fun o q => cell_of_row (wr.alloc o) wo.heap.size q _ 24 (0, 0) ((Below.heap_alloc wr o _ hlY).trans HYi.out)
                have hv0 : ∀ o, (wr.alloc o).cell? ⟨wo.heap.size, 0, none⟩ = some (.int .i64 y.f0) := fun o => hcl o 0
                have hv1 : ∀ o, (wr.alloc o).cell? ⟨wo.heap.size, 1, none⟩ = some (.int .i64 y.f1) := fun o => hcl o 1
                have hv2 : ∀ o, (wr.alloc o).cell? ⟨wo.heap.size, 2, none⟩ = some (.int .i64 y.f2) := fun o => hcl o 2
                have hv3 : ∀ o, (wr.alloc o).cell? ⟨wo.heap.size, 3, none⟩ = some (.int .i64 y.f3) := fun o => hcl o 3
                have hv4 : ∀ o, (wr.alloc o).cell? ⟨wo.heap.size, 4, none⟩ = some (.int .i64 y.f4) := fun o => hcl o 4
                have hv5 : ∀ o, (wr.alloc o).cell? ⟨wo.heap.size, 5, none⟩ = some (.int .i64 y.f5) := fun o => hcl o 5
                have hv6 : ∀ o, (wr.alloc o).cell? ⟨wo.heap.size, 6, none⟩ = some (.int .i64 y.f6) := fun o => hcl o 6
                have hv7 : ∀ o, (wr.alloc o).cell? ⟨wo.heap.size, 7, none⟩ = some (.bool y.f7) := fun o => hcl o 7
                clear hcl
                cases b with
                | false =>
                  go_wp2_with fail
                  go_roundw
                  case rel => exact ⟨j + 1, false, by omega, by go_num, rfl, hIn.out _ _ rfl ((Below.refl _ _).alloc (Nat.le_refl _) _)⟩
                  case measure => simp [intOf]; omega
                | true =>
                  cases hkz : knownB at_ known z with
                  | false =>
                    replace hkz := pk hkz
                    have HC := pk (counts_any z at_ known false hkz.out)
                    go_wp2_with fail
                    refine (HC.out _).mono ?_
                    rintro e w6 ⟨rfl, hb6⟩
                    have HB6 := pk (((Below.refl _ wr).alloc (Nat.le_refl _) _).trans (hb6.mono (by simp)))
                    clear hb6
                    go_wp2_with fail
                    go_roundw
                    case rel => exact ⟨j + 1, true, by omega, by go_num, rfl, hIn.out _ _ (by unfold later; rw [hkz.out]; rfl) HB6.out⟩
                    case measure => simp [intOf]; omega
                  | true =>
                    replace hkz := pk hkz
                    have HC := pk (counts_any z at_ known true hkz.out)
                    cases hab : sameSubj z y with
                    | false =>
                      replace hab := pk hab
                      have HA := pk (about_any y z false hab.out)
                      go_wp2_with fail
                      refine (HC.out _).mono ?_
                      rintro e w6 ⟨rfl, hb6⟩
                      have HB6 := pk (((Below.refl _ wr).alloc (Nat.le_refl _) _).trans (hb6.mono (by simp)))
                      have HZ6 := pk ((hb6.block wr.heap.size (by simp)).trans (Go.heap_alloc_new wr _))
                      have HY6 := pk ((HB6.out.block _ hlY).trans HYi.out)
                      clear hb6 hv0 hv1 hv2 hv3 hv4 hv5 hv6 hv7
                      have hcy := fun q => cell_of_row w6 wo.heap.size q _ 24 (0, 0) HY6.out
                      have hcz := fun q => cell_of_row w6 wr.heap.size q _ 24 (0, 0) HZ6.out
                      have hp0 : w6.cell? ⟨wo.heap.size, 0, none⟩ = some (.int .i64 y.f0) := hcy 0
                      have hp1 : w6.cell? ⟨wo.heap.size, 1, none⟩ = some (.int .i64 y.f1) := hcy 1
                      have hp2 : w6.cell? ⟨wo.heap.size, 2, none⟩ = some (.int .i64 y.f2) := hcy 2
                      have hp3 : w6.cell? ⟨wo.heap.size, 3, none⟩ = some (.int .i64 y.f3) := hcy 3
                      have hp4 : w6.cell? ⟨wo.heap.size, 4, none⟩ = some (.int .i64 y.f4) := hcy 4
                      have hp5 : w6.cell? ⟨wo.heap.size, 5, none⟩ = some (.int .i64 y.f5) := hcy 5
                      have hp6 : w6.cell? ⟨wo.heap.size, 6, none⟩ = some (.int .i64 y.f6) := hcy 6
                      have hp7 : w6.cell? ⟨wo.heap.size, 7, none⟩ = some (.bool y.f7) := hcy 7
                      have hq0 : w6.cell? ⟨wr.heap.size, 0, none⟩ = some (.int .i64 z.f0) := hcz 0
                      have hq1 : w6.cell? ⟨wr.heap.size, 1, none⟩ = some (.int .i64 z.f1) := hcz 1
                      have hq2 : w6.cell? ⟨wr.heap.size, 2, none⟩ = some (.int .i64 z.f2) := hcz 2
                      have hq3 : w6.cell? ⟨wr.heap.size, 3, none⟩ = some (.int .i64 z.f3) := hcz 3
                      have hq4 : w6.cell? ⟨wr.heap.size, 4, none⟩ = some (.int .i64 z.f4) := hcz 4
                      have hq5 : w6.cell? ⟨wr.heap.size, 5, none⟩ = some (.int .i64 z.f5) := hcz 5
                      have hq6 : w6.cell? ⟨wr.heap.size, 6, none⟩ = some (.int .i64 z.f6) := hcz 6
                      have hq7 : w6.cell? ⟨wr.heap.size, 7, none⟩ = some (.bool z.f7) := hcz 7
                      clear hcy hcz
                      go_wp2_with fail
                      refine (HA.out _).mono ?_
                      rintro e w7 ⟨rfl, hb7⟩
                      have HB7 := pk (below_step HB6.out hb7)
                      clear hb7
                      go_wp2_with fail
                      go_roundw
                      case rel => exact ⟨j + 1, true, by omega, by go_num, rfl, hIn.out _ _ (by unfold later; rw [hkz.out, hab.out]; rfl) HB7.out⟩
                      case measure => simp [intOf]; omega
                    | true =>
                      replace hab := pk hab
                      have HA := pk (about_any y z true hab.out)
                      cases haf : afterB z y with
                      | false =>
                        replace haf := pk haf
                        have HF := pk (after_any z y false haf.out)
                        go_wp2_with fail
                        refine (HC.out _).mono ?_
                        rintro e w6 ⟨rfl, hb6⟩
                        have HB6 := pk (((Below.refl _ wr).alloc (Nat.le_refl _) _).trans (hb6.mono (by simp)))
                        have HZ6 := pk ((hb6.block wr.heap.size (by simp)).trans (Go.heap_alloc_new wr _))
                        have HY6 := pk ((HB6.out.block _ hlY).trans HYi.out)
                        clear hb6 hv0 hv1 hv2 hv3 hv4 hv5 hv6 hv7
                        have hcy := fun q => cell_of_row w6 wo.heap.size q _ 24 (0, 0) HY6.out
                        have hcz := fun q => cell_of_row w6 wr.heap.size q _ 24 (0, 0) HZ6.out
                        have hp0 : w6.cell? ⟨wo.heap.size, 0, none⟩ = some (.int .i64 y.f0) := hcy 0
                        have hp1 : w6.cell? ⟨wo.heap.size, 1, none⟩ = some (.int .i64 y.f1) := hcy 1
                        have hp2 : w6.cell? ⟨wo.heap.size, 2, none⟩ = some (.int .i64 y.f2) := hcy 2
                        have hp3 : w6.cell? ⟨wo.heap.size, 3, none⟩ = some (.int .i64 y.f3) := hcy 3
                        have hp4 : w6.cell? ⟨wo.heap.size, 4, none⟩ = some (.int .i64 y.f4) := hcy 4
                        have hp5 : w6.cell? ⟨wo.heap.size, 5, none⟩ = some (.int .i64 y.f5) := hcy 5
                        have hp6 : w6.cell? ⟨wo.heap.size, 6, none⟩ = some (.int .i64 y.f6) := hcy 6
                        have hp7 : w6.cell? ⟨wo.heap.size, 7, none⟩ = some (.bool y.f7) := hcy 7
                        have hq0 : w6.cell? ⟨wr.heap.size, 0, none⟩ = some (.int .i64 z.f0) := hcz 0
                        have hq1 : w6.cell? ⟨wr.heap.size, 1, none⟩ = some (.int .i64 z.f1) := hcz 1
                        have hq2 : w6.cell? ⟨wr.heap.size, 2, none⟩ = some (.int .i64 z.f2) := hcz 2
                        have hq3 : w6.cell? ⟨wr.heap.size, 3, none⟩ = some (.int .i64 z.f3) := hcz 3
                        have hq4 : w6.cell? ⟨wr.heap.size, 4, none⟩ = some (.int .i64 z.f4) := hcz 4
                        have hq5 : w6.cell? ⟨wr.heap.size, 5, none⟩ = some (.int .i64 z.f5) := hcz 5
                        have hq6 : w6.cell? ⟨wr.heap.size, 6, none⟩ = some (.int .i64 z.f6) := hcz 6
                        have hq7 : w6.cell? ⟨wr.heap.size, 7, none⟩ = some (.bool z.f7) := hcz 7
                        clear hcy hcz
                        go_wp2_with fail
                        refine (HA.out _).mono ?_
                        rintro e w7 ⟨rfl, hb7⟩
                        have HB7 := pk (below_step HB6.out hb7)
                        have HZ7 := pk ((hb7.block wr.heap.size (Array.getElem?_eq_some_iff.1 HZ6.out).1).trans HZ6.out)
                        have HY7 := pk ((hb7.block _ (Array.getElem?_eq_some_iff.1 HY6.out).1).trans HY6.out)
                        clear hb7 hp0 hp1 hp2 hp3 hp4 hp5 hp6 hp7 hq0 hq1 hq2 hq3 hq4 hq5 hq6 hq7
                        have hcy := fun q => cell_of_row w7 wo.heap.size q _ 24 (0, 0) HY7.out
                        have hcz := fun q => cell_of_row w7 wr.heap.size q _ 24 (0, 0) HZ7.out
                        have hp0 : w7.cell? ⟨wo.heap.size, 0, none⟩ = some (.int .i64 y.f0) := hcy 0
                        have hp1 : w7.cell? ⟨wo.heap.size, 1, none⟩ = some (.int .i64 y.f1) := hcy 1
                        have hp2 : w7.cell? ⟨wo.heap.size, 2, none⟩ = some (.int .i64 y.f2) := hcy 2
                        have hp3 : w7.cell? ⟨wo.heap.size, 3, none⟩ = some (.int .i64 y.f3) := hcy 3
                        have hp4 : w7.cell? ⟨wo.heap.size, 4, none⟩ = some (.int .i64 y.f4) := hcy 4
                        have hp5 : w7.cell? ⟨wo.heap.size, 5, none⟩ = some (.int .i64 y.f5) := hcy 5
                        have hp6 : w7.cell? ⟨wo.heap.size, 6, none⟩ = some (.int .i64 y.f6) := hcy 6
                        have hp7 : w7.cell? ⟨wo.heap.size, 7, none⟩ = some (.bool y.f7) := hcy 7
                        have hq0 : w7.cell? ⟨wr.heap.size, 0, none⟩ = some (.int .i64 z.f0) := hcz 0
                        have hq1 : w7.cell? ⟨wr.heap.size, 1, none⟩ = some (.int .i64 z.f1) := hcz 1
                        have hq2 : w7.cell? ⟨wr.heap.size, 2, none⟩ = some (.int .i64 z.f2) := hcz 2
                        have hq3 : w7.cell? ⟨wr.heap.size, 3, none⟩ = some (.int .i64 z.f3) := hcz 3
                        have hq4 : w7.cell? ⟨wr.heap.size, 4, none⟩ = some (.int .i64 z.f4) := hcz 4
                        have hq5 : w7.cell? ⟨wr.heap.size, 5, none⟩ = some (.int .i64 z.f5) := hcz 5
                        have hq6 : w7.cell? ⟨wr.heap.size, 6, none⟩ = some (.int .i64 z.f6) := hcz 6
                        have hq7 : w7.cell? ⟨wr.heap.size, 7, none⟩ = some (.bool z.f7) := hcz 7
                        clear hcy hcz
                        go_wp2_with fail
                        refine (HF.out _).mono ?_
                        rintro e w8 ⟨rfl, hb8⟩
                        have HB8 := pk (below_step HB7.out hb8)
                        clear hb8
                        go_wp2_with fail
                        go_roundw
                        case rel => exact ⟨j + 1, true, by omega, by go_num, rfl, hIn.out _ _ (by unfold later; rw [hkz.out, hab.out, haf.out]; rfl) HB8.out⟩
                        case measure => simp [intOf]; omega
                      | true =>
                        replace haf := pk haf
                        have HF := pk (after_any z y true haf.out)
                        go_wp2_with fail
                        refine (HC.out _).mono ?_
                        rintro e w6 ⟨rfl, hb6⟩
                        have HB6 := pk (((Below.refl _ wr).alloc (Nat.le_refl _) _).trans (hb6.mono (by simp)))
                        have HZ6 := pk ((hb6.block wr.heap.size (by simp)).trans (Go.heap_alloc_new wr _))
                        have HY6 := pk ((HB6.out.block _ hlY).trans HYi.out)
                        clear hb6 hv0 hv1 hv2 hv3 hv4 hv5 hv6 hv7
                        have hcy := fun q => cell_of_row w6 wo.heap.size q _ 24 (0, 0) HY6.out
                        have hcz := fun q => cell_of_row w6 wr.heap.size q _ 24 (0, 0) HZ6.out
                        have hp0 : w6.cell? ⟨wo.heap.size, 0, none⟩ = some (.int .i64 y.f0) := hcy 0
                        have hp1 : w6.cell? ⟨wo.heap.size, 1, none⟩ = some (.int .i64 y.f1) := hcy 1
                        have hp2 : w6.cell? ⟨wo.heap.size, 2, none⟩ = some (.int .i64 y.f2) := hcy 2
                        have hp3 : w6.cell? ⟨wo.heap.size, 3, none⟩ = some (.int .i64 y.f3) := hcy 3
                        have hp4 : w6.cell? ⟨wo.heap.size, 4, none⟩ = some (.int .i64 y.f4) := hcy 4
                        have hp5 : w6.cell? ⟨wo.heap.size, 5, none⟩ = some (.int .i64 y.f5) := hcy 5
                        have hp6 : w6.cell? ⟨wo.heap.size, 6, none⟩ = some (.int .i64 y.f6) := hcy 6
                        have hp7 : w6.cell? ⟨wo.heap.size, 7, none⟩ = some (.bool y.f7) := hcy 7
                        have hq0 : w6.cell? ⟨wr.heap.size, 0, none⟩ = some (.int .i64 z.f0) := hcz 0
                        have hq1 : w6.cell? ⟨wr.heap.size, 1, none⟩ = some (.int .i64 z.f1) := hcz 1
                        have hq2 : w6.cell? ⟨wr.heap.size, 2, none⟩ = some (.int .i64 z.f2) := hcz 2
                        have hq3 : w6.cell? ⟨wr.heap.size, 3, none⟩ = some (.int .i64 z.f3) := hcz 3
                        have hq4 : w6.cell? ⟨wr.heap.size, 4, none⟩ = some (.int .i64 z.f4) := hcz 4
                        have hq5 : w6.cell? ⟨wr.heap.size, 5, none⟩ = some (.int .i64 z.f5) := hcz 5
                        have hq6 : w6.cell? ⟨wr.heap.size, 6, none⟩ = some (.int .i64 z.f6) := hcz 6
                        have hq7 : w6.cell? ⟨wr.heap.size, 7, none⟩ = some (.bool z.f7) := hcz 7
                        clear hcy hcz
                        go_wp2_with fail
                        refine (HA.out _).mono ?_
                        rintro e w7 ⟨rfl, hb7⟩
                        have HB7 := pk (below_step HB6.out hb7)
                        have HZ7 := pk ((hb7.block wr.heap.size (Array.getElem?_eq_some_iff.1 HZ6.out).1).trans HZ6.out)
                        have HY7 := pk ((hb7.block _ (Array.getElem?_eq_some_iff.1 HY6.out).1).trans HY6.out)
                        clear hb7 hp0 hp1 hp2 hp3 hp4 hp5 hp6 hp7 hq0 hq1 hq2 hq3 hq4 hq5 hq6 hq7
                        have hcy := fun q => cell_of_row w7 wo.heap.size q _ 24 (0, 0) HY7.out
                        have hcz := fun q => cell_of_row w7 wr.heap.size q _ 24 (0, 0) HZ7.out
                        have hp0 : w7.cell? ⟨wo.heap.size, 0, none⟩ = some (.int .i64 y.f0) := hcy 0
                        have hp1 : w7.cell? ⟨wo.heap.size, 1, none⟩ = some (.int .i64 y.f1) := hcy 1
                        have hp2 : w7.cell? ⟨wo.heap.size, 2, none⟩ = some (.int .i64 y.f2) := hcy 2
                        have hp3 : w7.cell? ⟨wo.heap.size, 3, none⟩ = some (.int .i64 y.f3) := hcy 3
                        have hp4 : w7.cell? ⟨wo.heap.size, 4, none⟩ = some (.int .i64 y.f4) := hcy 4
                        have hp5 : w7.cell? ⟨wo.heap.size, 5, none⟩ = some (.int .i64 y.f5) := hcy 5
                        have hp6 : w7.cell? ⟨wo.heap.size, 6, none⟩ = some (.int .i64 y.f6) := hcy 6
                        have hp7 : w7.cell? ⟨wo.heap.size, 7, none⟩ = some (.bool y.f7) := hcy 7
                        have hq0 : w7.cell? ⟨wr.heap.size, 0, none⟩ = some (.int .i64 z.f0) := hcz 0
                        have hq1 : w7.cell? ⟨wr.heap.size, 1, none⟩ = some (.int .i64 z.f1) := hcz 1
                        have hq2 : w7.cell? ⟨wr.heap.size, 2, none⟩ = some (.int .i64 z.f2) := hcz 2
                        have hq3 : w7.cell? ⟨wr.heap.size, 3, none⟩ = some (.int .i64 z.f3) := hcz 3
                        have hq4 : w7.cell? ⟨wr.heap.size, 4, none⟩ = some (.int .i64 z.f4) := hcz 4
                        have hq5 : w7.cell? ⟨wr.heap.size, 5, none⟩ = some (.int .i64 z.f5) := hcz 5
                        have hq6 : w7.cell? ⟨wr.heap.size, 6, none⟩ = some (.int .i64 z.f6) := hcz 6
                        have hq7 : w7.cell? ⟨wr.heap.size, 7, none⟩ = some (.bool z.f7) := hcz 7
                        clear hcy hcz
                        go_wp2_with fail
                        refine (HF.out _).mono ?_
                        rintro e w8 ⟨rfl, hb8⟩
                        have HB8 := pk (below_step HB7.out hb8)
                        clear hb8
                        go_wp2_with fail
                        go_roundw
                        case rel => exact ⟨j + 1, false, by omega, by go_num, rfl, hIn.out _ _ (by unfold later; rw [hkz.out, hab.out, haf.out]; rfl) HB8.out⟩
                        case measure => simp [intOf]; omega
              · obtain rfl : j = l.length := by omega
                have hbl : b = !(l.any (later at_ known y)) := by have := Hi.out.1; rwa [List.take_length] at this
                have Hbl := pk hbl
                have HYi := pk ((Hi.out.2.block _ (Array.getElem?_eq_some_iff.1 HY5.out).1).trans HY5.out)
                have HBi := pk (below_step HB5.out Hi.out.2)
                clear hbl
                have hcl := fun q => cell_of_row wr wo.heap.size q _ 24 (0, 0) HYi.out
                have hv0 : wr.cell? ⟨wo.heap.size, 0, none⟩ = some (.int .i64 y.f0) := hcl 0
                have hv1 : wr.cell? ⟨wo.heap.size, 1, none⟩ = some (.int .i64 y.f1) := hcl 1
                have hv2 : wr.cell? ⟨wo.heap.size, 2, none⟩ = some (.int .i64 y.f2) := hcl 2
                have hv3 : wr.cell? ⟨wo.heap.size, 3, none⟩ = some (.int .i64 y.f3) := hcl 3
                have hv4 : wr.cell? ⟨wo.heap.size, 4, none⟩ = some (.int .i64 y.f4) := hcl 4
                have hv5 : wr.cell? ⟨wo.heap.size, 5, none⟩ = some (.int .i64 y.f5) := hcl 5
                have hv6 : wr.cell? ⟨wo.heap.size, 6, none⟩ = some (.int .i64 y.f6) := hcl 6
                have hv7 : wr.cell? ⟨wo.heap.size, 7, none⟩ = some (.bool y.f7) := hcl 7
                clear hcl
                cases b with
                | false =>
                  have Hst := pk (show stB l doc at_ known y = false by unfold stB; rw [← Hbl.out]; simp)
                  go_wp2_with fail
                  go_roundw
                  case rel => exact ⟨k + 1, by omega, by go_num, Hnext.out _ Hst.out HBi.out⟩
                  case measure => simp [intOf]; omega
                | true =>
                  cases hf7 : y.f7 with
                  | true =>
                    simp only [hf7] at hv7
                    have Hst := pk (show stB l doc at_ known y = false by unfold stB; rw [hf7]; simp)
                    replace hf7 := pk hf7
                    go_wp2_with fail
                    go_roundw
                    case rel => exact ⟨k + 1, by omega, by go_num, Hnext.out _ Hst.out HBi.out⟩
                    case measure => simp [intOf]; omega
                  | false =>
                    simp only [hf7] at hv7
                    have Hst := pk (show stB l doc at_ known y = true by unfold stB; rw [← Hbl.out, hf7, hkn.out, hd.out]; simp)
                    obtain ⟨m, hm⟩ : ∃ m, (l.drop (k + 1)).filter (stB l doc at_ known) = m := ⟨_, rfl⟩
                    have hk2 := Hkeep.out Hst.out
                    rw [hm] at hk2
                    have hCl := Kd.C_below HCl.out HBi.out
                    have hcl2 := Hcl.out
                    rw [hk2] at hCl hcl2
                    simp only [hk2] 
                    replace hk2 := pk hk2
                    replace hm := pk hm
                    replace hf7 := pk hf7
                    obtain ⟨adl, hadl⟩ := C_some hCl
                    subst hadl
                    have hrun : ∀ d w', (Op.equalIn (d + 2) 24 (.agg #[.int .i64 y.f0, .int .i64 y.f1, .int .i64 y.f2, .int .i64 y.f3, .int .i64 y.f4, .int .i64 y.f5, .int .i64 y.f6, .bool false]) (.agg #[.int .i64 y.f0, .int .i64 y.f1, .int .i64 y.f2, .int .i64 y.f3, .int .i64 y.f4, .int .i64 y.f5, .int .i64 y.f6, .bool false])).run Try.prog w' = .ok true w' := by
                      intro d w'
                      have h := eq_run y y true (by simp) d w'
                      rwa [hf7.out] at h
                    have h0 := at_24 hCl 0 (by simp)
                    obtain ⟨ad0, e0, hc0⟩ := h0
                    cases e0
                    simp only [List.getD_cons_zero, Nat.zero_mul, Addr.add_zero', hf7.out] at hc0
                    have hlen1 : (((y :: m).length : Int) == 0) = false := by simp; omega
                    have hlen2 : 0 < (y :: m).length := by simp
                    have HT := pk (C_tail hCl)
                    have Hcl2 := pk hcl2
                    clear hCl hcl2 hf7 Hskip Hnext
                    simp only [List.length_cons] at hlen1 hlen2 ⊢
                    go_wp2_with fail
                    go_quiet (fail)
                    go_wp2_with fail
                    refine ⟨⟨k + 1, by omega, by go_num, ?_⟩, by simp [intOf]; omega⟩
                    refine ⟨⟨_, cl - 1, by rw [hm.out], by rw [hm.out]; have := Hcl2.out; simp at this; omega, ?_⟩, below_step Hb4.out (pw_below_drewN HBi.out _)⟩
                    rw [hm.out]
                    by_cases hc1 : cl = 1
                    · have hm0 : m = [] := by
                        have := Hcl2.out
                        simp at this
                        exact List.eq_nil_of_length_eq_zero (by omega)
                      rw [hm0]
                      exact C_none_any
                    · rw [if_neg hc1]
                      exact Kd.C_below HT.out (pw_below_drewN (Below.refl _ _) _)
        · have gd : (y.f3 != doc) = true := by simpa using hd
          have Hst := pk (show stB l doc at_ known y = false by unfold stB; simp [hd])
          replace hd := pk hd
          go_wp2_with fail
          go_roundw
          case rel => exact ⟨k + 1, by omega, by go_num, Hnext.out _ Hst.out ((Below.refl _ _).alloc (Nat.le_refl _) _)⟩
          case measure => simp [intOf]; omega
      · have hnil : ((l.drop k).filter (stB l doc at_ known)).length = 0 := by rw [List.drop_of_length_le (by omega)]; rfl
        simp only [hnil]
        clear hnil
        go_wp2_with fail
        go_ret
        exact ⟨rfl, below_step HB4.out Hb4.out⟩
end Last
end Go.Proofs.Ytcpheagandpacaa.T
