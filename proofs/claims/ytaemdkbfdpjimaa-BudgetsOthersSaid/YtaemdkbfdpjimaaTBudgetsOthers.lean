/-
The law BudgetsOthers, by a walk of the law by hand over the contracts of what it calls: it returns true. Condition: the rows are read, and the arguments are of their kinds.
-/
import Derived.Test.YtaemdkbfdpjimaaVz
import Derived.Test.YtaemdkbfdpjimaaP24
import Derived.Test.YtaemdkbfdpjimaaP24
import Derived.Test.YtaemdkbfdpjimaaWd
import Derived.Test.YtaemdkbfdpjimaaP8
import Derived.Test.YtaemdkbfdpjimaaP21
import Derived.Test.YtaemdkbfdpjimaaWe
import Derived.Test.YtaemdkbfdpjimaaOp
import Derived.Deep.RegionHeld3
namespace Go.Proofs.Ytaemdkbfdpjimaa.T
open Go.RowKit Go.Proofs.YtaemdkbfdpjimaaW.PrintWords Go.Proofs.YtaemdkbfdpjimaaW.PrintLast Go.Proofs.YtaemdkbfdpjimaaW.PrintMore Go.Proofs.Ytaemdkbfdpjimaa.P Go.Proofs.Ytaemdkbfdpjimaa.W Go.Proofs.Ytaemdkbfdpjimaa.S Go.Proofs.Ytaemdkbfdpjimaa.U Go.Proofs.Ytaemdkbfdpjimaa.V
set_option linter.unusedVariables false
namespace Oth
theorem ret_bool {a b : Bool} (h : a = b) : Ending.returned (.bool a) = .returned (.bool b) := by rw [h]
theorem right_l (l : List S24) (k : Nat) (hk : l.length + 1 < k) : signatorylaw18_right.f k l = some (decide (l.length ≤ 30) && decide (checkF l = 0)) := by
  unfold signatorylaw18_right.f
  by_cases h : l.length ≤ 30
  · rw [if_pos (by omega), check_r l k hk]
    simp only [Option.bind_some, h, decide_true, Bool.true_and]
    congr 1
  · rw [if_neg (by omega)]
    simp [h]
/-- what stands between two rounds of the loop over the uses -/
def Jo (w5 : World) (s : List S24) (u : List S49) (at_ known : Int) (k : Nat) (v : Value) (W : World) : Prop :=
  Kd.R k49 49 W w5.heap.size (fun _ => True) v ((u.take k).filter (ownB s at_ known)) ∧ Below w5.heap.size w5 W
/-- what stands between two rounds of the loop over what stands -/
def Ji (wo : World) (s : List S24) (at_ : Int) (x : S49) (j : Nat) (m : Bool) (W : World) : Prop :=
  m = ((s.take j).any fun b => periodB b at_ x) ∧ Below (wo.alloc (.cells #[.int .i64 x.f0, .int .i64 x.f1, .int .i64 x.f2, .int .i64 x.f3, .int .i64 x.f4] 49)).heap.size (wo.alloc (.cells #[.int .i64 x.f0, .int .i64 x.f1, .int .i64 x.f2, .int .i64 x.f3, .int .i64 x.f4] 49)) W
/-- what stands between two rounds of the loop over the budgets -/
def Je (w6 : World) (l : List S24) (known : Int) (k : Nat) (v : Value) (W : World) : Prop :=
  Kd.R k24 24 W w6.heap.size (fun _ => True) v ((l.take k).filter (earlyB known)) ∧ Below w6.heap.size w6 W
theorem row49 {W : World} {base : Nat} {ok : Nat → Prop} {v : Value} {l : List S49} (h : Kd.R k49 49 W base ok v l) : ∃ A c, v = .slice A l.length c ∧ l.length ≤ c ∧ Kd.C k49 W A l.length l := by
  obtain ⟨A, c, e⟩ := Kd.R_slice h
  subst e
  exact ⟨A, c, rfl, (Kd.R_reads' h).2.1, (Kd.R_reads' h).2.2⟩
theorem row24 {W : World} {base : Nat} {ok : Nat → Prop} {v : Value} {l : List S24} (h : Kd.R k24 24 W base ok v l) : ∃ A c, v = .slice A l.length c ∧ l.length ≤ c ∧ Kd.C k24 W A l.length l := by
  obtain ⟨A, c, e⟩ := Kd.R_slice h
  subst e
  exact ⟨A, c, rfl, (Kd.R_reads' h).2.1, (Kd.R_reads' h).2.2⟩
theorem lit_R (w : World) : Kd.R k49 49 (w.alloc (.cells #[] 49)) w.heap.size (fun _ => True) (.slice (some ⟨w.heap.size, 0, none⟩) 0 0) [] := by
  refine ⟨fun _ _ => trivial, [], ?_, Reps.none _ _⟩
  have := World.ownsRow_lit (base := w.heap.size) (e := 49) (size := 5) w #[] 0 (Nat.le_refl _) (by decide) rfl
  have h2 : (w.alloc (.cells #[] 49)).ownsRow w.heap.size 49 5 (.slice (some ⟨w.heap.size, 0, none⟩) 0 0) 0 [] := by simpa using this
  exact h2
theorem room_f (l : List S24) (u : List S49) (a b c d : Int) : budgets_Room.f l u a b c d = some (roomF l u a b c d) := rfl
theorem stand_ok {l : List S24} {kind at_ known : Int} (h : checkF l = 0) (h1 : betweenF 0 15 [kind] = true) (h2 : betweenF 0 1099511627775 [at_, known] = true) (k : Nat) (hk : l.length + 1 < k) : budgets_Standing.f k l kind at_ known = some (standingF l kind at_ known, 0) := by
  rw [standing_p l kind at_ known k hk]
  unfold standF
  rw [if_neg (by simp [h]), if_neg (by rw [h1, h2]; simp)]
set_option maxHeartbeats 8000000 in
set_option maxRecDepth 100000 in
theorem oth_any (A : Option Addr) (c : Nat) (l : List S24) (B : Option Addr) (d : Nat) (u : List S49) (kind value at_ known turn : Int) (w : World) (hr : Kd.C k24 w A l.length l) (hc : l.length ≤ c) (hru : Kd.C k49 w B u.length u) (hcu : u.length ≤ d)
    (hl : ∀ y ∈ l, WF24 y) (hlu : ∀ y ∈ u, WF49 y) (h1 : (Lit.int .i64 kind).wf = true) (h2 : (Lit.int .i64 value).wf = true) (h3 : (Lit.int .i64 at_).wf = true) (h4 : (Lit.int .i64 known).wf = true) (h5 : (Lit.int .u8 turn).wf = true) :
    Calls Try.prog 8 #[.slice A l.length c, .slice B u.length d, .int .i64 kind, .int .i64 value, .int .i64 at_, .int .i64 known, .int .u8 turn] w fun e w' => e = .returned (.bool true) ∧ Below w.heap.size w w' := by
  have hwt : 0 ≤ turn ∧ turn ≤ 255 := by simp [Lit.wf, IntKind.min, IntKind.max, IntKind.signed, IntKind.bits] at h5; omega
  clear hl hlu h1 h2 h3 h4 h5
  have hright := right_l l (l.length + 2) (by omega)
  generalize hb : (decide (l.length ≤ 30) && decide (checkF l = 0)) = b at hright
  have HR := pk hr
  have Hc := pk hc
  have HU := pk hru
  have Hd := pk hcu
  have Hright := pk hright
  have Hwt := pk hwt
  clear hr hc hru hcu hright hwt
  cases b with
  | false =>
    replace hb := pk hb
    go_enter Try.func8, Try.ntmps8
    go_wp2_with fail
    refine (sane_hook _).mono ?_
    rintro e w1 ⟨rfl, hb1⟩
    have HB1 := pk hb1
    clear hb1
    go_wp2_with fail
    refine (signatorylaw18_right.calls _ A c l false _ (Kd.C_below HR.out HB1.out) Hc.out Hright.out).mono ?_
    rintro e w2 ⟨rfl, hb2⟩
    have HB2 := pk (below_step HB1.out hb2)
    clear hb2
    go_wp2_with fail
    go_ret
    exact ⟨rfl, HB2.out⟩
  | true =>
    have hbb := hb
    simp only [Bool.and_eq_true, decide_eq_true_eq] at hbb
    obtain ⟨hlen, hck⟩ := hbb
    obtain ⟨hn, hp, hrt⟩ := check_ok hck
    have Hck := pk hck
    have Hrt := pk hrt
    clear hb hck hp hrt
    by_cases hu30 : u.length ≤ 30
    · have huses := uses_r u (by omega) (u.length * (u.length + 4) + 1) (Nat.le_refl _)
      generalize hus : usesF [] u = us at huses
      have Hus := pk hus
      have Huses := pk huses
      clear hus huses
      go_enter Try.func8, Try.ntmps8
      go_wp2_with fail
      refine (sane_hook _).mono ?_
      rintro e w1 ⟨rfl, hb1⟩
      have HB1 := pk hb1
      clear hb1
      go_wp2_with fail
      refine (signatorylaw18_right.calls _ A c l true _ (Kd.C_below HR.out HB1.out) Hc.out Hright.out).mono ?_
      rintro e w2 ⟨rfl, hb2⟩
      have HB2 := pk (below_step HB1.out hb2)
      clear hb2
      go_wp2_with fail
      refine (signatoryref18_Uses.calls _ B d u us _ (Kd.C_below HU.out HB2.out) Hd.out Huses.out).mono ?_
      rintro e w3 ⟨rfl, hd3⟩
      have HB3 := pk (below_step HB2.out hd3.below)
      clear hd3 Huses Hright
      cases us with
      | false =>
        go_wp2_with fail
        go_ret
        exact ⟨rfl, HB3.out⟩
      | true =>
        obtain ⟨n1, o1, e1, hroom⟩ : ∃ n1 o1 e1, roomF l u kind value at_ known = (n1, o1, e1) := ⟨_, _, _, rfl⟩
        have Hroom := pk hroom
        clear hroom
        go_wp2_with fail
        refine (budgets_Room.calls A c l B d u kind value at_ known n1 o1 e1 _ (Kd.C_below HR.out HB3.out) Hc.out (Kd.C_below HU.out HB3.out) Hd.out (by rw [room_f, Hroom.out])).mono ?_
        rintro e w4 ⟨rfl, hb4⟩
        have HB4 := pk (below_step HB3.out hb4)
        clear hb4
        rcases room_ok (kind := kind) (value := value) (at_ := at_) (known := known) Hck.out (show u.length ≤ 4096 by omega) Hus.out with ⟨hR, _⟩ | ⟨hR, hk1, hk2, hk3⟩
        · rw [Hroom.out] at hR
          simp only [Prod.mk.injEq] at hR
          obtain ⟨rfl, rfl, rfl⟩ := hR
          go_wp2_with fail
          go_ret
          exact ⟨rfl, HB4.out⟩
        · obtain rfl : e1 = 0 := by
            have h0 := first_err (fun b => overF b u value at_ known) (standingF l kind at_ known)
            rw [← first_p, ← hR, Hroom.out] at h0
            exact h0
          have S1 := pk (stand_ok Hck.out hk1 hk3 (l.length + 2) (by omega))
          have Hoth := pk (fun (v : List S49) (hv : v.Perm (u.filter (ownB (standingF l kind at_ known) at_ known))) => (others (value := value) Hck.out (show u.length ≤ 4096 by omega) Hus.out hv).trans Hroom.out)
          obtain ⟨s, hs⟩ : ∃ s, standingF l kind at_ known = s := ⟨_, rfl⟩
          rw [hs] at S1 Hoth
          have hsn : s.length ≤ 30 := by rw [← hs]; exact Nat.le_trans (stand_len _ _ _ _) hlen
          have Hs4 : Pk (∀ b ∈ s, 1 ≤ b.f4) := pk (fun b hb => by
            rw [← hs] at hb
            exact (right_range (Hrt.out b (List.mem_filter.1 hb).1)).1)
          clear hR hk1 hk2 hk3 hs Hck Hrt Hus Hroom HB1 HB2 HB3
          go_wp2_with fail
          refine (budgets_Standing.calls _ A c l kind at_ known s 0 _ (Kd.C_below HR.out HB4.out) Hc.out S1.out).mono ?_
          rintro e w5 ⟨v5, rfl, hR5, hb5⟩
          obtain ⟨A5, c5, rfl, hc5, hC5⟩ := row24 hR5
          have HC5 := pk hC5
          have HB5 := pk (below_step HB4.out hb5)
          have HU5 := pk (Kd.C_below HU.out HB5.out)
          clear hR5 hC5 hb5 S1 HB4 HU
          go_wp2_with fail
          go_loopw [20, 75] (fun v i wr => ∃ (k : Nat) (v0 : Value), k ≤ u.length ∧ i = .int .i64 k ∧ v0 = v ∧ Hid (Jo w5 s u at_ known k v0 wr)) (fun _ i _ => u.length - (intOf i).toNat)
          case atStart => exact ⟨0, _, Nat.zero_le _, rfl, rfl, Kd.R_nil _ _ _ _ _, Below.refl _ _⟩
          case round =>
            obtain ⟨k, v0, hk, rfl, hv0, hh⟩ := hrel
            subst hv0
            obtain ⟨hO, hbo⟩ := hh.out
            obtain ⟨wo, hwo⟩ : ∃ wo : World, wo = wr := ⟨_, rfl⟩
            subst hwo
            have HO := pk hO
            have Hbo := pk hbo
            clear hh hO hbo
            by_cases hlt : k < u.length
            · obtain ⟨ad, hA, hcells⟩ := Rm.at_49 (Kd.C_below HU5.out Hbo.out) k hlt
              generalize hx : u.getD k z49 = x at hcells
              have hget : u[k] = x := by rw [← hx, List.getD_eq_getElem?_getD, List.getElem?_eq_getElem hlt]; rfl
              have Htk := pk (take_snoc (ownB s at_ known) u k hlt)
              rw [hget] at Htk
              have Hnext : Pk (∀ W, ownB s at_ known x = false → Below wo.heap.size wo W → Jo w5 s u at_ known (k + 1) v0 W) := pk (fun W h hW => by
                refine ⟨?_, below_step Hbo.out hW⟩
                rw [Htk.out, if_neg (by simp [h]), List.append_nil]
                exact Kd.R_below HO.out hW)
              clear hx hget
              cases hA
              go_wp2_with fail
              go_loopw [23, 81] (fun vm i wr => ∃ (j : Nat) (m : Bool), j ≤ s.length ∧ i = .int .i64 j ∧ vm = .bool m ∧ Hid (Ji wo s at_ x j m wr)) (fun _ i _ => s.length - (intOf i).toNat)
              case atStart => exact ⟨0, false, Nat.zero_le _, rfl, rfl, by simp, Below.refl _ _⟩
              case round =>
                obtain ⟨j, m, hj, rfl, rfl, hi⟩ := hrel
                have Hi := pk hi.out
                clear hi
                have HXb := pk ((Hi.out.2.block wo.heap.size (by simp)).trans (Go.heap_alloc_new wo _))
                have hlX : wo.heap.size < wr.heap.size := (Array.getElem?_eq_some_iff.1 HXb.out).1
                have HBr := pk (((Below.refl _ wo).alloc (Nat.le_refl _) (.cells #[.int .i64 x.f0, .int .i64 x.f1, .int .i64 x.f2, .int .i64 x.f3, .int .i64 x.f4] 49)).trans (Hi.out.2.mono (by simp)))
                by_cases hjt : j < s.length
                · obtain ⟨ad2, hA2, hcells2⟩ := at_24 (Kd.C_below HC5.out (below_step Hbo.out HBr.out)) j hjt
                  generalize hy : s.getD j z24 = y at hcells2
                  have hget : s[j] = y := by rw [← hy, List.getD_eq_getElem?_getD, List.getElem?_eq_getElem hjt]; rfl
                  have hp4 : 1 ≤ y.f4 := Hs4.out y (by rw [← hget]; exact List.getElem_mem hjt)
                  have hts : Pk ((s.take (j + 1)).any (fun b => periodB b at_ x) = ((s.take j).any (fun b => periodB b at_ x) || periodB y at_ x)) := pk (by rw [List.take_succ_eq_append_getElem hjt, List.any_append, hget]; simp)
                  have hIn : Pk (∀ m' W, m' = (m || periodB y at_ x) → Below wr.heap.size wr W → Ji wo s at_ x (j + 1) m' W) := pk (fun m' W h hW => ⟨by rw [h, hts.out, Hi.out.1], below_step Hi.out.2 hW⟩)
                  clear hy hget
                  cases hA2
                  have hcl := fun o q => cell_of_row (wr.alloc o) wo.heap.size q _ 49 (0, 0) ((Below.heap_alloc wr o _ hlX).trans HXb.out)
                  have hx1 : ∀ o, (wr.alloc o).cell? ⟨wo.heap.size, 1, none⟩ = some (.int .i64 x.f1) := fun o => hcl o 1
                  have hx3 : ∀ o, (wr.alloc o).cell? ⟨wo.heap.size, 3, none⟩ = some (.int .i64 x.f3) := fun o => hcl o 3
                  clear hcl
                  cases m with
                  | true =>
                    go_wp2_with fail
                    go_quiet (fail)
                    go_wp2_with fail
                    go_roundw
                    case rel => exact ⟨j + 1, true, by omega, by go_num, rfl, hIn.out _ _ (by simp) (pw_below_drewN ((Below.refl _ _).alloc (Nat.le_refl _) _) _)⟩
                    case measure => simp [intOf]; omega
                  | false =>
                    by_cases h1 : y.f3 = -1
                    · have g1 : (y.f3 == -1) = true := by simp [h1]
                      by_cases hd : wrap64 (Int.tdiv x.f3 y.f4) = wrap64 (Int.tdiv at_ y.f4)
                      · have g5 : (wrap64 (Int.tdiv x.f3 y.f4) == wrap64 (Int.tdiv at_ y.f4)) = true := by simp [hd]
                        have Hp := pk (show periodB y at_ x = true by simp [periodB, h1, hd])
                        replace hd := pk hd
                        replace h1 := pk h1
                        go_wp2_with fail
                        go_quiet (fail)
                        go_wp2_with fail
                        go_roundw
                        case rel => exact ⟨j + 1, true, by omega, by go_num, rfl, hIn.out _ _ (by rw [Hp.out]; rfl) (pw_below_drewN ((Below.refl _ _).alloc (Nat.le_refl _) _) _)⟩
                        case measure => simp [intOf]; omega
                      · have g5 : (wrap64 (Int.tdiv x.f3 y.f4) == wrap64 (Int.tdiv at_ y.f4)) = false := by simp [hd]
                        have Hp := pk (show periodB y at_ x = false by simp [periodB, hd])
                        replace hd := pk hd
                        replace h1 := pk h1
                        go_wp2_with fail
                        go_quiet (fail)
                        go_wp2_with fail
                        go_roundw
                        case rel => exact ⟨j + 1, false, by omega, by go_num, rfl, hIn.out _ _ (by rw [Hp.out]; rfl) (pw_below_drewN ((Below.refl _ _).alloc (Nat.le_refl _) _) _)⟩
                        case measure => simp [intOf]; omega
                    · have g1 : (y.f3 == -1) = false := by simpa using h1
                      by_cases h2 : y.f3 = x.f1
                      · have g2 : (y.f3 == x.f1) = true := by simp [h2]
                        by_cases hd : wrap64 (Int.tdiv x.f3 y.f4) = wrap64 (Int.tdiv at_ y.f4)
                        · have g5 : (wrap64 (Int.tdiv x.f3 y.f4) == wrap64 (Int.tdiv at_ y.f4)) = true := by simp [hd]
                          have Hp := pk (show periodB y at_ x = true by simp [periodB, h2, hd])
                          replace hd := pk hd
                          replace h2 := pk h2
                          go_wp2_with fail
                          go_quiet (fail)
                          go_wp2_with fail
                          go_roundw
                          case rel => exact ⟨j + 1, true, by omega, by go_num, rfl, hIn.out _ _ (by rw [Hp.out]; rfl) (pw_below_drewN ((Below.refl _ _).alloc (Nat.le_refl _) _) _)⟩
                          case measure => simp [intOf]; omega
                        · have g5 : (wrap64 (Int.tdiv x.f3 y.f4) == wrap64 (Int.tdiv at_ y.f4)) = false := by simp [hd]
                          have Hp := pk (show periodB y at_ x = false by simp [periodB, hd])
                          replace hd := pk hd
                          replace h2 := pk h2
                          go_wp2_with fail
                          go_quiet (fail)
                          go_wp2_with fail
                          go_roundw
                          case rel => exact ⟨j + 1, false, by omega, by go_num, rfl, hIn.out _ _ (by rw [Hp.out]; rfl) (pw_below_drewN ((Below.refl _ _).alloc (Nat.le_refl _) _) _)⟩
                          case measure => simp [intOf]; omega
                      · have g2 : (y.f3 == x.f1) = false := by simpa using h2
                        have Hp := pk (show periodB y at_ x = false by simp [periodB, h1, h2])
                        go_wp2_with fail
                        go_quiet (fail)
                        go_wp2_with fail
                        go_roundw
                        case rel => exact ⟨j + 1, false, by omega, by go_num, rfl, hIn.out _ _ (by rw [Hp.out]; rfl) (pw_below_drewN ((Below.refl _ _).alloc (Nat.le_refl _) _) _)⟩
                        case measure => simp [intOf]; omega
                · obtain rfl : j = s.length := by omega
                  have Hm := pk (show m = mattersF s at_ x by have := Hi.out.1; rwa [List.take_length] at this)
                  have hcl := fun q => cell_of_row wr wo.heap.size q _ 49 (0, 0) HXb.out
                  have hx0 : wr.cell? ⟨wo.heap.size, 0, none⟩ = some (.int .i64 x.f0) := hcl 0
                  have hx1 : wr.cell? ⟨wo.heap.size, 1, none⟩ = some (.int .i64 x.f1) := hcl 1
                  have hx2 : wr.cell? ⟨wo.heap.size, 2, none⟩ = some (.int .i64 x.f2) := hcl 2
                  have hx3 : wr.cell? ⟨wo.heap.size, 3, none⟩ = some (.int .i64 x.f3) := hcl 3
                  have hx4 : wr.cell? ⟨wo.heap.size, 4, none⟩ = some (.int .i64 x.f4) := hcl 4
                  clear hcl
                  cases m with
                  | false =>
                    have Hw := pk (show ownB s at_ known x = false by unfold ownB; rw [← Hm.out]; rfl)
                    go_wp2_with fail
                    go_roundw
                    case rel => exact ⟨k + 1, _, by omega, by go_num, rfl, Hnext.out _ Hw.out HBr.out⟩
                    case measure => simp [intOf]; omega
                  | true =>
                    by_cases h4 : x.f4 ≤ known
                    · have Hw := pk (show ownB s at_ known x = true by unfold ownB; rw [← Hm.out]; simp [h4])
                      have hO2 : Kd.R k49 49 wr w5.heap.size (fun _ => True) v0 ((u.take k).filter (ownB s at_ known)) := Kd.R_below HO.out HBr.out
                      have HO2 := pk hO2
                      have HB5r := pk (below_step Hbo.out HBr.out)
                      have hfl : ((u.take k).filter (ownB s at_ known)).length ≤ 30 := Nat.le_trans (List.length_filter_le _ _) (by rw [List.length_take]; omega)
                      have Hfl := pk hfl
                      clear hfl hO2
                      go_wp2_with ((with_reducible refine gate_builtin (b := .append) (xs := #[.tmp 121, .tmp 123]) rfl ?_); at_builtin; refine Kd.R_append k49 (w0 := w5) w5.heap.size rfl (.tmp 121) (.tmp 123) 33 49 (.agg #[(.int .i64 0), (.int .i64 0), (.int .i64 0), (.int .i64 0), (.int .i64 0)]) 40 rfl Try.underlying33 info49 rfl (by decide) (by omega) v0 ((u.take k).filter (ownB s at_ known)) x [.int .i64 x.f0, .int .i64 x.f1, .int .i64 x.f2, .int .i64 x.f3, .int .i64 x.f4] (fun _ => True) (fun _ => False) rfl rfl ?aP (fun _ hk => hk.elim) ?aF ?aO ?aB ?aS ?aL ?_; (case aP => exact k49_mkM _ _ _ x); (case aB => exact HB5r.out); (case aF => exact (fun _ _ => trivial)); (case aO => exact HO2.out); (case aS => exact HB5r.out.size); (case aL => have := Hfl.out; omega); intro v1 w6 ho hb hg hat)
                      have Hnew : Pk (Jo w5 s u at_ known (k + 1) v1 w6) := pk ⟨by rw [Htk.out, if_pos Hw.out]; exact ho, hb⟩
                      clear ho hb hg hat
                      go_wp2_with fail
                      go_roundw
                      case rel => exact ⟨k + 1, _, by omega, by go_num, rfl, Hnew.out⟩
                      case measure => simp [intOf]; omega
                    · have Hw := pk (show ownB s at_ known x = false by unfold ownB; simp [h4])
                      go_wp2_with fail
                      go_roundw
                      case rel => exact ⟨k + 1, _, by omega, by go_num, rfl, Hnext.out _ Hw.out HBr.out⟩
                      case measure => simp [intOf]; omega
            · obtain rfl : k = u.length := by omega
              rw [List.take_length] at HO
              obtain ⟨o, ho⟩ : ∃ o, u.filter (ownB s at_ known) = o := ⟨_, rfl⟩
              rw [ho] at HO Hoth
              have hol : o.length ≤ 30 := by rw [← ho]; exact Nat.le_trans (List.length_filter_le _ _) hu30
              obtain ⟨Ao, co, rfl, hco, hCo⟩ := row49 HO.out
              have HCo := pk hCo
              have Hco := pk hco
              have HB6 := pk (below_step HB5.out Hbo.out)
              clear ho hCo hco hlt hk
              go_upto_if 128 with fail
              go_cut [20] (fun vo wx => ∃ p : List S49, p.length ≤ 30 ∧ Hid (p.Perm o ∧ Kd.R k49 49 wx w5.heap.size (fun _ => True) vo p ∧ Below wo.heap.size wo wx))
              case first =>
                by_cases h0 : o.length = 0
                · go_wp2_with fail
                  go_meet
                  exact ⟨o, hol, List.Perm.refl _, HO.out, Below.refl _ _⟩
                · have hpos : 0 < o.length := by omega
                  obtain ⟨q, hq, hql⟩ : ∃ q : Nat, Int.tmod (wrap64 turn) (o.length : Int) = (q : Int) ∧ q < o.length := by
                    have := Hwt.out
                    have hw : wrap64 turn = turn := by unfold wrap64; omega
                    rw [hw]
                    refine ⟨turn.toNat % o.length, ?_, Nat.mod_lt _ hpos⟩
                    rw [Int.tmod_eq_emod_of_nonneg this.1]
                    have : turn = (turn.toNat : Int) := by omega
                    rw [this]
                    exact (Int.natCast_emod ..).symm
                  obtain ⟨i0, hi0, _, hsz0, _⟩ := info_parts info49
                  have hcut1 := cut_from (P := Try.prog) 33 49 .i64 Try.underlying33 hi0 5 hsz0 Ao o.length co (q : Int) (by omega) (by omega)
                  have hcut2 := cut_to (P := Try.prog) 33 49 .i64 Try.underlying33 hi0 Ao o.length co (q : Int) (by omega) (by omega) Hco.out
                  simp only [Int.toNat_natCast] at hcut1 hcut2
                  have hd1 := Kd.C_drop (m := q) (c := co) HCo.out (by omega) Hco.out
                  have ht1 := Kd.C_take (m := q) HCo.out (by omega)
                  have hle1 : (o.drop q).length = o.length - q := List.length_drop
                  have hle2 : (o.take q).length = q := by rw [List.length_take]; omega
                  obtain ⟨A1, hA1⟩ : ∃ A1, (if co = q then Ao else Ao.map (·.add (q * 5))) = A1 := ⟨_, rfl⟩
                  simp only [hA1] at hcut1
                  rw [show k49.sz = 5 from rfl, hA1, hle1] at hd1
                  rw [hle2] at ht1
                  have Hd1 := pk hd1
                  have Ht1 := pk ht1
                  have Hle1 := pk hle1
                  have Hle2 := pk hle2
                  replace hA1 := pk hA1
                  have Hql := pk hql
                  clear hd1 ht1 hle1 hle2 hi0 hsz0 h0
                  go_upto_region 28 with fail
                  go_region_held3 (fun _ => True) (trivial) ((first
                    | (refine Kd.R_append_rows_step k49 (w0 := wo) wo.heap.size (by rfl) (.tmp 134) (.tmp 137) 33 49 (.agg #[(.int .i64 0), (.int .i64 0), (.int .i64 0), (.int .i64 0), (.int .i64 0)]) 40 (by rfl) Try.underlying33 info49 (by rfl) (by decide) (by omega) _ [] (o.drop q) A1 (o.length - q) _ (fun _ => True) (fun _ => False) (by rfl) (by rfl) (lit_R _) (Kd.C_below Hd1.out (Below.alloc (Below.refl _ _).drew (Nat.le_refl _) _)) (fun _ _ h => h) (fun _ h => h.elim) (fun _ _ => trivial) (Below.alloc (Below.refl _ _).drew (Nat.le_refl _) _) (by simp) (by simp; omega) ?_; intro v1 w6 ho6 hb6 hg6 hat6)
                    | (refine Kd.R_append_rows_step k49 (w0 := wo) wo.heap.size (by rfl) (.tmp 138) (.tmp 141) 33 49 (.agg #[(.int .i64 0), (.int .i64 0), (.int .i64 0), (.int .i64 0), (.int .i64 0)]) 40 (by rfl) Try.underlying33 info49 (by rfl) (by decide) (by omega) v1 ([] ++ o.drop q) (o.take q) Ao q _ (fun _ => True) (fun _ => False) (by rfl) (by rfl) ho6 (Kd.C_below Ht1.out hb6) (fun _ _ h => h) (fun _ h => h.elim) (fun _ _ => trivial) hb6 hb6.size (by simp; omega) ?_; intro v2 w7 ho7 hb7 hg7 hat7)))
                  rw [List.nil_append] at ho7
                  have Hfin : Pk ((o.drop q ++ o.take q).Perm o ∧ Kd.R k49 49 w7 w5.heap.size (fun _ => True) v2 (o.drop q ++ o.take q) ∧ Below wo.heap.size wo w7) := pk ⟨turn_perm o q, Kd.R_lower ho7 Hbo.out.size, hb7⟩
                  clear ho6 hb6 hg6 hat6 ho7 hb7 hg7 hat7
                  go_wp2_with fail
                  go_meet
                  exact ⟨o.drop q ++ o.take q, by rw [(turn_perm o q).length_eq]; exact hol, Hfin.out⟩
              case rest =>
                obtain ⟨p, hpl, hpm, hRp, hbp⟩ := hcut
                obtain ⟨Ap, cp, rfl, hcp, hCp⟩ := row49 hRp
                have HCp := pk hCp
                have Hcp := pk hcp
                have Hroom := pk (Hoth.out p hpm)
                have HB7 := pk (below_step HB6.out hbp)
                clear hRp hCp hcp hpm hbp Hoth HO HCo Hco
                go_wp2_with fail
                go_loopw [27, 145] (fun v i wr => ∃ (k : Nat) (v0 : Value), k ≤ l.length ∧ i = .int .i64 k ∧ v0 = v ∧ Hid (Je wc l known k v0 wr)) (fun _ i _ => l.length - (intOf i).toNat)
                case atStart => exact ⟨0, _, Nat.zero_le _, rfl, rfl, Kd.R_nil _ _ _ _ _, Below.refl _ _⟩
                case round =>
                  obtain ⟨k, v0, hk, rfl, hv0, hh⟩ := hrel
                  subst hv0
                  obtain ⟨hO, hbo⟩ := hh.out
                  have HO := pk hO
                  have Hbo2 := pk hbo
                  clear hh hO hbo
                  by_cases hlt : k < l.length
                  · obtain ⟨ad, hA, hcells⟩ := at_24 (Kd.C_below HR.out (below_step HB7.out Hbo2.out)) k hlt
                    generalize hx : l.getD k z24 = x at hcells
                    have hget : l[k] = x := by rw [← hx, List.getD_eq_getElem?_getD, List.getElem?_eq_getElem hlt]; rfl
                    have Htk := pk (take_snoc (earlyB known) l k hlt)
                    rw [hget] at Htk
                    have Hfl := pk (show ((l.take k).filter (earlyB known)).length ≤ 4096 from Nat.le_trans (List.length_filter_le _ _) (by rw [List.length_take]; omega))
                    clear hx hget
                    cases hA
                    by_cases h2 : x.f2 ≤ known
                    · have Hw := pk (show earlyB known x = true by unfold earlyB; simp [h2])
                      go_wp2_with ((with_reducible refine gate_builtin (b := .append) (xs := #[.tmp 153, .tmp 155]) rfl ?_); at_builtin; refine Kd.R_append k24 (w0 := wc) wc.heap.size rfl (.tmp 153) (.tmp 155) 22 24 (.agg #[(.int .i64 0), (.int .i64 0), (.int .i64 0), (.int .i64 0), (.int .i64 0), (.int .i64 0), (.int .i64 0), (.bool false)]) 64 rfl Try.underlying22 info24 rfl (by decide) (by omega) v0 ((l.take k).filter (earlyB known)) x [.int .i64 x.f0, .int .i64 x.f1, .int .i64 x.f2, .int .i64 x.f3, .int .i64 x.f4, .int .i64 x.f5, .int .i64 x.f6, .bool x.f7] (fun _ => True) (fun _ => False) rfl ?aX ?aP (fun _ hk => hk.elim) ?aF ?aO ?aB ?aS ?aL ?_; (case aX => first | rfl | (show Value.slice _ 1 1 = Value.slice _ 1 1; simp)); (case aP => exact k24_mkM _ _ _ x); (case aB => exact below_alloc Hbo2.out _); (case aF => exact (fun _ _ => trivial)); (case aO => exact Kd.R_alloc HO.out _); (case aS => exact (below_alloc Hbo2.out _).size); (case aL => have := Hfl.out; omega); intro v1 w6 ho hb hg hat)
                      have Hnew : Pk (Je wc l known (k + 1) v1 w6) := pk ⟨by rw [Htk.out, if_pos Hw.out]; exact ho, hb⟩
                      clear ho hb hg hat
                      go_wp2_with fail
                      go_roundw
                      case rel => exact ⟨k + 1, _, by omega, by go_num, rfl, Hnew.out⟩
                      case measure => simp [intOf]; omega
                    · have Hw := pk (show earlyB known x = false by unfold earlyB; simp [h2])
                      go_wp2_with fail
                      go_roundw
                      case rel => exact ⟨k + 1, _, by omega, by go_num, rfl, by rw [Htk.out, if_neg (by simp [Hw.out]), List.append_nil]; exact Kd.R_alloc HO.out _, below_alloc Hbo2.out _⟩
                      case measure => simp [intOf]; omega
                  · obtain rfl : k = l.length := by omega
                    rw [List.take_length] at HO
                    obtain ⟨Ae, ce, rfl, hce, hCe⟩ := row24 HO.out
                    have HCe := pk hCe
                    have Hce := pk hce
                    clear hCe hce hlt hk
                    go_wp2_with fail
                    refine (budgets_Room.calls Ae ce (l.filter (earlyB known)) Ap cp p kind value at_ known n1 o1 0 _ HCe.out Hce.out (Kd.C_below HCp.out Hbo2.out) Hcp.out (by rw [room_f, Hroom.out])).mono ?_
                    rintro e w8 ⟨rfl, hb8⟩
                    have HB8 := pk (below_step (below_step HB7.out Hbo2.out) hb8)
                    clear hb8
                    cases o1 with
                    | false =>
                      go_wp2_with fail
                      go_ret
                      exact ⟨rfl, HB8.out⟩
                    | true =>
                      go_wp2_with fail
                      go_ret
                      exact ⟨rfl, HB8.out⟩
    · go_enter Try.func8, Try.ntmps8
      go_wp2_with fail
      refine (sane_hook _).mono ?_
      rintro e w1 ⟨rfl, hb1⟩
      have HB1 := pk hb1
      clear hb1
      go_wp2_with fail
      refine (signatorylaw18_right.calls _ A c l true _ (Kd.C_below HR.out HB1.out) Hc.out Hright.out).mono ?_
      rintro e w2 ⟨rfl, hb2⟩
      have HB2 := pk (below_step HB1.out hb2)
      clear hb2
      go_wp2_with fail
      go_ret
      exact ⟨rfl, HB2.out⟩
end Oth
end Go.Proofs.Ytaemdkbfdpjimaa.T
