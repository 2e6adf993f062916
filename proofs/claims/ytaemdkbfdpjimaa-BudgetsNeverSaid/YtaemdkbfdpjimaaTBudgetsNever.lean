/-
The law BudgetsNever, by a walk of the law by hand over the contracts of what it calls: it returns true. Condition: the rows are read, and the arguments are of their kinds.
-/
import Derived.Test.YtaemdkbfdpjimaaVz
import Derived.Test.YtaemdkbfdpjimaaP24
import Derived.Test.YtaemdkbfdpjimaaP24
import Derived.Test.YtaemdkbfdpjimaaWd
import Derived.Test.YtaemdkbfdpjimaaP8
import Derived.Test.YtaemdkbfdpjimaaWe
import Derived.Test.YtaemdkbfdpjimaaMz
import Derived.Test.YtaemdkbfdpjimaaOp
import Derived.Deep.RegionHeld3
namespace Go.Proofs.Ytaemdkbfdpjimaa.T
open Go.RowKit Go.Proofs.YtaemdkbfdpjimaaW.PrintWords Go.Proofs.YtaemdkbfdpjimaaW.PrintLast Go.Proofs.YtaemdkbfdpjimaaW.PrintMore Go.Proofs.Ytaemdkbfdpjimaa.P Go.Proofs.Ytaemdkbfdpjimaa.W Go.Proofs.Ytaemdkbfdpjimaa.S Go.Proofs.Ytaemdkbfdpjimaa.U Go.Proofs.Ytaemdkbfdpjimaa.V
set_option linter.unusedVariables false
namespace Nev
theorem right_l (l : List S24) (k : Nat) (hk : l.length + 1 < k) : signatorylaw18_right.f k l = some (decide (l.length ≤ 30) && decide (checkF l = 0)) := by
  unfold signatorylaw18_right.f
  by_cases h : l.length ≤ 30
  · rw [if_pos (by omega), check_r l k hk]
    simp only [Option.bind_some, h, decide_true, Bool.true_and]
    congr 1
  · rw [if_neg (by omega)]
    simp [h]
theorem row49 {W : World} {base : Nat} {ok : Nat → Prop} {v : Value} {l : List S49} (h : Kd.R k49 49 W base ok v l) : ∃ A c, v = .slice A l.length c ∧ l.length ≤ c ∧ Kd.C k49 W A l.length l := by
  obtain ⟨A, c, e⟩ := Kd.R_slice h
  subst e
  exact ⟨A, c, rfl, (Kd.R_reads' h).2.1, (Kd.R_reads' h).2.2⟩
theorem row24 {W : World} {base : Nat} {ok : Nat → Prop} {v : Value} {l : List S24} (h : Kd.R k24 24 W base ok v l) : ∃ A c, v = .slice A l.length c ∧ l.length ≤ c ∧ Kd.C k24 W A l.length l := by
  obtain ⟨A, c, e⟩ := Kd.R_slice h
  subst e
  exact ⟨A, c, rfl, (Kd.R_reads' h).2.1, (Kd.R_reads' h).2.2⟩
theorem room_f (l : List S24) (u : List S49) (a b c d : Int) : budgets_Room.f l u a b c d = some (roomF l u a b c d) := rfl
theorem stand_ok {l : List S24} {kind at_ known : Int} (h : checkF l = 0) (h1 : betweenF 0 15 [kind] = true) (h2 : betweenF 0 1099511627775 [at_, known] = true) (k : Nat) (hk : l.length + 1 < k) : budgets_Standing.f k l kind at_ known = some (standingF l kind at_ known, 0) := by
  rw [standing_p l kind at_ known k hk]
  unfold standF
  rw [if_neg (by simp [h]), if_neg (by rw [h1, h2]; simp)]
theorem at_47 {w : World} {A : Option Addr} {n : Nat} {xs : List S47} (h : Kd.C k47 w A n xs) (k : Nat) (hk : k < n) :
    ∃ ad, A = some ad ∧ w.cell? (ad.add (k * 3)) = some (.int .u16 (xs.getD k z47).f0) ∧ w.cell? ⟨(ad.add (k * 3)).block, (ad.add (k * 3)).off + 1, none⟩ = some (.int .u8 (xs.getD k z47).f1) ∧ w.cell? ⟨(ad.add (k * 3)).block, (ad.add (k * 3)).off + 2, none⟩ = some (.int .u8 (xs.getD k z47).f2) := by
  have := at_T47 h (k : Int) (by omega) (by omega)
  simpa [rd_T47] using this
theorem ask_range {a : S47} (h : WF47 a) : (0 ≤ a.f0 ∧ a.f0 ≤ 65535) ∧ (0 ≤ a.f1 ∧ a.f1 ≤ 255) ∧ 0 ≤ a.f2 ∧ a.f2 ≤ 255 := by
  obtain ⟨h0, h1, h2⟩ := h
  simp [Lit.wf, IntKind.min, IntKind.max, IntKind.signed, IntKind.bits] at h0 h1 h2
  omega
theorem use_range {x : S49} (h : useF x = true) : 0 ≤ x.f2 ∧ x.f2 ≤ 1099511627776 ∧ 0 ≤ x.f3 ∧ x.f3 ≤ 1099511627775 := by
  rw [use_b] at h
  unfold outB at h
  simp at h
  omega
abbrev ei : Int → Value := .int .i64
theorem ilaw : MapLaw Try.prog 50 3 3 ei ei (.int .i64 0) := int_law Try.underlying50 Try.underlying3 (fun w => by kernel_rfl)
/-- between two rounds of the loop over the budgets: all so far are from the beginning -/
def J1 (w2 : World) (l : List S24) (k : Nat) (W : World) : Prop := (∀ y ∈ l.take k, y.f1 ≤ 0 ∧ y.f2 ≤ 0) ∧ Below w2.heap.size w2 W
/-- between two documents -/
def J2 (w3 : World) (l : List S24) (k : Nat) (v : Value) (t : Int) (u : List S49) (W : World) : Prop :=
  Kd.R k49 49 W w3.heap.size (fun _ => True) v u ∧ Below w3.heap.size w3 W ∧ V.Good u t k ∧ V.Within l u ∧ 0 ≤ t ∧ t ≤ 65535 * k
/-- between two uses: the two maps -/
def J5 (wb : World) (B1 B2 : Nat) (b : S24) (u : List S49) (j : Nat) (W : World) : Prop :=
  IsMapB ei ei W B1 (manyM b (u.take j)) ∧ IsMapB ei ei W B2 (sumM b (u.take j)) ∧ Below wb.heap.size wb W
/-- between two entries of the map of how many -/
def J6 (wb : World) (B1 B2 r : Nat) (b : S24) (u : List S49) (W : World) : Prop :=
  ∃ left, Rng ei ei W B1 r left ∧ (∀ q ∈ left, q ∈ manyM b u) ∧ IsMapB ei ei W B2 (sumM b u) ∧ Below wb.heap.size wb W
set_option maxHeartbeats 8000000 in
set_option maxRecDepth 100000 in
theorem nev_any (A : Option Addr) (c : Nat) (l : List S24) (B : Option Addr) (d : Nat) (asks : List S47) (w : World) (hr : Kd.C k24 w A l.length l) (hc : l.length ≤ c) (hra : Kd.C k47 w B asks.length asks) (hca : asks.length ≤ d)
    (hl : ∀ y ∈ l, WF24 y) (hla : ∀ y ∈ asks, WF47 y) :
    Calls Try.prog 6 #[.slice A l.length c, .slice B asks.length d] w fun e w' => e = .returned (.bool true) ∧ Below w.heap.size w w' := by
  have hright := right_l l (l.length + 2) (by omega)
  generalize hb : (decide (l.length ≤ 30) && decide (checkF l = 0)) = b at hright
  have HR := pk hr
  have Hc := pk hc
  have HAs := pk hra
  have Hd := pk hca
  have Hla := pk hla
  have Hright := pk hright
  clear hr hc hra hca hl hla hright
  by_cases ha40 : asks.length ≤ 40
  · cases b with
    | false =>
      replace hb := pk hb
      go_enter Try.func6, Try.ntmps6
      go_wp2_with fail
      refine (sane_hook _).mono ?_
      rintro e w1 ⟨rfl, hb1⟩
      have HB1 := pk hb1
      clear hb1
      go_wp2_with fail
      refine (signatorylaw18_right.calls _ A c l false _ (Kd.C_below HR.out HB1.out) Hc.out Hright.out).mono ?_
      rintro e w2 ⟨rfl, hb2⟩
      have HB2 := pk (below_step HB1.out hb2)
      clear hb2
      go_wp2_with fail
      go_ret
      exact ⟨rfl, HB2.out⟩
    | true =>
      have hbb := hb
      simp only [Bool.and_eq_true, decide_eq_true_eq] at hbb
      obtain ⟨hlen, hck⟩ := hbb
      obtain ⟨hn, hp, hrt⟩ := check_ok hck
      have Hck := pk hck
      have Hrt := pk hrt
      clear hb hck hp hrt
      go_enter Try.func6, Try.ntmps6
      go_wp2_with fail
      refine (sane_hook _).mono ?_
      rintro e w1 ⟨rfl, hb1⟩
      have HB1 := pk hb1
      clear hb1
      go_wp2_with fail
      refine (signatorylaw18_right.calls _ A c l true _ (Kd.C_below HR.out HB1.out) Hc.out Hright.out).mono ?_
      rintro e w2 ⟨rfl, hb2⟩
      have HB2 := pk (below_step HB1.out hb2)
      clear hb2

      go_wp2_with fail
      go_loopw [38] (fun i wr => ∃ k : Nat, k ≤ l.length ∧ i = .int .i64 k ∧ Hid (J1 w2 l k wr)) (fun i _ => l.length - (intOf i).toNat)
      case atStart => exact ⟨0, Nat.zero_le _, rfl, by simp, Below.refl _ _⟩
      case round =>
        obtain ⟨k, hk, rfl, hh⟩ := hrel
        obtain ⟨hz, hbo⟩ := hh.out
        have Hz := pk hz
        have Hbo := pk hbo
        clear hh hz hbo
        by_cases hlt : k < l.length
        · obtain ⟨ad, hA, hcells⟩ := at_24 (Kd.C_below HR.out (below_step HB2.out Hbo.out)) k hlt
          generalize hx : l.getD k z24 = x at hcells
          have hget : l[k] = x := by rw [← hx, List.getD_eq_getElem?_getD, List.getElem?_eq_getElem hlt]; rfl
          have Htk : Pk (l.take (k + 1) = l.take k ++ [x]) := pk (by rw [List.take_succ_eq_append_getElem hlt, hget])
          clear hx hget
          cases hA
          by_cases h1 : x.f1 ≤ 0
          · by_cases h2 : x.f2 ≤ 0
            · go_wp2_with fail
              go_roundw
              case rel => exact ⟨k + 1, by omega, by go_num, by
                rw [Htk.out]
                intro y hy
                rcases List.mem_append.1 hy with hy | hy
                · exact Hz.out y hy
                · obtain rfl : y = x := by simpa using hy
                  exact ⟨h1, h2⟩, below_alloc Hbo.out _⟩
              case measure => simp [intOf]; omega
            · go_wp2_with fail
              go_ret
              exact ⟨rfl, below_alloc (below_step HB2.out Hbo.out) _⟩
          · go_wp2_with fail
            go_ret
            exact ⟨rfl, below_alloc (below_step HB2.out Hbo.out) _⟩
        · obtain rfl : k = l.length := by omega
          rw [List.take_length] at Hz
          have Hzero : Pk (V.Zero l) := pk (fun x hx => by
            have h1 := Hz.out x hx
            have h2 := right_range (Hrt.out x hx)
            have h3 := Hrt.out x hx
            unfold rightF betweenF outB at h3
            simp at h3
            omega)
          obtain ⟨w3, hw3⟩ : ∃ w3 : World, w3 = wr := ⟨_, rfl⟩
          subst hw3
          have HB3 := pk (below_step HB2.out Hbo.out)
          clear Hz Hbo hlt hk HB2 HB1 Hright
          go_wp2_with fail
          go_loopw [7, 8, 53] (fun v7 v8 i wr => ∃ (k : Nat) (v0 : Value) (t : Int) (u : List S49), k ≤ asks.length ∧ i = .int .i64 k ∧ v0 = v7 ∧ v8 = .int .i64 t ∧ Hid (J2 w3 l k v0 t u wr)) (fun _ _ i _ => asks.length - (intOf i).toNat)
          case atStart => exact ⟨0, _, 0, [], Nat.zero_le _, rfl, rfl, rfl, Kd.R_nil _ _ _ _ _, Below.refl _ _, good_nil 0 0, within_nil Hck.out, by omega, by omega⟩
          case round =>
            obtain ⟨k, v0, t, u, hk, rfl, hv0, rfl, hh⟩ := hrel
            subst hv0
            obtain ⟨hO, hbo, hg, hw, ht0, htn⟩ := hh.out
            obtain ⟨wo, hwo⟩ : ∃ wo : World, wo = wr := ⟨_, rfl⟩
            subst hwo
            obtain ⟨Au, cu, rfl, hcu, hCu⟩ := row49 hO
            have HO := pk hO
            have HCu := pk hCu
            have Hcu := pk hcu
            have Hbo := pk hbo
            have Hg := pk hg
            have Hw := pk hw
            clear hh hO hbo hg hw hCu hcu
            by_cases hlt : k < asks.length
            · obtain ⟨ad, hA, hcells⟩ := at_47 (Kd.C_below HAs.out (below_step HB3.out Hbo.out)) k hlt
              generalize hx : asks.getD k z47 = x at hcells
              have hget : asks[k] = x := by rw [← hx, List.getD_eq_getElem?_getD, List.getElem?_eq_getElem hlt]; rfl
              obtain ⟨ha0, ha1, ha2⟩ := ask_range (Hla.out x (by rw [← hget]; exact List.getElem_mem hlt))
              obtain ⟨x0, x1, x2⟩ := x
              dsimp only at hcells ha0 ha1 ha2
              obtain ⟨kd, hkd, hkd2⟩ : ∃ kd : Int, Int.tmod x1 16 = kd ∧ 0 ≤ kd ∧ kd ≤ 15 := ⟨_, rfl, by rw [Int.tmod_eq_emod_of_nonneg ha1.1]; omega⟩
              have hS := never_step Hck.out hlen Hzero.out Hg.out Hw.out ht0 htn (show k < 40 by omega) ha0 hkd2 (show 0 ≤ x2 ∧ x2 ≤ 255 from ha2)
              obtain ⟨t', ht'⟩ : ∃ t' : Int, t + x0 = t' := ⟨_, rfl⟩
              have htr : 0 ≤ t' ∧ t' ≤ 65535 * ((k + 1 : Nat) : Int) := by omega
              obtain ⟨n1, o1, e1, hroom⟩ : ∃ n1 o1 e1, roomF l u kd x2 t' t' = (n1, o1, e1) := ⟨_, _, _, rfl⟩
              rw [ht', hroom] at hS
              obtain ⟨he1, ho1, hyes, hno⟩ := hS
              dsimp only at he1 ho1 hyes
              subst he1
              have Hroom := pk hroom
              have Hyes := pk hyes
              have Hno := pk hno
              have Hk := pk (show k < 40 by omega)
              have Htr := pk htr
              have Hlen := pk (Hg.out.len)
              have Ha := pk (And.intro ha0 (And.intro ha1 ha2))
              have c0 : wrap64 x0 = x0 := by unfold wrap64; omega
              have c1 : wrap64 x1 = x1 := by unfold wrap64; omega
              have c2 : wrap64 x2 = x2 := by unfold wrap64; omega
              have c3 : wrap64 t' = t' := by unfold wrap64; omega
              have c4 : wrap64 kd = kd := by unfold wrap64; omega
              have d0 : IntKind.i64.wrap x0 = x0 := IntWalk.i64_in _ (by omega)
              have d1 : IntKind.i64.wrap x1 = x1 := IntWalk.i64_in _ (by omega)
              have d2 : IntKind.i64.wrap x2 = x2 := IntWalk.i64_in _ (by omega)
              have d3 : IntKind.i64.wrap t' = t' := IntWalk.i64_in _ (by omega)
              have d4 : IntKind.i64.wrap kd = kd := IntWalk.i64_in _ (by omega)
              clear hx hget hroom hyes hno ht0 htn ha0 ha1 ha2 hkd2 htr
              cases hA
              go_wp2_with fail
              refine (budgets_Room.calls A c l Au cu u kd x2 t' t' n1 o1 0 _ (Kd.C_below HR.out (below_alloc (below_alloc (below_step HB3.out Hbo.out) _) _)) Hc.out (Kd.C_below HCu.out (((Below.refl _ wo).alloc (Nat.le_refl _) _).alloc (by simp) _)) Hcu.out (by rw [room_f, Hroom.out])).mono ?_
              rintro e w4 ⟨rfl, hb4⟩
              have HX : Pk (w4.heap[wo.heap.size + 1]? = some (.cells #[.int .i64 k, .int .i64 kd, .int .i64 x2, .int .i64 t', .int .i64 t'] 49)) := pk ((hb4.block (wo.heap.size + 1) (by simp)).trans (by have := Go.heap_alloc_new (wo.alloc (.cells #[.int .u16 x0, .int .u8 x1, .int .u8 x2] 47)) (.cells #[.int .i64 k, .int .i64 kd, .int .i64 x2, .int .i64 t', .int .i64 t'] 49); simpa using this))
              have HBr : Pk (Below wo.heap.size wo w4) := pk ((((Below.refl _ wo).alloc (Nat.le_refl _) _).alloc (by simp) _).trans (hb4.mono (by simp; omega)))
              clear hb4
              cases o1 with
              | false =>
                have hn1 : (n1 == -1) = false := by
                  have h : decide (n1 = -1) = false := ho1.symm
                  simpa using h
                clear ho1
                go_wp2_with fail
                go_roundw
                case rel => exact ⟨k + 1, _, t', u, by omega, by go_num, rfl, rfl, Kd.R_below HO.out HBr.out, below_step Hbo.out HBr.out, Hno.out, Hw.out, Htr.out.1, Htr.out.2⟩
                case measure => simp [intOf]; omega
              | true =>
                have hn1 : (n1 == -1) = true := by
                  have h : decide (n1 = -1) = true := ho1.symm
                  simpa using h
                clear ho1
                have hcl := fun q => cell_of_row w4 (wo.heap.size + 1) q _ 49 (0, 0) HX.out
                have hx0 : w4.cell? ⟨wo.heap.size + 1, 0, none⟩ = some (.int .i64 k) := hcl 0
                have hx1 : w4.cell? ⟨wo.heap.size + 1, 1, none⟩ = some (.int .i64 kd) := hcl 1
                have hx2 : w4.cell? ⟨wo.heap.size + 1, 2, none⟩ = some (.int .i64 x2) := hcl 2
                have hx3 : w4.cell? ⟨wo.heap.size + 1, 3, none⟩ = some (.int .i64 t') := hcl 3
                have hx4 : w4.cell? ⟨wo.heap.size + 1, 4, none⟩ = some (.int .i64 t') := hcl 4
                have HO2 : Pk (Kd.R k49 49 w4 w3.heap.size (fun _ => True) (.slice Au u.length cu) u) := pk (Kd.R_below HO.out HBr.out)
                have HB5 := pk (below_step Hbo.out HBr.out)
                clear hcl
                go_wp2_with ((with_reducible refine gate_builtin (b := .append) (xs := #[.tmp 96, .tmp 98]) rfl ?_); at_builtin; refine Kd.R_append k49 (w0 := w3) w3.heap.size rfl (.tmp 96) (.tmp 98) 33 49 (.agg #[(.int .i64 0), (.int .i64 0), (.int .i64 0), (.int .i64 0), (.int .i64 0)]) 40 rfl Try.underlying33 info49 rfl (by decide) (by omega) (.slice Au u.length cu) u (⟨k, kd, x2, t', t'⟩ : S49) [.int .i64 k, .int .i64 kd, .int .i64 x2, .int .i64 t', .int .i64 t'] (fun _ => True) (fun _ => False) rfl ?aX ?aP (fun _ hk => hk.elim) ?aF ?aO ?aB ?aS ?aL ?_; (case aX => first | rfl | (show Value.slice _ 1 1 = Value.slice _ 1 1; simp)); (case aP => exact k49_mkM _ _ _ (⟨k, kd, x2, t', t'⟩ : S49)); (case aB => exact HB5.out); (case aF => exact (fun _ _ => trivial)); (case aO => exact HO2.out); (case aS => exact HB5.out.size); (case aL => have := Hlen.out; have := Hk.out; omega); intro v1 w6 ho hb hg hat)
                have Hnew : Pk (J2 w3 l (k + 1) v1 t' (u ++ [⟨k, kd, x2, t', t'⟩]) w6) := pk ⟨ho, hb, (Hyes.out rfl).1, (Hyes.out rfl).2, Htr.out.1, Htr.out.2⟩
                clear ho hb hg hat
                go_wp2_with fail
                go_roundw
                case rel => exact ⟨k + 1, _, t', _, by omega, by go_num, rfl, rfl, Hnew.out⟩
                case measure => simp [intOf]; omega
            · obtain rfl : k = asks.length := by omega
              have HB4 := pk (below_step HB3.out Hbo.out)
              have Ht : Pk (0 ≤ t ∧ t ≤ 65535 * 40) := pk (by omega)
              have Hul : Pk (u.length ≤ 40) := pk (by have := Hg.out.len; omega)
              clear HO Hbo hlt hk ht0 htn HAs Hla Hd HB3
              go_wp2_with fail
              go_loopw [101] (fun i wr => ∃ k : Nat, k ≤ 16 ∧ i = .int .i64 k ∧ Hid (Below wo.heap.size wo wr)) (fun i _ => 16 - (intOf i).toNat)
              case atStart => exact ⟨0, by omega, rfl, Below.refl _ _⟩
              case round =>
                obtain ⟨k, hk, rfl, hh⟩ := hrel
                obtain ⟨w5, hw5⟩ : ∃ w5 : World, w5 = wr := ⟨_, rfl⟩
                subst hw5
                have Hb5 := pk hh.out
                clear hh
                by_cases hlt : k < 16
                · have hk1 : betweenF 0 15 [(k : Int)] = true := by rw [one_b]; unfold outB; simp; omega
                  have hk3 : betweenF 0 1099511627775 [t, t] = true := by have := Ht.out; rw [two_b, one_b]; unfold outB; simp; omega
                  have S1 := pk (stand_ok Hck.out hk1 hk3 (l.length + 2) (by omega))
                  have Hst : Pk (∀ b ∈ standingF l k t t, 1 ≤ b.f4 ∧ ∀ p n : Int, (p, n) ∈ manyM b u → n ≤ b.f5 ∧ (mget (sumM b u) p).getD 0 ≤ b.f6) := pk (fun b hb => ⟨(right_range (Hrt.out b (List.mem_filter.1 hb).1)).1, fun p n hm => within_map Hck.out Hzero.out Hw.out Ht.out.1 hb hm⟩)
                  have hsl : (standingF l k t t).length ≤ 30 := Nat.le_trans (stand_len _ _ _ _) hlen
                  generalize standingF l k t t = s at S1 Hst hsl
                  clear hk1 hk3
                  go_wp2_with fail
                  refine (budgets_Standing.calls _ A c l k t t s 0 _ (Kd.C_below HR.out (below_step HB4.out Hb5.out)) Hc.out S1.out).mono ?_
                  rintro e w6 ⟨v6, rfl, hR6, hb6⟩
                  obtain ⟨As, cs, rfl, hcs, hCs⟩ := row24 hR6
                  have HCs := pk hCs
                  have HB6 := pk (below_step Hb5.out hb6)
                  clear hR6 hCs hcs hb6 S1
                  go_wp2_with fail
                  go_loopw [116] (fun i wr => ∃ m : Nat, m ≤ s.length ∧ i = .int .i64 m ∧ Hid (Below w6.heap.size w6 wr)) (fun i _ => s.length - (intOf i).toNat)
                  case atStart => exact ⟨0, by omega, rfl, Below.refl _ _⟩
                  case round =>
                    obtain ⟨m, hm, rfl, hh⟩ := hrel
                    obtain ⟨w7, hw7⟩ : ∃ w7 : World, w7 = wr := ⟨_, rfl⟩
                    subst hw7
                    have Hb7 := pk hh.out
                    clear hh
                    by_cases hmt : m < s.length
                    · obtain ⟨ad, hA, hcells⟩ := at_24 (Kd.C_below HCs.out Hb7.out) m hmt
                      generalize hx : s.getD m z24 = b at hcells
                      have hget : s[m] = b := by rw [← hx, List.getD_eq_getElem?_getD, List.getElem?_eq_getElem hmt]; rfl
                      obtain ⟨hb4, hbm⟩ := Hst.out b (by rw [← hget]; exact List.getElem_mem hmt)
                      have Hbm := pk hbm
                      clear hx hget hbm
                      cases hA
                      have hmm := @run_makeMap Try.prog
                      go_wp2_with fail
                      clear hmm hcells
                      obtain ⟨wb, hwb⟩ : ∃ wb : World, wb = w7.alloc (.cells #[.int .i64 b.f0, .int .i64 b.f1, .int .i64 b.f2, .int .i64 b.f3, .int .i64 b.f4, .int .i64 b.f5, .int .i64 b.f6, .bool b.f7] 24) := ⟨_, rfl⟩
                      have hwbs : wb.heap.size = w7.heap.size + 1 := by rw [hwb]; simp
                      have HXb : Pk (wb.heap[w7.heap.size]? = some (.cells #[.int .i64 b.f0, .int .i64 b.f1, .int .i64 b.f2, .int .i64 b.f3, .int .i64 b.f4, .int .i64 b.f5, .int .i64 b.f6, .bool b.f7] 24)) := pk (by rw [hwb]; exact Go.heap_alloc_new w7 _)
                      have HBb : Pk (Below w7.heap.size w7 wb) := pk (by rw [hwb]; exact (Below.refl _ w7).alloc (Nat.le_refl _) _)
                      simp only [← hwb]
                      replace hwb := pk hwb
                      go_loopw [127] (fun i wr => ∃ j : Nat, j ≤ u.length ∧ i = .int .i64 j ∧ Hid (J5 wb (w7.heap.size + 1) (w7.heap.size + 2) b u j wr)) (fun i _ => u.length - (intOf i).toNat)
                      case atStart => exact ⟨0, Nat.zero_le _, rfl, by
                        have h1 : IsMapB ei ei (wb.alloc (.map #[] 0)) (w7.heap.size + 1) ([] : List (Int × Int)) := by rw [← hwbs]; exact IsMapB.new wb
                        have h2 : IsMapB ei ei ((wb.alloc (.map #[] 0)).alloc (.map #[] 0)) (w7.heap.size + 2) ([] : List (Int × Int)) := by
                          have := IsMapB.new (ek := ei) (ev := ei) (K := Int) (V := Int) (wb.alloc (.map #[] 0))
                          simpa [hwbs] using this
                        exact ⟨h1.at_ (Below.heap_alloc _ _ _ (by simp; omega)), h2, (((Below.refl _ _).alloc (Nat.le_refl _) _).alloc (by simp) _)⟩⟩
                      case round =>
                        obtain ⟨j, hj, rfl, hh⟩ := hrel
                        obtain ⟨hm1, hm2, hbr⟩ := hh.out
                        have hB1 : w7.heap.size + 1 < wr.heap.size := hm1.lt
                        have hB2 : w7.heap.size + 2 < wr.heap.size := hm2.lt
                        have Hm1 := pk hm1
                        have Hm2 := pk hm2
                        have Hbr := pk hbr
                        have HXr : Pk (wr.heap[w7.heap.size]? = some (.cells #[.int .i64 b.f0, .int .i64 b.f1, .int .i64 b.f2, .int .i64 b.f3, .int .i64 b.f4, .int .i64 b.f5, .int .i64 b.f6, .bool b.f7] 24)) := pk ((hbr.block _ (by omega)).trans HXb.out)
                        have hul := Hul.out
                        clear hh hm1 hm2 hbr
                        by_cases hjt : j < u.length
                        · obtain ⟨ad, hA, hcells⟩ := Rm.at_49 (Kd.C_below HCu.out (below_step (below_step HB6.out (below_step Hb7.out HBb.out)) Hbr.out)) j hjt
                          generalize hx : u.getD j z49 = x at hcells
                          have hget : u[j] = x := by rw [← hx, List.getD_eq_getElem?_getD, List.getElem?_eq_getElem hjt]; rfl
                          have hux := use_range (Hg.out.use x (by rw [← hget]; exact List.getElem_mem hjt)).1
                          have Htk : Pk (u.take (j + 1) = u.take j ++ [x]) := pk (by rw [List.take_succ_eq_append_getElem hjt, hget])
                          obtain ⟨p, hp⟩ : ∃ p, pd b x = p := ⟨_, rfl⟩
                          have Hpd := pk hp
                          obtain ⟨n0, hn0⟩ : ∃ n0, (mget (manyM b (u.take j)) p).getD 0 = n0 := ⟨_, rfl⟩
                          obtain ⟨s0, hs0⟩ : ∃ s0, (mget (sumM b (u.take j)) p).getD 0 = s0 := ⟨_, rfl⟩
                          have Hnr : Pk (0 ≤ n0 ∧ n0 ≤ 40 ∧ 0 ≤ s0 ∧ s0 ≤ 1099511627776 * 40 ∧ 0 ≤ x.f2 ∧ x.f2 ≤ 1099511627776) := pk (by
                            have h1 := many_get b (u.take j) p
                            have h2 := sum_get b (u.take j) p
                            have h3 := cnt_le b p (u.take j)
                            have h4 := tot_range (u := u.take j) (fun y hy => by have := use_range (Hg.out.use y (List.mem_of_mem_take hy)).1; exact ⟨this.1, this.2.1⟩) b p
                            have h5 := Hul.out
                            rw [List.length_take] at h3 h4
                            omega)
                          have Hn0 := pk hn0
                          have Hs0 := pk hs0
                          have Hskip : Pk (kindM b x = false → ∀ o, J5 wb (w7.heap.size + 1) (w7.heap.size + 2) b u (j + 1) (wr.alloc o)) := pk (fun h o => ⟨by rw [Htk.out, manyM_snoc, if_neg (by simp [h])]; exact Hm1.out.at_ (Below.heap_alloc wr o _ hB1), by rw [Htk.out, sumM_snoc, if_neg (by simp [h])]; exact Hm2.out.at_ (Below.heap_alloc wr o _ hB2), below_alloc Hbr.out _⟩)
                          clear hx hget hp hn0 hs0 hux
                          have hcb : ∀ o q, (wr.alloc o).cell? ⟨w7.heap.size, q, none⟩ = _ := fun o q => cell_of_row (wr.alloc o) w7.heap.size q _ 24 (0, 0) ((Below.heap_alloc wr o _ (by omega)).trans HXr.out)
                          have hb3' : ∀ o, (wr.alloc o).cell? ⟨w7.heap.size, 3, none⟩ = some (.int .i64 b.f3) := fun o => hcb o 3
                          have hb4' : ∀ o, (wr.alloc o).cell? ⟨w7.heap.size, 4, none⟩ = some (.int .i64 b.f4) := fun o => hcb o 4
                          clear hcb
                          cases hA
                          by_cases h3 : b.f3 = -1
                          · have Hkm := pk (show kindM b x = true by simp [kindM, h3])
                            have g3 : (b.f3 == -1) = true := by simp [h3]
                            replace h3 := pk h3
                            have Htm : Pk (manyM b (u.take (j + 1)) = mput (manyM b (u.take j)) p (n0 + 1)) := pk (by rw [Htk.out, manyM_snoc, if_pos Hkm.out, Hpd.out, Hn0.out])
                            have Hts : Pk (sumM b (u.take (j + 1)) = mput (sumM b (u.take j)) p (s0 + x.f2)) := pk (by rw [Htk.out, sumM_snoc, if_pos Hkm.out, Hpd.out, Hs0.out])
                            have hlook : ∀ o, (Instr.lookup 50 (.map (some (w7.heap.size + 1))) (.int .i64 p) false).run Try.prog (wr.alloc o) = .ok (.int .i64 n0) (wr.alloc o) := by
                              intro o
                              refine (run_look ilaw (Hm1.out.is.at_ (Below.heap_alloc wr o _ hB1)) p).trans ?_
                              have h2 := Hn0.out
                              cases hg : mget (manyM b (u.take j)) p <;> (rw [hg] at h2; rw [← h2]; rfl)
                            obtain ⟨W4, hput, hm4, hg4, hs4⟩ := run_putB ilaw (Hm1.out.at_ (W' := wr.alloc (.cells #[.int .i64 x.f0, .int .i64 x.f1, .int .i64 x.f2, .int .i64 x.f3, .int .i64 x.f4] 49)) (Below.heap_alloc wr _ _ hB1)) p (n0 + 1)
                            have Hm4 := pk hm4
                            have hm42 : IsMapB ei ei W4 (w7.heap.size + 2) (sumM b (u.take j)) := Hm2.out.at_ ((hg4.block _ (by simp; omega) (by simp)).trans (Below.heap_alloc wr _ _ hB2))
                            have Hm42 := pk hm42
                            have hput1 : (Instr.mapUpdate 50 (.map (some (w7.heap.size + 1))) (.int .i64 p) (.int .i64 (n0 + 1))).run Try.prog (wr.alloc (.cells #[.int .i64 x.f0, .int .i64 x.f1, .int .i64 x.f2, .int .i64 x.f3, .int .i64 x.f4] 49)) = .ok () W4 := hput
                            have HB4' : Pk (Below wb.heap.size wr W4) := pk (((Below.refl wb.heap.size wr).alloc (by omega) _).grown hg4 (by simp; omega) (fun k e => by cases e; omega))
                            have hlook2 : ∀ n, (Instr.lookup 50 (.map (some (w7.heap.size + 2))) (.int .i64 p) false).run Try.prog (W4.drewN n) = .ok (.int .i64 s0) (W4.drewN n) := by
                              intro n
                              refine (run_look ilaw (Hm42.out.is.at_ (W' := W4.drewN n) rfl) p).trans ?_
                              have h2 := Hs0.out
                              cases hg : mget (sumM b (u.take j)) p <;> (rw [hg] at h2; rw [← h2]; rfl)
                            have hX4 : W4.heap[wr.heap.size]? = some (.cells #[.int .i64 x.f0, .int .i64 x.f1, .int .i64 x.f2, .int .i64 x.f3, .int .i64 x.f4] 49) := (hg4.block _ (by simp) (fun e => by have := Option.some.inj e; omega)).trans (Go.heap_alloc_new wr _)
                            have hBx4 : W4.heap[w7.heap.size]? = some (.cells #[.int .i64 b.f0, .int .i64 b.f1, .int .i64 b.f2, .int .i64 b.f3, .int .i64 b.f4, .int .i64 b.f5, .int .i64 b.f6, .bool b.f7] 24) := (HB4'.out.block _ (by omega)).trans HXr.out
                            have hcx4 := fun q => cell_of_row W4 wr.heap.size q _ 49 (0, 0) hX4
                            have hcb4 := fun q => cell_of_row W4 w7.heap.size q _ 24 (0, 0) hBx4
                            have hy2 : W4.cell? ⟨wr.heap.size, 2, none⟩ = some (.int .i64 x.f2) := hcx4 2
                            have hy3 : W4.cell? ⟨wr.heap.size, 3, none⟩ = some (.int .i64 x.f3) := hcx4 3
                            have hz4 : W4.cell? ⟨w7.heap.size, 4, none⟩ = some (.int .i64 b.f4) := hcb4 4
                            have hp64 : wrap64 (Int.tdiv x.f3 b.f4) = p := Hpd.out
                            have hp64' : IntKind.i64.wrap (Int.tdiv x.f3 b.f4) = p := (i64_w _).trans Hpd.out
                            have e1 : wrap64 (n0 + 1) = n0 + 1 := by have := Hnr.out; unfold wrap64; omega
                            have e1' : IntKind.i64.wrap (n0 + 1) = n0 + 1 := (i64_w _).trans e1
                            have e2 : wrap64 (s0 + x.f2) = s0 + x.f2 := by have := Hnr.out; unfold wrap64; omega
                            have e2' : IntKind.i64.wrap (s0 + x.f2) = s0 + x.f2 := (i64_w _).trans e2
                            have hs1 : w7.heap.size + 1 < W4.heap.size := hm4.lt
                            clear hput hm4 hg4 hm42 hX4 hBx4 hcx4 hcb4
                            go_upto_region 41 with fail
                            refine (wpIn_wide (n := 0)).1 ?_
                            refine Qs.region_start rfl ?_
                            refine Qs.any_part (k := 0) (N := 10) rfl (by kernel_rfl) (Qs.closed_of (by kernel_rfl)) _ (fun _ _ h => h) ?_ _ ⟨1, rfl⟩
                            simp only [List.take_succ_cons, List.take_zero, List.drop_succ_cons, List.drop_zero, Nat.reduceSub]
                            repeat (gi_big_quiet_step (fail))
                            refine wpQuietIn_nil ?_
                            intro _ hw'
                            obtain ⟨nq, hw''⟩ := hw'
                            subst hw''
                            obtain ⟨W6, hput6, hm6, hg6, hs6⟩ := run_putB ilaw (Hm42.out.at_ (W' := W4.drewN nq) rfl) p (s0 + x.f2)
                            have hput7 : (Instr.mapUpdate 50 (.map (some (w7.heap.size + 2))) (.int .i64 p) (.int .i64 (s0 + x.f2))).run Try.prog (W4.drewN nq) = .ok () W6 := hput6
                            have Hfin : Pk (J5 wb (w7.heap.size + 1) (w7.heap.size + 2) b u (j + 1) W6) := pk ⟨by rw [Htm.out]; exact Hm4.out.at_ (hg6.block _ (by simp; omega) (by simp)), by rw [Hts.out]; exact hm6, (Hbr.out.trans (pw_below_drewN HB4'.out nq)).grown hg6 (by simp; omega) (fun k e => by cases e; omega)⟩
                            clear hput6 hm6 hg6 hs6 hlook2
                            refine Qs.op_step rfl rfl (fun K1 hK1 => ?_)
                            gi_wp2_with fail
                            refine And.intro (by kernel_rfl) ?_
                            go_wp2_with fail
                            go_roundw
                            case rel => exact ⟨j + 1, by omega, by go_num, Hfin.out⟩
                            case measure => simp [intOf]; omega
                          · have g3 : (b.f3 == -1) = false := by simpa using h3
                            by_cases h5 : b.f3 = x.f1
                            · have Hkm := pk (show kindM b x = true by simp [kindM, h5])
                              have g5 : (b.f3 == x.f1) = true := by simp [h5]
                              replace h5 := pk h5
                              replace h3 := pk h3
                              have Htm : Pk (manyM b (u.take (j + 1)) = mput (manyM b (u.take j)) p (n0 + 1)) := pk (by rw [Htk.out, manyM_snoc, if_pos Hkm.out, Hpd.out, Hn0.out])
                              have Hts : Pk (sumM b (u.take (j + 1)) = mput (sumM b (u.take j)) p (s0 + x.f2)) := pk (by rw [Htk.out, sumM_snoc, if_pos Hkm.out, Hpd.out, Hs0.out])
                              have hlook : ∀ o, (Instr.lookup 50 (.map (some (w7.heap.size + 1))) (.int .i64 p) false).run Try.prog (wr.alloc o) = .ok (.int .i64 n0) (wr.alloc o) := by
                                intro o
                                refine (run_look ilaw (Hm1.out.is.at_ (Below.heap_alloc wr o _ hB1)) p).trans ?_
                                have h2 := Hn0.out
                                cases hg : mget (manyM b (u.take j)) p <;> (rw [hg] at h2; rw [← h2]; rfl)
                              obtain ⟨W4, hput, hm4, hg4, hs4⟩ := run_putB ilaw (Hm1.out.at_ (W' := wr.alloc (.cells #[.int .i64 x.f0, .int .i64 x.f1, .int .i64 x.f2, .int .i64 x.f3, .int .i64 x.f4] 49)) (Below.heap_alloc wr _ _ hB1)) p (n0 + 1)
                              have Hm4 := pk hm4
                              have hm42 : IsMapB ei ei W4 (w7.heap.size + 2) (sumM b (u.take j)) := Hm2.out.at_ ((hg4.block _ (by simp; omega) (by simp)).trans (Below.heap_alloc wr _ _ hB2))
                              have Hm42 := pk hm42
                              have hput1 : (Instr.mapUpdate 50 (.map (some (w7.heap.size + 1))) (.int .i64 p) (.int .i64 (n0 + 1))).run Try.prog (wr.alloc (.cells #[.int .i64 x.f0, .int .i64 x.f1, .int .i64 x.f2, .int .i64 x.f3, .int .i64 x.f4] 49)) = .ok () W4 := hput
                              have HB4' : Pk (Below wb.heap.size wr W4) := pk (((Below.refl wb.heap.size wr).alloc (by omega) _).grown hg4 (by simp; omega) (fun k e => by cases e; omega))
                              have hlook2 : ∀ n, (Instr.lookup 50 (.map (some (w7.heap.size + 2))) (.int .i64 p) false).run Try.prog (W4.drewN n) = .ok (.int .i64 s0) (W4.drewN n) := by
                                intro n
                                refine (run_look ilaw (Hm42.out.is.at_ (W' := W4.drewN n) rfl) p).trans ?_
                                have h2 := Hs0.out
                                cases hg : mget (sumM b (u.take j)) p <;> (rw [hg] at h2; rw [← h2]; rfl)
                              have hX4 : W4.heap[wr.heap.size]? = some (.cells #[.int .i64 x.f0, .int .i64 x.f1, .int .i64 x.f2, .int .i64 x.f3, .int .i64 x.f4] 49) := (hg4.block _ (by simp) (fun e => by have := Option.some.inj e; omega)).trans (Go.heap_alloc_new wr _)
                              have hBx4 : W4.heap[w7.heap.size]? = some (.cells #[.int .i64 b.f0, .int .i64 b.f1, .int .i64 b.f2, .int .i64 b.f3, .int .i64 b.f4, .int .i64 b.f5, .int .i64 b.f6, .bool b.f7] 24) := (HB4'.out.block _ (by omega)).trans HXr.out
                              have hcx4 := fun q => cell_of_row W4 wr.heap.size q _ 49 (0, 0) hX4
                              have hcb4 := fun q => cell_of_row W4 w7.heap.size q _ 24 (0, 0) hBx4
                              have hy2 : W4.cell? ⟨wr.heap.size, 2, none⟩ = some (.int .i64 x.f2) := hcx4 2
                              have hy3 : W4.cell? ⟨wr.heap.size, 3, none⟩ = some (.int .i64 x.f3) := hcx4 3
                              have hz4 : W4.cell? ⟨w7.heap.size, 4, none⟩ = some (.int .i64 b.f4) := hcb4 4
                              have hp64 : wrap64 (Int.tdiv x.f3 b.f4) = p := Hpd.out
                              have hp64' : IntKind.i64.wrap (Int.tdiv x.f3 b.f4) = p := (i64_w _).trans Hpd.out
                              have e1 : wrap64 (n0 + 1) = n0 + 1 := by have := Hnr.out; unfold wrap64; omega
                              have e1' : IntKind.i64.wrap (n0 + 1) = n0 + 1 := (i64_w _).trans e1
                              have e2 : wrap64 (s0 + x.f2) = s0 + x.f2 := by have := Hnr.out; unfold wrap64; omega
                              have e2' : IntKind.i64.wrap (s0 + x.f2) = s0 + x.f2 := (i64_w _).trans e2
                              have hs1 : w7.heap.size + 1 < W4.heap.size := hm4.lt
                              clear hput hm4 hg4 hm42 hX4 hBx4 hcx4 hcb4
                              go_upto_region 41 with fail
                              refine (wpIn_wide (n := 0)).1 ?_
                              refine Qs.region_start rfl ?_
                              refine Qs.any_part (k := 0) (N := 10) rfl (by kernel_rfl) (Qs.closed_of (by kernel_rfl)) _ (fun _ _ h => h) ?_ _ ⟨1, rfl⟩
                              simp only [List.take_succ_cons, List.take_zero, List.drop_succ_cons, List.drop_zero, Nat.reduceSub]
                              repeat (gi_big_quiet_step (fail))
                              refine wpQuietIn_nil ?_
                              intro _ hw'
                              obtain ⟨nq, hw''⟩ := hw'
                              subst hw''
                              obtain ⟨W6, hput6, hm6, hg6, hs6⟩ := run_putB ilaw (Hm42.out.at_ (W' := W4.drewN nq) rfl) p (s0 + x.f2)
                              have hput7 : (Instr.mapUpdate 50 (.map (some (w7.heap.size + 2))) (.int .i64 p) (.int .i64 (s0 + x.f2))).run Try.prog (W4.drewN nq) = .ok () W6 := hput6
                              have Hfin : Pk (J5 wb (w7.heap.size + 1) (w7.heap.size + 2) b u (j + 1) W6) := pk ⟨by rw [Htm.out]; exact Hm4.out.at_ (hg6.block _ (by simp; omega) (by simp)), by rw [Hts.out]; exact hm6, (Hbr.out.trans (pw_below_drewN HB4'.out nq)).grown hg6 (by simp; omega) (fun k e => by cases e; omega)⟩
                              clear hput6 hm6 hg6 hs6 hlook2
                              refine Qs.op_step rfl rfl (fun K1 hK1 => ?_)
                              gi_wp2_with fail
                              refine And.intro (by kernel_rfl) ?_
                              go_wp2_with fail
                              go_roundw
                              case rel => exact ⟨j + 1, by omega, by go_num, Hfin.out⟩
                              case measure => simp [intOf]; omega
                            · have g5 : (b.f3 == x.f1) = false := by simpa using h5
                              have Hkm := pk (show kindM b x = false by simp [kindM, h3, h5])
                              replace h5 := pk h5
                              replace h3 := pk h3
                              go_wp2_with fail
                              go_roundw
                              case rel => exact ⟨j + 1, by omega, by go_num, Hskip.out Hkm.out _⟩
                              case measure => simp [intOf]; omega
                        · obtain rfl : j = u.length := by omega
                          rw [List.take_length] at Hm1 Hm2
                          obtain ⟨W5, hrange, hR5, hg5, hs5⟩ := run_range ilaw Hm1.out
                          obtain ⟨r, hr⟩ : ∃ r, wr.heap.size = r := ⟨_, rfl⟩
                          rw [hr] at hrange hR5
                          have HB5' : Pk (Below wb.heap.size wb W5) := pk (Hbr.out.grown hg5 Hbr.out.size (fun k e => by cases e))
                          have Hm5 : Pk (IsMapB ei ei W5 (w7.heap.size + 2) (sumM b u)) := pk (Hm2.out.at_ (hg5.block _ hB2 (by simp)))
                          have HR5 := pk hR5
                          have hrB : wb.heap.size ≤ r := by rw [← hr]; exact Hbr.out.size
                          have hr2 : w7.heap.size + 2 < r := by omega
                          replace hr := pk hr
                          clear hR5 hg5 hs5 hjt hj
                          go_wp2_with fail
                          clear hrange
                          go_loopw [24] (fun v wr => Hid (J6 wb (w7.heap.size + 1) (w7.heap.size + 2) r b u wr)) (fun _ wr => wr.rangeLeft (w7.heap.size + 1) r)
                          case atStart => exact ⟨_, HR5.out, fun q hq => hq, Hm5.out, HB5'.out⟩
                          case round =>
                            have hh := hrel
                            clear hrel
                            obtain ⟨left, hRg, hin, hm2, hb⟩ := hh.out
                            have Hin := pk hin
                            have Hm22 := pk hm2
                            have Hbb := pk hb
                            have hne := hRg.ne
                            have hBr2 : w7.heap.size + 2 < wr.heap.size := hm2.lt
                            clear hh hin hm2 hb Hm1 Hm2 Hbr HXr HB5' Hm5 HR5 hB1 hB2
                            rcases hRg.next (P := Try.prog) 0 with ⟨hl, hnext⟩ | ⟨l1, q, y, l2, W6, hl, hnext, hR6, hg6, hs6, hentry⟩
                            · clear hRg hl
                              go_wp2_with fail
                              go_roundw
                              case rel => exact ⟨m + 1, by omega, by go_num, below_step Hb7.out (below_step HBb.out Hbb.out)⟩
                              case measure => simp [intOf]; omega
                            · have hnext2 : (Instr.next (.pointer (some ⟨r, 0, none⟩)) false 0).run Try.prog wr = .ok (.tuple #[.bool true, .int .i64 q, .int .i64 y]) W6 := hnext
                              have hentry2 : (Instr.entry (.pointer (some ⟨r, 0, none⟩))).run Try.prog W6 = .ok (.tuple #[.int .i64 q, .int .i64 y]) W6 := hentry
                              obtain ⟨hy, hs⟩ := Hbm.out q y (Hin.out (q, y) (by rw [hl]; simp))
                              have Hlen := pk hRg.len
                              have Hl := pk hl
                              have Hb6 : Pk (Below wb.heap.size wb W6) := pk (Hbb.out.grown hg6 Hbb.out.size (fun k e => by cases e; exact hrB))
                              have Hm6 : Pk (IsMapB ei ei W6 (w7.heap.size + 2) (sumM b u)) := pk (Hm22.out.at_ (hg6.block _ hBr2 (fun e => by have := Option.some.inj e; omega)))
                              have HR6 := pk hR6
                              have hBx6 : W6.heap[w7.heap.size]? = some (.cells #[.int .i64 b.f0, .int .i64 b.f1, .int .i64 b.f2, .int .i64 b.f3, .int .i64 b.f4, .int .i64 b.f5, .int .i64 b.f6, .bool b.f7] 24) := (Hb6.out.block _ (by omega)).trans HXb.out
                              have hcb6 := fun q => cell_of_row W6 w7.heap.size q _ 24 (0, 0) hBx6
                              have hz5 : W6.cell? ⟨w7.heap.size, 5, none⟩ = some (.int .i64 b.f5) := hcb6 5
                              have hz6 : W6.cell? ⟨w7.heap.size, 6, none⟩ = some (.int .i64 b.f6) := hcb6 6
                              obtain ⟨sv, hsv⟩ : ∃ sv, (mget (sumM b u) q).getD 0 = sv := ⟨_, rfl⟩
                              rw [hsv] at hs
                              have hlook6 : (Instr.lookup 50 (.map (some (w7.heap.size + 2))) (.int .i64 q) false).run Try.prog W6 = .ok (.int .i64 sv) W6 := by
                                refine (run_look ilaw Hm6.out.is q).trans ?_
                                cases hg : mget (sumM b u) q <;> (rw [hg] at hsv; rw [← hsv]; rfl)
                              clear hRg hl hnext hentry hR6 hg6 hs6 hBx6 hcb6 hsv
                              go_wp2_with fail
                              go_roundw
                              case rel => exact ⟨_, HR6.out, fun p hp => Hin.out p (by rw [Hl.out]; simp at hp ⊢; rcases hp with h | h <;> simp [h]), Hm6.out, Hb6.out⟩
                              case measure => rw [Hlen.out, HR6.out.len, Hl.out]; simp
                    · go_wp2_with fail
                      go_roundw
                      case rel => exact ⟨k + 1, by omega, by go_num, below_step HB6.out Hb7.out⟩
                      case measure => simp [intOf]; omega
                · go_wp2_with fail
                  go_ret
                  exact ⟨rfl, below_step HB4.out Hb5.out⟩
  · replace hb := pk hb
    cases b with
    | false =>
      go_enter Try.func6, Try.ntmps6
      go_wp2_with fail
      refine (sane_hook _).mono ?_
      rintro e w1 ⟨rfl, hb1⟩
      have HB1 := pk hb1
      clear hb1
      go_wp2_with fail
      refine (signatorylaw18_right.calls _ A c l false _ (Kd.C_below HR.out HB1.out) Hc.out Hright.out).mono ?_
      rintro e w2 ⟨rfl, hb2⟩
      have HB2 := pk (below_step HB1.out hb2)
      clear hb2
      go_wp2_with fail
      go_ret
      exact ⟨rfl, HB2.out⟩
    | true =>
      go_enter Try.func6, Try.ntmps6
      go_wp2_with fail
      refine (sane_hook _).mono ?_
      rintro e w1 ⟨rfl, hb1⟩
      have HB1 := pk hb1
      clear hb1
      go_wp2_with fail
      refine (signatorylaw18_right.calls _ A c l true _ (Kd.C_below HR.out HB1.out) Hc.out Hright.out).mono ?_
      rintro e w2 ⟨rfl, hb2⟩
      have HB2 := pk (below_step HB1.out hb2)
      clear hb2
      go_wp2_with fail
      go_ret
      exact ⟨rfl, HB2.out⟩
end Nev
end Go.Proofs.Ytaemdkbfdpjimaa.T
