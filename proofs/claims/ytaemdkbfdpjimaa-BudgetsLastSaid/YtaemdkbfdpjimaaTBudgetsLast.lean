/-
The law BudgetsLast, by a walk of the law by hand over the contracts of what it calls: it returns true. Condition: the row is read.
-/
import Derived.Test.YtaemdkbfdpjimaaVz
import Derived.Test.YtaemdkbfdpjimaaP24
import Derived.Test.YtaemdkbfdpjimaaP24
import Derived.Test.YtaemdkbfdpjimaaP8
import Derived.Test.YtaemdkbfdpjimaaWe
import Derived.Test.YtaemdkbfdpjimaaWc
import Derived.Test.YtaemdkbfdpjimaaMr
import Derived.Test.YtaemdkbfdpjimaaOp
import Derived.Deep.RegionHeld3
namespace Go.Proofs.Ytaemdkbfdpjimaa.T
open Go.RowKit Go.Proofs.YtaemdkbfdpjimaaW.PrintWords Go.Proofs.YtaemdkbfdpjimaaW.PrintLast Go.Proofs.YtaemdkbfdpjimaaW.PrintMore Go.Proofs.Ytaemdkbfdpjimaa.P Go.Proofs.Ytaemdkbfdpjimaa.W Go.Proofs.Ytaemdkbfdpjimaa.S Go.Proofs.Ytaemdkbfdpjimaa.U Go.Proofs.Ytaemdkbfdpjimaa.V
open W.St (Sb sbOf ek ev)
set_option linter.unusedVariables false
attribute [local go_sem high] eqs24
namespace Last
theorem ret_bool {a b : Bool} (h : a = b) : Ending.returned (.bool a) = .returned (.bool b) := by rw [h]
theorem right_l (l : List S24) (k : Nat) (hk : l.length + 1 < k) : signatorylaw18_right.f k l = some (decide (l.length ≤ 30) && decide (checkF l = 0)) := by
  unfold signatorylaw18_right.f
  by_cases h : l.length ≤ 30
  · rw [if_pos (by omega), check_r l k hk]
    simp only [Option.bind_some, h, decide_true, Bool.true_and]
    congr 1
  · rw [if_neg (by omega)]
    simp [h]
theorem row24 {W : World} {base : Nat} {ok : Nat → Prop} {v : Value} {l : List S24} (h : Kd.R k24 24 W base ok v l) : ∃ A c, v = .slice A l.length c ∧ l.length ≤ c ∧ Kd.C k24 W A l.length l := by
  obtain ⟨A, c, e⟩ := Kd.R_slice h
  subst e
  exact ⟨A, c, rfl, (Kd.R_reads' h).2.1, (Kd.R_reads' h).2.2⟩
theorem stand_ok {l : List S24} {kind at_ known : Int} (h : checkF l = 0) (h1 : betweenF 0 15 [kind] = true) (h2 : betweenF 0 1099511627775 [at_, known] = true) (k : Nat) (hk : l.length + 1 < k) : budgets_Standing.f k l kind at_ known = some (standingF l kind at_ known, 0) := by
  rw [standing_p l kind at_ known k hk]
  unfold standF
  rw [if_neg (by simp [h]), if_neg (by rw [h1, h2]; simp)]
theorem sb_eq (d : Nat) (w : World) (x0 y0 x1 y1 : Int) :
    (Op.equalIn (d + 2) 41 (.agg #[.int .i64 x0, .int .i64 x1]) (.agg #[.int .i64 y0, .int .i64 y1])).run Try.prog w = .ok (x0 == y0 && (x1 == y1)) w := by
  refine eqA_of Try.underlying41 (by kernel_rfl) ?_
  refine eqf_cons (by rfl) (by go_simp; rfl) (by go_simp; rfl) (by go_simp) ?_
  exact eqf_last (by rfl) (by go_simp; rfl) (by go_simp; rfl) (by go_simp)
theorem sb_equal (x y : Sb) (w : World) : (Op.equal 41 (ek x) (ek y)).run Try.prog w = .ok (decide (x = y)) w := by
  have h := sb_eq 9998 w x.a y.a x.b y.b
  refine h.trans ?_
  congr 1
  obtain ⟨a, b⟩ := x
  obtain ⟨a', b'⟩ := y
  simp only [Sb.mk.injEq]
  by_cases h1 : a = a' <;> by_cases h2 : b = b' <;> simp [h1, h2]
theorem chkSb (em : Bool) (k : Sb) (w : World) : (Instr.checkKey em 10000 41 (ek k)).run Try.prog w = .ok () w := by kernel_rfl
theorem staysSb (k : Sb) (w : World) : (Instr.keyThatStays (ek k) (ek k)).run Try.prog w = .ok (ek k) w := by
  simp [Instr.keyThatStays, Instr.sameBits, ek]
theorem law : MapLaw Try.prog 39 41 24 ek ev (ev z24) :=
  ⟨Try.underlying39, chkSb, find_struct Try.underlying41 sb_equal, staysSb, fun w => by kernel_rfl⟩
theorem eq_run (x y : S24) (b : Bool) (h : decide (x = y) = b) : ∀ d w, (Op.equalIn (d + 2) 24 (.agg #[.int .i64 x.f0, .int .i64 x.f1, .int .i64 x.f2, .int .i64 x.f3, .int .i64 x.f4, .int .i64 x.f5, .int .i64 x.f6, .bool x.f7]) (.agg #[.int .i64 y.f0, .int .i64 y.f1, .int .i64 y.f2, .int .i64 y.f3, .int .i64 y.f4, .int .i64 y.f5, .int .i64 y.f6, .bool y.f7])).run Try.prog w = .ok b w := by
  intro d w
  rw [eqs24, eqdec24, h]
/-- what stands between two rounds of the first loop -/
def J1 (w4 : World) (Bm : Nat) (l : List S24) (kind at_ known : Int) (k : Nat) (W : World) : Prop :=
  IsMapB ek ev W Bm (mapF kind at_ known (l.take k)) ∧ Below w4.heap.size w4 W
theorem put_below {wr W4 : World} {Bm B : Nat} {o1 o2 o3 : Obj} (hB : B ≤ Bm) (hBm : Bm < wr.heap.size) (hg : (((wr.alloc o1).alloc o2).alloc o3).grownBy W4 (some Bm)) : Below B wr W4 :=
  ((((Below.refl B wr).alloc (by omega) _).alloc (by simp; omega) _).alloc (by simp; omega) _).trans ⟨hg.os, hg.tape, hg.output, hg.size, fun k hk => hg.block k (by simp; omega) (fun e => by cases e; omega)⟩
/-- what stands between two rounds of the range over the map -/
def J2 (w4 : World) (Bm r tot : Nat) (mm : List (Sb × S24)) (m : Nat) (W : World) : Prop :=
  ∃ left, Rng ek ev W Bm r left ∧ IsMapB ek ev W Bm mm ∧ m + (left.filter (fun p => !p.2.f7)).length = tot ∧ Below w4.heap.size w4 W
set_option maxHeartbeats 8000000 in
set_option maxRecDepth 100000 in
theorem last_any (A : Option Addr) (c : Nat) (l : List S24) (kind at_ known : Int) (w : World) (hr : Kd.C k24 w A l.length l) (hc : l.length ≤ c) :
    Calls Try.prog 5 #[.slice A l.length c, .int .i64 kind, .int .i64 at_, .int .i64 known] w fun e w' => e = .returned (.bool true) ∧ Below w.heap.size w w' := by
  have hright := right_l l (l.length + 2) (by omega)
  generalize hb : (decide (l.length ≤ 30) && decide (checkF l = 0)) = b at hright
  have HR := pk hr
  have Hc := pk hc
  have Hright := pk hright
  clear hr hc hright
  cases b with
  | false =>
    replace hb := pk hb
    go_enter Try.func5, Try.ntmps5
    go_wp2_with fail
    refine (sane_hook _).mono ?_
    rintro e w1 ⟨rfl, hb1⟩
    have HB1 := pk hb1
    clear hb1
    go_wp2_with fail
    refine (signatorylaw18_right.calls _ A c l false _ (Kd.C_below HR.out HB1.out) Hc.out Hright.out).mono ?_
    rintro e w2 ⟨rfl, hb2⟩
    have HB2 := pk (below_step HB1.out hb2)
    clear hb2
    go_wp2_with fail
    go_ret
    exact ⟨rfl, HB2.out⟩
  | true =>
    have hbb := hb
    simp only [Bool.and_eq_true, decide_eq_true_eq] at hbb
    obtain ⟨hlen, hck⟩ := hbb
    obtain ⟨hn, hp, hrt⟩ := check_ok hck
    have Hck := pk hck
    have Hrt := pk hrt
    have Hp := pk hp
    clear hb hck hp hrt
    by_cases hok : 0 ≤ kind ∧ kind < 16 ∧ 0 ≤ at_ ∧ at_ < 1099511627776 ∧ 0 ≤ known ∧ known < 1099511627776
    · obtain ⟨a1, a2, a3, a4, a5, a6⟩ := hok
      have hk1 : betweenF 0 15 [kind] = true := by rw [one_b]; unfold outB; simp; omega
      have hk3 : betweenF 0 1099511627775 [at_, known] = true := by rw [two_b, one_b, one_b]; unfold outB; simp; omega
      have S1 := pk (stand_ok Hck.out hk1 hk3 (l.length + 2) (by omega))
      obtain ⟨s, hs⟩ : ∃ s, standingF l kind at_ known = s := ⟨_, rfl⟩
      rw [hs] at S1
      have hsn : s.length ≤ 30 := by rw [← hs]; exact Nat.le_trans (stand_len _ _ _ _) hlen
      have Hst : Pk (∀ y ∈ s, y.f7 = false ∧ (mget (mapF kind at_ known l) (sbOf y)).getD z24 = y) := pk (fun y hy => by rw [← hs] at hy; exact stand_of hy)
      have Hsp : Pk (s.Pairwise (fun a b => a.f0 < b.f0)) := pk (by rw [← hs]; exact Hp.out.sublist List.filter_sublist)
      have Hmany : Pk (((mapF kind at_ known l).filter (fun p => !p.2.f7)).length = s.length) := pk (by rw [many_map Hck.out, hs])
      clear hk1 hk3 hs
      go_enter Try.func5, Try.ntmps5
      go_wp2_with fail
      refine (sane_hook _).mono ?_
      rintro e w1 ⟨rfl, hb1⟩
      have HB1 := pk hb1
      clear hb1
      go_wp2_with fail
      refine (signatorylaw18_right.calls _ A c l true _ (Kd.C_below HR.out HB1.out) Hc.out Hright.out).mono ?_
      rintro e w2 ⟨rfl, hb2⟩
      have HB2 := pk (below_step HB1.out hb2)
      clear hb2
      go_wp2_with fail
      refine (budgets_Standing.calls _ A c l kind at_ known s 0 _ (Kd.C_below HR.out HB2.out) Hc.out S1.out).mono ?_
      rintro e w3 ⟨v3, rfl, hR3, hb3⟩
      obtain ⟨A3, c3, rfl, hc3, hC3⟩ := row24 hR3
      have HC3 := pk hC3
      have HB3 := pk (below_step HB2.out hb3)
      clear hR3 hC3 hb3 S1 HB1 HB2 Hright
      have hmm := @run_makeMap Try.prog
      go_wp2_with fail
      clear hmm
      obtain ⟨Bm, hBm0⟩ : ∃ Bm, w3.heap.size = Bm := ⟨_, rfl⟩
      simp only [hBm0]
      have HB30 := pk hBm0
      go_loopw [64] (fun i wr => ∃ k : Nat, k ≤ l.length ∧ i = .int .i64 k ∧ Hid (J1 w3 Bm l kind at_ known k wr)) (fun i _ => l.length - (intOf i).toNat)
      case atStart => exact ⟨0, Nat.zero_le _, rfl, by rw [← HB30.out]; exact IsMapB.new w3, (Below.refl _ _).alloc (Nat.le_refl _) _⟩
      case round =>
        obtain ⟨k, hk, rfl, hh⟩ := hrel
        obtain ⟨hm1, hbW⟩ := hh.out
        have Hm1 := pk hm1
        have HbW := pk hbW
        have hBm : Bm < wr.heap.size := hm1.lt
        clear hh hm1 hbW
        by_cases hlt : k < l.length
        · obtain ⟨ad, hA, hcells⟩ := at_24 (Kd.C_below HR.out (below_step HB3.out HbW.out)) k hlt
          generalize hx : l.getD k z24 = x at hcells
          have hget : l[k] = x := by rw [← hx, List.getD_eq_getElem?_getD, List.getElem?_eq_getElem hlt]; rfl
          have Htk : Pk (l.take (k + 1) = l.take k ++ [x]) := pk (by rw [List.take_succ_eq_append_getElem hlt, hget])
          have hrx : -1 ≤ x.f3 := by
            have := Hrt.out x (by rw [← hget]; exact List.getElem_mem hlt)
            unfold rightF betweenF outB at this
            simp at this
            omega
          clear hx hget
          cases hA
          have Hskip : Pk (countsF kind at_ known x = false → J1 w3 Bm l kind at_ known (k + 1) (wr.alloc (.cells #[.int .i64 x.f0, .int .i64 x.f1, .int .i64 x.f2, .int .i64 x.f3, .int .i64 x.f4, .int .i64 x.f5, .int .i64 x.f6, .bool x.f7] 24))) := pk (fun h => ⟨by rw [Htk.out, mapF_snoc]; unfold stepM; rw [if_neg (by simp [h])]; exact Hm1.out.at_ (Below.heap_alloc wr _ _ hBm), below_alloc HbW.out _⟩)
          by_cases h1 : x.f1 ≤ at_
          · by_cases h2 : x.f2 ≤ known
            · by_cases h3 : x.f3 = -1
              · have Hcx := pk (show countsF kind at_ known x = true by simp [countsF, h1, h2, h3])
                have g3 : ¬ 0 ≤ x.f3 := by omega
                replace h3 := pk h3
                generalize hz : (mget (mapF kind at_ known (l.take k)) (sbOf x)).getD z24 = z
                generalize hso : (mget (mapF kind at_ known (l.take k)) (sbOf x)).isSome = so
                have hlook : ∀ o o', (Instr.lookup 39 (.map (some Bm)) (.agg #[.int .i64 x.f3, .int .i64 x.f4]) true).run Try.prog ((wr.alloc o).alloc o') = .ok (.tuple #[.agg #[.int .i64 z.f0, .int .i64 z.f1, .int .i64 z.f2, .int .i64 z.f3, .int .i64 z.f4, .int .i64 z.f5, .int .i64 z.f6, .bool z.f7], .bool so]) ((wr.alloc o).alloc o') := by
                  intro o o'
                  refine (run_look_ok law (Hm1.out.is.at_ ((Below.heap_alloc _ o' _ (by simp; omega)).trans (Below.heap_alloc wr o _ hBm))) (sbOf x)).trans ?_
                  rw [← hz, ← hso]
                  cases mget (mapF kind at_ known (l.take k)) (sbOf x) <;> rfl
                obtain ⟨W4, hput, hm4, hg4, hs4⟩ := run_putB law (Hm1.out.at_ (W' := ((wr.alloc (.cells #[.int .i64 x.f0, .int .i64 x.f1, .int .i64 x.f2, .int .i64 x.f3, .int .i64 x.f4, .int .i64 x.f5, .int .i64 x.f6, .bool x.f7] 24)).alloc (.cells #[.int .i64 x.f3, .int .i64 x.f4] 41)).alloc (.cells #[.int .i64 z.f0, .int .i64 z.f1, .int .i64 z.f2, .int .i64 z.f3, .int .i64 z.f4, .int .i64 z.f5, .int .i64 z.f6, .bool z.f7] 24)) ((Below.heap_alloc _ _ _ (by simp; omega)).trans ((Below.heap_alloc _ _ _ (by simp; omega)).trans (Below.heap_alloc wr _ _ hBm)))) (sbOf x) x
                have hput2 : (Instr.mapUpdate 39 (.map (some Bm)) (.agg #[.int .i64 x.f3, .int .i64 x.f4]) (.agg #[.int .i64 x.f0, .int .i64 x.f1, .int .i64 x.f2, .int .i64 x.f3, .int .i64 x.f4, .int .i64 x.f5, .int .i64 x.f6, .bool x.f7])).run Try.prog (((wr.alloc (.cells #[.int .i64 x.f0, .int .i64 x.f1, .int .i64 x.f2, .int .i64 x.f3, .int .i64 x.f4, .int .i64 x.f5, .int .i64 x.f6, .bool x.f7] 24)).alloc (.cells #[.int .i64 x.f3, .int .i64 x.f4] 41)).alloc (.cells #[.int .i64 z.f0, .int .i64 z.f1, .int .i64 z.f2, .int .i64 z.f3, .int .i64 z.f4, .int .i64 z.f5, .int .i64 z.f6, .bool z.f7] 24)) = .ok () W4 := hput
                have Hst : Pk (mapF kind at_ known (l.take (k + 1)) = if so = false ∨ z.f1 ≤ x.f1 then mput (mapF kind at_ known (l.take k)) (sbOf x) x else mapF kind at_ known (l.take k)) := pk (by rw [Htk.out, mapF_snoc]; unfold stepM; rw [if_pos Hcx.out, hso, hz])
                have Hput : Pk ((so = false ∨ z.f1 ≤ x.f1) → J1 w3 Bm l kind at_ known (k + 1) W4) := pk (fun h => ⟨by rw [Hst.out, if_pos h]; exact hm4, HbW.out.trans (put_below (show w3.heap.size ≤ Bm by rw [HB30.out]; exact Nat.le_refl _) hBm hg4)⟩)
                have Hkeep : Pk (¬ (so = false ∨ z.f1 ≤ x.f1) → ∀ o1 o2 o3, J1 w3 Bm l kind at_ known (k + 1) (((wr.alloc o1).alloc o2).alloc o3)) := pk (fun h o1 o2 o3 => ⟨by rw [Hst.out, if_neg h]; exact Hm1.out.at_ ((Below.heap_alloc _ _ _ (by simp; omega)).trans ((Below.heap_alloc _ _ _ (by simp; omega)).trans (Below.heap_alloc wr _ _ hBm))), below_step HbW.out ((((Below.refl _ _).alloc (Nat.le_refl _) _).alloc (by simp) _).alloc (by simp; omega) _)⟩)
                clear hput hm4 hg4 hs4 hz hso
                cases so with
                | false =>
                  go_wp2_with fail
                  go_roundw
                  case rel => exact ⟨k + 1, by omega, by go_num, Hput.out (.inl rfl)⟩
                  case measure => simp [intOf]; omega
                | true =>
                  by_cases hle : z.f1 ≤ x.f1
                  · go_wp2_with fail
                    go_roundw
                    case rel => exact ⟨k + 1, by omega, by go_num, Hput.out (.inr hle)⟩
                    case measure => simp [intOf]; omega
                  · go_wp2_with fail
                    go_roundw
                    case rel => exact ⟨k + 1, by omega, by go_num, Hkeep.out (by simp [hle]) _ _ _⟩
                    case measure => simp [intOf]; omega
              · have g3 : 0 ≤ x.f3 := by omega
                by_cases h4 : x.f3 = kind
                · have Hcx := pk (show countsF kind at_ known x = true by simp [countsF, h1, h2, h4])
                  have g6 : (x.f3 != kind) = false := by simp [h4]
                  replace h4 := pk h4
                  generalize hz : (mget (mapF kind at_ known (l.take k)) (sbOf x)).getD z24 = z
                  generalize hso : (mget (mapF kind at_ known (l.take k)) (sbOf x)).isSome = so
                  have hlook : ∀ o o', (Instr.lookup 39 (.map (some Bm)) (.agg #[.int .i64 x.f3, .int .i64 x.f4]) true).run Try.prog ((wr.alloc o).alloc o') = .ok (.tuple #[.agg #[.int .i64 z.f0, .int .i64 z.f1, .int .i64 z.f2, .int .i64 z.f3, .int .i64 z.f4, .int .i64 z.f5, .int .i64 z.f6, .bool z.f7], .bool so]) ((wr.alloc o).alloc o') := by
                    intro o o'
                    refine (run_look_ok law (Hm1.out.is.at_ ((Below.heap_alloc _ o' _ (by simp; omega)).trans (Below.heap_alloc wr o _ hBm))) (sbOf x)).trans ?_
                    rw [← hz, ← hso]
                    cases mget (mapF kind at_ known (l.take k)) (sbOf x) <;> rfl
                  obtain ⟨W4, hput, hm4, hg4, hs4⟩ := run_putB law (Hm1.out.at_ (W' := ((wr.alloc (.cells #[.int .i64 x.f0, .int .i64 x.f1, .int .i64 x.f2, .int .i64 x.f3, .int .i64 x.f4, .int .i64 x.f5, .int .i64 x.f6, .bool x.f7] 24)).alloc (.cells #[.int .i64 x.f3, .int .i64 x.f4] 41)).alloc (.cells #[.int .i64 z.f0, .int .i64 z.f1, .int .i64 z.f2, .int .i64 z.f3, .int .i64 z.f4, .int .i64 z.f5, .int .i64 z.f6, .bool z.f7] 24)) ((Below.heap_alloc _ _ _ (by simp; omega)).trans ((Below.heap_alloc _ _ _ (by simp; omega)).trans (Below.heap_alloc wr _ _ hBm)))) (sbOf x) x
                  have hput2 : (Instr.mapUpdate 39 (.map (some Bm)) (.agg #[.int .i64 x.f3, .int .i64 x.f4]) (.agg #[.int .i64 x.f0, .int .i64 x.f1, .int .i64 x.f2, .int .i64 x.f3, .int .i64 x.f4, .int .i64 x.f5, .int .i64 x.f6, .bool x.f7])).run Try.prog (((wr.alloc (.cells #[.int .i64 x.f0, .int .i64 x.f1, .int .i64 x.f2, .int .i64 x.f3, .int .i64 x.f4, .int .i64 x.f5, .int .i64 x.f6, .bool x.f7] 24)).alloc (.cells #[.int .i64 x.f3, .int .i64 x.f4] 41)).alloc (.cells #[.int .i64 z.f0, .int .i64 z.f1, .int .i64 z.f2, .int .i64 z.f3, .int .i64 z.f4, .int .i64 z.f5, .int .i64 z.f6, .bool z.f7] 24)) = .ok () W4 := hput
                  have Hst : Pk (mapF kind at_ known (l.take (k + 1)) = if so = false ∨ z.f1 ≤ x.f1 then mput (mapF kind at_ known (l.take k)) (sbOf x) x else mapF kind at_ known (l.take k)) := pk (by rw [Htk.out, mapF_snoc]; unfold stepM; rw [if_pos Hcx.out, hso, hz])
                  have Hput : Pk ((so = false ∨ z.f1 ≤ x.f1) → J1 w3 Bm l kind at_ known (k + 1) W4) := pk (fun h => ⟨by rw [Hst.out, if_pos h]; exact hm4, HbW.out.trans (put_below (show w3.heap.size ≤ Bm by rw [HB30.out]; exact Nat.le_refl _) hBm hg4)⟩)
                  have Hkeep : Pk (¬ (so = false ∨ z.f1 ≤ x.f1) → ∀ o1 o2 o3, J1 w3 Bm l kind at_ known (k + 1) (((wr.alloc o1).alloc o2).alloc o3)) := pk (fun h o1 o2 o3 => ⟨by rw [Hst.out, if_neg h]; exact Hm1.out.at_ ((Below.heap_alloc _ _ _ (by simp; omega)).trans ((Below.heap_alloc _ _ _ (by simp; omega)).trans (Below.heap_alloc wr _ _ hBm))), below_step HbW.out ((((Below.refl _ _).alloc (Nat.le_refl _) _).alloc (by simp) _).alloc (by simp; omega) _)⟩)
                  clear hput hm4 hg4 hs4 hz hso
                  cases so with
                  | false =>
                    go_wp2_with fail
                    go_roundw
                    case rel => exact ⟨k + 1, by omega, by go_num, Hput.out (.inl rfl)⟩
                    case measure => simp [intOf]; omega
                  | true =>
                    by_cases hle : z.f1 ≤ x.f1
                    · go_wp2_with fail
                      go_roundw
                      case rel => exact ⟨k + 1, by omega, by go_num, Hput.out (.inr hle)⟩
                      case measure => simp [intOf]; omega
                    · go_wp2_with fail
                      go_roundw
                      case rel => exact ⟨k + 1, by omega, by go_num, Hkeep.out (by simp [hle]) _ _ _⟩
                      case measure => simp [intOf]; omega
                · have g6 : (x.f3 != kind) = true := by simpa using h4
                  go_wp2_with fail
                  go_roundw
                  case rel => exact ⟨k + 1, by omega, by go_num, Hskip.out (by simp [countsF, h3, h4])⟩
                  case measure => simp [intOf]; omega
            · go_wp2_with fail
              go_roundw
              case rel => exact ⟨k + 1, by omega, by go_num, Hskip.out (by simp [countsF, h2])⟩
              case measure => simp [intOf]; omega
          · go_wp2_with fail
            go_roundw
            case rel => exact ⟨k + 1, by omega, by go_num, Hskip.out (by simp [countsF, h1])⟩
            case measure => simp [intOf]; omega
        · obtain rfl : k = l.length := by omega
          rw [List.take_length] at Hm1
          obtain ⟨W5, hrange, hR5, hg5, hs5⟩ := run_range law Hm1.out
          obtain ⟨r, hr⟩ : ∃ r, wr.heap.size = r := ⟨_, rfl⟩
          rw [hr] at hrange hR5
          have HB5 : Pk (Below w3.heap.size w3 W5) := pk (HbW.out.grown hg5 HbW.out.size (fun k e => by cases e))
          have Hm5 : Pk (IsMapB ek ev W5 Bm (mapF kind at_ known l)) := pk (Hm1.out.at_ (hg5.block Bm hBm (by simp)))
          have HR5 := pk hR5
          have hrB : w3.heap.size ≤ r := by rw [← hr]; exact HbW.out.size
          replace hr := pk hr
          clear hR5 hg5 hs5 hlt hk
          go_wp2_with fail
          clear hrange
          go_loopw [17] (fun v wr => ∃ m : Nat, v = .int .i64 m ∧ m ≤ 30 ∧ Hid (J2 w3 Bm r s.length (mapF kind at_ known l) m wr)) (fun _ wr => wr.rangeLeft Bm r)
          case atStart => exact ⟨0, rfl, by omega, _, HR5.out, Hm5.out, by rw [Hmany.out]; simp, HB5.out⟩
          case round =>
            obtain ⟨m, rfl, hm30, hh⟩ := hrel
            obtain ⟨left, hRg, hmp, htot, hb⟩ := hh.out
            have Hmp := pk hmp
            have Hb := pk hb
            have hne := hRg.ne
            have hBr : Bm < wr.heap.size := hmp.lt
            clear hh hmp hb Hm1 HbW HB5 Hm5 HR5
            rcases hRg.next (P := Try.prog) 0 with ⟨hl, hnext⟩ | ⟨l1, q, y, l2, W6, hl, hnext, hR6, hg6, hs6, hentry⟩
            · subst hl
              obtain rfl : m = s.length := by simpa using htot
              obtain ⟨W7, hW7⟩ : ∃ W7 : World, W7 = wr := ⟨_, rfl⟩
              subst hW7
              clear hRg htot
              go_wp2_with fail
              clear hnext
              go_loopw [126] (fun i wr => ∃ k : Nat, k ≤ s.length ∧ i = .int .i64 k ∧ Hid (Below W7.heap.size W7 wr)) (fun i _ => s.length - (intOf i).toNat)
              case atStart => exact ⟨0, Nat.zero_le _, rfl, Below.refl _ _⟩
              case round =>
                obtain ⟨k, hk, rfl, hh⟩ := hrel
                have Hbw := pk hh.out
                have hBw : Bm < wr.heap.size := Nat.lt_of_lt_of_le hBr hh.out.size
                clear hh
                by_cases hlt : k < s.length
                · have hC := Kd.C_below (Kd.C_below HC3.out Hb.out) Hbw.out
                  obtain ⟨ad, hA, hcells⟩ := at_24 hC k hlt
                  generalize hx : s.getD k z24 = x at hcells
                  have hget : s[k] = x := by rw [← hx, List.getD_eq_getElem?_getD, List.getElem?_eq_getElem hlt]; rfl
                  obtain ⟨hf7, hmx⟩ := Hst.out x (by rw [← hget]; exact List.getElem_mem hlt)
                  have hlook : ∀ o n, (Instr.lookup 39 (.map (some Bm)) (.agg #[.int .i64 x.f3, .int .i64 x.f4]) false).run Try.prog ((wr.alloc o).drewN n) = .ok (.agg #[.int .i64 x.f0, .int .i64 x.f1, .int .i64 x.f2, .int .i64 x.f3, .int .i64 x.f4, .int .i64 x.f5, .int .i64 x.f6, .bool false]) ((wr.alloc o).drewN n) := by
                    intro o n
                    refine (run_look law (Hmp.out.is.at_ (W' := (wr.alloc o).drewN n) ((Below.heap_alloc wr o _ hBw).trans (Hbw.out.block _ hBr))) (sbOf x)).trans ?_
                    rw [← hf7]
                    congr 1
                    have h2 : (mget (mapF kind at_ known l) (sbOf x)).getD z24 = x := hmx
                    cases hg : mget (mapF kind at_ known l) (sbOf x) with
                    | none => rw [hg] at h2; exact congrArg ev h2
                    | some u => rw [hg] at h2; exact congrArg ev h2
                  have hrun : ∀ d w', (Op.equalIn (d + 2) 24 (.agg #[.int .i64 x.f0, .int .i64 x.f1, .int .i64 x.f2, .int .i64 x.f3, .int .i64 x.f4, .int .i64 x.f5, .int .i64 x.f6, .bool false]) (.agg #[.int .i64 x.f0, .int .i64 x.f1, .int .i64 x.f2, .int .i64 x.f3, .int .i64 x.f4, .int .i64 x.f5, .int .i64 x.f6, .bool false])).run Try.prog w' = .ok true w' := by
                    intro d w'
                    have h := eq_run x x true (by simp) d w'
                    rwa [hf7] at h
                  simp only [hf7] at hcells
                  by_cases h0 : k = 0
                  · have hq2 : ¬ (0 : Int) < (k : Int) := by omega
                    have hq2n : ¬ 0 < k := by omega
                    have hg1 : decide ((0 : Int) < (k : Int)) = false := by simpa using hq2n
                    have hg2 : decide (0 < k) = false := by simpa using hq2n
                    replace h0 := pk h0
                    clear hx hmx hC hget
                    replace hf7 := pk hf7
                    cases hA
                    go_wp2_with fail
                    go_quiet (fail)
                    go_wp2_with fail
                    go_roundw
                    case rel => exact ⟨k + 1, by omega, by go_num, below_step Hbw.out (pw_below_drewN ((Below.refl _ _).alloc (Nat.le_refl _) _) _)⟩
                    case measure => simp [intOf]; omega
                  · obtain ⟨ad2, hA2, hcells2⟩ := at_24 hC (k - 1) (by omega)
                    cases hA
                    cases hA2
                    obtain ⟨hc0, _⟩ := hcells2
                    have hkk : k - 1 = ((k : Int) - 1).toNat := by omega
                    rw [show s.getD (k - 1) z24 = s.getD ((k : Int) - 1).toNat z24 by rw [← hkk]] at hc0
                    have hc1 : ∀ o, (wr.alloc o).cell? (ad.add ((k - 1) * 8)) = _ := fun o => (World.cell?_alloc_lt wr o _ (World.block_lt_of_cell? _ _ hc0)).trans hc0
                    have hpx : ((s.getD ((k : Int) - 1).toNat z24).f0 : Int) < x.f0 := by
                      have h1 := List.pairwise_iff_getElem.1 Hsp.out (k - 1) k (by omega) hlt (by omega)
                      rw [hget] at h1
                      rw [← hkk, List.getD_eq_getElem?_getD, List.getElem?_eq_getElem (show k - 1 < s.length by omega)]
                      exact h1
                    generalize hpp : (s.getD ((k : Int) - 1).toNat z24).f0 = pf at hc1 hpx
                    clear hx hmx hC hget hpp hc0 hkk
                    have hq0 : (0 : Int) ≤ (k : Int) - 1 := by omega
                    have hq1 : (k : Int) - 1 < (s.length : Int) := by omega
                    have hq2 : (0 : Int) < (k : Int) := by omega
                    have hq2n : 0 < k := by omega
                    have hg1 : decide ((0 : Int) < (k : Int)) = true := by simpa using hq2n
                    have hg2 : decide (0 < k) = true := by simpa using hq2n
                    have hq3 : wrap64 ((k : Int) - 1) = (k : Int) - 1 := by unfold wrap64; omega
                    have hq4 : IntKind.i64.wrap ((k : Int) - 1) = (k : Int) - 1 := IntWalk.i64_in _ (by omega)
                    replace hf7 := pk hf7
                    go_wp2_with fail
                    go_quiet (fail)
                    clear hq3 hq4
                    go_wp2_with fail
                    go_roundw
                    case rel => exact ⟨k + 1, by omega, by go_num, below_step Hbw.out (pw_below_drewN ((Below.refl _ _).alloc (Nat.le_refl _) _) _)⟩
                    case measure => simp [intOf]; omega
                · go_wp2_with fail
                  go_ret
                  exact ⟨ret_bool (by simp), below_step (below_step HB3.out Hb.out) Hbw.out⟩
            · have hnext2 : (Instr.next (.pointer (some ⟨r, 0, none⟩)) false 0).run Try.prog wr = .ok (.tuple #[.bool true, .agg #[.int .i64 q.a, .int .i64 q.b], .agg #[.int .i64 y.f0, .int .i64 y.f1, .int .i64 y.f2, .int .i64 y.f3, .int .i64 y.f4, .int .i64 y.f5, .int .i64 y.f6, .bool y.f7]]) W6 := hnext
              have hentry2 : (Instr.entry (.pointer (some ⟨r, 0, none⟩))).run Try.prog W6 = .ok (.tuple #[.agg #[.int .i64 q.a, .int .i64 q.b], .agg #[.int .i64 y.f0, .int .i64 y.f1, .int .i64 y.f2, .int .i64 y.f3, .int .i64 y.f4, .int .i64 y.f5, .int .i64 y.f6, .bool y.f7]]) W6 := hentry
              have Hlen := pk hRg.len
              have Hl := pk hl
              have hB6 : Bm < W6.heap.size := by rw [hs6]; exact hBr
              have hr6 : r < W6.heap.size := by
                obtain ⟨_, _, _, _, _, _, _, _, h4, _⟩ := hR6
                exact (Array.getElem?_eq_some_iff.1 h4).1
              have Hm6 : Pk (IsMapB ek ev W6 Bm (mapF kind at_ known l)) := pk (Hmp.out.at_ (hg6.block Bm hBr (fun e => hne (by cases e; rfl))))
              have Hb6 : Pk (Below w3.heap.size w3 W6) := pk (Hb.out.grown hg6 Hb.out.size (fun k e => by cases e; exact hrB))
              have HR6 := pk hR6
              have Hnx : ∀ o, Pk (Rng ek ev (W6.alloc o) Bm r (l1 ++ l2)) := fun o => pk (HR6.out.at_ (Below.heap_alloc W6 o _ hB6) (Below.heap_alloc W6 o _ hr6))
              have Htot := pk htot
              clear hRg hl hnext hentry hR6 hg6 hs6 htot
              cases hf : y.f7 with
              | true =>
                simp only [hf] at hnext2 hentry2
                have Hf := pk hf
                clear hf
                go_wp2_with fail
                go_roundw
                case rel => exact ⟨m, rfl, hm30, _, (Hnx _).out, Hm6.out.at_ (Below.heap_alloc W6 _ _ hB6), by
                  have := Htot.out
                  rw [Hl.out] at this
                  simp [Hf.out] at this ⊢
                  exact this, below_alloc Hb6.out _⟩
                case measure => rw [Hlen.out, (Hnx _).out.len, Hl.out]; simp
              | false =>
                simp only [hf] at hnext2 hentry2
                have Hf := pk hf
                clear hf
                have hm0 : m < s.length := by
                  have := Htot.out
                  rw [Hl.out] at this
                  simp [Hf.out] at this
                  omega
                go_wp2_with fail
                go_roundw
                case rel => exact ⟨m + 1, by go_num, by omega, _, (Hnx _).out, Hm6.out.at_ (Below.heap_alloc W6 _ _ hB6), by
                  have := Htot.out
                  rw [Hl.out] at this
                  simp [Hf.out] at this ⊢
                  omega, below_alloc Hb6.out _⟩
                case measure => rw [Hlen.out, (Hnx _).out.len, Hl.out]; simp
    · go_enter Try.func5, Try.ntmps5
      go_wp2_with fail
      refine (sane_hook _).mono ?_
      rintro e w1 ⟨rfl, hb1⟩
      have HB1 := pk hb1
      clear hb1
      go_wp2_with fail
      refine (signatorylaw18_right.calls _ A c l true _ (Kd.C_below HR.out HB1.out) Hc.out Hright.out).mono ?_
      rintro e w2 ⟨rfl, hb2⟩
      have HB2 := pk (below_step HB1.out hb2)
      clear hb2
      go_wp2_with fail
      all_goals first
        | (go_ret; exact ⟨rfl, HB2.out⟩)
        | (exfalso; omega)
end Last
end Go.Proofs.Ytaemdkbfdpjimaa.T
