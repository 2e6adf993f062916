/-
Chain of the package deputies, by a walk: how far each person is, round after round, and the path. Condition: the row is read.
-/
import Derived.Test.YtoenefdjejkncaaWl
import Derived.Test.YtoenefdjejkncaaU
import Derived.Test.YtoenefdjejkncaaP6
import Derived.Deep.RegionHeld3
import Derived.Deep.AppendLies
import Derived.Test.YtoenefdjejkncaaP0
namespace Go.Proofs.Ytoenefdjejkncaa.W
open Go.RowKit Go.Proofs.YtoenefdjejkncaaW.PrintWords Go.Proofs.YtoenefdjejkncaaW.PrintLast Go.Proofs.YtoenefdjejkncaaW.PrintMore Go.Proofs.Ytoenefdjejkncaa.P
open S (checkF askF inB coverF upd farStep farN farF pathF chainF)
set_option linter.unusedVariables false
namespace Ch
open Cv (Qn Boxes covering_any collect_any)
theorem ask_f (l : List S24) (a b o kd v t n : Int) (k : Nat) (hk : l.length + 1 < k) : deputies_ask.f k l a b o kd v t n = some (askF l a b o kd v t n) := by
  have hw : ∀ a m n : Int, deputies_within.f n a m = some (inB a m n) := by
    intro a m n
    unfold deputies_within.f inB
    by_cases h : a ≤ n <;> simp [h]
  unfold deputies_ask.f askF deputies_isPerson.f deputies_isTime.f
  rw [U.check_f l k hk]
  simp only [hw, Option.bind_some]
  by_cases h0 : checkF l = 0
  · rw [if_pos h0, if_neg (show ¬ checkF l ≠ 0 by simp [h0])]
    cases inB 0 63 a <;> cases inB 0 63 b <;> cases inB 0 31 o <;> cases inB 0 15 kd <;> cases inB 0 1099511627776 v <;> cases inB 0 1099511627775 t <;> cases inB 0 1099511627775 n <;> simp
  · rw [if_neg h0, if_pos h0]
theorem ask_check {l : List S24} {a b o kd v t n : Int} (h : askF l a b o kd v t n = 0) : checkF l = 0 := by
  unfold askF at h
  by_cases h0 : checkF l = 0
  · exact h0
  · rw [if_pos h0] at h; exact absurd h h0
abbrev ei : Int → Value := Value.int .i64
theorem ilaw : MapLaw Try.prog 75 3 3 ei ei (.int .i64 0) := int_law Try.underlying75 Try.underlying3 (fun w => by kernel_rfl)
theorem row24 {W : World} {base : Nat} {ok : Nat → Prop} {v : Value} {l : List S24} (h : Kd.R k24 24 W base ok v l) : ∃ A c, v = .slice A l.length c ∧ l.length ≤ c ∧ Kd.C k24 W A l.length l := by
  obtain ⟨A, c, e⟩ := Kd.R_slice h
  subst e
  exact ⟨A, c, rfl, (Kd.R_reads' h).2.1, (Kd.R_reads' h).2.2⟩
/-- the map reads as a function -/
def Jf (W0 : World) (f : Int → Option Int) (W : World) : Prop := ∃ m, IsMap ei ei W W0.heap.size m ∧ (∀ p, mget m p = f p) ∧ Below W0.heap.size W0 W
theorem Jf.below {W0 W W' : World} {f : Int → Option Int} (h : Jf W0 f W) (hb : Below W.heap.size W W') : Jf W0 f W' := by
  obtain ⟨m, h1, h2, h3⟩ := h
  exact ⟨m, h1.at_ (hb.block _ h1.lt), h2, below_step h3 hb⟩
theorem Jf.lt {W0 W : World} {f : Int → Option Int} (h : Jf W0 f W) : W0.heap.size < W.heap.size := by
  obtain ⟨m, h1, _⟩ := h
  exact h1.lt
theorem Jf.look {W0 W : World} {f : Int → Option Int} (h : Jf W0 f W) (k : Int) : (Instr.lookup 75 (.map (some W0.heap.size)) (.int .i64 k) true).run Try.prog W = .ok (.tuple #[.int .i64 ((f k).getD 0), .bool (f k).isSome]) W := by
  obtain ⟨m, h1, h2, _⟩ := h
  refine (run_look_ok ilaw h1 k).trans ?_
  rw [h2 k]
  cases f k <;> rfl
theorem Jf.put {W0 W : World} {f : Int → Option Int} (h : Jf W0 f W) (k v : Int) : ∃ W', (Instr.mapUpdate 75 (.map (some W0.heap.size)) (.int .i64 k) (.int .i64 v)).run Try.prog W = .ok () W' ∧ Jf W0 (upd f k v) W' := by
  obtain ⟨m, h1, h2, h3⟩ := h
  obtain ⟨W', hp, hm, hg, hs⟩ := run_put ilaw h1 k v
  refine ⟨W', hp, mput m k v, hm, fun p => ?_, h3.grown hg h3.size (fun q e => by cases e; exact Nat.le_refl _)⟩
  rw [mget_put]
  unfold upd
  rw [h2 p]
theorem far_range (c : List S24) (to_ : Int) : ∀ (k : Nat) (p v : Int), farN c to_ k p = some v → 0 ≤ v ∧ v ≤ k := by
  have step : ∀ (k : Nat) (l : List S24) (f : Int → Option Int), (∀ p v, f p = some v → 0 ≤ v ∧ v ≤ (k : Int) + 1) → ∀ p v, l.foldl (farStep k) f p = some v → 0 ≤ v ∧ v ≤ (k : Int) + 1 := by
    intro k l
    induction l with
    | nil => intro f h; exact h
    | cons x l ih =>
      intro f h
      refine ih _ (fun p v hv => ?_)
      unfold farStep at hv
      split at hv
      · unfold upd at hv
        split at hv
        · simp only [Option.some.injEq] at hv
          omega
        · exact h p v hv
      · exact h p v hv
  intro k
  induction k with
  | zero =>
    intro p v h
    unfold farN upd at h
    split at h
    · simp only [Option.some.injEq] at h; omega
    · cases h
  | succ k ih =>
    intro p v h
    unfold farN at h
    have := step k c (farN c to_ k) (fun p v hv => by have := ih p v hv; omega) p v h
    omega
def Post (r : List Int × Bool × Int) (w : World) (e : Ending) (w' : World) : Prop := ∃ v0_ : Value, e = .returned (.tuple #[v0_, .bool r.2.1, .int .i64 r.2.2]) ∧ Kd.R (Kd.int .i64) 3 w' w.heap.size (fun _ => True) v0_ r.1 ∧ Below w.heap.size w w'
theorem post_nil {l : List S24} {a b o kd v t n : Int} {ok : Bool} {r : Int} {w w' : World} (h : chainF l a b o kd v t n = ([], ok, r)) (hb : Below w.heap.size w w') : Post (chainF l a b o kd v t n) w (.returned (.tuple #[.slice none 0 0, .bool ok, .int .i64 r])) w' := by
  rw [h]
  exact ⟨_, rfl, Kd.R_nil _ _ _ _ _, hb⟩
/-- what stands between two rounds of the path's loop -/
def Jp (w W7 : World) (c : List S24) (f : Int → Option Int) (tot : List Int) (n : Nat) (p : Int) (v : Value) (pre : List Int) (W : World) : Prop :=
  Kd.R (Kd.int .i64) 3 W W7.heap.size (fun _ => True) v pre ∧ pre ++ pathF c f n p = tot ∧ pre.length + n ≤ 8 ∧ Below W7.heap.size W7 W
set_option maxHeartbeats 8000000 in
set_option maxRecDepth 100000 in
theorem chain_any (A : Option Addr) (c : Nat) (l : List S24) (from_ to_ o kd v t n : Int) (w : World) (hr : Kd.C k24 w A l.length l) (hc : l.length ≤ c) :
    Calls Try.prog 32 #[.slice A l.length c, .int .i64 from_, .int .i64 to_, .int .i64 o, .int .i64 kd, .int .i64 v, .int .i64 t, .int .i64 n] w (Post (chainF l from_ to_ o kd v t n) w) := by
  have hask := ask_f l from_ to_ o kd v t n (l.length + 2) (by omega)
  have hchain : chainF l from_ to_ o kd v t n = if askF l from_ to_ o kd v t n ≠ 0 then ([], false, askF l from_ to_ o kd v t n) else match farF (coverF l o kd v t n) to_ from_ with | none => ([], false, 0) | some m => (pathF (coverF l o kd v t n) (farF (coverF l o kd v t n) to_) m.toNat from_, true, 0) := rfl
  have hck : askF l from_ to_ o kd v t n = 0 → checkF l = 0 := ask_check
  generalize askF l from_ to_ o kd v t n = ak at hask hchain hck
  have HR := pk hr
  have Hc := pk hc
  have Hask := pk hask
  have Hchain := pk hchain
  have Hck := pk hck
  clear hr hc hask hchain hck
  have hX : ∀ W, Below (w.alloc (.cells #[.int .i64 o, .int .i64 kd, .int .i64 v, .int .i64 t, .int .i64 n] 69)).heap.size (w.alloc (.cells #[.int .i64 o, .int .i64 kd, .int .i64 v, .int .i64 t, .int .i64 n] 69)) W → W.heap[w.heap.size]? = some (.cells #[.int .i64 o, .int .i64 kd, .int .i64 v, .int .i64 t, .int .i64 n] 69 (0, 0)) := fun W h => (h.block _ (by simp)).trans (Go.heap_alloc_new w _)
  have HX := pk hX
  clear hX
  go_enter Try.func32, Try.ntmps32
  go_wp2_with fail
  refine (deputies_ask.calls _ A c l from_ to_ o kd v t n ak _ (Kd.C_alloc HR.out _) Hc.out Hask.out).mono ?_
  rintro e w1 ⟨rfl, hb1⟩
  have HX1 := pk (HX.out w1 hb1)
  have HB1 := pk (((Below.refl w.heap.size w).alloc (Nat.le_refl _) _).trans (hb1.mono (by simp)))
  clear hb1 HX Hask
  by_cases h0 : ak = 0
  · subst h0
    have hL : l.length ≤ 4096 := (U.check_ok (Hck.out rfl)).1
    have Hch : Pk (chainF l from_ to_ o kd v t n = match farF (coverF l o kd v t n) to_ from_ with | none => ([], false, 0) | some m => (pathF (coverF l o kd v t n) (farF (coverF l o kd v t n) to_) m.toNat from_, true, 0)) := pk (by rw [Hchain.out]; rfl)
    clear Hchain Hck
    have hcx := fun j => cell_of_row w1 w.heap.size j _ 69 (0, 0) HX1.out
    have hx0 : w1.cell? ⟨w.heap.size, 0, none⟩ = some (.int .i64 o) := hcx 0
    have hx1 : w1.cell? ⟨w.heap.size, 1, none⟩ = some (.int .i64 kd) := hcx 1
    have hx2 : w1.cell? ⟨w.heap.size, 2, none⟩ = some (.int .i64 v) := hcx 2
    have hx3 : w1.cell? ⟨w.heap.size, 3, none⟩ = some (.int .i64 t) := hcx 3
    have hx4 : w1.cell? ⟨w.heap.size, 4, none⟩ = some (.int .i64 n) := hcx 4
    clear hcx
    go_wp2_with fail
    refine (covering_any ⟨o, kd, v, t, n⟩ A c l w1 (Kd.C_below HR.out HB1.out)).mono ?_
    rintro e w2 ⟨rfl, m, hm, hmg, hBx, hb2⟩
    rw [List.take_length] at hmg
    have HB2 := pk (below_step HB1.out hb2)
    have Hcol := pk (collect_any w1.heap.size ⟨o, kd, v, t, n⟩ A c l hL m w2 hBx hm hmg (Kd.C_below HR.out HB2.out))
    clear hm hmg hBx hb2 hx0 hx1 hx2 hx3 hx4 HX1
    go_wp2_with fail
    refine Hcol.out.mono ?_
    rintro e w3 ⟨v3, rfl, hR3, hb3⟩
    dsimp only at hR3
    obtain ⟨cv, hcv⟩ : ∃ cv, coverF l o kd v t n = cv := ⟨_, rfl⟩
    rw [hcv] at hR3 Hch
    have hcl : cv.length ≤ 4096 := by rw [← hcv]; exact Nat.le_trans (List.length_filter_le _ _) hL
    obtain ⟨A3, c3, rfl, hc3, hC3⟩ := row24 hR3
    have HC3 := pk hC3
    have HB3 := pk (below_step HB2.out hb3)
    replace hcv := pk hcv
    clear hR3 hC3 hb3 Hcol
    have hmm := @run_makeMap Try.prog
    have Hj0 : Pk (Jf w3 (fun _ => none) (w3.alloc (.map #[] 0))) := pk ⟨[], IsMap.new w3, fun p => rfl, (Below.refl _ _).alloc (Nat.le_refl _) _⟩
    obtain ⟨W4, hput0, hj4⟩ := Hj0.out.put to_ 0
    have Hj4 : Pk (Jf w3 (farN cv to_ 0) W4) := pk hj4
    clear hj4 Hj0
    go_wp2_with fail
    clear hmm hput0
    go_loopw [57] (fun i wr => ∃ r : Nat, r ≤ 8 ∧ i = .int .i64 r ∧ Hid (Jf w3 (farN cv to_ r) wr)) (fun i _ => 8 - (intOf i).toNat)
    case atStart => exact ⟨0, by omega, rfl, Hj4.out⟩
    case round =>
      obtain ⟨r, hr8, rfl, hh⟩ := hrel
      have Hj := pk hh.out
      clear hh
      obtain ⟨wo, hwo⟩ : ∃ wo : World, wo = wr := ⟨_, rfl⟩
      subst hwo
      by_cases hlt : r < 8
      · go_wp2_with fail
        go_loopw [62] (fun i wr => ∃ j : Nat, j ≤ cv.length ∧ i = .int .i64 j ∧ Hid (Jf w3 ((cv.take j).foldl (farStep r) (farN cv to_ r)) wr)) (fun i _ => cv.length - (intOf i).toNat)
        case atStart => exact ⟨0, Nat.zero_le _, rfl, Hj.out⟩
        case round =>
          obtain ⟨j, hj, rfl, hh⟩ := hrel
          have Hi := pk hh.out
          clear hh
          by_cases hjt : j < cv.length
          · obtain ⟨ad, hA, hcells⟩ := at_24 (Kd.C_below HC3.out Hi.out.choose_spec.2.2) j hjt
            generalize hx : cv.getD j z24 = x at hcells
            have hget : cv[j] = x := by rw [← hx, List.getD_eq_getElem?_getD, List.getElem?_eq_getElem hjt]; rfl
            obtain ⟨f, hf⟩ : ∃ f, (cv.take j).foldl (farStep r) (farN cv to_ r) = f := ⟨_, rfl⟩
            rw [hf] at Hi
            have Hnx : Pk ((cv.take (j + 1)).foldl (farStep r) (farN cv to_ r) = farStep r f x) := pk (by rw [List.take_succ_eq_append_getElem hjt, List.foldl_append, hget, hf]; rfl)
            clear hx hget hf
            cases hA
            have hla : ∀ k o', (Instr.lookup 75 (.map (some w3.heap.size)) (.int .i64 k) true).run Try.prog (wr.alloc o') = .ok (.tuple #[.int .i64 ((f k).getD 0), .bool (f k).isSome]) (wr.alloc o') := fun k o' => (Hi.out.below (below_alloc (Below.refl _ _) o')).look k
            have hl4 := fun o' => hla x.f4 o'
            have hl5 := fun o' => hla x.f5 o'
            obtain ⟨W6, hput, hj6⟩ := (Hi.out.below (below_alloc (Below.refl _ _) (.cells #[.int .i64 x.f0, .int .i64 x.f1, .int .i64 x.f2, .int .i64 x.f3, .int .i64 x.f4, .int .i64 x.f5, .int .i64 x.f6, .int .i64 x.f7, .int .i64 x.f8, .bool x.f9] 24))).put x.f4 ((r : Int) + 1)
            have Hj6 := pk hj6
            have Hsk : Pk (Jf w3 f (wr.alloc (.cells #[.int .i64 x.f0, .int .i64 x.f1, .int .i64 x.f2, .int .i64 x.f3, .int .i64 x.f4, .int .i64 x.f5, .int .i64 x.f6, .int .i64 x.f7, .int .i64 x.f8, .bool x.f9] 24))) := pk (Hi.out.below (below_alloc (Below.refl _ _) _))
            clear hla hj6
            cases h5 : f x.f5 with
            | none =>
              have Hst := pk (show farStep r f x = f by unfold farStep; rw [h5]; simp)
              simp only [h5, Option.getD_none, Option.isSome_none] at hl5
              replace h5 := pk h5
              go_wp2_with fail
              go_roundw
              case rel => exact ⟨j + 1, by omega, by go_num, by rw [Hnx.out, Hst.out]; exact Hsk.out⟩
              case measure => simp [intOf]; omega
            | some v5 =>
              simp only [h5, Option.getD_some, Option.isSome_some] at hl5
              by_cases hv5 : v5 = (r : Int)
              · subst hv5
                cases h4 : f x.f4 with
                | none =>
                  have Hst := pk (show farStep r f x = upd f x.f4 ((r : Int) + 1) by unfold farStep; rw [h5, h4]; simp)
                  simp only [h4, Option.getD_none, Option.isSome_none] at hl4
                  replace h5 := pk h5
                  replace h4 := pk h4
                  go_wp2_with fail
                  go_roundw
                  case rel => exact ⟨j + 1, by omega, by go_num, by rw [Hnx.out, Hst.out]; exact Hj6.out⟩
                  case measure => simp [intOf]; omega
                | some v4 =>
                  have Hst := pk (show farStep r f x = f by unfold farStep; rw [h4]; simp)
                  simp only [h4, Option.getD_some, Option.isSome_some] at hl4
                  replace h5 := pk h5
                  replace h4 := pk h4
                  go_wp2_with fail
                  go_roundw
                  case rel => exact ⟨j + 1, by omega, by go_num, by rw [Hnx.out, Hst.out]; exact Hsk.out⟩
                  case measure => simp [intOf]; omega
              · have g5 : (v5 == (r : Int)) = false := by simp [hv5]
                have Hst := pk (show farStep r f x = f by unfold farStep; rw [h5]; simp [hv5])
                replace h5 := pk h5
                replace hv5 := pk hv5
                go_wp2_with fail
                go_roundw
                case rel => exact ⟨j + 1, by omega, by go_num, by rw [Hnx.out, Hst.out]; exact Hsk.out⟩
                case measure => simp [intOf]; omega
          · obtain rfl : j = cv.length := by omega
            rw [List.take_length] at Hi
            go_wp2_with fail
            go_roundw
            case rel => exact ⟨r + 1, by omega, by go_num, Hi.out⟩
            case measure => simp [intOf]; omega
      · obtain rfl : r = 8 := by omega
        have e8 : ((8 : Nat) : Int) = 8 := rfl
        simp only [e8]
        clear e8
        obtain ⟨f, hf⟩ : ∃ f, farF cv to_ = f := ⟨_, rfl⟩
        have hf8 : farN cv to_ 8 = f := hf
        rw [hf8] at Hj
        rw [hf] at Hch
        have hrg : ∀ p v, f p = some v → 0 ≤ v ∧ v ≤ 8 := by rw [← hf8]; exact far_range cv to_ 8
        have Hrg := pk hrg
        replace hf8 := pk hf8
        have hl := Hj.out.look from_
        clear hf hrg hlt hr8
        cases h0 : f from_ with
        | none =>
          simp only [h0, Option.getD_none, Option.isSome_none] at hl Hch
          replace h0 := pk h0
          go_wp2_with fail
          refine bodyPost_ret (v := .tuple #[.slice none 0 0, .bool false, .int .i64 0]) (by simp [results, Try.results32, go_sem]) rfl ?_
          exact post_nil Hch.out (below_step HB3.out Hj.out.choose_spec.2.2)
        | some v0 =>
          obtain ⟨hv0, hv8⟩ := Hrg.out _ _ h0
          obtain ⟨d, hd⟩ : ∃ d : Nat, v0 = (d : Int) := ⟨v0.toNat, by omega⟩
          subst hd
          simp only [h0, Option.getD_some, Option.isSome_some, Int.toNat_natCast] at hl Hch
          replace h0 := pk h0
          clear hv0
          go_wp2_with fail
          clear hl
          obtain ⟨W7, hW7⟩ : ∃ W7 : World, W7 = wo := ⟨_, rfl⟩
          subst hW7
          obtain ⟨tot, htot⟩ : ∃ tot, pathF cv f d from_ = tot := ⟨_, rfl⟩
          rw [htot] at Hch
          have Htot := pk htot
          have HB7 := pk (below_step HB3.out Hj.out.choose_spec.2.2)
          have HC7 := pk (Kd.C_below HC3.out Hj.out.choose_spec.2.2)
          clear htot
          go_loopw [16, 29, 31] (fun vp vl vq wr => ∃ (m : Nat) (p : Int) (v0 : Value) (pre : List Int), vl = .int .i64 m ∧ vq = .int .i64 p ∧ v0 = vp ∧ Hid (Jp w W7 cv f tot m p v0 pre wr)) (fun _ vl _ _ => (intOf vl).toNat)
          case atStart => exact ⟨d, from_, _, [], rfl, rfl, rfl, Kd.R_nil _ _ _ _ _, Htot.out, by simp; omega, Below.refl _ _⟩
          case round =>
            obtain ⟨m, p, v0, pre, rfl, rfl, hv0, hh⟩ := hrel
            subst hv0
            obtain ⟨hO, htt, hle, hb⟩ := hh.out
            obtain ⟨wo, hwo⟩ : ∃ wo : World, wo = wr := ⟨_, rfl⟩
            subst hwo
            have HO := pk hO
            have Htt := pk htt
            have Hb := pk hb
            clear hh hO htt hb
            cases m with
            | zero =>
              obtain ⟨Ap, cp, rfl⟩ := Kd.R_slice HO.out
              go_wp2_with fail
              refine bodyPost_ret (v := .tuple #[.slice Ap pre.length cp, .bool true, .int .i64 0]) (by simp [results, Try.results32, go_sem]) rfl ?_
              have e : pre = tot := by have := Htt.out; unfold pathF at this; simpa using this
              unfold Post
              rw [Hch.out, ← e]
              exact ⟨_, rfl, Kd.R_lower HO.out (HB7.out.size), below_step HB7.out Hb.out⟩
            | succ m =>
              obtain ⟨lv, hlv⟩ : ∃ lv : Int, ((m + 1 : Nat) : Int) = lv := ⟨_, rfl⟩
              have hlv1 : 1 ≤ lv := by omega
              have hlv8 : lv ≤ 8 := by omega
              have hlvm : lv - 1 = (m : Int) := by omega
              simp only [hlv]
              have Hlvm := pk hlvm
              replace hlv := pk hlv
              clear hlvm
              go_wp2_with fail
              go_loopw [16, 31, 112] (fun vp vq i wr => ∃ j : Nat, j ≤ cv.length ∧ i = .int .i64 j ∧ v0 = vp ∧ vq = .int .i64 p ∧ Hid ((cv.take j).find? (fun x => decide (x.f4 = p) && decide (f x.f5 = some (m : Int))) = none ∧ Below wo.heap.size wo wr)) (fun _ _ i _ => cv.length - (intOf i).toNat)
              case atStart => exact ⟨0, Nat.zero_le _, rfl, rfl, rfl, by simp, Below.refl _ _⟩
              case round =>
                obtain ⟨j, hj, rfl, hvp, rfl, hh⟩ := hrel
                subst hvp
                have Hi := pk hh.out
                clear hh
                have HJr := pk ((Hj.out.below Hb.out).below Hi.out.2)
                by_cases hjt : j < cv.length
                · obtain ⟨ad, hA, hcells⟩ := at_24 (Kd.C_below (Kd.C_below HC7.out Hb.out) Hi.out.2) j hjt
                  generalize hx : cv.getD j z24 = x at hcells
                  have hget : cv[j] = x := by rw [← hx, List.getD_eq_getElem?_getD, List.getElem?_eq_getElem hjt]; rfl
                  have Hts : Pk ((cv.take (j + 1)).find? (fun x => decide (x.f4 = p) && decide (f x.f5 = some (m : Int))) = if (decide (x.f4 = p) && decide (f x.f5 = some (m : Int))) = true then some x else none) := pk (by
                    rw [List.take_succ_eq_append_getElem hjt, List.find?_append, Hi.out.1, hget]
                    simp only [Option.none_or, List.find?_cons, List.find?_nil]
                    split <;> simp_all)
                  have Hfd : Pk ((decide (x.f4 = p) && decide (f x.f5 = some (m : Int))) = true → cv.find? (fun x => decide (x.f4 = p) && decide (f x.f5 = some (m : Int))) = some x) := pk (fun h => by
                    have e : cv = cv.take (j + 1) ++ cv.drop (j + 1) := (List.take_append_drop _ _).symm
                    rw [e, List.find?_append, Hts.out, if_pos h]
                    rfl)
                  clear hx hget
                  cases hA
                  have hl5 : ∀ o', (Instr.lookup 75 (.map (some w3.heap.size)) (.int .i64 x.f5) true).run Try.prog (wr.alloc o') = .ok (.tuple #[.int .i64 ((f x.f5).getD 0), .bool (f x.f5).isSome]) (wr.alloc o') := fun o' => (HJr.out.below (below_alloc (Below.refl _ _) o')).look x.f5
                  have Hnx : Pk ((decide (x.f4 = p) && decide (f x.f5 = some (m : Int))) = false → ((cv.take (j + 1)).find? (fun x => decide (x.f4 = p) && decide (f x.f5 = some (m : Int))) = none ∧ Below wo.heap.size wo (wr.alloc (.cells #[.int .i64 x.f0, .int .i64 x.f1, .int .i64 x.f2, .int .i64 x.f3, .int .i64 x.f4, .int .i64 x.f5, .int .i64 x.f6, .int .i64 x.f7, .int .i64 x.f8, .bool x.f9] 24)))) := pk (fun h => ⟨by rw [Hts.out, if_neg (by simp [h])], below_alloc Hi.out.2 _⟩)
                  by_cases h4 : x.f4 = p
                  · have g4 : (x.f4 == p) = true := by simp [h4]
                    cases h5 : f x.f5 with
                    | none =>
                      have Hn := pk (show (decide (x.f4 = p) && decide (f x.f5 = some (m : Int))) = false by rw [h5]; simp)
                      simp only [h5, Option.getD_none, Option.isSome_none] at hl5
                      replace h5 := pk h5
                      replace h4 := pk h4
                      go_wp2_with fail
                      go_roundw
                      case rel => exact ⟨j + 1, by omega, by go_num, rfl, rfl, Hnx.out Hn.out⟩
                      case measure => simp [intOf]; omega
                    | some v5 =>
                      simp only [h5, Option.getD_some, Option.isSome_some] at hl5
                      by_cases hv5 : v5 = lv - 1
                      · have g5 : (v5 == lv - 1) = true := by simp [hv5]
                        have Hy := pk (show (decide (x.f4 = p) && decide (f x.f5 = some (m : Int))) = true by rw [h5, hv5, Hlvm.out]; simp [h4])
                        have Hpath : Pk (pre ++ [x.f0] ++ pathF cv f m x.f5 = tot) := pk (by
                          have h1 := Htt.out
                          unfold pathF at h1
                          rw [Hfd.out Hy.out] at h1
                          simpa using h1)
                        have HOr : Pk (Kd.R (Kd.int .i64) 3 wr W7.heap.size (fun _ => True) v0 pre) := pk (Kd.R_below HO.out Hi.out.2)
                        have hne : v0.ownBlock ≠ some wr.heap.size := fun e => by
                          obtain ⟨_, inner, hown, _⟩ := HOr.out
                          have := own_lt hown _ e
                          omega
                        have Hne := pk hne
                        have HBw := pk (below_step Hb.out Hi.out.2)
                        replace h5 := pk h5
                        replace h4 := pk h4
                        replace hv5 := pk hv5
                        have hX0 : Pk ((wr.alloc (.cells #[.int .i64 x.f0, .int .i64 x.f1, .int .i64 x.f2, .int .i64 x.f3, .int .i64 x.f4, .int .i64 x.f5, .int .i64 x.f6, .int .i64 x.f7, .int .i64 x.f8, .bool x.f9] 24)).drew.cell? ⟨wr.heap.size, 0, none⟩ = some (.int .i64 x.f0)) := pk (cell_of_row _ _ 0 _ _ (0, 0) (Go.heap_alloc_new wr (.cells #[.int .i64 x.f0, .int .i64 x.f1, .int .i64 x.f2, .int .i64 x.f3, .int .i64 x.f4, .int .i64 x.f5, .int .i64 x.f6, .int .i64 x.f7, .int .i64 x.f8, .bool x.f9] 24)))
                        have hX5 : Pk ((wr.alloc (.cells #[.int .i64 x.f0, .int .i64 x.f1, .int .i64 x.f2, .int .i64 x.f3, .int .i64 x.f4, .int .i64 x.f5, .int .i64 x.f6, .int .i64 x.f7, .int .i64 x.f8, .bool x.f9] 24)).drew.cell? ⟨wr.heap.size, 5, none⟩ = some (.int .i64 x.f5)) := pk (cell_of_row _ _ 5 _ _ (0, 0) (Go.heap_alloc_new wr (.cells #[.int .i64 x.f0, .int .i64 x.f1, .int .i64 x.f2, .int .i64 x.f3, .int .i64 x.f4, .int .i64 x.f5, .int .i64 x.f6, .int .i64 x.f7, .int .i64 x.f8, .bool x.f9] 24)))
                        have hXl : Pk (wr.heap.size < (wr.alloc (.cells #[.int .i64 x.f0, .int .i64 x.f1, .int .i64 x.f2, .int .i64 x.f3, .int .i64 x.f4, .int .i64 x.f5, .int .i64 x.f6, .int .i64 x.f7, .int .i64 x.f8, .bool x.f9] 24)).drew.heap.size) := pk (by show wr.heap.size < (wr.alloc _).heap.size; simp)
                        clear hne
                        go_wp2_with fail
                        go_region_held3 (fun w' => w'.cell? ⟨wr.heap.size, 0, none⟩ = some (.int .i64 x.f0) ∧ w'.cell? ⟨wr.heap.size, 5, none⟩ = some (.int .i64 x.f5)) (first | go_keep | (go_split_ands; exact ⟨(hg9.cell_far ⟨wr.heap.size, 0, none⟩ hXl.out (Ne.symm Hne.out)).trans hX0.out, (hg9.cell_far ⟨wr.heap.size, 5, none⟩ hXl.out (Ne.symm Hne.out)).trans hX5.out⟩))
                          ((refine Kd.R_append_step (Kd.int .i64) (w0 := W7) W7.heap.size (by rfl) (.tmp 136) (.tmp 139) 35 3 (.int .i64 0) 8 (by rfl) Try.underlying35 info3 (by rfl) (by decide) (by omega) v0 pre x.f0 [.int .i64 x.f0] (fun _ => True) (fun _ => False) (by rfl) (by first | rfl | (show Value.slice _ 1 1 = Value.slice _ 1 1; simp)) (by rfl) (fun _ hk => hk.elim) (fun _ _ => trivial) (Kd.R_drew (Kd.R_alloc HOr.out _)) (below_drew1 (below_alloc HBw.out _)) (below_drew1 (below_alloc HBw.out _)).size (by omega) ?_; intro v9 w9 ho9 hb9 hg9 hat9))
                        have Hnew : Pk (Jp w W7 cv f tot m x.f5 v9 (pre ++ [x.f0]) w9) := pk ⟨ho9, Hpath.out, by simp; omega, hb9⟩
                        clear ho9 hb9 hg9 hat9
                        go_wp2_with fail
                        go_roundw
                        case rel => exact ⟨m, x.f5, _, _, by rw [Hlvm.out], rfl, rfl, Hnew.out⟩
                        case measure => simp [intOf]; omega
                      · have g5 : (v5 == lv - 1) = false := by simpa using hv5
                        have Hn := pk (show (decide (x.f4 = p) && decide (f x.f5 = some (m : Int))) = false by rw [h5, ← Hlvm.out]; simp [hv5])
                        replace h5 := pk h5
                        replace h4 := pk h4
                        replace hv5 := pk hv5
                        go_wp2_with fail
                        go_roundw
                        case rel => exact ⟨j + 1, by omega, by go_num, rfl, rfl, Hnx.out Hn.out⟩
                        case measure => simp [intOf]; omega
                  · have g4 : (x.f4 == p) = false := by simpa using h4
                    have Hn := pk (show (decide (x.f4 = p) && decide (f x.f5 = some (m : Int))) = false by simp [h4])
                    replace h4 := pk h4
                    go_wp2_with fail
                    go_roundw
                    case rel => exact ⟨j + 1, by omega, by go_num, rfl, rfl, Hnx.out Hn.out⟩
                    case measure => simp [intOf]; omega
                · obtain rfl : j = cv.length := by omega
                  have Hnone : Pk (pre ++ pathF cv f m p = tot) := pk (by
                    have h1 := Htt.out
                    have h2 := Hi.out.1
                    rw [List.take_length] at h2
                    unfold pathF at h1
                    rw [h2] at h1
                    exact h1)
                  have Hnew : Pk (Jp w W7 cv f tot m p v0 pre wr) := pk ⟨Kd.R_below HO.out Hi.out.2, Hnone.out, by omega, below_step Hb.out Hi.out.2⟩
                  go_wp2_with fail
                  go_roundw
                  case rel => exact ⟨m, p, _, _, by rw [Hlvm.out], rfl, rfl, Hnew.out⟩
                  case measure => simp [intOf]; omega
  · have g0 : (ak != 0) = true := by simp [h0]
    have Hch : Pk (chainF l from_ to_ o kd v t n = ([], false, ak)) := pk (by rw [Hchain.out, if_pos h0])
    clear Hchain Hck
    replace h0 := pk h0
    go_wp2_with fail
    refine bodyPost_ret (v := .tuple #[.slice none 0 0, .bool false, .int .i64 ak]) (by simp [results, Try.results32, go_sem]) rfl ?_
    exact post_nil Hch.out HB1.out
end Ch
theorem chain_hook (A0 : Option Addr) (c0 : Nat) (l0 : List S24) (a1 a2 a3 a4 a5 a6 a7 : Int) (w : World) (hr0 : Kd.C k24 w A0 l0.length l0) (hc0 : l0.length ≤ c0) :
    Calls Try.prog 32 #[.slice A0 l0.length c0, .int .i64 a1, .int .i64 a2, .int .i64 a3, .int .i64 a4, .int .i64 a5, .int .i64 a6, .int .i64 a7] w (fun e w' => ∃ v0_ : Value, e = .returned (.tuple #[v0_, .bool (S.chainF l0 a1 a2 a3 a4 a5 a6 a7).2.1, .int .i64 (S.chainF l0 a1 a2 a3 a4 a5 a6 a7).2.2]) ∧ Kd.R (Kd.int .i64) 3 w' w.heap.size (fun _ => True) v0_ (S.chainF l0 a1 a2 a3 a4 a5 a6 a7).1 ∧ Below w.heap.size w w') :=
  Ch.chain_any A0 c0 l0 a1 a2 a3 a4 a5 a6 a7 w hr0 hc0
end Go.Proofs.Ytoenefdjejkncaa.W

-- FOLDED: the printed part of the function that is given by hand
-- Written by drive.py (a session's program over the kit's print). Not trusted: Lean checks it.
namespace Go.Proofs.Ytoenefdjejkncaa.P
open Go.RowKit Go.Proofs.YtoenefdjejkncaaW.PrintWords Go.Proofs.YtoenefdjejkncaaW.PrintLast Go.Proofs.YtoenefdjejkncaaW.PrintMore
attribute [local go_sem] max2_int min2_int max_two min_two max_three min_three max_four min_four   -- for this text's walks alone
set_option linter.unusedVariables false
set_option linter.unusedSimpArgs false

/-! ### deputies_Chain: function 32 -/
-- HOOK Derived.Test.YtoenefdjejkncaaWd
def deputies_Chain.f (l0 : List (S24)) (a1 : Int) (a2 : Int) (a3 : Int) (a4 : Int) (a5 : Int) (a6 : Int) (a7 : Int) : Option (List Int × Bool × Int) := some (S.chainF l0 a1 a2 a3 a4 a5 a6 a7)
theorem deputies_Chain.calls (A0 : Option Addr) (c0 : Nat) (l0 : List (S24)) (a1 : Int) (a2 : Int) (a3 : Int) (a4 : Int) (a5 : Int) (a6 : Int) (a7 : Int) (r1 : List Int) (r2 : Bool) (r3 : Int) (w : World) (hr0 : Kd.C k24 w A0 l0.length l0) (hc0 : l0.length ≤ c0) (h : deputies_Chain.f l0 a1 a2 a3 a4 a5 a6 a7 = some (r1, r2, r3)) :
    Calls Try.prog 32 #[.slice A0 l0.length c0, .int .i64 a1, .int .i64 a2, .int .i64 a3, .int .i64 a4, .int .i64 a5, .int .i64 a6, .int .i64 a7] w (fun e w' => ∃ v0_ : Value, e = .returned (.tuple #[v0_, .bool r2, .int .i64 r3]) ∧ Kd.R (Kd.int .i64) 3 w' w.heap.size (fun _ => True) v0_ r1 ∧ Below w.heap.size w w') := by
  unfold deputies_Chain.f at h
  simp only [Option.some.injEq] at h
  have h0_ := congrArg (fun p_ => p_.1) h
  have h1_ := congrArg (fun p_ => p_.2.1) h
  have h2_ := congrArg (fun p_ => p_.2.2) h
  dsimp only at h0_ h1_ h2_
  subst h0_ h1_ h2_
  exact W.chain_hook A0 c0 l0 a1 a2 a3 a4 a5 a6 a7 w hr0 hc0
end Go.Proofs.Ytoenefdjejkncaa.P
