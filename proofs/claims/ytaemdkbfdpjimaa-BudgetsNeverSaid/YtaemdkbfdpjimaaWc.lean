/-
standing of the package budgets, by a walk: two loops and a map. Condition: the row is read.
-/
import Derived.Test.YtaemdkbfdpjimaaIt
import Derived.Test.YtaemdkbfdpjimaaS
import Derived.Deep.RegionWith
import Derived.Outline
import Derived.Test.YtaemdkbfdpjimaaP0
namespace Go.Proofs.Ytaemdkbfdpjimaa.W
open Go.RowKit Go.Proofs.YtaemdkbfdpjimaaW.PrintWords Go.Proofs.YtaemdkbfdpjimaaW.PrintLast Go.Proofs.YtaemdkbfdpjimaaW.PrintMore Go.Proofs.Ytaemdkbfdpjimaa.P
open S (countsF sameSubj lastF standsF standingF)
set_option linter.unusedVariables false
attribute [local go_sem high] eqs24
namespace St
def lastStep (y : S24) (o : Option S24) (x : S24) : Option S24 := if sameSubj x y then (match o with | none => some x | some z => if z.f1 ≤ x.f1 then some x else some z) else o
theorem lastF_fold (y : S24) : ∀ (l : List S24) (o : Option S24), lastF y o l = l.foldl (lastStep y) o
  | [], _ => rfl
  | x :: l, o => lastF_fold y l _
/-- what a budget is about -/
structure Sb where
  a : Int
  b : Int
deriving instance DecidableEq for Sb
def ek (s : Sb) : Value := .agg #[.int .i64 s.a, .int .i64 s.b]
def ev (x : S24) : Value := .agg #[.int .i64 x.f0, .int .i64 x.f1, .int .i64 x.f2, .int .i64 x.f3, .int .i64 x.f4, .int .i64 x.f5, .int .i64 x.f6, .bool x.f7]
def sbOf (x : S24) : Sb := ⟨x.f3, x.f4⟩
theorem sb_eq (d : Nat) (w : World) (x0 y0 x1 y1 : Int) :
    (Op.equalIn (d + 2) 78 (.agg #[.int .i64 x0, .int .i64 x1]) (.agg #[.int .i64 y0, .int .i64 y1])).run Try.prog w = .ok (x0 == y0 && (x1 == y1)) w := by
  refine eqA_of Try.underlying78 (by kernel_rfl) ?_
  refine eqf_cons (by rfl) (by go_simp; rfl) (by go_simp; rfl) (by go_simp) ?_
  exact eqf_last (by rfl) (by go_simp; rfl) (by go_simp; rfl) (by go_simp)
theorem sb_equal (x y : Sb) (w : World) : (Op.equal 78 (ek x) (ek y)).run Try.prog w = .ok (decide (x = y)) w := by
  have h := sb_eq 9998 w x.a y.a x.b y.b
  refine h.trans ?_
  congr 1
  obtain ⟨a, b⟩ := x
  obtain ⟨a', b'⟩ := y
  simp only [Sb.mk.injEq]
  by_cases h1 : a = a' <;> by_cases h2 : b = b' <;> simp [h1, h2]
theorem chkSb (em : Bool) (k : Sb) (w : World) : (Instr.checkKey em 10000 78 (ek k)).run Try.prog w = .ok () w := by kernel_rfl
theorem staysSb (k : Sb) (w : World) : (Instr.keyThatStays (ek k) (ek k)).run Try.prog w = .ok (ek k) w := by
  simp [Instr.keyThatStays, Instr.sameBits, ek]
theorem law : MapLaw Try.prog 76 78 24 ek ev (ev z24) :=
  ⟨Try.underlying76, chkSb, find_struct Try.underlying78 sb_equal, staysSb, fun w => by kernel_rfl⟩
theorem count_end {kind at_ known : Int} {l : List S24} {k : Nat} {x z : S24} {so : Bool} {m : List (Sb × S24)} (hz : (mget m (sbOf x)).getD z24 = z) (hso : (mget m (sbOf x)).isSome = so)
    (hft : (l.take (k + 1)).filter (countsF kind at_ known) = (l.take k).filter (countsF kind at_ known) ++ (if countsF kind at_ known x = true then [x] else [])) (hcx : countsF kind at_ known x = true)
    (hm2 : ∀ y, mget m (sbOf y) = ((l.take k).filter (countsF kind at_ known)).foldl (lastStep y) none) (y : S24) :
    ((l.take (k + 1)).filter (countsF kind at_ known)).foldl (lastStep y) none = mget (if so = false ∨ z.f1 ≤ x.f1 then mput m (sbOf x) x else m) (sbOf y) := by
  rw [hft, if_pos hcx, List.foldl_append, ← hm2 y]
  simp only [List.foldl_cons, List.foldl_nil, lastStep]
  have hss : (sameSubj x y = true) ↔ (sbOf x = sbOf y) := by simp [sameSubj, sbOf]
  by_cases hxy : sbOf x = sbOf y
  · rw [if_pos (hss.2 hxy), ← hxy, ← hso, ← hz]
    cases hm : mget m (sbOf x) with
    | none => simp [mget_put]
    | some u =>
      by_cases hu : u.f1 ≤ x.f1
      · simp [hu, mget_put]
      · simp [hu, hm]
  · rw [if_neg (fun e => hxy (hss.1 e))]
    split
    · rw [mget_put, if_neg hxy]
    · rfl
theorem put_below {w wr W4 : World} {o1 o2 o3 : Obj} (hb : Below w.heap.size w wr) (hs : w.heap.size ≤ wr.heap.size) (hg : (((wr.alloc o1).alloc o2).alloc o3).grownBy W4 (some w.heap.size)) : Below w.heap.size w W4 :=
  (((hb.alloc hs _).alloc (by simp; omega) _).alloc (by simp; omega) _).trans ⟨hg.os, hg.tape, hg.output, hg.size, fun k hk => hg.block k (by simp; omega) (fun e => by cases e; omega)⟩
/-- what stands between two rounds of the first loop -/
def J1 (w : World) (l : List S24) (kind at_ known : Int) (k : Nat) (W : World) : Prop :=
  ∃ m : List (Sb × S24), IsMap ek ev W w.heap.size m ∧ (∀ y, mget m (sbOf y) = ((l.take k).filter (countsF kind at_ known)).foldl (lastStep y) none) ∧ Below w.heap.size w W
theorem eq_run (x y : S24) (b : Bool) (h : decide (x = y) = b) : ∀ d w, (Op.equalIn (d + 2) 24 (.agg #[.int .i64 x.f0, .int .i64 x.f1, .int .i64 x.f2, .int .i64 x.f3, .int .i64 x.f4, .int .i64 x.f5, .int .i64 x.f6, .bool x.f7]) (.agg #[.int .i64 y.f0, .int .i64 y.f1, .int .i64 y.f2, .int .i64 y.f3, .int .i64 y.f4, .int .i64 y.f5, .int .i64 y.f6, .bool y.f7])).run Try.prog w = .ok b w := by
  intro d w
  rw [eqs24, eqdec24, h]
theorem own_below {W W' : World} {base n : Nat} {v : Value} {xs : List Value} (h : W.ownsRow base 24 8 v n xs) (hb : Below W.heap.size W W') : W'.ownsRow base 24 8 v n xs :=
  h.kept (row := none) ⟨hb.os, hb.tape, hb.output, hb.size, fun k hk _ => hb.block k hk⟩ (by cases v.ownBlock <;> simp)
def cond2 (m : List (Sb × S24)) (x : S24) : Bool := !x.f7 && decide ((mget m (sbOf x)).getD z24 = x)
/-- what stands between two rounds of the second loop -/
def J2 (W5 : World) (l : List S24) (m : List (Sb × S24)) (k : Nat) (v : Value) (W : World) : Prop :=
  W.ownsRow W5.heap.size 24 8 v ((l.take k).filter (cond2 m)).length (cl24 ((l.take k).filter (cond2 m))) ∧ Below W5.heap.size W5 W
theorem new_cells (W : World) (B : Nat) (hB : W.heap.size = B) (cs : List Value) (j : Nat) (u : Value) (h : cs[j]? = some u) : (W.alloc (.cells cs.toArray 24)).cell? ((⟨B, 0, none⟩ : Addr).add j) = some u := by
  subst hB
  rw [add_plain, cell_of_row _ _ j _ _ (0, 0) (Go.heap_alloc_new W _)]
  simpa using h
theorem app_below {W5 wr W2 w1 : World} {n : Nat} {v : Value} {xs : List Value} (h5 : Below W5.heap.size W5 wr) (ho : wr.ownsRow W5.heap.size 24 8 v n xs) (hb : Below wr.heap.size wr W2) (hg : W2.grownBy w1 v.ownBlock) : Below W5.heap.size W5 w1 :=
  (h5.trans (hb.mono h5.size)).grown hg (Nat.le_trans h5.size hb.size) (fun k e => (ho.lt k e).1)
theorem stands_fil {kind at_ known : Int} {l : List S24} {m : List (Sb × S24)} (h : ∀ y, mget m (sbOf y) = (l.filter (countsF kind at_ known)).foldl (lastStep y) none) : l.filter (cond2 m) = standingF l kind at_ known := by
  unfold standingF
  refine List.filter_congr fun y _ => ?_
  unfold cond2 standsF
  rw [h y, lastF_fold]
set_option maxHeartbeats 8000000 in
theorem standing_any (A : Option Addr) (c : Nat) (l : List S24) (hL : l.length ≤ 4096) (kind at_ known : Int) (w : World) (hr : Kd.C k24 w A l.length l) :
    Calls Try.prog 34 #[.slice A l.length c, .int .i64 kind, .int .i64 at_, .int .i64 known] w fun e w' => ∃ v0_ : Value, e = .returned v0_ ∧ Kd.R k24 24 w' w.heap.size (fun _ => True) v0_ (S.standingF l kind at_ known) ∧ Below w.heap.size w w' := by
  have hmm := @run_makeMap Try.prog
  have HR := pk hr
  clear hr
  go_enter Try.func34, Try.ntmps34
  go_wp2_with fail
  clear hmm
  go_loopw [20] (fun i wr => ∃ k : Nat, k ≤ l.length ∧ i = .int .i64 k ∧ Hid (J1 w l kind at_ known k wr)) (fun i _ => l.length - (intOf i).toNat)
  case atStart => exact ⟨0, Nat.zero_le _, rfl, [], IsMap.new w, fun y => rfl, (Below.refl _ _).alloc (Nat.le_refl _) _⟩
  case round =>
    obtain ⟨k, hk, rfl, hh⟩ := hrel
    have Hh := pk hh.out
    clear hh
    by_cases hlt : k < l.length
    · obtain ⟨m, hm1, hm2, hbW⟩ := Hh.out
      have hBm : w.heap.size < wr.heap.size := hm1.lt
      obtain ⟨ad, hA, hcells⟩ := at_24 (Kd.C_below HR.out hbW) k hlt
      generalize hx : l.getD k z24 = x at hcells
      have hft : (l.take (k + 1)).filter (countsF kind at_ known) = (l.take k).filter (countsF kind at_ known) ++ (if countsF kind at_ known x = true then [x] else []) := by
        rw [List.take_succ_eq_append_getElem hlt, List.filter_append]
        have e : l[k] = x := by rw [← hx, List.getD_eq_getElem?_getD, List.getElem?_eq_getElem hlt]; rfl
        rw [e]
        congr 1
        by_cases hp : countsF kind at_ known x = true <;> simp [hp]
      have Hft := pk hft
      have Hm1 := pk hm1
      have Hm2 := pk hm2
      have HbW := pk hbW
      clear hx hft hm1 hm2 hbW
      subst hA
      have hskip : countsF kind at_ known x = false → J1 w l kind at_ known (k + 1) (wr.alloc (.cells #[.int .i64 x.f0, .int .i64 x.f1, .int .i64 x.f2, .int .i64 x.f3, .int .i64 x.f4, .int .i64 x.f5, .int .i64 x.f6, .bool x.f7] 24)) := by
        intro h
        refine ⟨m, Hm1.out.at_ (Below.heap_alloc wr _ _ hBm), fun y => ?_, HbW.out.alloc (by omega) _⟩
        rw [Hft.out, h, Hm2.out y]
        simp
      have Hskip := pk hskip
      clear hskip
      by_cases h1 : x.f1 ≤ at_
      · by_cases h2 : x.f2 ≤ known
        · by_cases h3 : x.f3 = -1
          · have g5 : (x.f3 != -1) = false := by simp [h3]
            have g3 : (x.f3 == -1) = true := by simp [h3]
            have hcx : countsF kind at_ known x = true := by simp [countsF, h1, h2, h3]
            have Hcx := pk hcx
            clear hcx
            replace h3 := pk h3
            generalize hz : (mget m (sbOf x)).getD z24 = z
            generalize hso : (mget m (sbOf x)).isSome = so
            have hlook : ∀ o o', (Instr.lookup 76 (.map (some w.heap.size)) (.agg #[.int .i64 x.f3, .int .i64 x.f4]) true).run Try.prog ((wr.alloc o).alloc o') = .ok (.tuple #[.agg #[.int .i64 z.f0, .int .i64 z.f1, .int .i64 z.f2, .int .i64 z.f3, .int .i64 z.f4, .int .i64 z.f5, .int .i64 z.f6, .bool z.f7], .bool so]) ((wr.alloc o).alloc o') := by
              intro o o'
              refine (run_look_ok law (Hm1.out.at_ ((Below.heap_alloc _ o' _ (by simp; omega)).trans (Below.heap_alloc wr o _ hBm))) (sbOf x)).trans ?_
              rw [← hz, ← hso]
              cases mget m (sbOf x) <;> rfl
            obtain ⟨W4, hput, hm4, hg4, hs4⟩ := run_put law (Hm1.out.at_ (W' := ((wr.alloc (.cells #[.int .i64 x.f0, .int .i64 x.f1, .int .i64 x.f2, .int .i64 x.f3, .int .i64 x.f4, .int .i64 x.f5, .int .i64 x.f6, .bool x.f7] 24)).alloc (.cells #[.int .i64 x.f3, .int .i64 x.f4] 78)).alloc (.cells #[.int .i64 z.f0, .int .i64 z.f1, .int .i64 z.f2, .int .i64 z.f3, .int .i64 z.f4, .int .i64 z.f5, .int .i64 z.f6, .bool z.f7] 24)) ((Below.heap_alloc _ _ _ (by simp; omega)).trans ((Below.heap_alloc _ _ _ (by simp; omega)).trans (Below.heap_alloc wr _ _ hBm)))) (sbOf x) x
            have hput2 : (Instr.mapUpdate 76 (.map (some w.heap.size)) (.agg #[.int .i64 x.f3, .int .i64 x.f4]) (.agg #[.int .i64 x.f0, .int .i64 x.f1, .int .i64 x.f2, .int .i64 x.f3, .int .i64 x.f4, .int .i64 x.f5, .int .i64 x.f6, .bool x.f7])).run Try.prog (((wr.alloc (.cells #[.int .i64 x.f0, .int .i64 x.f1, .int .i64 x.f2, .int .i64 x.f3, .int .i64 x.f4, .int .i64 x.f5, .int .i64 x.f6, .bool x.f7] 24)).alloc (.cells #[.int .i64 x.f3, .int .i64 x.f4] 78)).alloc (.cells #[.int .i64 z.f0, .int .i64 z.f1, .int .i64 z.f2, .int .i64 z.f3, .int .i64 z.f4, .int .i64 z.f5, .int .i64 z.f6, .bool z.f7] 24)) = .ok () W4 := hput
            have hend := count_end (z := z) (so := so) hz hso Hft.out Hcx.out Hm2.out
            have Hend := pk hend
            have Hm4 := pk hm4
            have Hg4 := pk hg4
            clear hput hend hm4 hg4 hs4 hz hso
            cases so with
            | false =>
              go_wp2_with fail
              go_roundw
              case rel => exact ⟨k + 1, by omega, by go_num, _, Hm4.out, fun y => (by rw [Hend.out y]; simp), put_below HbW.out (by omega) Hg4.out⟩
              case measure => simp [intOf]; omega
            | true =>
              by_cases hle : z.f1 ≤ x.f1
              · go_wp2_with fail
                go_roundw
                case rel => exact ⟨k + 1, by omega, by go_num, _, Hm4.out, fun y => (by rw [Hend.out y]; simp [hle]), put_below HbW.out (by omega) Hg4.out⟩
                case measure => simp [intOf]; omega
              · go_wp2_with fail
                go_roundw
                case rel => exact ⟨k + 1, by omega, by go_num, m, Hm1.out.at_ ((Below.heap_alloc _ _ _ (by simp; omega)).trans ((Below.heap_alloc _ _ _ (by simp; omega)).trans (Below.heap_alloc wr _ _ hBm))), fun y => (by rw [Hend.out y]; simp [hle]), ((HbW.out.alloc (by omega) _).alloc (by simp; omega) _).alloc (by simp; omega) _⟩
                case measure => simp [intOf]; omega
          · by_cases h4 : x.f3 = kind
            · have g5 : (x.f3 != -1) = true := by simpa using h3
              have g3 : (x.f3 == -1) = false := by simpa using h3
              have g6 : (x.f3 != kind) = false := by simp [h4]
              have g4 : (x.f3 == kind) = true := by simp [h4]
              have hcx : countsF kind at_ known x = true := by simp [countsF, h1, h2, h4]
              have Hcx := pk hcx
              clear hcx
              replace h4 := pk h4
              generalize hz : (mget m (sbOf x)).getD z24 = z
              generalize hso : (mget m (sbOf x)).isSome = so
              have hlook : ∀ o o', (Instr.lookup 76 (.map (some w.heap.size)) (.agg #[.int .i64 x.f3, .int .i64 x.f4]) true).run Try.prog ((wr.alloc o).alloc o') = .ok (.tuple #[.agg #[.int .i64 z.f0, .int .i64 z.f1, .int .i64 z.f2, .int .i64 z.f3, .int .i64 z.f4, .int .i64 z.f5, .int .i64 z.f6, .bool z.f7], .bool so]) ((wr.alloc o).alloc o') := by
                intro o o'
                refine (run_look_ok law (Hm1.out.at_ ((Below.heap_alloc _ o' _ (by simp; omega)).trans (Below.heap_alloc wr o _ hBm))) (sbOf x)).trans ?_
                rw [← hz, ← hso]
                cases mget m (sbOf x) <;> rfl
              obtain ⟨W4, hput, hm4, hg4, hs4⟩ := run_put law (Hm1.out.at_ (W' := ((wr.alloc (.cells #[.int .i64 x.f0, .int .i64 x.f1, .int .i64 x.f2, .int .i64 x.f3, .int .i64 x.f4, .int .i64 x.f5, .int .i64 x.f6, .bool x.f7] 24)).alloc (.cells #[.int .i64 x.f3, .int .i64 x.f4] 78)).alloc (.cells #[.int .i64 z.f0, .int .i64 z.f1, .int .i64 z.f2, .int .i64 z.f3, .int .i64 z.f4, .int .i64 z.f5, .int .i64 z.f6, .bool z.f7] 24)) ((Below.heap_alloc _ _ _ (by simp; omega)).trans ((Below.heap_alloc _ _ _ (by simp; omega)).trans (Below.heap_alloc wr _ _ hBm)))) (sbOf x) x
              have hput2 : (Instr.mapUpdate 76 (.map (some w.heap.size)) (.agg #[.int .i64 x.f3, .int .i64 x.f4]) (.agg #[.int .i64 x.f0, .int .i64 x.f1, .int .i64 x.f2, .int .i64 x.f3, .int .i64 x.f4, .int .i64 x.f5, .int .i64 x.f6, .bool x.f7])).run Try.prog (((wr.alloc (.cells #[.int .i64 x.f0, .int .i64 x.f1, .int .i64 x.f2, .int .i64 x.f3, .int .i64 x.f4, .int .i64 x.f5, .int .i64 x.f6, .bool x.f7] 24)).alloc (.cells #[.int .i64 x.f3, .int .i64 x.f4] 78)).alloc (.cells #[.int .i64 z.f0, .int .i64 z.f1, .int .i64 z.f2, .int .i64 z.f3, .int .i64 z.f4, .int .i64 z.f5, .int .i64 z.f6, .bool z.f7] 24)) = .ok () W4 := hput
              have hend := count_end (z := z) (so := so) hz hso Hft.out Hcx.out Hm2.out
              have Hend := pk hend
              have Hm4 := pk hm4
              have Hg4 := pk hg4
              clear hput hend hm4 hg4 hs4 hz hso
              cases so with
              | false =>
                go_wp2_with fail
                go_roundw
                case rel => exact ⟨k + 1, by omega, by go_num, _, Hm4.out, fun y => (by rw [Hend.out y]; simp), put_below HbW.out (by omega) Hg4.out⟩
                case measure => simp [intOf]; omega
              | true =>
                by_cases hle : z.f1 ≤ x.f1
                · go_wp2_with fail
                  go_roundw
                  case rel => exact ⟨k + 1, by omega, by go_num, _, Hm4.out, fun y => (by rw [Hend.out y]; simp [hle]), put_below HbW.out (by omega) Hg4.out⟩
                  case measure => simp [intOf]; omega
                · go_wp2_with fail
                  go_roundw
                  case rel => exact ⟨k + 1, by omega, by go_num, m, Hm1.out.at_ ((Below.heap_alloc _ _ _ (by simp; omega)).trans ((Below.heap_alloc _ _ _ (by simp; omega)).trans (Below.heap_alloc wr _ _ hBm))), fun y => (by rw [Hend.out y]; simp [hle]), ((HbW.out.alloc (by omega) _).alloc (by simp; omega) _).alloc (by simp; omega) _⟩
                  case measure => simp [intOf]; omega
            · have g3 : (x.f3 == -1) = false := by simpa using h3
              have g4 : (x.f3 == kind) = false := by simpa using h4
              have g5 : (x.f3 != -1) = true := by simpa using h3
              have g6 : (x.f3 != kind) = true := by simpa using h4
              go_wp2_with fail
              go_roundw
              case rel => exact ⟨k + 1, by omega, by go_num, Hskip.out (by simp [countsF, h3, h4])⟩
              case measure => simp [intOf]; omega
        · go_wp2_with fail
          go_roundw
          case rel => exact ⟨k + 1, by omega, by go_num, Hskip.out (by simp [countsF, h2])⟩
          case measure => simp [intOf]; omega
      · go_wp2_with fail
        go_roundw
        case rel => exact ⟨k + 1, by omega, by go_num, Hskip.out (by simp [countsF, h1])⟩
        case measure => simp [intOf]; omega
    · obtain rfl : k = l.length := by omega
      obtain ⟨m, hm1, hm2, hbW⟩ := Hh.out
      rw [List.take_length] at hm2
      have hBm : w.heap.size < wr.heap.size := hm1.lt
      obtain ⟨W5, hW5⟩ : ∃ W5 : World, W5 = wr := ⟨_, rfl⟩
      subst hW5
      have HR5 := pk (Kd.C_below HR.out hbW)
      have Hm1 := pk hm1
      have Hm2 := pk hm2
      have HbW := pk hbW
      clear hm1 hm2 hbW Hh
      go_wp2_with fail
      go_loopw [8, 71] (fun v i wr => ∃ k : Nat, k ≤ l.length ∧ i = .int .i64 k ∧ Hid (J2 W5 l m k v wr)) (fun _ i _ => l.length - (intOf i).toNat)
      case atStart => exact ⟨0, Nat.zero_le _, rfl, own_nil _ _ _ _, Below.refl _ _⟩
      case round =>
        obtain ⟨k, hk, rfl, hh⟩ := hrel
        have Hj := pk hh.out
        clear hh
        by_cases hlt : k < l.length
        · obtain ⟨hown, hb5⟩ := Hj.out
          have hBm2 : w.heap.size < wr.heap.size := Nat.lt_of_lt_of_le hBm hb5.size
          obtain ⟨ad, hA, hcells⟩ := at_24 (Kd.C_below HR5.out hb5) k hlt
          generalize hx : l.getD k z24 = x at hcells
          have hfs : (l.take (k + 1)).filter (cond2 m) = (l.take k).filter (cond2 m) ++ (if cond2 m x = true then [x] else []) := by
            rw [List.take_succ_eq_append_getElem hlt, List.filter_append]
            have e : l[k] = x := by rw [← hx, List.getD_eq_getElem?_getD, List.getElem?_eq_getElem hlt]; rfl
            rw [e]
            congr 1
            by_cases hp : cond2 m x = true <;> simp [hp]
          have hlk : ((l.take k).filter (cond2 m)).length ≤ k := Nat.le_trans (List.length_filter_le _ _) (List.length_take_le _ _)
          have Hfs := pk hfs
          have Hown := pk hown
          have Hb5 := pk hb5
          have Hlk := pk hlk
          clear hx hfs hown hb5 hlk
          subst hA
          have hskip : cond2 m x = false → ∀ v', v' = u8 → ∀ W', Below wr.heap.size wr W' → J2 W5 l m (k + 1) v' W' := by
            rintro h v' rfl W' hW'
            refine ⟨?_, Hb5.out.trans (hW'.mono Hb5.out.size)⟩
            rw [Hfs.out, h]
            simp only [Bool.false_eq_true, if_false, List.append_nil]
            exact own_below Hown.out hW'
          have Hskip := pk hskip
          clear hskip
          cases hf7 : x.f7 with
          | true =>
            simp only [hf7] at hcells
            have hc2 : cond2 m x = false := by simp [cond2, hf7]
            have Hc2 := pk hc2
            replace hf7 := pk hf7
            clear hc2
            go_wp2_with fail
            go_quiet (fail)
            go_wp2_with fail
            go_roundw
            case rel => exact ⟨k + 1, by omega, by go_num, Hskip.out Hc2.out _ rfl _ (by repeat (first | exact Below.refl _ _ | refine Below.alloc ?_ (by simp) _ | refine pw_below_drewN ?_ _ | refine below_drew ?_))⟩
            case measure => simp [intOf]; omega
          | false =>
            simp only [hf7] at hcells
            generalize hz : (mget m (sbOf x)).getD z24 = z
            have hlook : ∀ o n, (Instr.lookup 76 (.map (some w.heap.size)) (.agg #[.int .i64 x.f3, .int .i64 x.f4]) false).run Try.prog ((wr.alloc o).drewN n) = .ok (.agg #[.int .i64 z.f0, .int .i64 z.f1, .int .i64 z.f2, .int .i64 z.f3, .int .i64 z.f4, .int .i64 z.f5, .int .i64 z.f6, .bool z.f7]) ((wr.alloc o).drewN n) := by
              intro o n
              refine (run_look law (Hm1.out.at_ (W' := (wr.alloc o).drewN n) ((Below.heap_alloc wr o _ hBm2).trans (Hb5.out.block _ hBm))) (sbOf x)).trans ?_
              rw [← hz]
              cases mget m (sbOf x) <;> rfl
            by_cases hzx : z = x
            · have hrun : ∀ d w', (Op.equalIn (d + 2) 24 (.agg #[.int .i64 z.f0, .int .i64 z.f1, .int .i64 z.f2, .int .i64 z.f3, .int .i64 z.f4, .int .i64 z.f5, .int .i64 z.f6, .bool z.f7]) (.agg #[.int .i64 x.f0, .int .i64 x.f1, .int .i64 x.f2, .int .i64 x.f3, .int .i64 x.f4, .int .i64 x.f5, .int .i64 x.f6, .bool false])).run Try.prog w' = .ok true w' := by
                intro d w'
                have h := eq_run z x true (by simp [hzx]) d w'
                rwa [hf7] at h
              have hc2 : cond2 m x = true := by simp [cond2, hz, hzx, hf7]
              have Hc2 := pk hc2
              have Hf7 := pk hf7
              replace hz := pk hz
              clear hc2 hzx hf7
              go_wp2_with fail
              go_quiet (fail)
              obtain ⟨i0, hi0, hz0, hz1, hz2⟩ := info_parts info24
              go_wp2_with (at_builtin; refine wpList_append_own _ rfl _ _ 22 rfl W5.heap.size 24 i0 _ 8 64 Try.underlying22 hi0 hz0 hz1 hz2 rfl (by decide) _ _ _ rfl (own_below Hown.out ?cb) ⟨_, 0, none⟩ 1 1 [.int .i64 x.f0, .int .i64 x.f1, .int .i64 x.f2, .int .i64 x.f3, .int .i64 x.f4, .int .i64 x.f5, .int .i64 x.f6, .bool false] rfl rfl ?c1 ?c2 ?c3 ?c4 ?c5 ?_)
              case cb => repeat (first | exact Below.refl _ _ | refine Below.alloc ?_ (by simp) _ | refine pw_below_drewN ?_ _ | refine below_drew ?_)
              case c1 => exact new_cells _ _ (by simp) _
              case c2 => intro u hu; have := cs24_one x u (by simpa [cs24, Hf7.out] using hu); exact this
              case c3 => have := Hlk.out; unfold maxLen; omega
              case c4 => have := Hlk.out; omega
              case c5 => have := Hb5.out.size; simp; omega
              intro v' w1 hown' hgrow _
              have hnext : J2 W5 l m (k + 1) v' w1 := by
                refine ⟨?_, app_below Hb5.out Hown.out (by repeat (first | exact Below.refl _ _ | refine Below.alloc ?_ (by simp) _ | refine pw_below_drewN ?_ _ | refine below_drew ?_)) hgrow⟩
                rw [Hfs.out, if_pos Hc2.out, List.length_append, cl24_append, show cl24 [x] = [.int .i64 x.f0, .int .i64 x.f1, .int .i64 x.f2, .int .i64 x.f3, .int .i64 x.f4, .int .i64 x.f5, .int .i64 x.f6, .bool false] by simp [cl24, cs24, Hf7.out]]
                exact hown'
              replace hnext := pk hnext
              clear hown' hgrow
              go_wp2_with fail
              go_roundw
              case rel => exact ⟨k + 1, by omega, by go_num, hnext.out⟩
              case measure => simp [intOf]; omega
            · have hrun : ∀ d w', (Op.equalIn (d + 2) 24 (.agg #[.int .i64 z.f0, .int .i64 z.f1, .int .i64 z.f2, .int .i64 z.f3, .int .i64 z.f4, .int .i64 z.f5, .int .i64 z.f6, .bool z.f7]) (.agg #[.int .i64 x.f0, .int .i64 x.f1, .int .i64 x.f2, .int .i64 x.f3, .int .i64 x.f4, .int .i64 x.f5, .int .i64 x.f6, .bool false])).run Try.prog w' = .ok false w' := by
                intro d w'
                have h := eq_run z x false (by simp [hzx]) d w'
                rwa [hf7] at h
              have hc2 : cond2 m x = false := by simp [cond2, hz, hzx]
              have Hc2 := pk hc2
              replace hf7 := pk hf7
              replace hz := pk hz
              clear hc2 hzx
              go_wp2_with fail
              go_quiet (fail)
              go_wp2_with fail
              go_roundw
              case rel => exact ⟨k + 1, by omega, by go_num, Hskip.out Hc2.out _ rfl _ (by repeat (first | exact Below.refl _ _ | refine Below.alloc ?_ (by simp) _ | refine pw_below_drewN ?_ _ | refine below_drew ?_))⟩
              case measure => simp [intOf]; omega
        · obtain rfl : k = l.length := by omega
          obtain ⟨hown, hb5⟩ := Hj.out
          have Hown := pk hown
          have Hb5 := pk hb5
          clear hown hb5 Hj
          go_wp2_with fail
          go_ret
          refine ⟨_, rfl, ?_, HbW.out.trans (Hb5.out.mono (by omega))⟩
          have hown := Hown.out
          rw [List.take_length, stands_fil Hm2.out] at hown
          exact R24_of_own (own_weaken hown (by omega)) (fun _ _ => trivial)
end St
theorem standing_hook (A0 : Option Addr) (c0 : Nat) (l0 : List S24) (a1 a2 a3 : Int) (w : World) (hr0 : Kd.C k24 w A0 l0.length l0) (hg : l0.length ≤ 4096) :
    Calls Try.prog 34 #[.slice A0 l0.length c0, .int .i64 a1, .int .i64 a2, .int .i64 a3] w fun e w' => ∃ v0_ : Value, e = .returned v0_ ∧ Kd.R k24 24 w' w.heap.size (fun _ => True) v0_ (S.standingF l0 a1 a2 a3) ∧ Below w.heap.size w w' :=
  St.standing_any A0 c0 l0 hg a1 a2 a3 w hr0
end Go.Proofs.Ytaemdkbfdpjimaa.W

-- FOLDED: the printed part of the function that is given by hand
-- Written by drive.py (a session's program over the kit's print). Not trusted: Lean checks it.
namespace Go.Proofs.Ytaemdkbfdpjimaa.P
open Go.RowKit Go.Proofs.YtaemdkbfdpjimaaW.PrintWords Go.Proofs.YtaemdkbfdpjimaaW.PrintLast Go.Proofs.YtaemdkbfdpjimaaW.PrintMore
attribute [local go_sem] max2_int min2_int max_two min_two max_three min_three max_four min_four   -- for this text's walks alone
set_option linter.unusedVariables false
set_option linter.unusedSimpArgs false

/-! ### budgets_standing: function 34 -/
-- HOOK Derived.Test.YtaemdkbfdpjimaaWc
def budgets_standing.f (l0 : List (S24)) (a1 : Int) (a2 : Int) (a3 : Int) : Option ((List (S24))) := if l0.length ≤ 4096 then some (S.standingF l0 a1 a2 a3) else none
theorem budgets_standing.calls (A0 : Option Addr) (c0 : Nat) (l0 : List (S24)) (a1 : Int) (a2 : Int) (a3 : Int) (r : List (S24)) (w : World) (hr0 : Kd.C k24 w A0 l0.length l0) (hc0 : l0.length ≤ c0) (h : budgets_standing.f l0 a1 a2 a3 = some r) :
    Calls Try.prog 34 #[.slice A0 l0.length c0, .int .i64 a1, .int .i64 a2, .int .i64 a3] w (fun e w' => ∃ v0_ : Value, e = .returned (v0_) ∧ Kd.R k24 24 w' w.heap.size (fun _ => True) v0_ r ∧ Below w.heap.size w w') := by
  unfold budgets_standing.f at h
  split at h
  rotate_left
  · cases h
  rename_i hg
  simp only [Option.some.injEq] at h
  subst h
  exact W.standing_hook A0 c0 l0 a1 a2 a3 w hr0 hg
end Go.Proofs.Ytaemdkbfdpjimaa.P
