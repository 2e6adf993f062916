/-
standing of the package approvals, by a walk: two ranges over the iterator of counting; a map. Condition: the row is read.
-/
import Derived.Test.YtcpheagandpacaaIt
import Derived.Test.YtcpheagandpacaaIt
import Derived.Shelf.RegionOpen
import Derived.Test.YtcpheagandpacaaS
namespace Go.Proofs.Ytcpheagandpacaa.W
open Go.RowKit Go.Proofs.YtcpheagandpacaaW.PrintWords Go.Proofs.YtcpheagandpacaaW.PrintLast Go.Proofs.YtcpheagandpacaaW.PrintMore Go.Proofs.Ytcpheagandpacaa.P
open S (countsF sameSubj lastF standingF)
set_option linter.unusedVariables false
attribute [local go_sem] Oper.semAt_some
namespace St
def lastStep (y : S24) (o : Option S24) (x : S24) : Option S24 := if sameSubj x y then (match o with | none => some x | some z => if z.f1 ≤ x.f1 then some x else some z) else o
theorem lastF_fold (y : S24) : ∀ (l : List S24) (o : Option S24), lastF y o l = l.foldl (lastStep y) o
  | [], _ => rfl
  | x :: l, o => lastF_fold y l _
def enc (x : S24) : Array Value := #[.agg #[.int .i64 x.f0, .int .i64 x.f1, .int .i64 x.f2, .int .i64 x.f3, .int .i64 x.f4, .int .i64 x.f5, .int .i64 x.f6, .bool x.f7]]
/-- what the iterator's boxes hold -/
structure Boxes (W : World) (b0 b1 b2 b3 : Nat) (A : Option Addr) (n c : Nat) (doc at_ known : Int) : Prop where
  h0 : W.heap[b0]? = some (.cells #[.slice A n c] 22 (0, 0))
  h1 : W.heap[b1]? = some (.cells #[.int .i64 doc] 3 (0, 0))
  h2 : W.heap[b2]? = some (.cells #[.int .i64 at_] 3 (0, 0))
  h3 : W.heap[b3]? = some (.cells #[.int .i64 known] 3 (0, 0))
def InK (b0 b1 b2 b3 : Nat) (A : Option Addr) (n : Nat) (k : Nat) : Prop := k = b0 ∨ k = b1 ∨ k = b2 ∨ k = b3 ∨ ∃ ad, A = some ad ∧ 0 < n ∧ k = ad.block
theorem Boxes.keep {W W' : World} {b0 b1 b2 b3 n c : Nat} {A : Option Addr} {doc at_ known : Int} (h : Boxes W b0 b1 b2 b3 A n c doc at_ known) (hk : Keep (InK b0 b1 b2 b3 A n) W W') : Boxes W' b0 b1 b2 b3 A n c doc at_ known :=
  ⟨(hk _ (.inl rfl)).trans h.h0, (hk _ (.inr (.inl rfl))).trans h.h1, (hk _ (.inr (.inr (.inl rfl)))).trans h.h2, (hk _ (.inr (.inr (.inr (.inl rfl))))).trans h.h3⟩
theorem row_lt {w : World} {ad : Addr} {l : List S24} (hr : Kd.C k24 w (some ad) l.length l) (hl : 0 < l.length) : ad.block < w.heap.size := by
  obtain ⟨ad', e, h⟩ := at_24 hr 0 hl
  cases e
  have := World.block_lt_of_cell? _ _ h.1
  unfold Addr.add at this
  split at this <;> exact this
theorem one_cell {W : World} {b : Nat} {v : Value} {t : TypeId} (h : W.heap[b]? = some (.cells #[v] t (0, 0))) : W.cell? ⟨b, 0, none⟩ = some v := by simp [World.cell?, h]
theorem take_filter_succ (p : S24 → Bool) (l : List S24) (k : Nat) (h : k < l.length) : (l.take (k + 1)).filter p = (l.take k).filter p ++ (if p (l.getD k z24) = true then [l.getD k z24] else []) := by
  rw [List.take_succ_eq_append_getElem h, List.filter_append]
  congr 1
  simp only [List.getD_eq_getElem?_getD, List.getElem?_eq_getElem h, Option.getD_some]
  by_cases hp : p l[k] = true <;> simp [hp]
set_option maxHeartbeats 4000000 in
set_option maxRecDepth 100000 in
theorem iter_stops (n : Nat) (b0 b1 b2 b3 : Nat) (A : Option Addr) (c : Nat) (l : List S24) (doc at_ known : Int) (w0 : World) (hB : Boxes w0 b0 b1 b2 b3 A l.length c doc at_ known) (hr : Kd.C k24 w0 A l.length l) (hn : l.length ≤ 9223372036854775807) :
    SeqStopsK Fence.wide n Try.prog 52 #[.pointer (some ⟨b0, 0, none⟩), .pointer (some ⟨b1, 0, none⟩), .pointer (some ⟨b2, 0, none⟩), .pointer (some ⟨b3, 0, none⟩)] enc (Keep (InK b0 b1 b2 b3 A l.length)) (fun ys => ys = l.filter (countsF doc at_ known)) (fun _ => True) l.length w0 := by
  intro ly J Jx W hW hJ hJx hY h0
  have hlt : ∀ k, InK b0 b1 b2 b3 A l.length k → k < w0.heap.size := by
    intro k hk
    rcases hk with rfl | rfl | rfl | rfl | ⟨ad, rfl, hl, rfl⟩
    · exact (Array.getElem?_eq_some_iff.1 hB.h0).1
    · exact (Array.getElem?_eq_some_iff.1 hB.h1).1
    · exact (Array.getElem?_eq_some_iff.1 hB.h2).1
    · exact (Array.getElem?_eq_some_iff.1 hB.h3).1
    · exact row_lt hr hl
  have HB : Hid (Boxes w0 b0 b1 b2 b3 A l.length c doc at_ known) := hB
  have HR : Hid (Kd.C k24 w0 A l.length l) := hr
  have hw0 : W.cell? ⟨b0, 0, none⟩ = some (.slice A l.length c) := one_cell ((hW.block b0 (Array.getElem?_eq_some_iff.1 hB.h0).1).trans hB.h0)
  clear hB hr
  refine callsIn_of_wp Try.func52 rfl trivial ?_ rfl
  simp only [Try.ntmps52, List.size_toArray, List.length_cons, List.length_nil, Nat.reduceAdd, Nat.reduceSub, Array.replicate_succ, Array.replicate_zero, List.push_toArray, List.append_toArray, List.nil_append, List.cons_append]
  gi_wp2_with fail
  gi_loopw [10] (fun i wr => ∃ k : Nat, k ≤ l.length ∧ i = .int .i64 k ∧ Hid (J ((l.take k).filter (countsF doc at_ known)) wr ∧ Keep (InK b0 b1 b2 b3 A l.length) W wr) ) (fun i _ => l.length - (intOf i).toNat)
  case atStart => exact ⟨0, Nat.zero_le _, rfl, ⟨h0, Keep.refl _ _⟩⟩
  case round =>
    obtain ⟨k, hk, rfl, HJ⟩ := hrel
    by_cases hlt2 : k < l.length
    · have hKW : Keep (InK b0 b1 b2 b3 A l.length) w0 wr := (Keep.of_below hW hlt).trans HJ.out.2
      have hBw := HB.out.keep hKW
      have hc0 : ∀ o, (wr.alloc o).cell? ⟨b1, 0, none⟩ = some (.int .i64 doc) := fun o => (World.cell?_alloc_lt wr o _ (Array.getElem?_eq_some_iff.1 hBw.h1).1).trans (one_cell hBw.h1)
      have hc1 : ∀ o, (wr.alloc o).cell? ⟨b2, 0, none⟩ = some (.int .i64 at_) := fun o => (World.cell?_alloc_lt wr o _ (Array.getElem?_eq_some_iff.1 hBw.h2).1).trans (one_cell hBw.h2)
      have hc2 : ∀ o, (wr.alloc o).cell? ⟨b3, 0, none⟩ = some (.int .i64 known) := fun o => (World.cell?_alloc_lt wr o _ (Array.getElem?_eq_some_iff.1 hBw.h3).1).trans (one_cell hBw.h3)
      obtain ⟨ad, hA, hcells⟩ := at_24 (C_keep24 HR.out hKW (fun ad e hl => .inr (.inr (.inr (.inr ⟨ad, e, hl, rfl⟩))))) k hlt2
      clear hBw
      generalize hx : l.getD k z24 = x at hcells
      have Hx := Lib.hid hx
      clear hx
      have hlk : ∀ q, InK b0 b1 b2 b3 A l.length q → q < wr.heap.size := fun q hq => by
        have h1 := hlt q hq
        have h2 := hKW q hq
        rw [Array.getElem?_eq_getElem h1] at h2
        exact (Array.getElem?_eq_some_iff.1 h2).1
      have Hlk := Lib.hid hlk
      have HKW := Lib.hid hKW
      clear hlk hKW
      subst hA
      have hJa : ∀ o, J ((l.take k).filter (countsF doc at_ known)) (wr.alloc o) := fun o => hJ _ _ _ none HJ.out.1 (World.grownBy_alloc _ _ none) (by simp)
      have HJa := Lib.hid hJa
      clear hJa
      by_cases hx3 : x.f3 = doc
      · have g1 : (x.f3 == doc) = true := by simp [hx3]
        have Hx3 := Lib.hid hx3
        clear hx3
        by_cases hx1 : x.f1 ≤ at_
        · by_cases hx2 : x.f2 ≤ known
          · have hcnt : (l.take (k + 1)).filter (countsF doc at_ known) = (l.take k).filter (countsF doc at_ known) ++ [x] := by
              rw [take_filter_succ _ _ _ hlt2, Hx.out, if_pos (by simp [countsF, Hx3.out, hx1, hx2])]
            have Hcnt := Lib.hid hcnt
            clear hcnt
            obtain ⟨fn, tmps, assign, body, hy, hR⟩ := hY _ x (wr.alloc (.cells #[.int .i64 x.f0, .int .i64 x.f1, .int .i64 x.f2, .int .i64 x.f3, .int .i64 x.f4, .int .i64 x.f5, .int .i64 x.f6, .bool x.f7] 24)) (HJa.out _) (by
              have := (List.length_filter_le (countsF doc at_ known) (l.take k)); rw [List.length_take] at this; omega)
            dsimp only [enc] at hy
            gi_wp2_with fail
            refine ⟨fun h => (by cases h), hR.mono ?_⟩
            rintro e W3 (⟨rfl, hJ3, hk3⟩ | ⟨rfl, hJx3⟩)
            · have HJ3 := Lib.hid hJ3
              have Hk3 := Lib.hid hk3
              clear hJ3 hk3
              gi_wp2_with fail
              go_roundw
              case rel => exact ⟨k + 1, by omega, by go_num, ⟨by rw [Hcnt.out]; exact HJ3.out, (HJ.out.2.alloc Hlk.out _).trans Hk3.out⟩⟩
              case measure => simp [intOf]; omega
            · have HJx3 := Lib.hid hJx3
              clear hJx3
              gi_wp2_with fail
              refine bodyPost_ret (results_none rfl _ _ _) rfl ?_
              exact ⟨⟨_, rfl⟩, .inr ⟨_, trivial, HJx3.out⟩⟩
          · have hcnt : (l.take (k + 1)).filter (countsF doc at_ known) = (l.take k).filter (countsF doc at_ known) := by
              rw [take_filter_succ _ _ _ hlt2, Hx.out, if_neg (by simp [countsF]; intros; omega), List.append_nil]
            have Hcnt := Lib.hid hcnt
            clear hcnt
            gi_wp2_with fail
            refine ⟨fun _ _ => trivial, ?_⟩
            gi_wp2_with fail
            go_roundw
            case rel => exact ⟨k + 1, by omega, by go_num, ⟨by rw [Hcnt.out]; exact HJa.out _, HJ.out.2.alloc Hlk.out _⟩⟩
            case measure => simp [intOf]; omega
        · have hcnt : (l.take (k + 1)).filter (countsF doc at_ known) = (l.take k).filter (countsF doc at_ known) := by
            rw [take_filter_succ _ _ _ hlt2, Hx.out, if_neg (by simp [countsF]; intros; omega), List.append_nil]
          have Hcnt := Lib.hid hcnt
          clear hcnt
          gi_wp2_with fail
          refine ⟨fun _ _ => trivial, ?_⟩
          gi_wp2_with fail
          go_roundw
          case rel => exact ⟨k + 1, by omega, by go_num, ⟨by rw [Hcnt.out]; exact HJa.out _, HJ.out.2.alloc Hlk.out _⟩⟩
          case measure => simp [intOf]; omega
      · have g1 : (x.f3 == doc) = false := by simp [hx3]
        have hcnt : (l.take (k + 1)).filter (countsF doc at_ known) = (l.take k).filter (countsF doc at_ known) := by
          rw [take_filter_succ _ _ _ hlt2, Hx.out, if_neg (by simp [countsF]; intros; contradiction), List.append_nil]
        have Hcnt := Lib.hid hcnt
        clear hcnt hx3
        gi_wp2_with fail
        refine ⟨fun _ _ => trivial, ?_⟩
        gi_wp2_with fail
        go_roundw
        case rel => exact ⟨k + 1, by omega, by go_num, ⟨by rw [Hcnt.out]; exact HJa.out _, HJ.out.2.alloc Hlk.out _⟩⟩
        case measure => simp [intOf]; omega
    · obtain rfl : k = l.length := by omega
      gi_wp2_with fail
      go_end0
      exact ⟨⟨_, rfl⟩, .inl ⟨_, by rw [List.take_length], HJ.out.1⟩⟩
/-- what an approval is about -/
structure Sb where
  a : Int
  b : Int
  c : Int
  d : Int
deriving instance DecidableEq for Sb
def ek (s : Sb) : Value := .agg #[.int .i64 s.a, .int .i64 s.b, .int .i64 s.c, .int .i64 s.d]
def ev (x : S24) : Value := .agg #[.int .i64 x.f0, .int .i64 x.f1, .int .i64 x.f2, .int .i64 x.f3, .int .i64 x.f4, .int .i64 x.f5, .int .i64 x.f6, .bool x.f7]
def sbOf (x : S24) : Sb := ⟨x.f3, x.f4, x.f5, x.f6⟩
theorem sb_eq (d : Nat) (w : World) (x0 y0 x1 y1 x2 y2 x3 y3 : Int) :
    (Op.equalIn (d + 2) 67 (.agg #[.int .i64 x0, .int .i64 x1, .int .i64 x2, .int .i64 x3]) (.agg #[.int .i64 y0, .int .i64 y1, .int .i64 y2, .int .i64 y3])).run Try.prog w = .ok (x0 == y0 && (x1 == y1 && (x2 == y2 && (x3 == y3)))) w := by
  refine eqA_of Try.underlying67 (by kernel_rfl) ?_
  refine eqf_cons (by rfl) (by go_simp; rfl) (by go_simp; rfl) (by go_simp) ?_
  refine eqf_cons (by rfl) (by go_simp; rfl) (by go_simp; rfl) (by go_simp) ?_
  refine eqf_cons (by rfl) (by go_simp; rfl) (by go_simp; rfl) (by go_simp) ?_
  exact eqf_last (by rfl) (by go_simp; rfl) (by go_simp; rfl) (by go_simp)
theorem sb_equal (x y : Sb) (w : World) : (Op.equal 67 (ek x) (ek y)).run Try.prog w = .ok (decide (x = y)) w := by
  have h := sb_eq 9998 w x.a y.a x.b y.b x.c y.c x.d y.d
  refine h.trans ?_
  congr 1
  obtain ⟨a, b, c, d⟩ := x
  obtain ⟨a', b', c', d'⟩ := y
  simp only [Sb.mk.injEq]
  by_cases h1 : a = a' <;> by_cases h2 : b = b' <;> by_cases h3 : c = c' <;> by_cases h4 : d = d' <;> simp [h1, h2, h3, h4]
theorem chkSb (em : Bool) (k : Sb) (w : World) : (Instr.checkKey em 10000 67 (ek k)).run Try.prog w = .ok () w := by kernel_rfl
theorem staysSb (k : Sb) (w : World) : (Instr.keyThatStays (ek k) (ek k)).run Try.prog w = .ok (ek k) w := by
  simp [Instr.keyThatStays, Instr.sameBits, ek]
def MapT : TypeId := 61
theorem law : MapLaw Try.prog 61 67 24 ek ev (ev z24) :=
  ⟨Try.underlying61, chkSb, find_struct Try.underlying67 sb_equal, staysSb, fun w => by kernel_rfl⟩
theorem subj_any (a0 : Int) (a1 : Int) (a2 : Int) (a3 : Int) (a4 : Int) (a5 : Int) (a6 : Int) (a7 : Bool) (w : World) : Calls Try.prog 48 #[.agg #[.int .i64 a0, .int .i64 a1, .int .i64 a2, .int .i64 a3, .int .i64 a4, .int .i64 a5, .int .i64 a6, .bool a7]] w fun e w' => e = .returned (ek ⟨a3, a4, a5, a6⟩) ∧ Below w.heap.size w w' := by
  go_enter Try.func48, Try.ntmps48
  go_wp2
  refine bodyPost_ret (v := ek ⟨a3, a4, a5, a6⟩) (by simp [results, Try.results48, go_sem, ek]) rfl ⟨rfl, ?_⟩
  repeat (first | exact Below.refl _ _ | refine Below.setCell ?_ (by simp <;> omega) _ | refine Below.alloc ?_ (by simp <;> omega) _ | refine below_drew ?_)

theorem counting_in (n : Nat) (A : Option Addr) (c : Nat) (l : List S24) (doc at_ known : Int) (w : World) :
    CallsIn Fence.wide n Try.prog 47 #[.slice A l.length c, .int .i64 doc, .int .i64 at_, .int .i64 known] w fun e w' =>
      e = .returned (.func (.func 52) #[] #[.pointer (some ⟨w.heap.size, 0, none⟩), .pointer (some ⟨w.heap.size + 1, 0, none⟩), .pointer (some ⟨w.heap.size + 2, 0, none⟩), .pointer (some ⟨w.heap.size + 3, 0, none⟩)]) ∧
      Below w.heap.size w w' ∧ Boxes w' w.heap.size (w.heap.size + 1) (w.heap.size + 2) (w.heap.size + 3) A l.length c doc at_ known := by
  refine callsIn_of_wp Try.func47 rfl trivial ?_ rfl
  simp only [Try.ntmps47, List.size_toArray, List.length_cons, List.length_nil, Nat.reduceAdd, Nat.reduceSub, Array.replicate_succ, Array.replicate_zero, List.push_toArray, List.append_toArray, List.nil_append, List.cons_append]
  gi_wp2
  go_ret
  refine ⟨rfl, ?_, ⟨?_, ?_, ?_, ?_⟩⟩
  · repeat (first | exact Below.refl _ _ | refine Below.setCell ?_ (by simp <;> omega) _ | refine Below.alloc ?_ (by simp <;> omega) _ | refine below_drew ?_)
  all_goals (show ((((w.heap.push _).push _).push _).push _)[_]? = _; simp only [Array.getElem?_push, Array.size_push]; repeat (first | rfl | rw [if_pos trivial] | rw [if_pos (by omega)] | rw [if_neg (by omega)]))

theorem ink_lt {W0 : World} {b0 b1 b2 b3 : Nat} {A : Option Addr} {c : Nat} {l : List S24} {doc at_ known : Int} (hB : Boxes W0 b0 b1 b2 b3 A l.length c doc at_ known) (hr : Kd.C k24 W0 A l.length l) (k : Nat) (hk : InK b0 b1 b2 b3 A l.length k) : k < W0.heap.size := by
  rcases hk with rfl | rfl | rfl | rfl | ⟨ad, rfl, hl, rfl⟩
  · exact (Array.getElem?_eq_some_iff.1 hB.h0).1
  · exact (Array.getElem?_eq_some_iff.1 hB.h1).1
  · exact (Array.getElem?_eq_some_iff.1 hB.h2).1
  · exact (Array.getElem?_eq_some_iff.1 hB.h3).1
  · exact row_lt hr hl
end St
end Go.Proofs.Ytcpheagandpacaa.W
