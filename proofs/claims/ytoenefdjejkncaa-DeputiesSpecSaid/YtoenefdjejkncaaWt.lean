/-
The iterator of covering of the package deputies, by a walk: it yields the delegations that stand and cover. Condition: its boxes, its map and the row are read.
-/
import Derived.Test.YtoenefdjejkncaaWc
import Derived.Test.YtoenefdjejkncaaQs
import Derived.Shelf.RegionOpen
import Derived.Outline
namespace Go.Proofs.Ytoenefdjejkncaa.W
open Go.RowKit Go.Proofs.YtoenefdjejkncaaW.PrintWords Go.Proofs.YtoenefdjejkncaaW.PrintLast Go.Proofs.YtoenefdjejkncaaW.PrintMore Go.Proofs.Ytoenefdjejkncaa.P
open S (countsF sameSubj lastF coversF yieldF coverF)
set_option linter.unusedVariables false
attribute [local go_sem] Oper.semAt_some
attribute [local go_sem high] eqs24
namespace Cv
theorem asked_wide {P : Program} {o : Oper} {a : Act} {C : World → Prop} : Oper.askedIn Fence.wide P o a C = True := eq_true (fun _ _ _ _ => trivial)
attribute [local go_sem ↓] asked_wide
def enc (x : S24) : Array Value := #[.agg #[.int .i64 x.f0, .int .i64 x.f1, .int .i64 x.f2, .int .i64 x.f3, .int .i64 x.f4, .int .i64 x.f5, .int .i64 x.f6, .int .i64 x.f7, .int .i64 x.f8, .bool x.f9]]
def InK (b0 : Nat) (A : Option Addr) (n : Nat) (k : Nat) : Prop := (b0 ≤ k ∧ k ≤ b0 + 4) ∨ ∃ ad, A = some ad ∧ 0 < n ∧ k = ad.block
theorem row_lt {w : World} {ad : Addr} {l : List S24} (hr : Kd.C k24 w (some ad) l.length l) (hl : 0 < l.length) : ad.block < w.heap.size := by
  obtain ⟨ad', e, h⟩ := at_24 hr 0 hl
  cases e
  have := World.block_lt_of_cell? _ _ h.1
  unfold Addr.add at this
  split at this <;> exact this
theorem ink_lt {W0 : World} {b0 : Nat} {q : Qn} {A : Option Addr} {c : Nat} {l : List S24} (hB : Boxes W0 b0 q A l.length c) (hr : Kd.C k24 W0 A l.length l) (k : Nat) (hk : InK b0 A l.length k) : k < W0.heap.size := by
  have := (Array.getElem?_eq_some_iff.1 hB.h4).1
  rcases hk with ⟨h1, h2⟩ | ⟨ad, rfl, hl, rfl⟩
  · omega
  · exact row_lt hr hl
theorem Boxes.keepK {W W' : World} {b0 n c : Nat} {q : Qn} {A : Option Addr} (h : Boxes W b0 q A n c) (hk : Keep (InK b0 A n) W W') : Boxes W' b0 q A n c :=
  ⟨(hk _ (.inl ⟨by omega, by omega⟩)).trans h.h0, (hk _ (.inl ⟨by omega, by omega⟩)).trans h.h1, (hk _ (.inl ⟨by omega, by omega⟩)).trans h.h2, (hk _ (.inl ⟨by omega, by omega⟩)).trans h.h4⟩
theorem grown_none {w w' : World} (hb : Below w.heap.size w w') : w.grownBy w' none := ⟨hb.os, hb.tape, hb.output, hb.size, fun k hk _ => hb.block k hk⟩
theorem take_filter_succ (p : S24 → Bool) (l : List S24) (k : Nat) (h : k < l.length) : (l.take (k + 1)).filter p = (l.take k).filter p ++ (if p (l.getD k z24) = true then [l.getD k z24] else []) := by
  rw [List.take_succ_eq_append_getElem h, List.filter_append]
  congr 1
  simp only [List.getD_eq_getElem?_getD, List.getElem?_eq_getElem h, Option.getD_some]
  by_cases hp : p l[k] = true <;> simp [hp]
theorem eq_run (x y : S24) (b : Bool) (h : decide (x = y) = b) : ∀ d w, (Op.equalIn (d + 2) 24 (.agg #[.int .i64 x.f0, .int .i64 x.f1, .int .i64 x.f2, .int .i64 x.f3, .int .i64 x.f4, .int .i64 x.f5, .int .i64 x.f6, .int .i64 x.f7, .int .i64 x.f8, .bool x.f9]) (.agg #[.int .i64 y.f0, .int .i64 y.f1, .int .i64 y.f2, .int .i64 y.f3, .int .i64 y.f4, .int .i64 y.f5, .int .i64 y.f6, .int .i64 y.f7, .int .i64 y.f8, .bool y.f9])).run Try.prog w = .ok b w := by
  intro d w
  rw [eqs24, eqdec24, h]
def Yd (l : List S24) (q : Qn) (x : S24) : Bool := yieldF (l.filter (countsF q.a q.n)) q.o q.k q.v q.a q.n x
set_option maxHeartbeats 8000000 in
set_option maxRecDepth 100000 in
theorem iter_stops (n : Nat) (b0 : Nat) (q : Qn) (A : Option Addr) (c : Nat) (l : List S24) (m : List (Sb × S24)) (w0 : World) (hB : Boxes w0 b0 q A l.length c) (hm : IsMap ek ev w0 (b0 + 3) m) (hg : ∀ y, mget m (sbOf y) = (l.filter (countsF q.a q.n)).foldl (lastStep y) none) (hr : Kd.C k24 w0 A l.length l) (hn : l.length ≤ 9223372036854775807) :
    SeqStopsK Fence.wide n Try.prog 55 #[.pointer (some ⟨b0 + 1, 0, none⟩), .pointer (some ⟨b0 + 4, 0, none⟩), .pointer (some ⟨b0 + 2, 0, none⟩), .pointer (some ⟨b0, 0, none⟩)] enc (Keep (InK b0 A l.length)) (fun ys => ys = l.filter (Yd l q)) (fun _ => True) l.length w0 := by
  intro ly J Jx W hW hJ hJx hY h0
  have hlt : ∀ k, InK b0 A l.length k → k < w0.heap.size := ink_lt hB hr
  have HB := pk hB
  have HR := pk hr
  have Hm := pk hm
  have Hg := pk hg
  have hw0 : W.cell? ⟨b0 + 1, 0, none⟩ = some (.slice A l.length c) := one_cell ((hW.block (b0 + 1) (Array.getElem?_eq_some_iff.1 hB.h1).1).trans hB.h1)
  clear hB hr hm hg
  refine callsIn_of_wp Try.func55 rfl trivial ?_ rfl
  simp only [Try.ntmps55, List.size_toArray, List.length_cons, List.length_nil, Nat.reduceAdd, Nat.reduceSub, Array.replicate_succ, Array.replicate_zero, List.push_toArray, List.append_toArray, List.nil_append, List.cons_append]
  gi_wp2_with fail
  gi_loopw [10] (fun i wr => ∃ k : Nat, k ≤ l.length ∧ i = .int .i64 k ∧ Hid (J ((l.take k).filter (Yd l q)) wr ∧ Keep (InK b0 A l.length) W wr)) (fun i _ => l.length - (intOf i).toNat)
  case atStart => exact ⟨0, Nat.zero_le _, rfl, ⟨h0, Keep.refl _ _⟩⟩
  case round =>
    obtain ⟨k, hk, rfl, HJ⟩ := hrel
    by_cases hlt2 : k < l.length
    · have hKW : Keep (InK b0 A l.length) w0 wr := (Keep.of_below hW hlt).trans HJ.out.2
      have HBx := pk (HB.out.keepK hKW)
      have Hmw : Pk (IsMap ek ev wr (b0 + 3) m) := pk (Hm.out.at_ (hKW _ (.inl ⟨by omega, by omega⟩)))
      obtain ⟨ad, hA, hcells⟩ := at_24 (C_keep24 HR.out hKW (fun ad e hl => .inr ⟨ad, e, hl, rfl⟩)) k hlt2
      generalize hx : l.getD k z24 = x at hcells
      have hcnt : (l.take (k + 1)).filter (Yd l q) = (l.take k).filter (Yd l q) ++ (if Yd l q x = true then [x] else []) := by
        rw [take_filter_succ _ _ _ hlt2, hx]
      have Hcnt := pk hcnt
      have hlk : ∀ k, InK b0 A l.length k → k < wr.heap.size := fun k hk => by
        have h1 := hlt k hk
        have h2 := hKW k hk
        rw [Array.getElem?_eq_getElem h1] at h2
        exact (Array.getElem?_eq_some_iff.1 h2).1
      have HlR : Pk (b0 + 4 < wr.heap.size) := pk (hlk _ (.inl ⟨by omega, by omega⟩))
      have Hlk := pk hlk
      have hr0 := HlR.out
      have hf4 : ∀ o, (wr.alloc o).cell? ⟨b0 + 4, 0, none⟩ = some (.map (some (b0 + 3))) := fun o => one_cell ((Below.heap_alloc wr o _ hr0).trans HBx.out.h4)
      have hf2 : ∀ o, (wr.alloc o).cell? ⟨b0 + 2, 0, none⟩ = some (cf q) := fun o => one_cell ((Below.heap_alloc wr o _ (by omega)).trans HBx.out.h2)
      unfold cf at hf2
      clear hx hcnt hlk hKW
      subst hA
      have HJa : Pk (∀ w6, Below wr.heap.size wr w6 → J ((l.take k).filter (Yd l q)) w6 ∧ Keep (InK b0 (some ad) l.length) W w6) := pk (fun w6 h6 => ⟨hJ _ _ _ none HJ.out.1 (grown_none h6) (by simp), HJ.out.2.below h6 Hlk.out⟩)
      have Hskip : Pk (Yd l q x = false → ∀ w6, Below wr.heap.size wr w6 → J ((l.take (k + 1)).filter (Yd l q)) w6 ∧ Keep (InK b0 (some ad) l.length) W w6) := pk (fun h w6 h6 => by
        rw [Hcnt.out, h]
        simpa using HJa.out w6 h6)
      generalize hz : (mget m (sbOf x)).getD z24 = z
      have hlook : ∀ o n, (Instr.lookup 81 (.map (some (b0 + 3))) (.agg #[.int .i64 x.f4, .int .i64 x.f5, .int .i64 x.f6, .int .i64 x.f7]) false).run Try.prog ((wr.alloc o).drewN n) = .ok (.agg #[.int .i64 z.f0, .int .i64 z.f1, .int .i64 z.f2, .int .i64 z.f3, .int .i64 z.f4, .int .i64 z.f5, .int .i64 z.f6, .int .i64 z.f7, .int .i64 z.f8, .bool z.f9]) ((wr.alloc o).drewN n) := by
        intro o n
        refine (run_look law (Hmw.out.at_ (W' := (wr.alloc o).drewN n) (Below.heap_alloc wr o _ (by omega))) (sbOf x)).trans ?_
        rw [← hz]
        cases mget m (sbOf x) <;> rfl
      have Hyz : Pk (Yd l q x = (decide (z = x) && (countsF q.a q.n x && coversF q.o q.k q.v q.a x))) := pk (by
        unfold Yd yieldF
        rw [lastF_fold, ← Hg.out x, hz])
      replace hz := pk hz
      cases heq : decide (z = x) with
      | false =>
        have hrun := eq_run z x false heq
        have Heq := pk heq
        clear heq
        gi_wp2_with fail
        gi_quiet (fail)
        gi_wp2_with fail
        go_roundw
        case rel => exact ⟨k + 1, by omega, by go_num, Hskip.out (by rw [Hyz.out]; rw [Heq.out]; rfl) _ (pw_below_drewN ((Below.refl _ _).alloc (Nat.le_refl _) _) _)⟩
        case measure => simp [intOf]; omega
      | true =>
        have hrun := eq_run z x true heq
        have Heq := pk heq
        clear heq
        cases hcx : countsF q.a q.n x with
        | false =>
          have HC := pk (counts_any q x false hcx)
          have Hcx := pk hcx
          clear hcx
          gi_wp2_with fail
          refine Qs.region_start rfl ?_
          refine Qs.any_part (k := 0) (N := 16) rfl (by kernel_rfl) (Qs.closed_of (by kernel_rfl)) _ (fun _ _ h => h) ?_ _ ⟨1, rfl⟩
          simp only [List.take_succ_cons, List.take_zero, List.drop_succ_cons, List.drop_zero, Nat.reduceSub]
          repeat (gi_big_quiet_step (fail))
          refine wpQuietIn_nil ?_
          intro _ hw'
          obtain ⟨nq, hw''⟩ := hw'
          subst hw''
          refine Qs.op_step rfl rfl (fun K1 hK1 => ?_)
          gi_wp2_with fail
          refine ⟨trivial, fun h => (by cases h), (callsIn_wide.2 (HC.out _)).mono ?_⟩
          rintro e w6 ⟨rfl, hb6⟩
          have HB6 : Pk (Below wr.heap.size wr w6) := pk ((pw_below_drewN ((Below.refl wr.heap.size wr).alloc (Nat.le_refl _) _) nq).trans (hb6.mono (by simp)))
          clear hb6
          gi_wp2_with fail
          refine Qs.any_last (k := 17) rfl (by decide) (by kernel_rfl) ?_ _ ⟨0, rfl⟩
          simp only [List.take_succ_cons, List.take_zero, List.drop_succ_cons, List.drop_zero, Nat.reduceSub]
          repeat (gi_big_quiet_step (fail))
          refine wpQuietIn_nil ?_
          intro _ hw'
          obtain ⟨nq, hw''⟩ := hw'
          subst hw''
          gi_wp2_with fail
          go_roundw
          case rel => exact ⟨k + 1, by omega, by go_num, Hskip.out (by rw [Hyz.out]; rw [Hcx.out, Bool.false_and, Bool.and_false]) _ (pw_below_drewN HB6.out _)⟩
          case measure => simp [intOf]; omega
        | true =>
          have HC := pk (counts_any q x true hcx)
          have Hcx := pk hcx
          clear hcx
          cases hvx : coversF q.o q.k q.v q.a x with
          | false =>
            have HV := pk (covers_any q x false hvx)
            have Hvx := pk hvx
            clear hvx
            gi_wp2_with fail
            refine Qs.region_start rfl ?_
            refine Qs.any_part (k := 0) (N := 16) rfl (by kernel_rfl) (Qs.closed_of (by kernel_rfl)) _ (fun _ _ h => h) ?_ _ ⟨1, rfl⟩
            simp only [List.take_succ_cons, List.take_zero, List.drop_succ_cons, List.drop_zero, Nat.reduceSub]
            repeat (gi_big_quiet_step (fail))
            refine wpQuietIn_nil ?_
            intro _ hw'
            obtain ⟨nq, hw''⟩ := hw'
            subst hw''
            refine Qs.op_step rfl rfl (fun K1 hK1 => ?_)
            gi_wp2_with fail
            refine ⟨trivial, fun h => (by cases h), (callsIn_wide.2 (HC.out _)).mono ?_⟩
            rintro e w6 ⟨rfl, hb6⟩
            have HA6 : Pk (Below (wr.alloc (.cells #[.int .i64 x.f0, .int .i64 x.f1, .int .i64 x.f2, .int .i64 x.f3, .int .i64 x.f4, .int .i64 x.f5, .int .i64 x.f6, .int .i64 x.f7, .int .i64 x.f8, .bool x.f9] 24)).heap.size (wr.alloc (.cells #[.int .i64 x.f0, .int .i64 x.f1, .int .i64 x.f2, .int .i64 x.f3, .int .i64 x.f4, .int .i64 x.f5, .int .i64 x.f6, .int .i64 x.f7, .int .i64 x.f8, .bool x.f9] 24)) w6) := pk ((pw_below_drewN (Below.refl (wr.alloc (.cells #[.int .i64 x.f0, .int .i64 x.f1, .int .i64 x.f2, .int .i64 x.f3, .int .i64 x.f4, .int .i64 x.f5, .int .i64 x.f6, .int .i64 x.f7, .int .i64 x.f8, .bool x.f9] 24)).heap.size (wr.alloc (.cells #[.int .i64 x.f0, .int .i64 x.f1, .int .i64 x.f2, .int .i64 x.f3, .int .i64 x.f4, .int .i64 x.f5, .int .i64 x.f6, .int .i64 x.f7, .int .i64 x.f8, .bool x.f9] 24))) nq).trans hb6)
            clear hb6
            have HBxw6 := pk (HBx.out.keep (fun k hk _ => (HA6.out.block k (by simp; omega)).trans (Below.heap_alloc wr _ k hk)))
            have hXw6 : w6.heap[wr.heap.size]? = some (.cells #[.int .i64 x.f0, .int .i64 x.f1, .int .i64 x.f2, .int .i64 x.f3, .int .i64 x.f4, .int .i64 x.f5, .int .i64 x.f6, .int .i64 x.f7, .int .i64 x.f8, .bool x.f9] 24 (0, 0)) := (HA6.out.block _ (by simp)).trans (Go.heap_alloc_new wr _)
            have hcxw6 := fun j => cell_of_row w6 wr.heap.size j _ 24 (0, 0) hXw6
            have hxw6_0 : w6.cell? ⟨wr.heap.size, 0, none⟩ = some (.int .i64 x.f0) := hcxw6 0
            have hxw6_1 : w6.cell? ⟨wr.heap.size, 1, none⟩ = some (.int .i64 x.f1) := hcxw6 1
            have hxw6_2 : w6.cell? ⟨wr.heap.size, 2, none⟩ = some (.int .i64 x.f2) := hcxw6 2
            have hxw6_3 : w6.cell? ⟨wr.heap.size, 3, none⟩ = some (.int .i64 x.f3) := hcxw6 3
            have hxw6_4 : w6.cell? ⟨wr.heap.size, 4, none⟩ = some (.int .i64 x.f4) := hcxw6 4
            have hxw6_5 : w6.cell? ⟨wr.heap.size, 5, none⟩ = some (.int .i64 x.f5) := hcxw6 5
            have hxw6_6 : w6.cell? ⟨wr.heap.size, 6, none⟩ = some (.int .i64 x.f6) := hcxw6 6
            have hxw6_7 : w6.cell? ⟨wr.heap.size, 7, none⟩ = some (.int .i64 x.f7) := hcxw6 7
            have hxw6_8 : w6.cell? ⟨wr.heap.size, 8, none⟩ = some (.int .i64 x.f8) := hcxw6 8
            have hxw6_9 : w6.cell? ⟨wr.heap.size, 9, none⟩ = some (.bool x.f9) := hcxw6 9
            have hcqw6 := fun j => cell_of_row w6 b0 j _ 69 (0, 0) HBxw6.out.h0
            have hqw6_0 : w6.cell? ⟨b0, 0, none⟩ = some (.int .i64 q.o) := hcqw6 0
            have hqw6_1 : w6.cell? ⟨b0, 1, none⟩ = some (.int .i64 q.k) := hcqw6 1
            have hqw6_2 : w6.cell? ⟨b0, 2, none⟩ = some (.int .i64 q.v) := hcqw6 2
            have hqw6_3 : w6.cell? ⟨b0, 3, none⟩ = some (.int .i64 q.a) := hcqw6 3
            have hqw6_4 : w6.cell? ⟨b0, 4, none⟩ = some (.int .i64 q.n) := hcqw6 4
            clear hXw6 hcxw6 hcqw6
            gi_wp2_with fail
            refine Qs.any_part (k := 17) (N := 21) rfl (by kernel_rfl) (Qs.closed_of (by kernel_rfl)) _ (fun _ _ h => h) ?_ _ ⟨0, rfl⟩
            simp only [List.take_succ_cons, List.take_zero, List.drop_succ_cons, List.drop_zero, Nat.reduceSub]
            repeat (gi_big_quiet_step (fail))
            refine wpQuietIn_nil ?_
            intro _ hw'
            obtain ⟨nq, hw''⟩ := hw'
            subst hw''
            refine Qs.op_step rfl rfl (fun K1 hK1 => ?_)
            gi_wp2_with fail
            refine ⟨trivial, fun h => (by cases h), (callsIn_wide.2 (HV.out _)).mono ?_⟩
            rintro e w7 ⟨rfl, hb7⟩
            have HA7 : Pk (Below (wr.alloc (.cells #[.int .i64 x.f0, .int .i64 x.f1, .int .i64 x.f2, .int .i64 x.f3, .int .i64 x.f4, .int .i64 x.f5, .int .i64 x.f6, .int .i64 x.f7, .int .i64 x.f8, .bool x.f9] 24)).heap.size (wr.alloc (.cells #[.int .i64 x.f0, .int .i64 x.f1, .int .i64 x.f2, .int .i64 x.f3, .int .i64 x.f4, .int .i64 x.f5, .int .i64 x.f6, .int .i64 x.f7, .int .i64 x.f8, .bool x.f9] 24)) w7) := pk (below_step HA6.out ((pw_below_drewN (Below.refl w6.heap.size w6) nq).trans hb7))
            clear hb7
            clear hxw6_0 hxw6_1 hxw6_2 hxw6_3 hxw6_4 hxw6_5 hxw6_6 hxw6_7 hxw6_8 hxw6_9 hqw6_0 hqw6_1 hqw6_2 hqw6_3 hqw6_4
            gi_wp2_with fail
            refine Qs.any_last (k := 22) rfl (by decide) (by kernel_rfl) ?_ _ ⟨0, rfl⟩
            simp only [List.take_succ_cons, List.take_zero, List.drop_succ_cons, List.drop_zero, Nat.reduceSub]
            repeat (gi_big_quiet_step (fail))
            refine wpQuietIn_nil ?_
            intro _ hw'
            obtain ⟨nq, hw''⟩ := hw'
            subst hw''
            gi_wp2_with fail
            go_roundw
            case rel => exact ⟨k + 1, by omega, by go_num, Hskip.out (by rw [Hyz.out]; rw [Hvx.out, Bool.and_false, Bool.and_false]) _ (pw_below_drewN (((Below.refl wr.heap.size wr).alloc (Nat.le_refl _) _).trans (HA7.out.mono (by simp))) _)⟩
            case measure => simp [intOf]; omega
          | true =>
            have HV := pk (covers_any q x true hvx)
            have Hvx := pk hvx
            clear hvx
            gi_wp2_with fail
            refine Qs.region_start rfl ?_
            refine Qs.any_part (k := 0) (N := 16) rfl (by kernel_rfl) (Qs.closed_of (by kernel_rfl)) _ (fun _ _ h => h) ?_ _ ⟨1, rfl⟩
            simp only [List.take_succ_cons, List.take_zero, List.drop_succ_cons, List.drop_zero, Nat.reduceSub]
            repeat (gi_big_quiet_step (fail))
            refine wpQuietIn_nil ?_
            intro _ hw'
            obtain ⟨nq, hw''⟩ := hw'
            subst hw''
            refine Qs.op_step rfl rfl (fun K1 hK1 => ?_)
            gi_wp2_with fail
            refine ⟨trivial, fun h => (by cases h), (callsIn_wide.2 (HC.out _)).mono ?_⟩
            rintro e w6 ⟨rfl, hb6⟩
            have HA6 : Pk (Below (wr.alloc (.cells #[.int .i64 x.f0, .int .i64 x.f1, .int .i64 x.f2, .int .i64 x.f3, .int .i64 x.f4, .int .i64 x.f5, .int .i64 x.f6, .int .i64 x.f7, .int .i64 x.f8, .bool x.f9] 24)).heap.size (wr.alloc (.cells #[.int .i64 x.f0, .int .i64 x.f1, .int .i64 x.f2, .int .i64 x.f3, .int .i64 x.f4, .int .i64 x.f5, .int .i64 x.f6, .int .i64 x.f7, .int .i64 x.f8, .bool x.f9] 24)) w6) := pk ((pw_below_drewN (Below.refl (wr.alloc (.cells #[.int .i64 x.f0, .int .i64 x.f1, .int .i64 x.f2, .int .i64 x.f3, .int .i64 x.f4, .int .i64 x.f5, .int .i64 x.f6, .int .i64 x.f7, .int .i64 x.f8, .bool x.f9] 24)).heap.size (wr.alloc (.cells #[.int .i64 x.f0, .int .i64 x.f1, .int .i64 x.f2, .int .i64 x.f3, .int .i64 x.f4, .int .i64 x.f5, .int .i64 x.f6, .int .i64 x.f7, .int .i64 x.f8, .bool x.f9] 24))) nq).trans hb6)
            clear hb6
            have HBxw6 := pk (HBx.out.keep (fun k hk _ => (HA6.out.block k (by simp; omega)).trans (Below.heap_alloc wr _ k hk)))
            have hXw6 : w6.heap[wr.heap.size]? = some (.cells #[.int .i64 x.f0, .int .i64 x.f1, .int .i64 x.f2, .int .i64 x.f3, .int .i64 x.f4, .int .i64 x.f5, .int .i64 x.f6, .int .i64 x.f7, .int .i64 x.f8, .bool x.f9] 24 (0, 0)) := (HA6.out.block _ (by simp)).trans (Go.heap_alloc_new wr _)
            have hcxw6 := fun j => cell_of_row w6 wr.heap.size j _ 24 (0, 0) hXw6
            have hxw6_0 : w6.cell? ⟨wr.heap.size, 0, none⟩ = some (.int .i64 x.f0) := hcxw6 0
            have hxw6_1 : w6.cell? ⟨wr.heap.size, 1, none⟩ = some (.int .i64 x.f1) := hcxw6 1
            have hxw6_2 : w6.cell? ⟨wr.heap.size, 2, none⟩ = some (.int .i64 x.f2) := hcxw6 2
            have hxw6_3 : w6.cell? ⟨wr.heap.size, 3, none⟩ = some (.int .i64 x.f3) := hcxw6 3
            have hxw6_4 : w6.cell? ⟨wr.heap.size, 4, none⟩ = some (.int .i64 x.f4) := hcxw6 4
            have hxw6_5 : w6.cell? ⟨wr.heap.size, 5, none⟩ = some (.int .i64 x.f5) := hcxw6 5
            have hxw6_6 : w6.cell? ⟨wr.heap.size, 6, none⟩ = some (.int .i64 x.f6) := hcxw6 6
            have hxw6_7 : w6.cell? ⟨wr.heap.size, 7, none⟩ = some (.int .i64 x.f7) := hcxw6 7
            have hxw6_8 : w6.cell? ⟨wr.heap.size, 8, none⟩ = some (.int .i64 x.f8) := hcxw6 8
            have hxw6_9 : w6.cell? ⟨wr.heap.size, 9, none⟩ = some (.bool x.f9) := hcxw6 9
            have hcqw6 := fun j => cell_of_row w6 b0 j _ 69 (0, 0) HBxw6.out.h0
            have hqw6_0 : w6.cell? ⟨b0, 0, none⟩ = some (.int .i64 q.o) := hcqw6 0
            have hqw6_1 : w6.cell? ⟨b0, 1, none⟩ = some (.int .i64 q.k) := hcqw6 1
            have hqw6_2 : w6.cell? ⟨b0, 2, none⟩ = some (.int .i64 q.v) := hcqw6 2
            have hqw6_3 : w6.cell? ⟨b0, 3, none⟩ = some (.int .i64 q.a) := hcqw6 3
            have hqw6_4 : w6.cell? ⟨b0, 4, none⟩ = some (.int .i64 q.n) := hcqw6 4
            clear hXw6 hcxw6 hcqw6
            gi_wp2_with fail
            refine Qs.any_part (k := 17) (N := 21) rfl (by kernel_rfl) (Qs.closed_of (by kernel_rfl)) _ (fun _ _ h => h) ?_ _ ⟨0, rfl⟩
            simp only [List.take_succ_cons, List.take_zero, List.drop_succ_cons, List.drop_zero, Nat.reduceSub]
            repeat (gi_big_quiet_step (fail))
            refine wpQuietIn_nil ?_
            intro _ hw'
            obtain ⟨nq, hw''⟩ := hw'
            subst hw''
            refine Qs.op_step rfl rfl (fun K1 hK1 => ?_)
            gi_wp2_with fail
            refine ⟨trivial, fun h => (by cases h), (callsIn_wide.2 (HV.out _)).mono ?_⟩
            rintro e w7 ⟨rfl, hb7⟩
            have HA7 : Pk (Below (wr.alloc (.cells #[.int .i64 x.f0, .int .i64 x.f1, .int .i64 x.f2, .int .i64 x.f3, .int .i64 x.f4, .int .i64 x.f5, .int .i64 x.f6, .int .i64 x.f7, .int .i64 x.f8, .bool x.f9] 24)).heap.size (wr.alloc (.cells #[.int .i64 x.f0, .int .i64 x.f1, .int .i64 x.f2, .int .i64 x.f3, .int .i64 x.f4, .int .i64 x.f5, .int .i64 x.f6, .int .i64 x.f7, .int .i64 x.f8, .bool x.f9] 24)) w7) := pk (below_step HA6.out ((pw_below_drewN (Below.refl w6.heap.size w6) nq).trans hb7))
            clear hb7
            clear hxw6_0 hxw6_1 hxw6_2 hxw6_3 hxw6_4 hxw6_5 hxw6_6 hxw6_7 hxw6_8 hxw6_9 hqw6_0 hqw6_1 hqw6_2 hqw6_3 hqw6_4
            have HBxw7 := pk (HBx.out.keep (fun k hk _ => (HA7.out.block k (by simp; omega)).trans (Below.heap_alloc wr _ k hk)))
            have hXw7 : w7.heap[wr.heap.size]? = some (.cells #[.int .i64 x.f0, .int .i64 x.f1, .int .i64 x.f2, .int .i64 x.f3, .int .i64 x.f4, .int .i64 x.f5, .int .i64 x.f6, .int .i64 x.f7, .int .i64 x.f8, .bool x.f9] 24 (0, 0)) := (HA7.out.block _ (by simp)).trans (Go.heap_alloc_new wr _)
            have hcxw7 := fun j => cell_of_row w7 wr.heap.size j _ 24 (0, 0) hXw7
            have hxw7_0 : w7.cell? ⟨wr.heap.size, 0, none⟩ = some (.int .i64 x.f0) := hcxw7 0
            have hxw7_1 : w7.cell? ⟨wr.heap.size, 1, none⟩ = some (.int .i64 x.f1) := hcxw7 1
            have hxw7_2 : w7.cell? ⟨wr.heap.size, 2, none⟩ = some (.int .i64 x.f2) := hcxw7 2
            have hxw7_3 : w7.cell? ⟨wr.heap.size, 3, none⟩ = some (.int .i64 x.f3) := hcxw7 3
            have hxw7_4 : w7.cell? ⟨wr.heap.size, 4, none⟩ = some (.int .i64 x.f4) := hcxw7 4
            have hxw7_5 : w7.cell? ⟨wr.heap.size, 5, none⟩ = some (.int .i64 x.f5) := hcxw7 5
            have hxw7_6 : w7.cell? ⟨wr.heap.size, 6, none⟩ = some (.int .i64 x.f6) := hcxw7 6
            have hxw7_7 : w7.cell? ⟨wr.heap.size, 7, none⟩ = some (.int .i64 x.f7) := hcxw7 7
            have hxw7_8 : w7.cell? ⟨wr.heap.size, 8, none⟩ = some (.int .i64 x.f8) := hcxw7 8
            have hxw7_9 : w7.cell? ⟨wr.heap.size, 9, none⟩ = some (.bool x.f9) := hcxw7 9
            have hcqw7 := fun j => cell_of_row w7 b0 j _ 69 (0, 0) HBxw7.out.h0
            have hqw7_0 : w7.cell? ⟨b0, 0, none⟩ = some (.int .i64 q.o) := hcqw7 0
            have hqw7_1 : w7.cell? ⟨b0, 1, none⟩ = some (.int .i64 q.k) := hcqw7 1
            have hqw7_2 : w7.cell? ⟨b0, 2, none⟩ = some (.int .i64 q.v) := hcqw7 2
            have hqw7_3 : w7.cell? ⟨b0, 3, none⟩ = some (.int .i64 q.a) := hcqw7 3
            have hqw7_4 : w7.cell? ⟨b0, 4, none⟩ = some (.int .i64 q.n) := hcqw7 4
            clear hXw7 hcxw7 hcqw7
            gi_wp2_with fail
            refine Qs.any_part (k := 22) (N := 26) rfl (by kernel_rfl) (Qs.closed_of (by kernel_rfl)) _ (fun _ _ h => h) ?_ _ ⟨0, rfl⟩
            simp only [List.take_succ_cons, List.take_zero, List.drop_succ_cons, List.drop_zero, Nat.reduceSub]
            repeat (gi_big_quiet_step (fail))
            refine wpQuietIn_nil ?_
            intro _ hw'
            obtain ⟨nq, hw''⟩ := hw'
            subst hw''
            obtain ⟨fn, tmps, assign, body, hy, hR⟩ := hY _ x (w7.drewN nq) ((HJa.out _ (pw_below_drewN (((Below.refl wr.heap.size wr).alloc (Nat.le_refl _) _).trans (HA7.out.mono (by simp))) _)).1) (by
              have := List.length_filter_le (Yd l q) (l.take k); rw [List.length_take] at this; omega)
            dsimp only [enc] at hy
            refine Qs.op_step rfl rfl (fun K1 hK1 => ?_)
            gi_wp2_with fail
            refine ⟨fun h => (by cases h), hR.mono ?_⟩
            have Hup : Pk ((l.take (k + 1)).filter (Yd l q) = (l.take k).filter (Yd l q) ++ [x]) := pk (by rw [Hcnt.out, if_pos (by rw [Hyz.out, Hvx.out, Heq.out, Hcx.out]; rfl)])
            rintro e W3 (⟨rfl, hJ3, hk3⟩ | ⟨rfl, hJx3⟩)
            · have HJ3 := pk hJ3
              have Hk3 := pk hk3
              have HK7 := pk ((HJa.out _ (pw_below_drewN (((Below.refl wr.heap.size wr).alloc (Nat.le_refl _) _).trans (HA7.out.mono (by simp))) nq)).2)
              clear hJ3 hk3
              clear hxw7_0 hxw7_1 hxw7_2 hxw7_3 hxw7_4 hxw7_5 hxw7_6 hxw7_7 hxw7_8 hxw7_9 hqw7_0 hqw7_1 hqw7_2 hqw7_3 hqw7_4
              gi_wp2_with fail
              refine Qs.any_last (k := 27) rfl (by decide) (by kernel_rfl) ?_ _ ⟨0, rfl⟩
              simp only [List.take_succ_cons, List.take_zero, List.drop_succ_cons, List.drop_zero, Nat.reduceSub]
              repeat (gi_big_quiet_step (fail))
              refine wpQuietIn_nil ?_
              intro _ hw'
              obtain ⟨nq, hw''⟩ := hw'
              subst hw''
              gi_wp2_with fail
              go_roundw
              case rel => exact ⟨k + 1, by omega, by go_num, by rw [Hup.out]; exact hJ _ _ _ none HJ3.out (grown_none (pw_below_drewN (Below.refl _ _) _)) (by simp), (HK7.out.trans Hk3.out).trans (fun _ _ => rfl)⟩
              case measure => simp [intOf]; omega
            · have HJx3 := pk hJx3
              clear hJx3
              clear hxw7_0 hxw7_1 hxw7_2 hxw7_3 hxw7_4 hxw7_5 hxw7_6 hxw7_7 hxw7_8 hxw7_9 hqw7_0 hqw7_1 hqw7_2 hqw7_3 hqw7_4
              gi_wp2_with fail
              refine Qs.any_last (k := 27) rfl (by decide) (by kernel_rfl) ?_ _ ⟨0, rfl⟩
              simp only [List.take_succ_cons, List.take_zero, List.drop_succ_cons, List.drop_zero, Nat.reduceSub]
              repeat (gi_big_quiet_step (fail))
              refine wpQuietIn_nil ?_
              intro _ hw'
              obtain ⟨nq, hw''⟩ := hw'
              subst hw''
              gi_wp2_with fail
              refine bodyPost_ret (results_none rfl _ _ _) rfl ?_
              exact ⟨⟨_, rfl⟩, .inr ⟨_, trivial, hJx _ _ _ none HJx3.out (grown_none (pw_below_drewN (Below.refl _ _) _)) (by simp)⟩⟩
    · obtain rfl : k = l.length := by omega
      gi_wp2_with fail
      go_end0
      exact ⟨⟨_, rfl⟩, .inl ⟨_, by rw [List.take_length], HJ.out.1⟩⟩
end Cv
end Go.Proofs.Ytoenefdjejkncaa.W
