/-
slices.Collect at the iterator of covering, by a walk: a range over it that appends. Condition: the iterator's boxes, its map and the row are read.
-/
import Derived.Test.YtoenefdjejkncaaWt
import Derived.RangeFuncBox
namespace Go.Proofs.Ytoenefdjejkncaa.W
open Go.RowKit Go.Proofs.YtoenefdjejkncaaW.PrintWords Go.Proofs.YtoenefdjejkncaaW.PrintLast Go.Proofs.YtoenefdjejkncaaW.PrintMore Go.Proofs.Ytoenefdjejkncaa.P
open S (countsF sameSubj lastF coversF yieldF coverF)
set_option linter.unusedVariables false
attribute [local go_sem] Oper.semAt_some
namespace Cv
/-- what stands between two rounds of the range -/
def I2 (w : World) (pre : List S24) (W : World) : Prop :=
  ∃ v, Boxed W w.heap.size 22 v ∧ W.ownsRow (w.heap.size + 1) 24 10 v pre.length (cl24 pre) ∧ w.heap.size + 1 ≤ W.heap.size ∧ Below w.heap.size w W
theorem I2_own (w : World) : OwnFrom (w.heap.size + 1) (I2 w) := by
  rintro pre W W' row ⟨v, h1, h2, hs, h4⟩ hg hr
  have hlt : ∀ k, row = some k → w.heap.size + 1 ≤ k := fun k e => (hr k e).1
  have hnc : ∀ (B : Nat) (cs : Array Value) (t : TypeId) (f : Nat × Nat), W.heap[B]? = some (.cells cs t f) → row ≠ some B := by
    rintro B cs t f hB e
    obtain ⟨_, o, ho, hc⟩ := hr B e
    rw [hB] at ho
    cases ho
    cases hc
  refine ⟨v, h1.kept hg (hnc _ _ _ _ h1).symm, h2.kept hg ?_, Nat.le_trans hs hg.size, h4.grown hg h4.size (fun k e => by have := hlt k e; omega)⟩
  rcases h2.2 with ⟨rfl, _⟩ | ⟨g, cap, cur, rfl, _, hgb, _⟩
  · exact .inl rfl
  · exact .inr (fun e => hnc g _ _ _ hgb (by simpa [Value.ownBlock] using e.symm))
abbrev itf (b0 : Nat) : Value := .func (.func 55) #[] #[.pointer (some ⟨b0 + 1, 0, none⟩), .pointer (some ⟨b0 + 4, 0, none⟩), .pointer (some ⟨b0 + 2, 0, none⟩), .pointer (some ⟨b0, 0, none⟩)]
set_option maxHeartbeats 8000000 in
set_option maxRecDepth 100000 in
theorem append_in (n : Nat) (hn1 : 5 ≤ n) (b0 : Nat) (q : Qn) (A : Option Addr) (c : Nat) (l : List S24) (hL : l.length ≤ 4096) (m : List (Sb × S24)) (w : World) (hB : Boxes w b0 q A l.length c) (hm : IsMap ek ev w (b0 + 3) m) (hg : ∀ y, mget m (sbOf y) = (l.filter (countsF q.a q.n)).foldl (lastStep y) none) (hr : Kd.C k24 w A l.length l) :
    CallsIn Fence.wide n Try.prog 53 #[.slice none 0 0, itf b0] w fun e w' => ∃ v0_ : Value, e = .returned v0_ ∧ Kd.R k24 24 w' w.heap.size (fun _ => True) v0_ (l.filter (Yd l q)) ∧ Below w.heap.size w w' := by
  have h1n : 1 ≤ n := by omega
  have hb4 : b0 + 4 < w.heap.size := (Array.getElem?_eq_some_iff.1 hB.h4).1
  have hbw : Below w.heap.size w (w.alloc (.cells #[.slice none 0 0] 22)) := (Below.refl _ _).alloc (Nat.le_refl _) _
  have hX0 : Boxed (w.alloc (.cells #[.slice none 0 0] 22)) w.heap.size 22 (.slice none 0 0) := Go.heap_alloc_new w _
  have hB0 : Boxes (w.alloc (.cells #[.slice none 0 0] 22)) b0 q A l.length c := hB.keep (fun k hk _ => Below.heap_alloc w _ k hk)
  have hm0 : IsMap ek ev (w.alloc (.cells #[.slice none 0 0] 22)) (b0 + 3) m := hm.at_ (Below.heap_alloc w _ _ (by omega))
  have hr0 : Kd.C k24 (w.alloc (.cells #[.slice none 0 0] 22)) A l.length l := Kd.C_below hr hbw
  have hKlt0 : ∀ k, InK b0 A l.length k → k < w.heap.size := ink_lt hB hr
  have hKlt : ∀ k, InK b0 A l.length k → k < (w.alloc (.cells #[.slice none 0 0] 22)).heap.size := fun k hk => by have := hKlt0 k hk; simp; omega
  refine callsIn_of_wp_marks Try.func53 rfl trivial ?_ rfl
  simp only [Try.ntmps53, List.size_toArray, List.length_cons, List.length_nil, Nat.reduceAdd, Nat.reduceSub, Array.replicate_succ, Array.replicate_zero, List.push_toArray, List.append_toArray, List.nil_append, List.cons_append]
  gi_wp2_with fail
  refine wpIn_rangeFunc_ownH rfl h1n (gf := 55) (lb := #[.pointer (some ⟨b0 + 1, 0, none⟩), .pointer (some ⟨b0 + 4, 0, none⟩), .pointer (some ⟨b0 + 2, 0, none⟩), .pointer (some ⟨b0, 0, none⟩)]) rfl trivial (enters_of Try.func55 (by kernel_rfl) rfl)
    (iter_stops (n - 1) b0 q A c l m _ hB0 hm0 hg hr0 hr.2.1) keepK_t (keepK_b hKlt) (Below.refl _ _) (fun _ => rfl) (I2 w) (fun _ _ _ => False)
    (by rw [World.size_alloc]; exact I2_own w) (fun _ _ _ _ _ h _ _ => h) ?h0
    (fun x a' W' => ∃ By, w.heap.size + 1 ≤ By ∧ W'.heap[By]? = some (.cells #[.int .i64 x.f0, .int .i64 x.f1, .int .i64 x.f2, .int .i64 x.f3, .int .i64 x.f4, .int .i64 x.f5, .int .i64 x.f6, .int .i64 x.f7, .int .i64 x.f8, .bool x.f9] 24 (0, 0)) ∧ a' = { tmps := #[.slice none 0 0, itf b0, .pointer (some ⟨w.heap.size, 0, none⟩), undef, .slice none 0 0, .pointer (some ⟨By, 0, none⟩), itf b0, .agg #[.int .i64 x.f0, .int .i64 x.f1, .int .i64 x.f2, .int .i64 x.f3, .int .i64 x.f4, .int .i64 x.f5, .int .i64 x.f6, .int .i64 x.f7, .int .i64 x.f8, .bool x.f9], undef, undef, undef, undef, undef], defers := [] })
    ?hAx ?assign ?body ?done ?stop
  case h0 => exact ⟨_, hX0, World.ownsRow_nil _ _ _ _, by simp, hbw⟩
  case hAx =>
    rintro x a' _ W W' row ⟨By, h1, h2, h3⟩ hg hr
    refine ⟨By, h1, (hg.block By (Array.getElem?_eq_some_iff.1 h2).1 (fun e => ?_)).trans h2, h3⟩
    obtain ⟨_, o, ho, hc⟩ := hr By e.symm
    rw [h2] at ho
    cases ho
    cases hc
  case assign =>
    intro ly pre x W' K hI hK
    simp only [enc]
    gi_wp2_with fail
    have hle : w.heap.size + 1 ≤ W'.heap.size := by obtain ⟨_, _, _, h, _⟩ := hI; exact h
    exact hK _ _ ((KeepsOthers.alloc W' _).from _) ((Keep.refl _ W').alloc (fun k hk => by have := hKlt0 k hk; omega) _) ((I2_own w).alloc _ hI) ⟨W'.heap.size, hle, Go.heap_alloc_new W' _, rfl⟩
  case body =>
    rintro ly pre x a' W' hl ⟨r, hr'⟩ ⟨v, hv, hown, hsz', hbW'⟩ ⟨By, hBy, hblk, rfl⟩ hlen
    have HblkW := pk hblk
    have hByl : By < W'.heap.size := (Array.getElem?_eq_some_iff.1 hblk).1
    have hcl := fun j => cell_of_row W' By j _ 24 (0, 0) hblk
    have hy0 : W'.cell? ⟨By, 0, none⟩ = some (.int .i64 x.f0) := hcl 0
    have hy1 : W'.cell? ⟨By, 1, none⟩ = some (.int .i64 x.f1) := hcl 1
    have hy2 : W'.cell? ⟨By, 2, none⟩ = some (.int .i64 x.f2) := hcl 2
    have hy3 : W'.cell? ⟨By, 3, none⟩ = some (.int .i64 x.f3) := hcl 3
    have hy4 : W'.cell? ⟨By, 4, none⟩ = some (.int .i64 x.f4) := hcl 4
    have hy5 : W'.cell? ⟨By, 5, none⟩ = some (.int .i64 x.f5) := hcl 5
    have hy6 : W'.cell? ⟨By, 6, none⟩ = some (.int .i64 x.f6) := hcl 6
    have hy7 : W'.cell? ⟨By, 7, none⟩ = some (.int .i64 x.f7) := hcl 7
    have hy8 : W'.cell? ⟨By, 8, none⟩ = some (.int .i64 x.f8) := hcl 8
    have hy9 : W'.cell? ⟨By, 9, none⟩ = some (.bool x.f9) := hcl 9
    have hvc := hv.cell
    clear hcl hblk hr'
    have Hv := pk hv
    have Hown := pk hown
    have HbW := pk hbW'
    have Hlen := pk hlen
    clear hv hown hbW' hlen hbw hX0 hB0 hm0 hr0 hB hm hg hr
    obtain ⟨i0, hi0, hz0, hz1, hz2⟩ := info_parts info24
    gi_wp2_with (gi_at_builtin; refine wpListIn_append_own _ rfl _ _ 22 rfl (w.heap.size + 1) 24 i0 _ 10 80 Try.underlying22 hi0 hz0 hz1 hz2 rfl (by decide) _ _ _ rfl (Hown.out.alloc _) ⟨W'.heap.size, 0, none⟩ 1 1 [.int .i64 x.f0, .int .i64 x.f1, .int .i64 x.f2, .int .i64 x.f3, .int .i64 x.f4, .int .i64 x.f5, .int .i64 x.f6, .int .i64 x.f7, .int .i64 x.f8, .bool x.f9] rfl rfl ?c1 ?c2 ?c3 ?c4 ?c5 ?_)
    case c1 =>
      intro j u hj
      rw [show (⟨W'.heap.size, 0, none⟩ : Addr).add j = ⟨W'.heap.size, j, none⟩ by simp [Addr.add]; intro h; exact h.symm]
      rw [cell_of_row _ _ j _ _ (0, 0) (Go.heap_alloc_new W' _)]
      simpa using hj
    case c2 => intro u hu; exact cs24_one x u (by simpa [cs24] using hu)
    case c3 => have := Hlen.out; unfold maxLen; omega
    case c4 => have := Hlen.out; omega
    case c5 => simp; omega
    intro v' w1 hown' hgrow _
    obtain ⟨g, cap, rfl⟩ := ownsRow_succ hown'
    have h1o := Hv.out
    have h2o := Hown.out
    have hnb := h1o.not_row (by decide) h2o
    have hv1 := (h1o.alloc (.cells #[.int .i64 x.f0, .int .i64 x.f1, .int .i64 x.f2, .int .i64 x.f3, .int .i64 x.f4, .int .i64 x.f5, .int .i64 x.f6, .int .i64 x.f7, .int .i64 x.f8, .bool x.f9] 24)).kept hgrow hnb
    have hv2 := hv1.set (.slice (some ⟨g, 0, none⟩) (pre.length + 1) cap)
    have hown2 := hown'.kept (grownBy_setCell' w1 w.heap.size (.slice (some ⟨g, 0, none⟩) (pre.length + 1) cap)) (.inr (hv1.not_row (by decide) hown').symm)
    have hob : ∀ k, v.ownBlock = some k → w.heap.size + 1 ≤ k ∧ ∃ cs t f, W'.heap[k]? = some (.cells cs t f) := by
      intro k hk
      rcases h2o.2 with ⟨rfl, _⟩ | ⟨g, cap, cur, rfl, hb, hgb, _⟩
      · simp [Value.ownBlock] at hk
      · obtain rfl : g = k := by simpa [Value.ownBlock] using hk
        exact ⟨hb, _, _, _, hgb⟩
    have hF : ∀ k, k < W'.heap.size → k ≠ w.heap.size → v.ownBlock ≠ some k → (w1.setCell ⟨w.heap.size, 0, none⟩ (.slice (some ⟨g, 0, none⟩) (pre.length + 1) cap)).heap[k]? = W'.heap[k]? := fun k hk hne hno =>
      (Below.heap_setCell _ _ _ k (by simpa using hne)).trans ((hgrow.block k (by simp; omega) (fun e => hno e.symm)).trans (Below.heap_alloc W' _ k hk))
    have hszf : W'.heap.size ≤ (w1.setCell ⟨w.heap.size, 0, none⟩ (.slice (some ⟨g, 0, none⟩) (pre.length + 1) cap)).heap.size := by
      rw [World.size_setCell]; have := hgrow.size; simp at this; omega
    have hpost : KeepsFrom (w.heap.size + 1) W' (w1.setCell ⟨w.heap.size, 0, none⟩ (.slice (some ⟨g, 0, none⟩) (pre.length + 1) cap)) ∧ Keep (InK b0 A l.length) W' (w1.setCell ⟨w.heap.size, 0, none⟩ (.slice (some ⟨g, 0, none⟩) (pre.length + 1) cap)) ∧ I2 w (pre ++ [x]) (w1.setCell ⟨w.heap.size, 0, none⟩ (.slice (some ⟨g, 0, none⟩) (pre.length + 1) cap)) := by
      refine ⟨⟨hszf, fun k o hk ho hc => ?_⟩, fun k hk => ?_, ⟨_, hv2, ?_, Nat.le_trans hsz' hszf, ?_⟩⟩
      · refine (hF k (Array.getElem?_eq_some_iff.1 ho).1 (by omega) (fun e => ?_)).trans ho
        obtain ⟨_, cs, t, f, hb⟩ := hob k e
        rw [ho] at hb
        cases hb
        cases hc
      · have h7 := hKlt0 k hk
        exact hF k (by omega) (by omega) (fun e => by have := (hob k e).1; omega)
      · rw [List.length_append, cl24_append, show cl24 [x] = [.int .i64 x.f0, .int .i64 x.f1, .int .i64 x.f2, .int .i64 x.f3, .int .i64 x.f4, .int .i64 x.f5, .int .i64 x.f6, .int .i64 x.f7, .int .i64 x.f8, .bool x.f9] by simp [cl24, cs24]]
        exact hown2
      · refine Below.setCell ?_ (show w.heap.size ≤ w.heap.size from Nat.le_refl _) _
        have h8 := HbW.out
        have h9 : w.heap.size ≤ W'.heap.size := h8.size
        exact (h8.alloc h9 _).grown hgrow (by simp; omega) (fun k e => by have := (hob k e).1; omega)
    have hbc1 := hv1.cell
    have hbf1 := hv1.frozen
    clear hv1 hv2 hown2 hob hF hszf hown' hgrow h1o h2o hnb
    replace hpost := pk hpost
    gi_wp2_with fail
    rw [World.size_alloc]
    exact hpost.out
  case done =>
    rintro D xs W hD rfl ⟨v, hv, hown, hsz, hb⟩ hDel
    obtain ⟨A6, n6, c6, rfl⟩ : ∃ A n c, v = .slice A n c := by
      rcases hown.2 with ⟨rfl, _⟩ | ⟨g, cap, cur, rfl, _⟩
      · exact ⟨_, _, _, rfl⟩
      · exact ⟨_, _, _, rfl⟩
    have hvc := hv.cell
    gi_wp2_with fail
    have g2 := grownBy_putObj' W D (.deferred none)
    refine ⟨by simp, .inl ⟨_, _, rfl, run_takeDeferred hDel, ?_⟩⟩
    have hown4 := ownsRow_putObj hown (.deferred none) hDel rfl
    refine ⟨.slice A6 n6 c6, by simp [results, Try.results53, go_sem], _, rfl, R24_of_own (own_weaken hown4 (by omega)) (fun _ _ => trivial), ?_⟩
    exact hb.grown g2 hb.size (fun k e => by cases e; simp at hD; omega)
  case stop => rintro D c pre W _ _ h _; exact h.elim
theorem collect_any (b0 : Nat) (q : Qn) (A : Option Addr) (c : Nat) (l : List S24) (hL : l.length ≤ 4096) (m : List (Sb × S24)) (w : World) (hB : Boxes w b0 q A l.length c) (hm : IsMap ek ev w (b0 + 3) m) (hg : ∀ y, mget m (sbOf y) = (l.filter (countsF q.a q.n)).foldl (lastStep y) none) (hr : Kd.C k24 w A l.length l) :
    Calls Try.prog 48 #[itf b0] w fun e w' => ∃ v0_ : Value, e = .returned v0_ ∧ Kd.R k24 24 w' w.heap.size (fun _ => True) v0_ (coverF l q.o q.k q.v q.a q.n) ∧ Below w.heap.size w w' := by
  have HA := pk (callsIn_wide.1 (append_in 5 (Nat.le_refl _) b0 q A c l hL m w hB hm hg hr))
  clear hB hm hg hr
  go_enter Try.func48, Try.ntmps48
  go_wp2_with fail
  refine HA.out.mono ?_
  rintro e w' ⟨v, rfl, hR, hb⟩
  have HR := pk hR
  have Hb := pk hb
  obtain ⟨A6, c6, e6⟩ := Kd.R_slice hR
  subst e6
  clear hR hb
  go_wp2_with fail
  go_ret
  exact ⟨_, rfl, HR.out, Hb.out⟩
end Cv
end Go.Proofs.Ytoenefdjejkncaa.W
