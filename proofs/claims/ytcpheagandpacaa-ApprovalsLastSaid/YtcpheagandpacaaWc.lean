/-
standing of the package approvals, by a walk: two ranges over the iterator of counting; a map. Condition: the row is read.
-/
import Derived.Test.YtcpheagandpacaaWc0
import Derived.Outline
import Derived.RangeFuncBox
import Derived.Test.YtcpheagandpacaaIt
namespace Go.Proofs.Ytcpheagandpacaa.W
open Go.RowKit Go.Proofs.YtcpheagandpacaaW.PrintWords Go.Proofs.YtcpheagandpacaaW.PrintLast Go.Proofs.YtcpheagandpacaaW.PrintMore Go.Proofs.Ytcpheagandpacaa.P
open S (countsF sameSubj lastF standingF)
set_option linter.unusedVariables false
attribute [local go_sem] Oper.semAt_some
attribute [local go_sem high] eqs24
namespace St
theorem free_row {w : World} {b : Nat} {cs : Array Value} {t : TypeId} (h : w.heap[b]? = some (.cells cs t (0, 0))) (j : Nat) : w.frozen? ⟨b, j, none⟩ = false := by
  simp [World.frozen?, h]
theorem new1 (w1 : World) (z : S24) : (w1.alloc (.cells #[.int .i64 z.f0, .int .i64 z.f1, .int .i64 z.f2, .int .i64 z.f3, .int .i64 z.f4, .int .i64 z.f5, .int .i64 z.f6, .bool z.f7] 24)).cell? ⟨w1.heap.size, 1, none⟩ = some (.int .i64 z.f1) := cell_of_row _ _ 1 _ _ (0, 0) (Go.heap_alloc_new w1 _)
theorem set1 (w1 : World) (B : Nat) (z : S24) (h : w1.cell? ⟨B, 1, none⟩ = some (.int .i64 0)) : (((((((((w1.setCell ⟨B, 0, none⟩ (.int .i64 z.f0)).setCell ⟨B, 1, none⟩ (.int .i64 z.f1)).setCell ⟨B, 2, none⟩ (.int .i64 z.f2)).setCell ⟨B, 3, none⟩ (.int .i64 z.f3)).setCell ⟨B, 4, none⟩ (.int .i64 z.f4)).setCell ⟨B, 5, none⟩ (.int .i64 z.f5)).setCell ⟨B, 6, none⟩ (.int .i64 z.f6)).setCell ⟨B, 7, none⟩ (.bool z.f7))).cell? ⟨B, 1, none⟩ = some (.int .i64 z.f1) := by
  go_simp
theorem set_below {B : Nat} {W w1 : World} {n : Nat} (z : S24) (hn : n ≤ B) (h : Below n W w1) : Below n W (((((((((w1.setCell ⟨B, 0, none⟩ (.int .i64 z.f0)).setCell ⟨B, 1, none⟩ (.int .i64 z.f1)).setCell ⟨B, 2, none⟩ (.int .i64 z.f2)).setCell ⟨B, 3, none⟩ (.int .i64 z.f3)).setCell ⟨B, 4, none⟩ (.int .i64 z.f4)).setCell ⟨B, 5, none⟩ (.int .i64 z.f5)).setCell ⟨B, 6, none⟩ (.int .i64 z.f6)).setCell ⟨B, 7, none⟩ (.bool z.f7))) := by
  iterate 8 refine Below.setCell ?_ hn _
  exact h
/-- what stands between two rounds of the first loop -/
def I1 (w : World) (W0 : World) (Bm : Nat) (pre : List S24) (W : World) : Prop :=
  ∃ m : List (Sb × S24), IsMap ek ev W Bm m ∧ (∀ y, mget m (sbOf y) = pre.foldl (lastStep y) none) ∧ (∀ k, k < W0.heap.size → k ≠ Bm → W.heap[k]? = W0.heap[k]?) ∧ W0.heap.size ≤ W.heap.size ∧ Below w.heap.size w W
theorem I1_own (w W0 : World) (Bm : Nat) (hm : Bm < W0.heap.size) (hw : w.heap.size ≤ W0.heap.size) : OwnFrom W0.heap.size (I1 w W0 Bm) := by
  rintro pre W W' row ⟨m, h1, h2, h3, hs, h4⟩ hg hr
  have hlt : ∀ k, row = some k → W0.heap.size ≤ k := fun k e => (hr k e).1
  have h4s := h4.size
  refine ⟨m, h1.at_ (hg.block Bm h1.lt (fun e => by have := hlt _ e.symm; omega)), h2, fun k hk hkm => ?_, Nat.le_trans hs hg.size, h4.grown hg h4s (fun k e => by have := hlt k e; omega)⟩
  have h5 := h3 k hk hkm
  rw [Array.getElem?_eq_getElem hk] at h5
  rw [hg.block k (Array.getElem?_eq_some_iff.1 h5).1 (fun e => by have := hlt _ e.symm; omega), h5, Array.getElem?_eq_getElem hk]
theorem last_some (y : S24) : ∀ (l : List S24) (o : Option S24), y ∈ l → ∃ u, lastF y o l = some u := by
  have keep : ∀ (l : List S24) (z : S24), ∃ u, lastF y (some z) l = some u := by
    intro l
    induction l with
    | nil => exact fun z => ⟨z, rfl⟩
    | cons x l ih =>
      intro z
      unfold lastF
      split
      · dsimp only
        split
        · exact ih _
        · exact ih _
      · exact ih _
  intro l
  induction l with
  | nil => intro o h; cases h
  | cons x l ih =>
    intro o h
    rcases List.mem_cons.1 h with rfl | h
    · unfold lastF
      rw [if_pos (by simp [sameSubj])]
      cases o with
      | none => exact keep l _
      | some z =>
        dsimp only
        split
        · exact keep l _
        · exact keep l _
    · exact ih _ h
def cond2 (m : List (Sb × S24)) (x : S24) : Bool := !x.f7 && decide ((mget m (sbOf x)).getD z24 = x)
/-- what stands between two rounds of the second loop -/
def I2 (w W5 : World) (m : List (Sb × S24)) (pre : List S24) (W : World) : Prop :=
  ∃ v, Boxed W w.heap.size 22 v ∧ W.ownsRow W5.heap.size 24 8 v (pre.filter (cond2 m)).length (cl24 (pre.filter (cond2 m))) ∧ (∀ k, k < W5.heap.size → k ≠ w.heap.size → W.heap[k]? = W5.heap[k]?) ∧ W5.heap.size ≤ W.heap.size ∧ Below w.heap.size w W
theorem I2_own (w W5 : World) (m : List (Sb × S24)) (hw : w.heap.size < W5.heap.size) : OwnFrom W5.heap.size (I2 w W5 m) := by
  rintro pre W W' row ⟨v, h1, h2, h3, hs, h4⟩ hg hr
  have hlt : ∀ k, row = some k → W5.heap.size ≤ k := fun k e => (hr k e).1
  have hnc : ∀ (B : Nat) (cs : Array Value) (t : TypeId) (f : Nat × Nat), W.heap[B]? = some (.cells cs t f) → row ≠ some B := by
    rintro B cs t f hB e
    obtain ⟨_, o, ho, hc⟩ := hr B e
    rw [hB] at ho
    cases ho
    cases hc
  refine ⟨v, h1.kept hg (hnc _ _ _ _ h1).symm, h2.kept hg ?_, fun k hk hkm => ?_, Nat.le_trans hs hg.size, h4.grown hg h4.size (fun k e => by have := hlt k e; omega)⟩
  · rcases h2.2 with ⟨rfl, _⟩ | ⟨g, cap, cur, rfl, _, hgb, _⟩
    · exact .inl rfl
    · exact .inr (fun e => hnc g _ _ _ hgb (by simpa [Value.ownBlock] using e.symm))
  · exact (hg.block k (Nat.lt_of_lt_of_le hk hs) (fun e => by have := hlt _ e.symm; omega)).trans (h3 k hk hkm)
set_option maxHeartbeats 8000000 in
set_option maxRecDepth 100000 in
theorem standing_in (n : Nat) (hn1 : 5 ≤ n) (A : Option Addr) (c : Nat) (l : List S24) (hL : l.length ≤ 4096) (doc at_ known : Int) (w : World) (hr : Kd.C k24 w A l.length l) :
    CallsIn Fence.wide n Try.prog 34 #[.slice A l.length c, .int .i64 doc, .int .i64 at_, .int .i64 known] w fun e w' => ∃ v0_ : Value, e = .returned v0_ ∧ Kd.R k24 24 w' w.heap.size (fun _ => True) v0_ (S.standingF l doc at_ known) ∧ Below w.heap.size w w' := by
  have h1n : 1 ≤ n := by omega
  have hmm := @run_makeMap Try.prog
  refine callsIn_of_wp_marks Try.func34 rfl trivial ?_ rfl
  simp only [Try.ntmps34, List.size_toArray, List.length_cons, List.length_nil, Nat.reduceAdd, Nat.reduceSub, Array.replicate_succ, Array.replicate_zero, List.push_toArray, List.append_toArray, List.nil_append, List.cons_append]
  gi_wp2_with fail
  refine ⟨trivial, (counting_in _ _ _ _ _ _ _ _).mono ?_⟩
  rintro e W0 ⟨rfl, hb0, hB0⟩
  simp only [World.size_alloc] at hB0
  have hbw : Below w.heap.size w W0 := by
    refine Below.trans ?_ (hb0.mono (by simp; omega))
    repeat (first | exact Below.refl _ _ | refine Below.setCell ?_ (by simp <;> omega) _ | refine Below.alloc ?_ (by simp <;> omega) _ | refine below_drew ?_)
  have hX0 : W0.heap[w.heap.size]? = some (.cells #[.slice none 0 0] 22 (0, 0)) := by
    refine (hb0.block _ (by simp <;> omega)).trans ?_
    show (((w.heap.push _).push _).push _)[_]? = _
    simp only [Array.getElem?_push, Array.size_push]
    repeat (first | rfl | rw [if_pos trivial] | rw [if_pos (by omega)] | rw [if_neg (by omega)])
  have hM0 : W0.heap[w.heap.size + 1]? = some (.map #[] 0) := by
    refine (hb0.block _ (by simp <;> omega)).trans ?_
    show (((w.heap.push _).push _).push _)[_]? = _
    simp only [Array.getElem?_push, Array.size_push]
    repeat (first | rfl | rw [if_pos trivial] | rw [if_pos (by omega)] | rw [if_neg (by omega)])
  have hP0 : W0.heap[w.heap.size + 2]? = some (.cells #[.map (some (w.heap.size + 1))] 61 (0, 0)) := by
    refine (hb0.block _ (by simp <;> omega)).trans ?_
    show (((w.heap.push _).push _).push _)[_]? = _
    simp only [Array.getElem?_push, Array.size_push]
    repeat (first | rfl | rw [if_pos trivial] | rw [if_pos (by omega)] | rw [if_neg (by omega)])
  have hr0 : Kd.C k24 W0 A l.length l := Kd.C_below hr hbw
  have hsz0 : w.heap.size + 1 + 1 < W0.heap.size := (Array.getElem?_eq_some_iff.1 hP0).1
  gi_wp2_with fail
  have hKlt : ∀ k, InK (w.heap.size + 1 + 1 + 1) (w.heap.size + 1 + 1 + 1 + 1) (w.heap.size + 1 + 1 + 1 + 2) (w.heap.size + 1 + 1 + 1 + 3) A l.length k → k < W0.heap.size := ink_lt hB0 hr0
  have hKne : ∀ k, InK (w.heap.size + 1 + 1 + 1) (w.heap.size + 1 + 1 + 1 + 1) (w.heap.size + 1 + 1 + 1 + 2) (w.heap.size + 1 + 1 + 1 + 3) A l.length k → k ≠ w.heap.size + 1 := by
    rintro k (rfl | rfl | rfl | rfl | ⟨ad, rfl, hl, rfl⟩)
    iterate 4 omega
    have := row_lt hr hl
    omega
  refine wpIn_rangeFunc_ownH rfl h1n (gf := 52) (lb := #[.pointer (some ⟨w.heap.size + 1 + 1 + 1, 0, none⟩), .pointer (some ⟨w.heap.size + 1 + 1 + 1 + 1, 0, none⟩), .pointer (some ⟨w.heap.size + 1 + 1 + 1 + 2, 0, none⟩), .pointer (some ⟨w.heap.size + 1 + 1 + 1 + 3, 0, none⟩)]) rfl trivial (enters_of Try.func52 (by kernel_rfl) rfl)
    (iter_stops (n - 1) _ _ _ _ A c l doc at_ known W0 hB0 hr0 hr.2.1) keepK_t (keepK_b hKlt) (Below.refl _ _) (fun _ => rfl) (I1 w W0 (w.heap.size + 1)) (fun _ _ _ => False)
    (I1_own w W0 (w.heap.size + 1) (by omega) (by omega)) (fun _ _ _ _ _ h _ _ => h) ?h0
    (fun x a' W => ∃ By, W0.heap.size ≤ By ∧ W.heap[By]? = some (.cells #[.int .i64 x.f0, .int .i64 x.f1, .int .i64 x.f2, .int .i64 x.f3, .int .i64 x.f4, .int .i64 x.f5, .int .i64 x.f6, .bool x.f7] 24 (0, 0)) ∧ a' = { tmps := #[.slice A l.length c, .int .i64 doc, .int .i64 at_, .int .i64 known, undef, undef, undef, undef, .pointer (some ⟨w.heap.size, 0, none⟩), .pointer (some ⟨w.heap.size + 1 + 1, 0, none⟩), .pointer (some ⟨By, 0, none⟩), undef, undef, undef, .map (some (w.heap.size + 1)), .slice A l.length c, .int .i64 doc, .int .i64 at_, .int .i64 known, .func (.func 52) #[] #[.pointer (some ⟨w.heap.size + 1 + 1 + 1, 0, none⟩), .pointer (some ⟨w.heap.size + 1 + 1 + 1 + 1, 0, none⟩), .pointer (some ⟨w.heap.size + 1 + 1 + 1 + 2, 0, none⟩), .pointer (some ⟨w.heap.size + 1 + 1 + 1 + 3, 0, none⟩)], .agg #[.int .i64 x.f0, .int .i64 x.f1, .int .i64 x.f2, .int .i64 x.f3, .int .i64 x.f4, .int .i64 x.f5, .int .i64 x.f6, .bool x.f7], undef, undef, undef, undef, undef, undef, undef, undef, undef, undef, undef, undef, undef, undef, undef, undef, undef, undef, undef, undef, undef, undef, undef, undef, undef, undef, undef, undef, undef, undef, undef, undef, undef, undef, undef, undef, undef, undef, undef, undef, undef, undef], defers := [] })
    ?hAx ?assign ?body ?done ?stop
  case h0 => exact ⟨[], IsMap.nil hM0, fun y => rfl, fun _ _ _ => rfl, Nat.le_refl _, hbw⟩
  case hAx =>
    rintro x a' _ W W' row ⟨By, h1, h2, h3⟩ hg hr
    refine ⟨By, h1, (hg.block By (Array.getElem?_eq_some_iff.1 h2).1 (fun e => ?_)).trans h2, h3⟩
    obtain ⟨_, o, ho, hc⟩ := hr By e.symm
    rw [h2] at ho
    cases ho
    cases hc
  case assign =>
    intro ly pre x W K hI hK
    simp only [enc]
    gi_wp2_with fail
    exact hK _ _ ((KeepsOthers.alloc W _).from _) ((Keep.refl _ W).alloc (fun k hk => Nat.lt_of_lt_of_le (hKlt k hk) (by obtain ⟨_, _, _, _, h, _⟩ := hI; exact h)) _) ((I1_own w W0 (w.heap.size + 1) (by omega) (by omega)).alloc _ hI) ⟨W.heap.size, by obtain ⟨_, _, _, _, h, _⟩ := hI; exact h, Go.heap_alloc_new W _, rfl⟩
  case body =>
    rintro ly pre x a' W hl ⟨r, hr⟩ ⟨m, hm1, hm2, hm3, hsz, hbW⟩ ⟨By, hBy, hblk, rfl⟩ hlen
    have hs2 : w.heap.size + 1 + 1 < W.heap.size := by omega
    have mixed : Try.prog.follows .mixedOrders = true := by kernel_rfl
    have hPW := one_cell ((hm3 _ (by omega) (by omega)).trans hP0)
    have HblkW := pk hblk
    have hcl := fun j => cell_of_row W By j _ 24 (0, 0) hblk
    have hy0 : W.cell? ⟨By, 0, none⟩ = some (.int .i64 x.f0) := hcl 0
    have hy1 : W.cell? ⟨By, 1, none⟩ = some (.int .i64 x.f1) := hcl 1
    have hy2 : W.cell? ⟨By, 2, none⟩ = some (.int .i64 x.f2) := hcl 2
    have hy3 : W.cell? ⟨By, 3, none⟩ = some (.int .i64 x.f3) := hcl 3
    have hy4 : W.cell? ⟨By, 4, none⟩ = some (.int .i64 x.f4) := hcl 4
    have hy5 : W.cell? ⟨By, 5, none⟩ = some (.int .i64 x.f5) := hcl 5
    have hy6 : W.cell? ⟨By, 6, none⟩ = some (.int .i64 x.f6) := hcl 6
    have hy7 : W.cell? ⟨By, 7, none⟩ = some (.bool x.f7) := hcl 7
    clear hcl hblk
    have hcl := fun (o : Obj) j => cell_of_row (W.alloc o) By j _ 24 (0, 0) ((Below.heap_alloc W o By (Array.getElem?_eq_some_iff.1 HblkW.out).1).trans HblkW.out)
    have hyo0 : ∀ o, (W.alloc o).cell? ⟨By, 0, none⟩ = some (.int .i64 x.f0) := fun o => hcl o 0
    have hyo1 : ∀ o, (W.alloc o).cell? ⟨By, 1, none⟩ = some (.int .i64 x.f1) := fun o => hcl o 1
    have hyo2 : ∀ o, (W.alloc o).cell? ⟨By, 2, none⟩ = some (.int .i64 x.f2) := fun o => hcl o 2
    have hyo3 : ∀ o, (W.alloc o).cell? ⟨By, 3, none⟩ = some (.int .i64 x.f3) := fun o => hcl o 3
    have hyo4 : ∀ o, (W.alloc o).cell? ⟨By, 4, none⟩ = some (.int .i64 x.f4) := fun o => hcl o 4
    have hyo5 : ∀ o, (W.alloc o).cell? ⟨By, 5, none⟩ = some (.int .i64 x.f5) := fun o => hcl o 5
    have hyo6 : ∀ o, (W.alloc o).cell? ⟨By, 6, none⟩ = some (.int .i64 x.f6) := fun o => hcl o 6
    have hyo7 : ∀ o, (W.alloc o).cell? ⟨By, 7, none⟩ = some (.bool x.f7) := fun o => hcl o 7
    clear hcl
    have hPW2 : ∀ o, (W.alloc o).cell? ⟨w.heap.size + 1 + 1, 0, none⟩ = some (.map (some (w.heap.size + 1))) := fun o => one_cell ((Below.heap_alloc W o _ (by omega)).trans ((hm3 _ (by omega) (by omega)).trans hP0))
    have hByl : By < W.heap.size := (Array.getElem?_eq_some_iff.1 HblkW.out).1
    generalize hz : (mget m (sbOf x)).getD z24 = z
    generalize hso : (mget m (sbOf x)).isSome = so
    have hlook : ∀ W', W'.heap[w.heap.size + 1]? = W.heap[w.heap.size + 1]? → (Instr.lookup 61 (.map (some (w.heap.size + 1))) (ek ⟨x.f3, x.f4, x.f5, x.f6⟩) true).run Try.prog W' = .ok (.tuple #[.agg #[.int .i64 z.f0, .int .i64 z.f1, .int .i64 z.f2, .int .i64 z.f3, .int .i64 z.f4, .int .i64 z.f5, .int .i64 z.f6, .bool z.f7], .bool so]) W' := by
      intro W' h
      refine (run_look_ok law (hm1.at_ h) (sbOf x)).trans ?_
      rw [← hz, ← hso]
      cases mget m (sbOf x) <;> rfl
    have Hz := pk hz
    have Hso := pk hso
    clear hz hso
    have Hlook := pk hlook
    clear hlook hmm
    replace hKlt := pk hKlt; replace hKne := pk hKne; replace hb0 := pk hb0; replace hB0 := pk hB0; replace hbw := pk hbw; replace hX0 := pk hX0; replace hM0 := pk hM0; replace hP0 := pk hP0; replace hr0 := pk hr0; replace hsz0 := pk hsz0; replace hm1 := pk hm1; replace hm2 := pk hm2; replace hm3 := pk hm3; replace hsz := pk hsz; replace hbW := pk hbW; replace hBy := pk hBy; replace hlen := pk hlen; replace hByl := pk hByl
    gi_wp2_with fail
    rename_i Kb hKb
    have rest : ∀ (Bz : Nat) (W2 : World), W.heap.size ≤ Bz → W2.cell? ⟨Bz, 1, none⟩ = some (.int .i64 z.f1) → Below W.heap.size W W2 → Kb { tmps := #[.slice A l.length c, .int .i64 doc, .int .i64 at_, .int .i64 known, undef, undef, undef, undef, .pointer (some ⟨w.heap.size, 0, none⟩), .pointer (some ⟨w.heap.size + 1 + 1, 0, none⟩), .pointer (some ⟨By, 0, none⟩), .pointer (some ⟨Bz, 0, none⟩), .bool so, undef, .map (some (w.heap.size + 1)), .slice A l.length c, .int .i64 doc, .int .i64 at_, .int .i64 known, .func (.func 52) #[] #[.pointer (some ⟨w.heap.size + 1 + 1 + 1, 0, none⟩), .pointer (some ⟨w.heap.size + 1 + 1 + 1 + 1, 0, none⟩), .pointer (some ⟨w.heap.size + 1 + 1 + 1 + 2, 0, none⟩), .pointer (some ⟨w.heap.size + 1 + 1 + 1 + 3, 0, none⟩)], .agg #[.int .i64 x.f0, .int .i64 x.f1, .int .i64 x.f2, .int .i64 x.f3, .int .i64 x.f4, .int .i64 x.f5, .int .i64 x.f6, .bool x.f7], .tuple #[.agg #[.int .i64 z.f0, .int .i64 z.f1, .int .i64 z.f2, .int .i64 z.f3, .int .i64 z.f4, .int .i64 z.f5, .int .i64 z.f6, .bool z.f7], .bool so], .map (some (w.heap.size + 1)), .agg #[.int .i64 x.f0, .int .i64 x.f1, .int .i64 x.f2, .int .i64 x.f3, .int .i64 x.f4, .int .i64 x.f5, .int .i64 x.f6, .bool x.f7], ek ⟨x.f3, x.f4, x.f5, x.f6⟩, .tuple #[.agg #[.int .i64 z.f0, .int .i64 z.f1, .int .i64 z.f2, .int .i64 z.f3, .int .i64 z.f4, .int .i64 z.f5, .int .i64 z.f6, .bool z.f7], .bool so], .agg #[.int .i64 z.f0, .int .i64 z.f1, .int .i64 z.f2, .int .i64 z.f3, .int .i64 z.f4, .int .i64 z.f5, .int .i64 z.f6, .bool z.f7], .bool so, undef, undef, undef, undef, undef, undef, undef, undef, undef, undef, undef, undef, undef, undef, undef, undef, undef, undef, undef, undef, undef, undef, undef, undef, undef, undef, undef, undef, undef, undef, undef, undef, undef, undef, undef], defers := [] } W2 := by
      intro Bz W2 hBz hz1 hb2
      refine hKb _ _ ?_
      have Hb2 := pk hb2
      clear hb2 hPW hPW2 hy0 hy1 hy2 hy3 hy4 hy5 hy6 hy7 hyo0 hyo1 hyo2 hyo3 hyo4 hyo5 hyo6 hyo7
      have hPW : W2.cell? ⟨w.heap.size + 1 + 1, 0, none⟩ = some (.map (some (w.heap.size + 1))) := one_cell ((Hb2.out.block _ (by omega)).trans ((hm3.out _ (by have := hsz0.out; omega) (by omega)).trans hP0.out))
      have HblkW2 := pk ((Hb2.out.block By hByl.out).trans HblkW.out)
      have hcl := fun j => cell_of_row W2 By j _ 24 (0, 0) HblkW2.out
      have hy0 : W2.cell? ⟨By, 0, none⟩ = some (.int .i64 x.f0) := hcl 0
      have hy1 : W2.cell? ⟨By, 1, none⟩ = some (.int .i64 x.f1) := hcl 1
      have hy2 : W2.cell? ⟨By, 2, none⟩ = some (.int .i64 x.f2) := hcl 2
      have hy3 : W2.cell? ⟨By, 3, none⟩ = some (.int .i64 x.f3) := hcl 3
      have hy4 : W2.cell? ⟨By, 4, none⟩ = some (.int .i64 x.f4) := hcl 4
      have hy5 : W2.cell? ⟨By, 5, none⟩ = some (.int .i64 x.f5) := hcl 5
      have hy6 : W2.cell? ⟨By, 6, none⟩ = some (.int .i64 x.f6) := hcl 6
      have hy7 : W2.cell? ⟨By, 7, none⟩ = some (.bool x.f7) := hcl 7
      clear hcl
      have hmW2 : Pk (IsMap ek ev W2 (w.heap.size + 1) m) := pk (hm1.out.at_ (Hb2.out.block _ (by omega)))
      have hszo := hsz.out
      have hBy0 := hBy.out
      have key : ∀ W4, IsMap ek ev W4 (w.heap.size + 1) (if so = false ∨ z.f1 ≤ x.f1 then mput m (sbOf x) x else m) → (∀ k, k < W.heap.size → k ≠ w.heap.size + 1 → W4.heap[k]? = W.heap[k]?) → Below w.heap.size W W4 → KeepsFrom W0.heap.size W W4 ∧ Keep (InK (w.heap.size + 1 + 1 + 1) (w.heap.size + 1 + 1 + 1 + 1) (w.heap.size + 1 + 1 + 1 + 2) (w.heap.size + 1 + 1 + 1 + 3) A l.length) W W4 ∧ I1 w W0 (w.heap.size + 1) (pre ++ [x]) W4 := by
        intro W4 h1 h2 h3
        refine ⟨⟨h3.size, fun k o hk ho _ => (h2 k (Array.getElem?_eq_some_iff.1 ho).1 (by have := hsz0.out; omega)).trans ho⟩, fun k hk => h2 k (Nat.lt_of_lt_of_le (hKlt.out k hk) hsz.out) (hKne.out k hk), ⟨_, h1, fun y => ?_, fun k hk hne => (h2 k (Nat.lt_of_lt_of_le hk hsz.out) hne).trans (hm3.out k hk hne), Nat.le_trans hsz.out h3.size, hbW.out.trans h3⟩⟩
        rw [List.foldl_append, ← hm2.out y]
        simp only [List.foldl_cons, List.foldl_nil, lastStep]
        have hss : (sameSubj x y = true) ↔ (sbOf x = sbOf y) := by simp [sameSubj, sbOf, and_assoc]
        by_cases hxy : sbOf x = sbOf y
        · rw [if_pos (hss.2 hxy), ← hxy]
          rw [← Hso.out, ← Hz.out]
          cases hm : mget m (sbOf x) with
          | none => simp [mget_put]
          | some u =>
            by_cases hu : u.f1 ≤ x.f1
            · simp [hu, mget_put]
            · simp [hu, hm]
        · rw [if_neg (fun e => hxy (hss.1 e))]
          split
          · rw [mget_put, if_neg hxy]
          · rfl
      replace key := pk key
      clear hszo hBy0
      cases so with
      | false =>
        gi_wp2_with fail
        gi_region_with_o ((refine ⟨trivial, fun h => (by cases h), ?_⟩; refine (CallsIn.inRound ly (callsIn_wide.2 (subj_any x.f0 x.f1 x.f2 x.f3 x.f4 x.f5 x.f6 x.f7 _))).mono ?_; rintro e w3 ⟨rfl, hb3⟩; have Hb3 : Pk (Below W.heap.size W w3) := pk (Hb2.out.trans ((Below.refl _ W2).drew.trans (hb3.mono (by have := Hb2.out.size; simp; omega)))); have hP3 : w3.cell? ⟨w.heap.size + 1 + 1, 0, none⟩ = some (.map (some (w.heap.size + 1))) := one_cell ((Hb3.out.block _ (by omega)).trans ((hm3.out _ (by have := hsz0.out; omega) (by omega)).trans hP0.out)); have hcl := fun j => cell_of_row w3 By j _ 24 (0, 0) ((Hb3.out.block By hByl.out).trans HblkW.out); have hw0 : w3.cell? ⟨By, 0, none⟩ = some (.int .i64 x.f0) := hcl 0; have hw1 : w3.cell? ⟨By, 1, none⟩ = some (.int .i64 x.f1) := hcl 1; have hw2 : w3.cell? ⟨By, 2, none⟩ = some (.int .i64 x.f2) := hcl 2; have hw3 : w3.cell? ⟨By, 3, none⟩ = some (.int .i64 x.f3) := hcl 3; have hw4 : w3.cell? ⟨By, 4, none⟩ = some (.int .i64 x.f4) := hcl 4; have hw5 : w3.cell? ⟨By, 5, none⟩ = some (.int .i64 x.f5) := hcl 5; have hw6 : w3.cell? ⟨By, 6, none⟩ = some (.int .i64 x.f6) := hcl 6; have hw7 : w3.cell? ⟨By, 7, none⟩ = some (.bool x.f7) := hcl 7; clear hcl; obtain ⟨W4, hput, hm4, hg4, hs4⟩ := run_put law (hm1.out.at_ (Hb3.out.block _ (by omega))) (sbOf x) x; have Hm4 := pk hm4; have Hg4 := pk hg4; clear hm4 hg4 hb3; have hput2 : (Instr.mapUpdate 61 (.map (some (w.heap.size + 1))) (ek ⟨x.f3, x.f4, x.f5, x.f6⟩) (.agg #[.int .i64 x.f0, .int .i64 x.f1, .int .i64 x.f2, .int .i64 x.f3, .int .i64 x.f4, .int .i64 x.f5, .int .i64 x.f6, .bool x.f7])).run Try.prog w3 = .ok () W4 := hput; clear hput))
        all_goals (refine key.out W4 ?_ (fun k hk hne => (Hg4.out.block k (Nat.lt_of_lt_of_le hk Hb3.out.size) (fun e => hne (by cases e; rfl))).trans (Hb3.out.block k hk)) ((Hb3.out.mono (by omega)).trans ⟨Hg4.out.os, Hg4.out.tape, Hg4.out.output, Hg4.out.size, fun k hk => Hg4.out.block k (by have := Hb3.out.size; omega) (fun e => by cases e; omega)⟩))
        all_goals (rw [if_pos (Or.inl rfl)]; exact Hm4.out)
      | true =>
        by_cases hle : z.f1 ≤ x.f1
        · gi_wp2_with fail
          gi_region_with_o ((refine ⟨trivial, fun h => (by cases h), ?_⟩; refine (CallsIn.inRound ly (callsIn_wide.2 (subj_any x.f0 x.f1 x.f2 x.f3 x.f4 x.f5 x.f6 x.f7 _))).mono ?_; rintro e w3 ⟨rfl, hb3⟩; have Hb3 : Pk (Below W.heap.size W w3) := pk (Hb2.out.trans ((Below.refl _ W2).drew.trans (hb3.mono (by have := Hb2.out.size; simp; omega)))); have hP3 : w3.cell? ⟨w.heap.size + 1 + 1, 0, none⟩ = some (.map (some (w.heap.size + 1))) := one_cell ((Hb3.out.block _ (by omega)).trans ((hm3.out _ (by have := hsz0.out; omega) (by omega)).trans hP0.out)); have hcl := fun j => cell_of_row w3 By j _ 24 (0, 0) ((Hb3.out.block By hByl.out).trans HblkW.out); have hw0 : w3.cell? ⟨By, 0, none⟩ = some (.int .i64 x.f0) := hcl 0; have hw1 : w3.cell? ⟨By, 1, none⟩ = some (.int .i64 x.f1) := hcl 1; have hw2 : w3.cell? ⟨By, 2, none⟩ = some (.int .i64 x.f2) := hcl 2; have hw3 : w3.cell? ⟨By, 3, none⟩ = some (.int .i64 x.f3) := hcl 3; have hw4 : w3.cell? ⟨By, 4, none⟩ = some (.int .i64 x.f4) := hcl 4; have hw5 : w3.cell? ⟨By, 5, none⟩ = some (.int .i64 x.f5) := hcl 5; have hw6 : w3.cell? ⟨By, 6, none⟩ = some (.int .i64 x.f6) := hcl 6; have hw7 : w3.cell? ⟨By, 7, none⟩ = some (.bool x.f7) := hcl 7; clear hcl; obtain ⟨W4, hput, hm4, hg4, hs4⟩ := run_put law (hm1.out.at_ (Hb3.out.block _ (by omega))) (sbOf x) x; have Hm4 := pk hm4; have Hg4 := pk hg4; clear hm4 hg4 hb3; have hput2 : (Instr.mapUpdate 61 (.map (some (w.heap.size + 1))) (ek ⟨x.f3, x.f4, x.f5, x.f6⟩) (.agg #[.int .i64 x.f0, .int .i64 x.f1, .int .i64 x.f2, .int .i64 x.f3, .int .i64 x.f4, .int .i64 x.f5, .int .i64 x.f6, .bool x.f7])).run Try.prog w3 = .ok () W4 := hput; clear hput))
          all_goals (refine key.out W4 ?_ (fun k hk hne => (Hg4.out.block k (Nat.lt_of_lt_of_le hk Hb3.out.size) (fun e => hne (by cases e; rfl))).trans (Hb3.out.block k hk)) ((Hb3.out.mono (by omega)).trans ⟨Hg4.out.os, Hg4.out.tape, Hg4.out.output, Hg4.out.size, fun k hk => Hg4.out.block k (by have := Hb3.out.size; omega) (fun e => by cases e; omega)⟩))
          all_goals (rw [if_pos (Or.inr hle)]; exact Hm4.out)
        · gi_wp2_with fail
          refine key.out _ ?_ (fun k hk _ => Hb2.out.block k hk) (Hb2.out.mono (by omega))
          rw [if_neg (by simp [hle])]
          exact hmW2.out
    replace rest := pk rest
    gi_region_with_o ((refine ⟨trivial, fun h => (by cases h), ?_⟩; refine (CallsIn.inRound ly (callsIn_wide.2 (subj_any x.f0 x.f1 x.f2 x.f3 x.f4 x.f5 x.f6 x.f7 _))).mono ?_; rintro e w1 ⟨rfl, hb1⟩; have Hk1 : Pk (∀ k, k < W.heap.size → w1.heap[k]? = W.heap[k]?) := pk (fun k hk => (hb1.block k (by simp <;> omega)).trans (by first | rfl | exact Below.heap_alloc W _ k hk)); have Hb1 : Pk (Below W.heap.size W w1) := pk (by first | exact (Below.refl _ W).drew.trans (hb1.mono (by simp)) | exact (((Below.refl _ W).alloc (Nat.le_refl _) _).drew).trans (hb1.mono (by simp))); have hP1 : w1.cell? ⟨w.heap.size + 1 + 1, 0, none⟩ = some (.map (some (w.heap.size + 1))) := one_cell ((Hk1.out _ (by omega)).trans ((hm3.out _ (by have := hsz0.out; omega) (by omega)).trans hP0.out)); have hP2 : ∀ o, (w1.alloc o).cell? ⟨w.heap.size + 1 + 1, 0, none⟩ = some (.map (some (w.heap.size + 1))) := (fun o => one_cell ((Below.heap_alloc w1 o _ (by have := Hb1.out.size; omega)).trans ((Hk1.out _ (by omega)).trans ((hm3.out _ (by have := hsz0.out; omega) (by omega)).trans hP0.out)))); have hsz1 : W.heap.size ≤ w1.heap.size := Hb1.out.size; have Hlk := pk (Hlook.out w1 (Hk1.out _ (by omega))); have Hlk2 := pk (fun o => Hlook.out (w1.alloc o) ((Below.heap_alloc w1 o _ (by omega)).trans (Hk1.out _ (by omega)))); have hq1 := Hlk.out; have hq2 := Hlk2.out; (first | (have hbz := pk ((hb1.block W.heap.size (by simp)).trans (Go.heap_alloc_new W _)); have hcz := fun j => cell_of_row w1 W.heap.size j _ 24 (0, 0) hbz.out; have hzf : ∀ j, w1.frozen? ⟨W.heap.size, j, none⟩ = false := fun j => free_row hbz.out j; have hz0 : w1.cell? ⟨W.heap.size, 0, none⟩ = some (.int .i64 0) := hcz 0; have hz1 : w1.cell? ⟨W.heap.size, 1, none⟩ = some (.int .i64 0) := hcz 1; have hz2 : w1.cell? ⟨W.heap.size, 2, none⟩ = some (.int .i64 0) := hcz 2; have hz3 : w1.cell? ⟨W.heap.size, 3, none⟩ = some (.int .i64 0) := hcz 3; have hz4 : w1.cell? ⟨W.heap.size, 4, none⟩ = some (.int .i64 0) := hcz 4; have hz5 : w1.cell? ⟨W.heap.size, 5, none⟩ = some (.int .i64 0) := hcz 5; have hz6 : w1.cell? ⟨W.heap.size, 6, none⟩ = some (.int .i64 0) := hcz 6; have hz7 : w1.cell? ⟨W.heap.size, 7, none⟩ = some (.bool false) := hcz 7; clear hcz) | skip); clear hb1))
    all_goals (first
      | (have hbz' := hbz.out; exact rest.out W.heap.size _ (Nat.le_refl _) (set1 w1 W.heap.size z hz1) (set_below z (Nat.le_refl _) Hb1.out))
      | exact rest.out w1.heap.size _ Hb1.out.size (new1 w1 z) (Hb1.out.alloc Hb1.out.size _))
  case done =>
    rintro D xs W hD rfl ⟨m, hm1, hm2, hm3, hsz, hbW⟩ hDel
    gi_wp2_with fail
    refine ⟨trivial, (counting_in _ _ _ _ _ _ _ _).mono ?_⟩
    rintro e W5 ⟨rfl, hb5, hB5⟩
    have hDlt : D < W.heap.size := (Array.getElem?_eq_some_iff.1 hDel).1
    have hD5 : W5.heap[D]? = some (.deferred (some [])) := (hb5.block D hDlt).trans hDel
    have hm5 : IsMap ek ev W5 (w.heap.size + 1) m := hm1.at_ (hb5.block _ (by omega))
    have hX5 : Boxed W5 w.heap.size 22 (.slice none 0 0) := (hb5.block _ (by omega)).trans ((hm3 _ (by omega) (by omega)).trans hX0)
    have hP5 : W5.heap[w.heap.size + 2]? = some (.cells #[.map (some (w.heap.size + 1))] 61 (0, 0)) := (hb5.block _ (by omega)).trans ((hm3 _ (by omega) (by omega)).trans hP0)
    have hb5w : Below w.heap.size w W5 := hbW.trans (hb5.mono (by omega))
    have hr5 : Kd.C k24 W5 A l.length l := Kd.C_below hr hb5w
    have hs5 : W.heap.size + 3 < W5.heap.size := (Array.getElem?_eq_some_iff.1 hB5.h3).1
    have hKlt5 := ink_lt hB5 hr5
    clear hB0 hr0 hb0 hbw hKlt hKne hM0 hP0 hX0 hm1 hm3 hbW hb5
    gi_wp2_with fail
    refine wpIn_rangeFunc_ownH rfl h1n (gf := 52) (lb := #[.pointer (some ⟨W.heap.size, 0, none⟩), .pointer (some ⟨W.heap.size + 1, 0, none⟩), .pointer (some ⟨W.heap.size + 2, 0, none⟩), .pointer (some ⟨W.heap.size + 3, 0, none⟩)]) rfl trivial (enters_of Try.func52 (by kernel_rfl) rfl)
      (iter_stops (n - 1) _ _ _ _ A c l doc at_ known W5 hB5 hr5 hr5.2.1) keepK_t (keepK_b hKlt5) (Below.refl _ _) (fun _ => rfl) (I2 w W5 m) (fun _ _ _ => False)
      (I2_own w W5 m (by omega)) (fun _ _ _ _ _ h _ _ => h) ?h0b
      (fun x a' W' => ∃ By, W5.heap.size ≤ By ∧ W'.heap[By]? = some (.cells #[.int .i64 x.f0, .int .i64 x.f1, .int .i64 x.f2, .int .i64 x.f3, .int .i64 x.f4, .int .i64 x.f5, .int .i64 x.f6, .bool x.f7] 24 (0, 0)) ∧ a' = { tmps := #[.slice A l.length c, .int .i64 doc, .int .i64 at_, .int .i64 known, undef, undef, undef, undef, .pointer (some ⟨w.heap.size, 0, none⟩), .pointer (some ⟨w.heap.size + 1 + 1, 0, none⟩), undef, undef, undef, .pointer (some ⟨By, 0, none⟩), .map (some (w.heap.size + 1)), .slice A l.length c, .int .i64 doc, .int .i64 at_, .int .i64 known, .func (.func 52) #[] #[.pointer (some ⟨w.heap.size + 1 + 1 + 1, 0, none⟩), .pointer (some ⟨w.heap.size + 1 + 1 + 1 + 1, 0, none⟩), .pointer (some ⟨w.heap.size + 1 + 1 + 1 + 2, 0, none⟩), .pointer (some ⟨w.heap.size + 1 + 1 + 1 + 3, 0, none⟩)], undef, undef, undef, undef, undef, undef, undef, undef, undef, undef, undef, undef, undef, undef, undef, undef, undef, undef, undef, undef, undef, .slice A l.length c, .int .i64 doc, .int .i64 at_, .int .i64 known, .func (.func 52) #[] #[.pointer (some ⟨W.heap.size, 0, none⟩), .pointer (some ⟨W.heap.size + 1, 0, none⟩), .pointer (some ⟨W.heap.size + 2, 0, none⟩), .pointer (some ⟨W.heap.size + 3, 0, none⟩)], .agg #[.int .i64 x.f0, .int .i64 x.f1, .int .i64 x.f2, .int .i64 x.f3, .int .i64 x.f4, .int .i64 x.f5, .int .i64 x.f6, .bool x.f7], undef, undef, undef, undef, undef, undef, undef, undef, undef, undef, undef, undef, undef, undef, undef, undef], defers := [] })
      ?hAxb ?assignb ?bodyb ?doneb ?stopb
    case h0b => exact ⟨_, hX5, World.ownsRow_nil _ _ _ _, fun _ _ _ => rfl, Nat.le_refl _, hb5w⟩
    case hAxb =>
      rintro x a' _ W W' row ⟨By, h1, h2, h3⟩ hg hr
      refine ⟨By, h1, (hg.block By (Array.getElem?_eq_some_iff.1 h2).1 (fun e => ?_)).trans h2, h3⟩
      obtain ⟨_, o, ho, hc⟩ := hr By e.symm
      rw [h2] at ho
      cases ho
      cases hc
    case assignb =>
      intro ly pre x W' K hI hK
      simp only [enc]
      gi_wp2_with fail
      have hle : W5.heap.size ≤ W'.heap.size := by obtain ⟨_, _, _, _, h, _⟩ := hI; exact h
      exact hK _ _ ((KeepsOthers.alloc W' _).from _) ((Keep.refl _ W').alloc (fun k hk => Nat.lt_of_lt_of_le (hKlt5 k hk) hle) _) ((I2_own w W5 m (by omega)).alloc _ hI) ⟨W'.heap.size, hle, Go.heap_alloc_new W' _, rfl⟩
    case bodyb =>
      rintro ly pre x a' W' hl ⟨r, hr'⟩ ⟨v, hv, hown, hsame, hsz', hbW'⟩ ⟨By, hBy, hblk, rfl⟩ hlen
      have mixed : Try.prog.follows .mixedOrders = true := by kernel_rfl
      have hHP := pk ((hsame _ (by omega) (by omega)).trans hP5)
      have HblkW := pk hblk
      have HI2 : Pk (I2 w W5 m pre W') := pk ⟨v, hv, hown, hsame, hsz', hbW'⟩
      have hByl : By < W'.heap.size := (Array.getElem?_eq_some_iff.1 hblk).1
      have hml : w.heap.size + 1 + 1 < W'.heap.size := by omega
      have hcl := fun j => cell_of_row W' By j _ 24 (0, 0) hblk
      have hy0 : W'.cell? ⟨By, 0, none⟩ = some (.int .i64 x.f0) := hcl 0
      have hy1 : W'.cell? ⟨By, 1, none⟩ = some (.int .i64 x.f1) := hcl 1
      have hy2 : W'.cell? ⟨By, 2, none⟩ = some (.int .i64 x.f2) := hcl 2
      have hy3 : W'.cell? ⟨By, 3, none⟩ = some (.int .i64 x.f3) := hcl 3
      have hy4 : W'.cell? ⟨By, 4, none⟩ = some (.int .i64 x.f4) := hcl 4
      have hy5 : W'.cell? ⟨By, 5, none⟩ = some (.int .i64 x.f5) := hcl 5
      have hy6 : W'.cell? ⟨By, 6, none⟩ = some (.int .i64 x.f6) := hcl 6
      have hy7 : W'.cell? ⟨By, 7, none⟩ = some (.bool x.f7) := hcl 7
      clear hcl hblk hr' hmm
      have hPW := one_cell hHP.out
      generalize hz : (mget m (sbOf x)).getD z24 = z
      have Hlt : Pk (w.heap.size + 1 + 1 < W5.heap.size) := pk (by omega)
      replace hsz0 := pk hsz0; replace hm2 := pk hm2; replace hDlt := pk hDlt; replace hD5 := pk hD5; replace hm5 := pk hm5; replace hX5 := pk hX5; replace hP5 := pk hP5; replace hb5w := pk hb5w; replace hr5 := pk hr5; replace hs5 := pk hs5; replace hKlt5 := pk hKlt5; replace hD := pk hD; replace hDel := pk hDel; replace hsz := pk hsz; replace hv := pk hv; replace hown := pk hown; replace hsame := pk hsame; replace hsz' := pk hsz'; replace hbW' := pk hbW'; replace hBy := pk hBy; replace hl := pk hl; replace hlen := pk hlen; replace hByl := pk hByl; replace hz := pk hz; replace hn1 := pk hn1; replace h1n := pk h1n
      cases hf7 : x.f7 with
      | true =>
        simp only [hf7] at hy7
        gi_wp2_with fail
        gi_region_with_o (refine ⟨trivial, ?_⟩)
        all_goals gi_wp2_with fail
        all_goals (refine ⟨⟨Nat.le_refl _, fun k o _ h _ => h⟩, fun _ _ => rfl, ?_⟩)
        all_goals (have hI2 := HI2.out; obtain ⟨v, h1, h2, h3, h4, h5⟩ := hI2; refine ⟨v, h1, ?_, h3, h4, below_drew h5⟩; rw [List.filter_append, show [x].filter (cond2 m) = [] by simp [cond2, hf7], List.append_nil]; exact h2)
      | false =>
        simp only [hf7] at hy7
        gi_wp2_with fail
        rename_i Kb hKb
        have rest : ∀ (W2 : World) (eb : Bool), eb = decide (z = x) → Below W'.heap.size W' W2 → Kb { tmps := #[.slice A l.length c, .int .i64 doc, .int .i64 at_, .int .i64 known, undef, undef, undef, undef, .pointer (some ⟨w.heap.size, 0, none⟩), .pointer (some ⟨w.heap.size + 1 + 1, 0, none⟩), undef, undef, undef, .pointer (some ⟨By, 0, none⟩), .map (some (w.heap.size + 1)), .slice A l.length c, .int .i64 doc, .int .i64 at_, .int .i64 known, .func (.func 52) #[] #[.pointer (some ⟨w.heap.size + 1 + 1 + 1, 0, none⟩), .pointer (some ⟨w.heap.size + 1 + 1 + 1 + 1, 0, none⟩), .pointer (some ⟨w.heap.size + 1 + 1 + 1 + 2, 0, none⟩), .pointer (some ⟨w.heap.size + 1 + 1 + 1 + 3, 0, none⟩)], undef, undef, undef, undef, undef, undef, undef, undef, undef, undef, undef, undef, undef, undef, undef, undef, undef, undef, undef, undef, undef, .slice A l.length c, .int .i64 doc, .int .i64 at_, .int .i64 known, .func (.func 52) #[] #[.pointer (some ⟨W.heap.size, 0, none⟩), .pointer (some ⟨W.heap.size + 1, 0, none⟩), .pointer (some ⟨W.heap.size + 2, 0, none⟩), .pointer (some ⟨W.heap.size + 3, 0, none⟩)], .agg #[.int .i64 x.f0, .int .i64 x.f1, .int .i64 x.f2, .int .i64 x.f3, .int .i64 x.f4, .int .i64 x.f5, .int .i64 x.f6, .bool false], .pointer (some ⟨By, 7, none⟩), .bool false, .bool true, .bool true, .map (some (w.heap.size + 1)), .agg #[.int .i64 x.f0, .int .i64 x.f1, .int .i64 x.f2, .int .i64 x.f3, .int .i64 x.f4, .int .i64 x.f5, .int .i64 x.f6, .bool false], ek ⟨x.f3, x.f4, x.f5, x.f6⟩, .agg #[.int .i64 z.f0, .int .i64 z.f1, .int .i64 z.f2, .int .i64 z.f3, .int .i64 z.f4, .int .i64 z.f5, .int .i64 z.f6, .bool z.f7], .agg #[.int .i64 x.f0, .int .i64 x.f1, .int .i64 x.f2, .int .i64 x.f3, .int .i64 x.f4, .int .i64 x.f5, .int .i64 x.f6, .bool false], .bool eb, .bool eb, undef, undef, undef, undef, undef], defers := [] } W2 := by
          rintro W2 eb rfl hb2
          have hI2 := HI2.out
          obtain ⟨v, h1, h2, h3, h4, h5⟩ := hI2
          have hg2 : W'.grownBy W2 none := ⟨hb2.os, hb2.tape, hb2.output, hb2.size, fun k hk _ => hb2.block k hk⟩
          have h1' : Boxed W2 w.heap.size 22 v := h1.kept hg2 (by simp)
          have h2' : W2.ownsRow W5.heap.size 24 8 v (pre.filter (cond2 m)).length (cl24 (pre.filter (cond2 m))) := h2.kept hg2 (by cases v.ownBlock <;> simp)
          have hkf : KeepsFrom W5.heap.size W' W2 := ⟨hb2.size, fun k o _ hk _ => (hb2.block k (Array.getElem?_eq_some_iff.1 hk).1).trans hk⟩
          have hkp : Keep (InK W.heap.size (W.heap.size + 1) (W.heap.size + 2) (W.heap.size + 3) A l.length) W' W2 := fun k hk => hb2.block k (Nat.lt_of_lt_of_le (hKlt5.out k hk) hsz'.out)
          have hle5 := hsz'.out
          have hlt5 := Hlt.out
          have h3' : ∀ k, k < W5.heap.size → k ≠ w.heap.size → W2.heap[k]? = W5.heap[k]? := fun k hk hne => (hb2.block k (by omega)).trans (h3 k hk hne)
          have h4' : W5.heap.size ≤ W2.heap.size := Nat.le_trans h4 hb2.size
          have h5' : Below w.heap.size w W2 := h5.trans (hb2.mono (by omega))
          have hBl := hByl.out
          have hcl := fun j => cell_of_row W2 By j _ 24 (0, 0) ((hb2.block By hBl).trans HblkW.out)
          clear hy0 hy1 hy2 hy3 hy4 hy5 hy6 hy7 hPW
          have hy0 : W2.cell? ⟨By, 0, none⟩ = some (.int .i64 x.f0) := hcl 0
          have hy1 : W2.cell? ⟨By, 1, none⟩ = some (.int .i64 x.f1) := hcl 1
          have hy2 : W2.cell? ⟨By, 2, none⟩ = some (.int .i64 x.f2) := hcl 2
          have hy3 : W2.cell? ⟨By, 3, none⟩ = some (.int .i64 x.f3) := hcl 3
          have hy4 : W2.cell? ⟨By, 4, none⟩ = some (.int .i64 x.f4) := hcl 4
          have hy5 : W2.cell? ⟨By, 5, none⟩ = some (.int .i64 x.f5) := hcl 5
          have hy6 : W2.cell? ⟨By, 6, none⟩ = some (.int .i64 x.f6) := hcl 6
          have hy7 : W2.cell? ⟨By, 7, none⟩ = some (.bool x.f7) := hcl 7
          simp only [hf7] at hy7
          have hbc := h1'.cell
          clear hcl h1 h2 h3 h4 h5 hg2 hBl hle5 hlt5
          replace h1' := pk h1'; replace h2' := pk h2'; replace h3' := pk h3'; replace h4' := pk h4'; replace h5' := pk h5'; replace hkf := pk hkf; replace hkp := pk hkp; replace hb2 := pk hb2
          refine hKb _ _ ?_
          by_cases hzx : z = x
          · have hdz : decide (z = x) = true := by simp [hzx]
            obtain ⟨i0, hi0, hz0, hz1, hz2⟩ := info_parts info24
            gi_wp2_with (gi_at_builtin; refine wpListIn_append_own _ rfl _ _ 22 rfl W5.heap.size 24 i0 _ 8 64 Try.underlying22 hi0 hz0 hz1 hz2 rfl (by decide) _ _ _ rfl (h2'.out.alloc _) ⟨W2.heap.size, 0, none⟩ 1 1 [.int .i64 x.f0, .int .i64 x.f1, .int .i64 x.f2, .int .i64 x.f3, .int .i64 x.f4, .int .i64 x.f5, .int .i64 x.f6, .bool false] rfl rfl ?c1 ?c2 ?c3 ?c4 ?c5 ?_)
            case c1 =>
              intro j u hj
              rw [show (⟨W2.heap.size, 0, none⟩ : Addr).add j = ⟨W2.heap.size, j, none⟩ by simp [Addr.add]; intro h; exact h.symm]
              rw [cell_of_row _ _ j _ _ (0, 0) (Go.heap_alloc_new W2 _)]
              simpa using hj
            case c2 => intro u hu; have := cs24_one x u (by simpa [cs24, hf7] using hu); exact this
            case c3 => have := hlen.out; have := List.length_filter_le (cond2 m) pre; unfold maxLen; omega
            case c4 => have := hlen.out; have := List.length_filter_le (cond2 m) pre; omega
            case c5 => have := h4'.out; simp; omega
            intro v' w1 hown' hgrow _
            obtain ⟨g, cap, rfl⟩ := ownsRow_succ hown'
            have h1o := h1'.out
            have h2o := h2'.out
            have hnb := h1o.not_row (by decide) h2o
            have hv1 := (h1o.alloc (.cells #[.int .i64 x.f0, .int .i64 x.f1, .int .i64 x.f2, .int .i64 x.f3, .int .i64 x.f4, .int .i64 x.f5, .int .i64 x.f6, .bool false] 24)).kept hgrow hnb
            have hv2 := hv1.set (.slice (some ⟨g, 0, none⟩) ((pre.filter (cond2 m)).length + 1) cap)
            have hown2 := hown'.kept (grownBy_setCell' w1 w.heap.size (.slice (some ⟨g, 0, none⟩) ((pre.filter (cond2 m)).length + 1) cap)) (.inr (hv1.not_row (by decide) hown').symm)
            have hob : ∀ k, v.ownBlock = some k → W5.heap.size ≤ k ∧ ∃ cs t f, W2.heap[k]? = some (.cells cs t f) := by
              intro k hk
              rcases h2o.2 with ⟨rfl, _⟩ | ⟨g, cap, cur, rfl, hb, hgb, _⟩
              · simp [Value.ownBlock] at hk
              · obtain rfl : g = k := by simpa [Value.ownBlock] using hk
                exact ⟨hb, _, _, _, hgb⟩
            have hF : ∀ k, k < W2.heap.size → k ≠ w.heap.size → v.ownBlock ≠ some k → (w1.setCell ⟨w.heap.size, 0, none⟩ (.slice (some ⟨g, 0, none⟩) ((pre.filter (cond2 m)).length + 1) cap)).heap[k]? = W2.heap[k]? := fun k hk hne hno =>
              (Below.heap_setCell _ _ _ k (by simpa using hne)).trans ((hgrow.block k (by simp; omega) (fun e => hno e.symm)).trans (Below.heap_alloc W2 _ k hk))
            have hszf : W2.heap.size ≤ (w1.setCell ⟨w.heap.size, 0, none⟩ (.slice (some ⟨g, 0, none⟩) ((pre.filter (cond2 m)).length + 1) cap)).heap.size := by
              rw [World.size_setCell]; have := hgrow.size; simp at this; omega
            have hpost : KeepsFrom W5.heap.size W' (w1.setCell ⟨w.heap.size, 0, none⟩ (.slice (some ⟨g, 0, none⟩) ((pre.filter (cond2 m)).length + 1) cap)) ∧ Keep (InK W.heap.size (W.heap.size + 1) (W.heap.size + 2) (W.heap.size + 3) A l.length) W' (w1.setCell ⟨w.heap.size, 0, none⟩ (.slice (some ⟨g, 0, none⟩) ((pre.filter (cond2 m)).length + 1) cap)) ∧ I2 w W5 m (pre ++ [x]) (w1.setCell ⟨w.heap.size, 0, none⟩ (.slice (some ⟨g, 0, none⟩) ((pre.filter (cond2 m)).length + 1) cap)) := by
              have q1 := hKlt5.out
              have q2 := h4'.out
              have q3 := Hlt.out
              have q4 := hsz.out
              have q5 := hsz0.out
              refine ⟨⟨Nat.le_trans hkf.out.size hszf, fun k o hk ho hc => ?_⟩, fun k hk => ?_, ⟨_, hv2, ?_, fun k hk hne => ?_, Nat.le_trans q2 hszf, ?_⟩⟩
              · have h6 := hkf.out.same k o hk ho hc
                refine (hF k (Array.getElem?_eq_some_iff.1 h6).1 (by omega) (fun e => ?_)).trans h6
                obtain ⟨_, cs, t, f, hb⟩ := hob k e
                rw [h6] at hb
                cases hb
                cases hc
              · have h7 := q1 k hk
                refine (hF k (by omega) ?_ (fun e => by have := (hob k e).1; omega)).trans (hkp.out k hk)
                rcases hk with rfl | rfl | rfl | rfl | ⟨ad, rfl, hl0, rfl⟩
                iterate 4 omega
                have := row_lt hr hl0
                omega
              · have hfl : (pre ++ [x]).filter (cond2 m) = pre.filter (cond2 m) ++ [x] := by
                  rw [List.filter_append, show [x].filter (cond2 m) = [x] by simp [cond2, hf7, hz.out, hzx]]
                rw [hfl, List.length_append, cl24_append, show cl24 [x] = [.int .i64 x.f0, .int .i64 x.f1, .int .i64 x.f2, .int .i64 x.f3, .int .i64 x.f4, .int .i64 x.f5, .int .i64 x.f6, .bool false] by simp [cl24, cs24, hf7]]
                exact hown2
              · exact (hF k (by omega) hne (fun e => by have := (hob k e).1; omega)).trans (h3'.out k hk hne)
              · refine Below.setCell ?_ (show w.heap.size ≤ w.heap.size from Nat.le_refl _) _
                have h8 := h5'.out
                have h9 : w.heap.size ≤ W2.heap.size := h8.size
                exact (h8.alloc h9 _).grown hgrow (by simp; omega) (fun k e => by have := (hob k e).1; omega)
            have hbc1 := hv1.cell
            have hbf1 := hv1.frozen
            clear hv1 hv2 hown2 hob hF hszf hown' hgrow h1o h2o hnb
            replace hpost := pk hpost
            gi_wp2_with fail
            exact hpost.out
          · have hdz : decide (z = x) = false := by simp [hzx]
            gi_wp2_with fail
            refine ⟨hkf.out, hkp.out, v, h1'.out, ?_, h3'.out, h4'.out, h5'.out⟩
            rw [List.filter_append, show [x].filter (cond2 m) = [] by simp [cond2, hf7, hz.out, hzx], List.append_nil]
            exact h2'.out
        replace rest := pk rest
        have hlook : ∀ W', W'.heap[w.heap.size + 1]? = W5.heap[w.heap.size + 1]? → (Instr.lookup 61 (.map (some (w.heap.size + 1))) (ek ⟨x.f3, x.f4, x.f5, x.f6⟩) false).run Try.prog W' = .ok (.agg #[.int .i64 z.f0, .int .i64 z.f1, .int .i64 z.f2, .int .i64 z.f3, .int .i64 z.f4, .int .i64 z.f5, .int .i64 z.f6, .bool z.f7]) W' := by
          intro W' h
          refine (run_look law (hm5.out.at_ h) (sbOf x)).trans ?_
          rw [← hz.out]
          cases mget m (sbOf x) <;> rfl
        have Hlook := pk hlook
        clear hlook
        gi_region_with_o ((refine ⟨trivial, fun h => (by cases h), ?_⟩; refine (CallsIn.inRound ly (callsIn_wide.2 (subj_any x.f0 x.f1 x.f2 x.f3 x.f4 x.f5 x.f6 false _))).mono ?_; rintro e w1 ⟨rfl, hb1⟩; have Hb1 : Pk (Below W'.heap.size W' w1) := pk ((Below.refl _ W').drew.trans (hb1.mono (by simp))); have hP1 : w1.cell? ⟨w.heap.size + 1 + 1, 0, none⟩ = some (.map (some (w.heap.size + 1))) := one_cell ((Hb1.out.block _ (by omega)).trans hHP.out); have hl1 := Hlook.out w1 ((Hb1.out.block _ (by omega)).trans (hsame.out _ (by have := Hlt.out; omega) (by omega))); have hcl := fun j => cell_of_row w1 By j _ 24 (0, 0) ((Hb1.out.block By hByl.out).trans HblkW.out); have hw0 : w1.cell? ⟨By, 0, none⟩ = some (.int .i64 x.f0) := hcl 0; have hw1 : w1.cell? ⟨By, 1, none⟩ = some (.int .i64 x.f1) := hcl 1; have hw2 : w1.cell? ⟨By, 2, none⟩ = some (.int .i64 x.f2) := hcl 2; have hw3 : w1.cell? ⟨By, 3, none⟩ = some (.int .i64 x.f3) := hcl 3; have hw4 : w1.cell? ⟨By, 4, none⟩ = some (.int .i64 x.f4) := hcl 4; have hw5 : w1.cell? ⟨By, 5, none⟩ = some (.int .i64 x.f5) := hcl 5; have hw6 : w1.cell? ⟨By, 6, none⟩ = some (.int .i64 x.f6) := hcl 6; have hw7 : w1.cell? ⟨By, 7, none⟩ = some (.bool x.f7) := hcl 7; simp only [hf7] at hw7; clear hcl hb1))
        all_goals (refine rest.out _ _ ?_ Hb1.out)
        all_goals (rw [← eqdec24 z x, hf7])
        all_goals simp
    case doneb =>
      rintro D2 xs W6 hD2 rfl ⟨v, hv, hown, hsame, hsz6, hb6⟩ hDel2
      obtain ⟨A6, n6, c6, rfl⟩ : ∃ A n c, v = .slice A n c := by
        rcases hown.2 with ⟨rfl, _⟩ | ⟨g, cap, cur, rfl, _⟩
        · exact ⟨_, _, _, rfl⟩
        · exact ⟨_, _, _, rfl⟩
      have hvc := hv.cell
      have hvf := hv.frozen
      gi_wp2_with fail
      have hk2 : (W6.setCell ⟨w.heap.size, 0, none⟩ (.slice A6 n6 c6)).heap[D2]? = some (.deferred (some [])) := (Below.heap_setCell _ _ _ D2 (by simp; omega)).trans hDel2
      have g2 := grownBy_putObj' (W6.setCell ⟨w.heap.size, 0, none⟩ (.slice A6 n6 c6)) D2 (.deferred none)
      have hk1 : ((W6.setCell ⟨w.heap.size, 0, none⟩ (.slice A6 n6 c6)).putObj D2 (.deferred none)).heap[D]? = some (.deferred (some [])) := by
        refine (g2.block D ?_ (fun e => by cases e; omega)).trans ((Below.heap_setCell _ _ _ D (by simp; omega)).trans ((hsame D (by omega) (by omega)).trans hD5))
        rw [World.size_setCell]; omega
      have g1 := grownBy_putObj' ((W6.setCell ⟨w.heap.size, 0, none⟩ (.slice A6 n6 c6)).putObj D2 (.deferred none)) D (.deferred none)
      refine ⟨by simp, .inl ⟨_, _, rfl, run_takeDeferred hk2, ⟨by simp, .inl ⟨_, _, rfl, run_takeDeferred hk1, ?_⟩⟩⟩⟩
      obtain ⟨Wz, hWz⟩ : ∃ Wz, ((W6.setCell ⟨w.heap.size, 0, none⟩ (.slice A6 n6 c6)).putObj D2 (.deferred none)).putObj D (.deferred none) = Wz := ⟨_, rfl⟩
      have hsetB : Boxed (W6.setCell ⟨w.heap.size, 0, none⟩ (.slice A6 n6 c6)) w.heap.size 22 (.slice A6 n6 c6) := hv.set _
      have hown3 := hown.kept (grownBy_setCell' W6 w.heap.size (.slice A6 n6 c6)) (.inr (hv.not_row (by decide) hown).symm)
      have hown4 := ownsRow_putObj (ownsRow_putObj hown3 (.deferred none) hk2 rfl) (.deferred none) hk1 rfl
      have hbx : Boxed Wz w.heap.size 22 (.slice A6 n6 c6) := by
        rw [← hWz]
        exact (hsetB.kept g2 (fun e => by cases e; omega)).kept g1 (fun e => by cases e; omega)
      have hbel : Below w.heap.size w Wz := by
        rw [← hWz]
        have e1 : Below w.heap.size w (W6.setCell ⟨w.heap.size, 0, none⟩ (.slice A6 n6 c6)) := hb6.setCell (Nat.le_refl _) _
        exact ((e1.grown g2 e1.size (fun k e => by cases e; omega))).grown g1 (by have := e1.size; have := g2.size; omega) (fun k e => by cases e; omega)
      rw [hWz] at hown4 ⊢
      have hcz := hbx.cell
      refine ⟨.slice A6 n6 c6, by simp [results, Try.results34, go_sem, hcz], _, rfl, ?_, hbel⟩
      have hfil : (l.filter (countsF doc at_ known)).filter (cond2 m) = standingF l doc at_ known := by
        unfold standingF
        refine List.filter_congr fun y hy => ?_
        unfold cond2
        have h1 := hm2 y
        rw [← lastF_fold] at h1
        obtain ⟨u, hu⟩ := last_some y (l.filter (countsF doc at_ known)) none hy
        rw [h1, hu]
        simp
      rw [hfil] at hown4
      exact R24_of_own (own_weaken hown4 (by omega)) (fun _ _ => trivial)
    case stopb => rintro D c pre W _ _ h _; exact h.elim
  case stop => rintro D c pre W _ _ h _; exact h.elim
end St
theorem standing_hook (A0 : Option Addr) (c0 : Nat) (l0 : List S24) (a1 a2 a3 : Int) (w : World) (hr0 : Kd.C k24 w A0 l0.length l0) (hg : l0.length ≤ 4096) :
    Calls Try.prog 34 #[.slice A0 l0.length c0, .int .i64 a1, .int .i64 a2, .int .i64 a3] w fun e w' => ∃ v0_ : Value, e = .returned v0_ ∧ Kd.R k24 24 w' w.heap.size (fun _ => True) v0_ (S.standingF l0 a1 a2 a3) ∧ Below w.heap.size w w' :=
  callsIn_wide.1 (St.standing_in 5 (Nat.le_refl _) A0 c0 l0 hg a1 a2 a3 w hr0)
end Go.Proofs.Ytcpheagandpacaa.W
