/-
Runs of the builtins copy and append at elements of any number of cells, as equations. No program in sight; no condition beyond the premises.
Rows of structs as plain lists of cells, and slices.Clone at them. No condition beyond the premises.
slices.Insert of one element into a row of the call's own. Condition: the row and the element's block are read, and lie apart.
-/
import Derived.Test.YtaemdkbfdpjimaaP0
import Derived.Lib.Hide
import Derived.Lib.Overlaps
import Derived.Lib.AppendZeros
import Derived.WalkSpells
import Derived.Laws.Externs
import Derived.Deep.RegionLaw
namespace Go.Proofs.Ytaemdkbfdpjimaa.W
open Go.RowKit
set_option linter.unusedVariables false
variable {P : Program}

theorem run_copy_rowN (w : World) (dT sT ty elem : TypeId) (size : Nat) (g o dLen dCap : Nat) (a : Addr) (sLen sCap : Nat) (cur : Array Value) (t : TypeId) (cs : List Value)
    (hu : P.underlying dT = some (.slice elem)) (hs : (P.info? elem).map (·.size) = some size)
    (hg : w.heap[g]? = some (.cells cur t (0, 0))) (hn : cs.length = Nat.min sLen dLen * size)
    (hsrc : ∀ j v, cs[j]? = some v → w.cell? (a.add j) = some v) (hfit : o + cs.length ≤ cur.size) (h1 : ∀ v ∈ cs, v.oneCell' = true) :
    (Builtin.copy_ #[dT, sT] ty #[.slice (some ⟨g, o, none⟩) dLen dCap, .slice (some a) sLen sCap]).run P w =
      .ok (goInt (Nat.min sLen dLen)) (w.setRow g (cur.toList.take o ++ cs ++ cur.toList.drop (o + cs.length)).toArray) := by
  have hl := run_loadCells_list (P := P) w a cs hsrc
  have hst := run_storeCells_at P g o t cs 0 cur w hg (by simpa using hfit) h1
  cases hq : P.info? elem with
  | none => simp [hq] at hs
  | some i =>
    have hi : i.size = size := by simpa [hq] using hs
    simp [Builtin.copy_, run_underlying hu, Builtin.lenOf, Builtin.firstCells, sizeOf, typeInfo, hq, hi, ← hn, hl, hst]

theorem run_append_grow_zeros (w : World) (t tn ty e : TypeId) (i : TypeInfo) (z : Value) (k kn : IntKind) (ht : P.underlying t = some (.slice e)) (htn : P.underlying tn = some (.int kn)) (hi : P.info? e = some i) (hz : i.zero = some z)
    (b : Addr) (sLen sCap : Nat) (olds : List Value) (hlo : olds.length = sLen * i.size) (holds : ∀ j v, olds[j]? = some v → w.cell? (b.add j) = some v)
    (n : Nat) (h0 : 0 < n) (hs : 0 < i.size) (hg : sCap < sLen + n) (h63 : ((sLen + n : Nat) : Int) ≤ 9223372036854775807) (h48 : n * i.bytes ≤ 281474976710656) (hfit : Builtin.nextslicecap (sLen + n) sCap * i.bytes ≤ 281474976710656) :
    (Builtin.append_ #[t, tn] ty #[.slice (some b) sLen sCap, .int k n]).run P w =
      .ok (.slice (some ⟨w.heap.size, 0, none⟩) (sLen + n) (grownCap w (sLen + n) sCap e))
        (w.drew.alloc (.cells (olds.toArray ++ Builtin.zeroCells z.cells n ++ Builtin.zeroCells z.cells (grownCap w (sLen + n) sCap e - (sLen + n))) e)) := by
  have hn : ¬ (sLen + n ≤ sCap) := by omega
  have hw : IntKind.i64.wrap (n : Int) = n := by rw [IntKind.wrap_i64]; omega
  have h63' : ¬ (9223372036854775807 < ((sLen : Int) + (n : Int))) := by omega
  have h48' : ¬ (281474976710656 < Builtin.nextslicecap (sLen + n) sCap * i.bytes) := by omega
  have h48i : ¬ (281474976710656 < (n : Int) * (i.bytes : Int)) := by
    rw [← Int.natCast_mul]
    omega
  have hneg : ¬ ((n : Int) < 0) := by omega
  have hns : ¬ (n * i.size = 0) := Nat.mul_ne_zero (by omega) (by omega)
  have hfo := run_firstCells_some (P := P) w.drew i.size sLen b sLen sCap olds hlo (by simpa using holds)
  simp [Builtin.append_, run_underlying ht, run_underlying htn, sizeOf, typeInfo, zeroValue, hi, hz, asInt, asIntOf, hw, hn, hneg, hns, h63', h48', h48i, Question.forced, hfo, newRow, grownCap]

/-- copy, where its run is known. -/
theorem wp_copy_run (w : World) {o : Oper} {a : Act} {K : Act → World → Prop} {Q : Exit → Act → World → Prop} (d s : Operand) (t t' : TypeId)
    (ho : o.op = .call { callee := .builtin .copy, args := #[d, s], argTypes := #[t, t'] }) (v u : Value) (hd : a.eval d = v) (hs : a.eval s = u) {v' : Value} {w' : World}
    (hr : (Builtin.copy_ #[t, t'] o.type #[v, u]).run P w = .ok v' w') (h : K (a.put o.dst v') w') : o.wp P a w K Q := by
  unfold Oper.wp execOp
  simp only [ho, resolve, invoke, builtin, Sem.run_bind, Sem.run_pure, Result.andThen_ok, List.map_toArray, List.map_cons, List.map_nil, hd, hs, hr]
  exact h
theorem wpList_copy_run (w : World) {ops : Array Oper} {rest : List Oper} {o : Oper} {a : Act} {Q : Exit → Act → World → Prop} (hgd : o.guard = none) (d s : Operand) (t t' : TypeId)
    (ho : o.op = .call { callee := .builtin .copy, args := #[d, s], argTypes := #[t, t'] }) (v u : Value) (hd : a.eval d = v) (hs : a.eval s = u) {v' : Value} {w' : World}
    (hr : (Builtin.copy_ #[t, t'] o.type #[v, u]).run P w = .ok v' w') (h : wpList P ops Q rest (a.put o.dst v') w') : wpList P ops Q (o :: rest) a w :=
  wpList_plain hgd fun _ hK => wp_copy_run w d s t t' ho v u hd hs hr (hK _ _ h)
theorem step_copy_run {ops : Array Oper} {o : Oper} {a : Act} {w : World} {K : Act → World → Prop} {Q : Exit → Act → World → Prop} {E : Prop}
    (hg : o.guard = none) (d x : Operand) (dT sT : TypeId) (hop : o.op = Op.call { callee := Callee.builtin Builtin.copy, args := #[d, x], argTypes := #[dT, sT] })
    (v u : Value) (hd : a.eval d = v) (hx : a.eval x = u) {v' : Value} {w' : World} (hr : (Builtin.copy_ #[dT, sT] o.type #[v, u]).run P w = .ok v' w') (hK : K (a.put o.dst v') w') :
    if Region.wanted o (yielded ops a.tmps) = true then Oper.wp P o a w K Q else E := by
  have hw : Region.wanted o (yielded ops a.tmps) = true := by simp [Region.wanted, hg]
  rw [if_pos hw]
  unfold Oper.wp
  simp [execOp, hop, resolve, invoke, builtin, hd, hx, hr, Result.andThen]
  exact hK
theorem below_row {B g : Nat} {w0 w : World} (hb : Below B w0 w) (hBg : B ≤ g) (cs : Array Value) : Below B w0 (w.setRow g cs) :=
  hb.trans ⟨rfl, rfl, rfl, by simp [World.setRow], fun k hk => setRow_other w g k cs (by omega)⟩
end Go.Proofs.Ytaemdkbfdpjimaa.W

namespace Go.Proofs.Ytaemdkbfdpjimaa.W
open Go.RowKit Go.Proofs.YtaemdkbfdpjimaaW.PrintWords Go.Proofs.YtaemdkbfdpjimaaW.PrintLast Go.Proofs.YtaemdkbfdpjimaaW.PrintMore Go.Proofs.Ytaemdkbfdpjimaa.P
set_option linter.unusedVariables false
/-- the cells of an element -/
def cs24 (x : S24) : List Value := [.int .i64 x.f0, .int .i64 x.f1, .int .i64 x.f2, .int .i64 x.f3, .int .i64 x.f4, .int .i64 x.f5, .int .i64 x.f6, .bool x.f7]
theorem cs24_len (x : S24) : (cs24 x).length = 8 := rfl
theorem cs24_one (x : S24) : ∀ u ∈ cs24 x, u.oneCell' = true := by
  intro u hu
  simp only [cs24, List.mem_cons, List.not_mem_nil, or_false] at hu
  rcases hu with rfl | rfl | rfl | rfl | rfl | rfl | rfl | rfl <;> rfl
def cl24 (l : List S24) : List Value := l.flatMap cs24
theorem cl24_nil : cl24 [] = [] := rfl
theorem cl24_cons (x : S24) (l : List S24) : cl24 (x :: l) = cs24 x ++ cl24 l := by simp [cl24]
theorem cl24_append (l m : List S24) : cl24 (l ++ m) = cl24 l ++ cl24 m := by simp [cl24]
theorem cl24_len (l : List S24) : (cl24 l).length = l.length * 8 := by
  induction l with
  | nil => rfl
  | cons x l ih => rw [cl24_cons, List.length_append, ih, cs24_len, List.length_cons]; omega
theorem cl24_one (l : List S24) : ∀ u ∈ cl24 l, u.oneCell' = true := by
  intro u hu
  obtain ⟨x, _, hx⟩ := List.mem_flatMap.1 hu
  exact cs24_one x u hx
theorem cl24_take (l : List S24) : ∀ k : Nat, (cl24 l).take (k * 8) = cl24 (l.take k) := by
  induction l with
  | nil => intro k; simp [cl24]
  | cons x l ih =>
    intro k
    cases k with
    | zero => simp [cl24]
    | succ k =>
      rw [List.take_succ_cons, cl24_cons, cl24_cons, List.take_append, cs24_len, List.take_of_length_le (by rw [cs24_len]; omega), show (k + 1) * 8 - 8 = k * 8 by omega, ih]
theorem cl24_drop (l : List S24) : ∀ k : Nat, (cl24 l).drop (k * 8) = cl24 (l.drop k) := by
  induction l with
  | nil => intro k; simp [cl24]
  | cons x l ih =>
    intro k
    cases k with
    | zero => simp [cl24]
    | succ k =>
      rw [List.drop_succ_cons, cl24_cons, List.drop_append, cs24_len, List.drop_of_length_le (by rw [cs24_len]; omega), show (k + 1) * 8 - 8 = k * 8 by omega, ih, List.nil_append]
theorem reps_flat {R : S24 → List Value → Prop} (hR : ∀ x cs, R x cs → cs = cs24 x) : ∀ (l : List S24) (cs : List Value), Reps R 8 l cs → cs = cl24 l := by
  intro l
  induction l with
  | nil => intro cs h; have := h.1; simp at this; simp [this, cl24]
  | cons x l ih =>
    intro cs h
    have h0 := h.2 0 x rfl
    simp only [Nat.zero_mul, List.drop_zero] at h0
    have hx := hR x _ h0
    have ht : Reps R 8 l (cs.drop 8) := by
      refine ⟨by rw [List.length_drop, h.1, List.length_cons]; omega, fun j p hj => ?_⟩
      have := h.2 (j + 1) p (by simpa using hj)
      rw [List.drop_drop]
      rwa [show 8 + j * 8 = (j + 1) * 8 by omega]
    rw [cl24_cons, ← hx, ← ih _ ht, List.take_append_drop]
theorem flat_reps {R : S24 → List Value → Prop} (hR : ∀ x, R x (cs24 x)) : ∀ l : List S24, Reps R 8 l (cl24 l) := by
  intro l
  refine ⟨cl24_len l, fun j p hj => ?_⟩
  rw [cl24_drop]
  have hlt := (List.getElem?_eq_some_iff.1 hj)
  obtain ⟨hl, he⟩ := hlt
  rw [List.drop_eq_getElem_cons hl, he, cl24_cons, List.take_append, cs24_len, List.take_of_length_le (by rw [cs24_len]; omega)]
  simpa using hR p
theorem own_of_R24 {W : World} {base : Nat} {ok : Nat → Prop} {v : Value} {l : List S24} (h : Kd.R k24 24 W base ok v l) : W.ownsRow base 24 8 v l.length (cl24 l) := by
  obtain ⟨_, inner, ho, hr⟩ := h
  have := reps_flat (fun x cs hx => k24_openM hx) l inner hr
  rw [← this]
  exact ho
theorem R24_of_own {W : World} {base : Nat} {ok : Nat → Prop} {v : Value} {l : List S24} (h : W.ownsRow base 24 8 v l.length (cl24 l)) (hok : ∀ k, v.ownBlock = some k → ok k) : Kd.R k24 24 W base ok v l :=
  ⟨hok, cl24 l, h, flat_reps (fun x => k24_mkM _ _ _ x) l⟩
/-- what is read, as cells -/
theorem cells_of_C24 {w : World} {A : Option Addr} {n : Nat} {l : List S24} (h : Kd.C k24 w A n l) (hn : 0 < n) : ∃ ad, A = some ad ∧ ∀ j u, (cl24 l)[j]? = some u → w.cell? (ad.add j) = some u := by
  obtain ⟨hl, _, h2⟩ := h
  obtain ⟨ad, e, hc⟩ := h2 hn
  refine ⟨ad, e, fun j u hu => ?_⟩
  have hj : j < l.length * 8 := by
    have := (List.getElem?_eq_some_iff.1 hu).1
    rwa [cl24_len] at this
  have hq : j / 8 < l.length := by omega
  obtain ⟨c, _, hK, hcell⟩ := hc (j / 8) _ (List.getElem?_eq_getElem hq)
  have hcs : c = cs24 l[j / 8] := k24_open hK
  have e1 : (cl24 l)[j]? = c[j % 8]? := by
    have e2 : j = (j / 8) * 8 + j % 8 := by omega
    have e3 : (cl24 l)[(j / 8) * 8 + j % 8]? = ((cl24 l).drop ((j / 8) * 8))[j % 8]? := by rw [List.getElem?_drop]
    rw [← e2, cl24_drop, List.drop_eq_getElem_cons hq, cl24_cons, List.getElem?_append_left (by rw [cs24_len]; exact Nat.mod_lt _ (by omega)), ← hcs] at e3
    exact e3
  have := hcell (j % 8) u (by rw [← e1]; exact hu)
  have d := Nat.div_add_mod j 8
  rwa [show 8 = k24.sz from rfl, show j / k24.sz * k24.sz + j % k24.sz = j from by rw [Nat.mul_comm]; exact d] at this

theorem clone_any (l : List S24) (A : Option Addr) (c : Nat) (w : World) (hn : l.length ≤ 4096) (hr : Kd.C k24 w A l.length l) :
    Calls Try.prog 31 #[.slice A l.length c] w fun e w' => ∃ v, e = .returned v ∧ w'.ownsRow w.heap.size 24 8 v l.length (cl24 l) ∧ Below w.heap.size w w' := by
  have hq := fun (W : World) (a : Option Addr) (n c : Nat) => Lib.run_eql_slice_nil (P := Try.prog) W 22 24 a n c 0 0 Try.underlying22
  have HR := Lib.hid hr
  clear hr
  cases A with
  | none =>
    have hl : l = [] := by
      rcases Nat.eq_zero_or_pos l.length with h0 | h0
      · exact List.eq_nil_of_length_eq_zero h0
      · obtain ⟨ad, e, _⟩ := cells_of_C24 HR.out h0
        cases e
    subst hl
    go_enter Try.func31, Try.ntmps31
    go_wp2_with fail
    go_ret
    exact ⟨_, rfl, own_nil _ _ _ _, Below.refl _ _⟩
  | some ad =>
    obtain ⟨i0, hi, hz0, hz1, hz2⟩ := info_parts info24
    have hcell : ∀ j u, (cl24 l)[j]? = some u → (w.alloc (.cells #[] 24)).cell? (ad.add j) = some u := by
      intro j u hu
      have hlt : 0 < l.length := by
        have := (List.getElem?_eq_some_iff.1 hu).1
        rw [cl24_len] at this
        omega
      obtain ⟨ad', e, h⟩ := cells_of_C24 HR.out hlt
      cases e
      have := h j u hu
      exact (World.cell?_alloc_lt _ _ _ (World.block_lt_of_cell? _ _ this)).trans this
    have hown : (w.alloc (.cells #[] 24)).ownsRow w.heap.size 24 8 (.slice (some ⟨w.heap.size, 0, none⟩) 0 0) 0 [] := by
      have := World.ownsRow_lit (base := w.heap.size) (e := 24) (size := 8) w #[] 0 (Nat.le_refl _) (by decide) rfl
      simpa using this
    obtain ⟨v', w1, hrun, hown1, hg, _⟩ := run_append_own (P := Try.prog) (w.alloc (.cells #[] 24)) w.heap.size 22 22 24 i0 _ 8 64 Try.underlying22 hi hz0 hz1 hz2 rfl (by decide) _ 0 [] hown ad l.length c (cl24 l) (cl24_len l) hcell (cl24_one l) (by simp only [maxLen]; omega) (by omega) (by simp)
    have hb1 : Below w.heap.size w w1 := ((Below.refl _ w).alloc (Nat.le_refl _) _).grown hg (by simp) (by intro k hk; simp [Value.ownBlock] at hk; omega)
    rw [Nat.zero_add, List.nil_append] at hown1
    have Hr := Lib.hid hrun
    clear hrun hcell hown hg hi hz0 hz1 hz2
    go_enter Try.func31, Try.ntmps31
    go_wp2_with (at_builtin; refine Lib.wpList_append_run _ rfl _ _ _ _ rfl _ _ rfl rfl _ _ Hr.out ?_)
    go_ret
    exact ⟨_, rfl, hown1, hb1⟩
end Go.Proofs.Ytaemdkbfdpjimaa.W

namespace Go.Proofs.Ytaemdkbfdpjimaa.W
open Go.RowKit Go.Proofs.YtaemdkbfdpjimaaW.PrintWords Go.Proofs.YtaemdkbfdpjimaaW.PrintLast Go.Proofs.YtaemdkbfdpjimaaW.PrintMore Go.Proofs.Ytaemdkbfdpjimaa.P
set_option linter.unusedVariables false
def InsPost (l : List S24) (x : S24) (i : Nat) (W : World) (base : Nat) (e : Ending) (w' : World) : Prop :=
  ∃ v, e = .returned v ∧ w'.ownsRow base 24 8 v (l.length + 1) (cl24 (l.take i ++ x :: l.drop i)) ∧ Below base W w'
theorem cells_of_block {w : World} {g : Nat} {cs : List Value} {t : TypeId} (h : w.heap[g]? = some (.cells cs.toArray t (0, 0))) (j : Nat) (u : Value) (hu : cs[j]? = some u) : w.cell? ((⟨g, 0, none⟩ : Addr).add j) = some u := by
  rw [add_plain, cell_of_row w g j cs.toArray t (0, 0) h]
  simpa using hu
theorem ins_nil (x : S24) (gv : Nat) (W : World) (base : Nat) (hbase : base ≤ W.heap.size) (hv : W.heap[gv]? = some (.cells (cs24 x).toArray 24 (0, 0))) :
    Calls Try.prog 30 #[.slice none 0 0, .int .i64 (0 : Nat), .slice (some ⟨gv, 0, none⟩) 1 1] W (InsPost [] x 0 W base) := by
  obtain ⟨i0, hi, hz0, hz1, hz2⟩ := info_parts info24
  obtain ⟨v', w1, hrun, hown1, hg, _⟩ := run_append_own (P := Try.prog) W base 22 22 24 i0 _ 8 64 Try.underlying22 hi hz0 hz1 hz2 rfl (by decide) _ 0 [] (own_nil _ _ _ _) ⟨gv, 0, none⟩ 1 1 (cs24 x) (cs24_len x) (cells_of_block hv) (cs24_one x) (by decide) (by decide) hbase
  have hb1 : Below base W w1 := (Below.refl _ W).grown hg hbase (by intro k hk; simp [Value.ownBlock] at hk)
  have Hr := Lib.hid hrun
  clear hrun hg hi hz0 hz1 hz2 hv
  go_enter Try.func30, Try.ntmps30
  go_wp2_with (at_builtin; refine Lib.wpList_append_run _ rfl _ _ _ _ rfl _ _ rfl rfl _ _ Hr.out ?_)
  go_ret
  exact ⟨_, rfl, by simpa [cl24] using hown1, hb1⟩
theorem ins_end (l : List S24) (x : S24) (hn : l.length ≤ 4096) (g cap : Nat) (gv : Nat) (W : World) (base : Nat) (hbase : base ≤ W.heap.size) (hcap : l.length ≤ cap) (hcm : cap ≤ 9223372036854775807)
    (hv : W.heap[gv]? = some (.cells (cs24 x).toArray 24 (0, 0))) (hs : W.ownsRow base 24 8 (.slice (some ⟨g, 0, none⟩) l.length cap) l.length (cl24 l)) :
    Calls Try.prog 30 #[.slice (some ⟨g, 0, none⟩) l.length cap, .int .i64 l.length, .slice (some ⟨gv, 0, none⟩) 1 1] W (InsPost l x l.length W base) := by
  obtain ⟨i0, hi, hz0, hz1, hz2⟩ := info_parts info24
  obtain ⟨v', w1, hrun, hown1, hg, _⟩ := run_append_own (P := Try.prog) W base 22 22 24 i0 _ 8 64 Try.underlying22 hi hz0 hz1 hz2 rfl (by decide) _ l.length (cl24 l) hs ⟨gv, 0, none⟩ 1 1 (cs24 x) (cs24_len x) (cells_of_block hv) (cs24_one x) (by simp only [maxLen]; omega) (by omega) hbase
  have hb1 : Below base W w1 := (Below.refl _ W).grown hg hbase (fun k hk => (hs.lt k hk).1)
  have Hr := Lib.hid hrun
  clear hrun hg hi hz0 hz1 hz2 hv hs
  by_cases hcl : cap = l.length
  · subst hcl
    go_enter Try.func30, Try.ntmps30
    go_wp2_with (at_builtin; refine Lib.wpList_append_run _ rfl _ _ _ _ rfl _ _ rfl rfl _ _ Hr.out ?_)
    go_ret
    exact ⟨_, rfl, by simpa [cl24] using hown1, hb1⟩
  · go_enter Try.func30, Try.ntmps30
    go_wp2_with (at_builtin; refine Lib.wpList_append_run _ rfl _ _ _ _ rfl _ _ rfl rfl _ _ Hr.out ?_)
    go_ret
    exact ⟨_, rfl, by simpa [cl24] using hown1, hb1⟩

theorem sizeOf24 (w : World) : (Go.sizeOf 24).run Try.prog w = .ok 8 w := by kernel_rfl
theorem size24 : (Try.prog.info? 24).map (·.size) = some 8 := by kernel_rfl
theorem overlaps_any (W : World) (g gv o lb cb : Nat) (x : S24) (cur : List Value) (hne : gv ≠ g) (hv : W.heap[gv]? = some (.cells (cs24 x).toArray 24 (0, 0))) (hg : W.heap[g]? = some (.cells cur.toArray 24 (0, 0))) (h0 : cur.length ≠ 0) :
    (callFunc 43 #[.slice (some ⟨gv, 0, none⟩) 1 1, .slice (some ⟨g, o, none⟩) lb cb]).run Try.prog W = .ok (.value (.bool false)) W := by
  rw [run_callFunc_extern Try.func43 (by kernel_rfl) (by kernel_rfl) (by kernel_rfl) (e := Extern.SlicesOverlaps.overlaps #[22, 22] #[4]) (by kernel_rfl),
    Lib.run_overlaps_apart W 22 4 24 Try.underlying22 8 sizeOf24 ⟨gv, 0, none⟩ ⟨g, o, none⟩ 1 1 lb cb hne 24 24 8 cur.length (by simp [World.shape?, hv, cs24]) (by simp [World.shape?, hg]) h0 (by simp [World.frozen?, hv]) (by simp [World.frozen?, hv])]
  rfl
/-- cells written over others -/
def spl (cur : List Value) (o : Nat) (cs : List Value) : List Value := cur.take o ++ cs ++ cur.drop (o + cs.length)
theorem spl_len (cur : List Value) (o : Nat) (cs : List Value) (h : o + cs.length ≤ cur.length) : (spl cur o cs).length = cur.length := by simp [spl]; omega
theorem spl_room (C X D : List Value) (a b n : Nat) (hX : X.length = b) (hD : a + b + D.length = n) (hC : n ≤ C.length) : (spl (spl C (a + b) D) a X).take n = C.take a ++ (X ++ D) := by
  have e1 : spl C (a + b) D = C.take (a + b) ++ (D ++ C.drop n) := by unfold spl; rw [List.append_assoc, hD]
  have l1 : (C.take (a + b)).length = a + b := by rw [List.length_take]; omega
  have e2 : spl (spl C (a + b) D) a X = C.take a ++ (X ++ (D ++ C.drop n)) := by
    rw [e1]
    unfold spl
    rw [List.take_append_of_le_length (by omega), List.take_take, Nat.min_eq_left (by omega), hX, List.drop_append, List.drop_of_length_le (by omega), List.nil_append, l1, Nat.sub_self, List.drop_zero, List.append_assoc]
  rw [e2, ← List.append_assoc, ← List.append_assoc, List.take_append_of_le_length (by simp; omega), List.take_of_length_le (by simp; omega), List.append_assoc]
set_option maxHeartbeats 1000000 in
theorem ins_room (l : List S24) (x : S24) (i : Nat) (hi : i < l.length) (hn : l.length ≤ 4096) (g cap : Nat) (gv : Nat) (W : World) (base : Nat) (hbg : base ≤ g) (hcap : l.length + 1 ≤ cap) (hcm : cap ≤ 9223372036854775807) (hne : gv ≠ g) (cur : List Value)
    (hv : W.heap[gv]? = some (.cells (cs24 x).toArray 24 (0, 0))) (hg : W.heap[g]? = some (.cells cur.toArray 24 (0, 0))) (hcs : cur.length = cap * 8) (ht : cur.take (l.length * 8) = cl24 l) :
    Calls Try.prog 30 #[.slice (some ⟨g, 0, none⟩) l.length cap, .int .i64 i, .slice (some ⟨gv, 0, none⟩) 1 1] W (InsPost l x i W base) := by
  have hov := fun o lb cb => overlaps_any W g gv o lb cb x cur hne hv hg (by omega)
  have hdl : (cl24 (l.drop i)).length = (l.length - i) * 8 := by rw [cl24_len, List.length_drop]
  have hcp1 : ∀ ty dc sc, (Builtin.copy_ #[22, 22] ty #[.slice (some ⟨g, (i + 1) * 8, none⟩) (l.length - i) dc, .slice (some ⟨g, i * 8, none⟩) (l.length + 1 - i) sc]).run Try.prog W.drew = .ok (goInt ((l.length - i : Nat) : Int)) (W.drew.setRow g (spl cur ((i + 1) * 8) (cl24 (l.drop i))).toArray) := fun ty dc sc => by
    have hm : Nat.min (l.length + 1 - i) (l.length - i) = l.length - i := Nat.min_eq_right (by omega)
    have := run_copy_rowN (P := Try.prog) W.drew 22 22 ty 24 8 g ((i + 1) * 8) (l.length - i) dc ⟨g, i * 8, none⟩ (l.length + 1 - i) sc cur.toArray 24 (cl24 (l.drop i)) Try.underlying22 size24 hg (by rw [hm, hdl])
      (fun j v hj => by
        have hj2 : cur[i * 8 + j]? = some v := by
          rw [← cl24_drop, ← ht, List.getElem?_drop, List.getElem?_take] at hj
          split at hj
          · exact hj
          · cases hj
        rw [Addr.add_lit, World.cell?_drew, cell_of_row W g _ cur.toArray 24 (0, 0) hg]
        simpa using hj2)
      (by rw [hdl]; simp; omega) (cl24_one _)
    rw [hm] at this
    exact this
  obtain ⟨W1, hW1⟩ : ∃ W1, W1 = W.drew.setRow g (spl cur ((i + 1) * 8) (cl24 (l.drop i))).toArray := ⟨_, rfl⟩
  have hg1 : W1.heap[g]? = some (.cells (spl cur ((i + 1) * 8) (cl24 (l.drop i))).toArray 24 (0, 0)) := by rw [hW1]; exact setRow_heap _ g _ _ 24 _ hg
  have hv1 : W1.heap[gv]? = some (.cells (cs24 x).toArray 24 (0, 0)) := by rw [hW1]; exact (setRow_other _ g gv _ hne).trans hv
  have hl1 : (spl cur ((i + 1) * 8) (cl24 (l.drop i))).length = cur.length := spl_len _ _ _ (by rw [hdl]; omega)
  have hcp2 : ∀ ty dc, (Builtin.copy_ #[22, 22] ty #[.slice (some ⟨g, i * 8, none⟩) (l.length + 1 - i) dc, .slice (some ⟨gv, 0, none⟩) 1 1]).run Try.prog W1 = .ok (goInt 1) (W1.setRow g (spl (spl cur ((i + 1) * 8) (cl24 (l.drop i))) (i * 8) (cs24 x)).toArray) := fun ty dc => by
    have hm : Nat.min 1 (l.length + 1 - i) = 1 := Nat.min_eq_left (by omega)
    have := run_copy_rowN (P := Try.prog) W1 22 22 ty 24 8 g (i * 8) (l.length + 1 - i) dc ⟨gv, 0, none⟩ 1 1 _ 24 (cs24 x) Try.underlying22 size24 hg1 (by rw [hm]; rfl)
      (cells_of_block hv1) (by rw [cs24_len]; simp only [List.size_toArray]; omega) (cs24_one _)
    rw [hm] at this
    exact this
  have hfin : (spl (spl cur ((i + 1) * 8) (cl24 (l.drop i))) (i * 8) (cs24 x)).take ((l.length + 1) * 8) = cl24 (l.take i ++ x :: l.drop i) := by
    have := spl_room cur (cs24 x) (cl24 (l.drop i)) (i * 8) 8 ((l.length + 1) * 8) rfl (by rw [hdl]; omega) (by omega)
    rw [show (i + 1) * 8 = i * 8 + 8 by omega, this, cl24_append, cl24_cons]
    congr 1
    have e : cur.take (i * 8) = (cur.take (l.length * 8)).take (i * 8) := by rw [List.take_take, Nat.min_eq_left (by omega)]
    rw [e, ht, cl24_take]
  have hown : (W1.setRow g (spl (spl cur ((i + 1) * 8) (cl24 (l.drop i))) (i * 8) (cs24 x)).toArray).ownsRow base 24 8 (.slice (some ⟨g, 0, none⟩) (l.length + 1) cap) (l.length + 1) (cl24 (l.take i ++ x :: l.drop i)) := by
    refine ⟨by rw [cl24_len]; simp; omega, .inr ⟨g, cap, _, rfl, hbg, setRow_heap _ g _ _ 24 _ hg1, hcap, hcm, ?_, ?_⟩⟩
    · rw [List.size_toArray, spl_len _ _ _ (by rw [hl1, cs24_len]; omega), hl1, hcs]
    · simpa using hfin
  have hbel : Below base W (W1.setRow g (spl (spl cur ((i + 1) * 8) (cl24 (l.drop i))) (i * 8) (cs24 x)).toArray) := by
    rw [hW1]; exact below_row (below_row (Below.refl _ _).drew hbg _) hbg _
  rw [← hW1] at hcp1
  have HO := Lib.hid hown
  have HB := Lib.hid hbel
  clear hown hbel hfin hl1 hv1 hg1 hdl hv hg hcs ht
  clear hW1
  have hni : ¬ ((i : Int) = (l.length : Int)) := by omega
  have hci : ¬ (cap = i) := by omega
  have hci1 : ¬ (cap = i + 1) := by omega
  go_enter Try.func30, Try.ntmps30
  go_wp2_with (simp only [hov])
  clear hov
  have hw1 : IntKind.i64.wrap ((i : Int) + 1) = (i : Int) + 1 := by rw [IntKind.wrap_i64]; omega
  have hb1 : (0 : Int) ≤ (i : Int) + 1 := by omega
  have htn : ((i : Int) + 1).toNat = i + 1 := by omega
  have hb3 : (i : Int) + 1 ≤ (l.length : Int) + 1 := by omega
  have hb4 : (i : Int) ≤ (l.length : Int) + 1 := by omega
  have hb5 : l.length + 1 - (i + 1) = l.length - i := by omega
  go_region_law (refine step_copy_run rfl _ _ 22 22 rfl _ _ (by simp [Act.eval, Act.put]) (by simp [Act.eval, Act.put]) (hcp1 _ _ _) ?_)
  go_wp2_with (at_builtin; refine wpList_copy_run _ rfl _ _ 22 22 rfl _ _ rfl rfl (hcp2 _ _) ?_)
  go_ret
  exact ⟨_, rfl, HO.out, HB.out⟩
theorem spl_grow (C A X D : List Value) (a b n : Nat) (hA : C.take a = A) (hX : X.length = b) (hD : a + b + D.length = n) (hC : n ≤ C.length) : (spl (spl C a X) (a + b) D).take n = A ++ (X ++ D) := by
  have l1 : A.length = a := by rw [← hA, List.length_take]; omega
  have e1 : spl C a X = (A ++ X) ++ C.drop (a + b) := by unfold spl; rw [hA, hX]
  have e2 : spl (spl C a X) (a + b) D = (A ++ X) ++ (D ++ (spl C a X).drop (a + b + D.length)) := by
    rw [e1]
    unfold spl
    rw [List.take_append_of_le_length (by simp; omega), List.take_of_length_le (by simp; omega), List.append_assoc]
  rw [e2, ← List.append_assoc, List.take_append_of_le_length (by simp; omega), List.take_of_length_le (by simp; omega), List.append_assoc]
theorem zeros_len (z : Array Value) (n : Nat) : (Builtin.zeroCells z n).toList.length = n * z.size := by rw [Array.length_toList, size_zeroCells]
set_option maxHeartbeats 1000000 in
theorem ins_grow (l : List S24) (x : S24) (i : Nat) (hi : i < l.length) (hn : l.length ≤ 4096) (g : Nat) (gv : Nat) (W : World) (base : Nat) (hbase : base ≤ W.heap.size) (cur : List Value)
    (hv : W.heap[gv]? = some (.cells (cs24 x).toArray 24 (0, 0))) (hg : W.heap[g]? = some (.cells cur.toArray 24 (0, 0))) (ht : cur.take (l.length * 8) = cl24 l) :
    Calls Try.prog 30 #[.slice (some ⟨g, 0, none⟩) l.length l.length, .int .i64 i, .slice (some ⟨gv, 0, none⟩) 1 1] W (InsPost l x i W base) := by
  obtain ⟨i0, hi0, hz0, hz1, hz2⟩ := info_parts info24
  have hgl : g < W.heap.size := (Array.getElem?_eq_some_iff.1 hg).1
  have hvl : gv < W.heap.size := (Array.getElem?_eq_some_iff.1 hv).1
  have hdl : (cl24 (l.drop i)).length = (l.length - i) * 8 := by rw [cl24_len, List.length_drop]
  have htl : (cl24 (l.take i)).length = i * 8 := by rw [cl24_len, List.length_take, Nat.min_eq_left (by omega)]
  have hcell : ∀ k v, k < l.length * 8 → (cl24 l)[k]? = some v → W.cell? ⟨g, k, none⟩ = some v := fun k v hk hv => by
    rw [cell_of_row W g _ cur.toArray 24 (0, 0) hg]
    rw [← ht, List.getElem?_take, if_pos hk] at hv
    simpa using hv
  obtain ⟨gc, hgc⟩ : ∃ gc, gc = grownCap W (l.length + 1) l.length 24 := ⟨_, rfl⟩
  have hgc1 : l.length + 1 ≤ gc := by rw [hgc]; exact grownCap_ge _ _ _ _
  have hgc2 : gc ≤ 9223372036854775807 := by have := grownCap_le_maxLen W (l.length + 1) l.length 24 (by simp only [maxLen]; omega); rw [hgc]; simpa [maxLen] using this
  obtain ⟨cur2, hcur2⟩ : ∃ cur2 : List Value, cur2 = cl24 (l.take i) ++ (Builtin.zeroCells (Value.cells i0.zero.get!) (l.length + 1 - i)).toList ++ (Builtin.zeroCells (Value.cells i0.zero.get!) (gc - (l.length + 1))).toList := ⟨_, rfl⟩
  have hap : ∀ ty, (Builtin.append_ #[22, 3] ty #[.slice (some ⟨g, 0, none⟩) i l.length, .int .i64 ((l.length : Int) + 1 - (i : Int))]).run Try.prog W =
      .ok (.slice (some ⟨W.heap.size, 0, none⟩) (l.length + 1) gc) (W.drew.alloc (.cells cur2.toArray 24)) := fun ty => by
    have e1 : i + (l.length + 1 - i) = l.length + 1 := by omega
    have e2 : ((l.length + 1 - i : Nat) : Int) = (l.length : Int) + 1 - (i : Int) := by omega
    have h48 : Builtin.nextslicecap (l.length + 1) l.length * i0.bytes ≤ 281474976710656 := by rw [hz2]; have := nextslicecap_le (need := l.length + 1) (old := l.length) (by omega); omega
    have := run_append_grow_zeros (P := Try.prog) W 22 3 ty 24 i0 _ .i64 .i64 Try.underlying22 Try.underlying3 hi0 hz0 ⟨g, 0, none⟩ i l.length (cl24 (l.take i)) (by rw [hz1, htl])
      (fun j v hj => by
        rw [Addr.add_lit, Nat.zero_add]
        have hj2 : j < i * 8 := by have := (List.getElem?_eq_some_iff.1 hj).1; omega
        rw [← cl24_take, List.getElem?_take, if_pos hj2] at hj
        exact hcell j v (by omega) hj)
      (l.length + 1 - i) (by omega) (by rw [hz1]; decide) (by omega) (by omega) (by rw [hz2]; omega) (by rw [e1]; exact h48)
    rw [e1, e2, ← hgc] at this
    rw [this, hcur2, hz0]
    congr 2
    congr 1
    apply Array.ext'
    simp [List.append_assoc]
  have hc2l : cur2.length = gc * 8 := by
    rw [hcur2, hz0, List.length_append, List.length_append, htl, zeros_len, zeros_len]
    simp only [Option.get!_some]
    show i * 8 + (l.length + 1 - i) * 8 + (gc - (l.length + 1)) * 8 = gc * 8
    omega
  have hc2t : cur2.take (i * 8) = cl24 (l.take i) := by
    rw [hcur2, List.append_assoc, ← htl, List.take_append_of_le_length (Nat.le_refl _), List.take_of_length_le (Nat.le_refl _)]
  obtain ⟨W2, hW2⟩ : ∃ W2, W2 = W.drew.alloc (.cells cur2.toArray 24) := ⟨_, rfl⟩
  have hg2 : W2.heap[W.heap.size]? = some (.cells cur2.toArray 24 (0, 0)) := by rw [hW2]; exact Go.heap_alloc_new W.drew _
  have hgo2 : W2.heap[g]? = some (.cells cur.toArray 24 (0, 0)) := by rw [hW2]; exact (Below.heap_alloc W.drew _ g hgl).trans hg
  have hv2 : W2.heap[gv]? = some (.cells (cs24 x).toArray 24 (0, 0)) := by rw [hW2]; exact (Below.heap_alloc W.drew _ gv hvl).trans hv
  have hcp1 : ∀ ty dc, (Builtin.copy_ #[22, 22] ty #[.slice (some ⟨W.heap.size, i * 8, none⟩) (l.length + 1 - i) dc, .slice (some ⟨gv, 0, none⟩) 1 1]).run Try.prog W2 = .ok (goInt 1) (W2.setRow W.heap.size (spl cur2 (i * 8) (cs24 x)).toArray) := fun ty dc => by
    have hm : Nat.min 1 (l.length + 1 - i) = 1 := Nat.min_eq_left (by omega)
    have := run_copy_rowN (P := Try.prog) W2 22 22 ty 24 8 W.heap.size (i * 8) (l.length + 1 - i) dc ⟨gv, 0, none⟩ 1 1 _ 24 (cs24 x) Try.underlying22 size24 hg2 (by rw [hm]; rfl)
      (cells_of_block hv2) (by rw [cs24_len]; simp only [List.size_toArray]; omega) (cs24_one _)
    rw [hm] at this
    exact this
  obtain ⟨W3, hW3⟩ : ∃ W3, W3 = W2.setRow W.heap.size (spl cur2 (i * 8) (cs24 x)).toArray := ⟨_, rfl⟩
  have hl3 : (spl cur2 (i * 8) (cs24 x)).length = cur2.length := spl_len _ _ _ (by rw [cs24_len]; omega)
  have hg3 : W3.heap[W.heap.size]? = some (.cells (spl cur2 (i * 8) (cs24 x)).toArray 24 (0, 0)) := by rw [hW3]; exact setRow_heap _ _ _ _ 24 _ hg2
  have hgo3 : W3.heap[g]? = some (.cells cur.toArray 24 (0, 0)) := by rw [hW3]; exact (setRow_other _ _ g _ (by omega)).trans hgo2
  have hcp2 : ∀ ty dc sc, (Builtin.copy_ #[22, 22] ty #[.slice (some ⟨W.heap.size, (i + 1) * 8, none⟩) (l.length - i) dc, .slice (some ⟨g, i * 8, none⟩) (l.length - i) sc]).run Try.prog W3.drew = .ok (goInt ((l.length - i : Nat) : Int)) (W3.drew.setRow W.heap.size (spl (spl cur2 (i * 8) (cs24 x)) ((i + 1) * 8) (cl24 (l.drop i))).toArray) := fun ty dc sc => by
    have hm : Nat.min (l.length - i) (l.length - i) = l.length - i := Nat.min_self _
    have := run_copy_rowN (P := Try.prog) W3.drew 22 22 ty 24 8 W.heap.size ((i + 1) * 8) (l.length - i) dc ⟨g, i * 8, none⟩ (l.length - i) sc (spl cur2 (i * 8) (cs24 x)).toArray 24 (cl24 (l.drop i)) Try.underlying22 size24 hg3 (by rw [hm, hdl])
      (fun j v hj => by
        have hj2 : cur[i * 8 + j]? = some v := by
          rw [← cl24_drop, ← ht, List.getElem?_drop, List.getElem?_take] at hj
          split at hj
          · exact hj
          · cases hj
        rw [Addr.add_lit, World.cell?_drew, cell_of_row W3 g _ cur.toArray 24 (0, 0) hgo3]
        simpa using hj2)
      (by rw [hdl]; simp only [List.size_toArray]; omega) (cl24_one _)
    rw [hm] at this
    exact this
  have hfin : (spl (spl cur2 (i * 8) (cs24 x)) ((i + 1) * 8) (cl24 (l.drop i))).take ((l.length + 1) * 8) = cl24 (l.take i ++ x :: l.drop i) := by
    have := spl_grow cur2 _ (cs24 x) (cl24 (l.drop i)) (i * 8) 8 ((l.length + 1) * 8) hc2t rfl (by rw [hdl]; omega) (by rw [hc2l]; omega)
    rw [show (i + 1) * 8 = i * 8 + 8 by omega, this, cl24_append, cl24_cons]
  have hown : (W3.drew.setRow W.heap.size (spl (spl cur2 (i * 8) (cs24 x)) ((i + 1) * 8) (cl24 (l.drop i))).toArray).ownsRow base 24 8 (.slice (some ⟨W.heap.size, 0, none⟩) (l.length + 1) gc) (l.length + 1) (cl24 (l.take i ++ x :: l.drop i)) := by
    refine ⟨by rw [cl24_len]; simp; omega, .inr ⟨W.heap.size, gc, _, rfl, hbase, setRow_heap _ _ _ _ 24 _ hg3, hgc1, hgc2, ?_, ?_⟩⟩
    · rw [List.size_toArray, spl_len _ _ _ (by rw [hl3, hdl]; omega), hl3, hc2l]
    · simpa using hfin
  have hbel : Below base W (W3.drew.setRow W.heap.size (spl (spl cur2 (i * 8) (cs24 x)) ((i + 1) * 8) (cl24 (l.drop i))).toArray) := by
    rw [hW3, hW2]; exact below_row ((below_row ((Below.refl _ _).drew.alloc hbase _) hbase _).drew) hbase _
  rw [← hW2] at hap
  rw [← hW3] at hcp1
  have HO := Lib.hid hown
  have HB := Lib.hid hbel
  clear hown hbel hfin hl3 hg3 hgo3 hg2 hgo2 hv2 hc2l hc2t hdl htl hcell hv hg ht hcur2 hz0 hz1 hz2 hi0 hgl hvl hgc
  clear hW3 hW2
  have hni : ¬ ((i : Int) = (l.length : Int)) := by omega
  have hci : ¬ (l.length = i) := by omega
  have hgi : ¬ (gc = i) := by omega
  have hgi1 : ¬ (gc = i + 1) := by omega
  go_enter Try.func30, Try.ntmps30
  go_wp2_with (first | (at_builtin; refine Lib.wpList_append_run _ rfl _ _ _ _ rfl _ _ rfl rfl _ _ (hap _) ?_) | (refine wpList_copy_run _ rfl _ _ 22 22 rfl _ _ rfl rfl (hcp1 _ _) ?_))
  clear hap hcp1
  have hw1 : IntKind.i64.wrap ((i : Int) + 1) = (i : Int) + 1 := by rw [IntKind.wrap_i64]; omega
  have hb1 : (0 : Int) ≤ (i : Int) + 1 := by omega
  have htn : ((i : Int) + 1).toNat = i + 1 := by omega
  have hb3 : (i : Int) + 1 ≤ (l.length : Int) + 1 := by omega
  have hb4 : (i : Int) ≤ (l.length : Int) := by omega
  have hb5 : l.length + 1 - (i + 1) = l.length - i := by omega
  go_region_law (refine step_copy_run rfl _ _ 22 22 rfl _ _ (by simp [Act.eval, Act.put]) (by simp [Act.eval, Act.put]) (hcp2 _ _ _) ?_)
  go_wp2_with fail
  go_ret
  exact ⟨_, rfl, HO.out, HB.out⟩
/-- Insert, at every place of every row. -/
theorem ins_any (l : List S24) (x : S24) (i : Nat) (hi : i ≤ l.length) (hn : l.length ≤ 4096) (s : Value) (gv : Nat) (W : World) (base : Nat) (hbase : base ≤ W.heap.size)
    (hv : W.heap[gv]? = some (.cells (cs24 x).toArray 24 (0, 0))) (hs : W.ownsRow base 24 8 s l.length (cl24 l)) (hne : s.ownBlock ≠ some gv) :
    Calls Try.prog 30 #[s, .int .i64 i, .slice (some ⟨gv, 0, none⟩) 1 1] W (InsPost l x i W base) := by
  have hs2 := hs
  obtain ⟨_, ⟨rfl, h0⟩ | ⟨g, cap, cur, rfl, hbg, hg, hnc, hcm, hcs, ht⟩⟩ := hs
  · obtain rfl : l = [] := List.eq_nil_of_length_eq_zero h0
    obtain rfl : i = 0 := by simpa using hi
    exact ins_nil x gv W base hbase hv
  · simp only [maxLen] at hcm
    have hne2 : gv ≠ g := fun e => hne (by simp [Value.ownBlock, e])
    obtain ⟨cur⟩ := cur
    simp only [List.size_toArray] at hcs
    by_cases hil : i = l.length
    · subst hil
      exact ins_end l x hn g cap gv W base hbase hnc hcm hv hs2
    · by_cases hcl : cap = l.length
      · subst hcl
        exact ins_grow l x i (by omega) hn g gv W base hbase cur hv hg ht
      · exact ins_room l x i (by omega) hn g cap gv W base hbg (by omega) hcm hne2 cur hv hg hcs ht
end Go.Proofs.Ytaemdkbfdpjimaa.W
