/-
Room of the package budgets, by a walk: a loop over what stands, in it a range over the iterator of used. Condition: the rows are read.
-/
import Derived.Test.YtaemdkbfdpjimaaWd0
import Derived.Test.YtaemdkbfdpjimaaWc
import Derived.Test.YtaemdkbfdpjimaaWu
import Derived.Test.YtaemdkbfdpjimaaU
import Derived.Test.YtaemdkbfdpjimaaP4
import Derived.Test.YtaemdkbfdpjimaaP0
namespace Go.Proofs.Ytaemdkbfdpjimaa.W
open Go.RowKit Go.Proofs.YtaemdkbfdpjimaaW.PrintWords Go.Proofs.YtaemdkbfdpjimaaW.PrintLast Go.Proofs.YtaemdkbfdpjimaaW.PrintMore Go.Proofs.Ytaemdkbfdpjimaa.P
open S (usedF betweenF checkF usesF standingF roomF firstF overF manyF sumF)
set_option linter.unusedVariables false
attribute [local go_sem] Oper.semAt_some
namespace Rm
theorem used_in (n : Nat) (b : S24) (A : Option Addr) (m c : Nat) (at_ known : Int) (w : World) :
    CallsIn Fence.wide n Try.prog 39 #[.agg #[.int .i64 b.f0, .int .i64 b.f1, .int .i64 b.f2, .int .i64 b.f3, .int .i64 b.f4, .int .i64 b.f5, .int .i64 b.f6, .bool b.f7], .slice A m c, .int .i64 at_, .int .i64 known] w fun e w' =>
      e = .returned (.func (.func 48) #[] #[.pointer (some ⟨w.heap.size + 1, 0, none⟩), .pointer (some ⟨w.heap.size + 3, 0, none⟩), .pointer (some ⟨w.heap.size, 0, none⟩), .pointer (some ⟨w.heap.size + 2, 0, none⟩)]) ∧
      Below w.heap.size w w' ∧ Boxes w' w.heap.size (w.heap.size + 1) (w.heap.size + 2) (w.heap.size + 3) b A m c at_ known := by
  refine callsIn_of_wp Try.func39 rfl trivial ?_ rfl
  simp only [Try.ntmps39, List.size_toArray, List.length_cons, List.length_nil, Nat.reduceAdd, Nat.reduceSub, Array.replicate_succ, Array.replicate_zero, List.push_toArray, List.append_toArray, List.nil_append, List.cons_append]
  gi_wp2
  go_ret
  refine ⟨rfl, ?_, ⟨?_, ?_, ?_, ?_⟩⟩
  · repeat (first | exact Below.refl _ _ | refine Below.setCell ?_ (by simp <;> omega) _ | refine Below.alloc ?_ (by simp <;> omega) _ | refine below_drew ?_)
  all_goals (show ((((w.heap.push _).push _).push _).push _)[_]? = _; simp only [Array.getElem?_push, Array.size_push]; repeat (first | rfl | rw [if_pos trivial] | rw [if_pos (by omega)] | rw [if_neg (by omega)]))
def Post (r : Int × Bool × Int) (w : World) (e : Ending) (w' : World) : Prop := e = .returned (.tuple #[.int .i64 r.1, .bool r.2.1, .int .i64 r.2.2]) ∧ Below w.heap.size w w'
theorem row_of_R {W : World} {base : Nat} {ok : Nat → Prop} {v : Value} {l : List S24} (h : Kd.R k24 24 W base ok v l) (hn : l.length ≤ 4096) : ∃ A c, v = .slice A l.length c ∧ l.length ≤ c ∧ Kd.C k24 W A l.length l := by
  obtain ⟨A, c, e⟩ := Kd.R_slice h
  subst e
  exact ⟨A, c, rfl, (Kd.R_reads' h).2.1, (Kd.R_reads' h).2.2⟩
theorem room_e1 {l : List S24} {u : List S49} {kind value at_ known : Int} (h : checkF l ≠ 0) : roomF l u kind value at_ known = (0, false, checkF l) := by unfold roomF; rw [if_pos h]
theorem room_e2 {l : List S24} {u : List S49} {kind value at_ known : Int} (h : checkF l = 0) (hu : 4096 < u.length) : roomF l u kind value at_ known = (0, false, 2) := by unfold roomF; rw [if_neg (by simp [h]), if_pos hu]
theorem room_e3 {l : List S24} {u : List S49} {kind value at_ known : Int} (h : checkF l = 0) (hu : u.length ≤ 4096) (hs : usesF [] u = false) : roomF l u kind value at_ known = (0, false, 180) := by
  unfold roomF; rw [if_neg (by simp [h]), if_neg (by omega), if_pos hs]
theorem room_e4 {l : List S24} {u : List S49} {kind value at_ known : Int} (h : checkF l = 0) (hu : u.length ≤ 4096) (hs : usesF [] u = true) (hb : betweenF 0 15 [kind] = false ∨ betweenF 0 1099511627776 [value] = false ∨ betweenF 0 1099511627775 [at_, known] = false) : roomF l u kind value at_ known = (0, false, 1) := by
  unfold roomF; rw [if_neg (by simp [h]), if_neg (by omega), if_neg (by simp [hs]), if_pos hb]
theorem room_ok {l : List S24} {u : List S49} {kind value at_ known : Int} (h : checkF l = 0) (hu : u.length ≤ 4096) (hs : usesF [] u = true) (h1 : betweenF 0 15 [kind] = true) (h2 : betweenF 0 1099511627776 [value] = true) (h3 : betweenF 0 1099511627775 [at_, known] = true) : roomF l u kind value at_ known = firstF (standingF l kind at_ known) u value at_ known := by
  unfold roomF; rw [if_neg (by simp [h]), if_neg (by omega), if_neg (by simp [hs]), if_neg (by simp [h1, h2, h3])]
/-- the marks of the rounds' deferred calls -/
def mark (D : Nat) : Deferred := { target := .collected D, args := #[] }
def Marks (B : Nat) (ds : List Deferred) (W : World) : Prop := ∃ Ds : List Nat, ds = Ds.map mark ∧ Ds.Nodup ∧ ∀ D ∈ Ds, B ≤ D ∧ W.heap[D]? = some (.deferred (some []))
theorem Marks.lt {B : Nat} {ds : List Deferred} {W : World} (h : Marks B ds W) : ∃ Ds : List Nat, ds = Ds.map mark ∧ Ds.Nodup ∧ ∀ D ∈ Ds, B ≤ D ∧ D < W.heap.size ∧ W.heap[D]? = some (.deferred (some [])) := by
  obtain ⟨Ds, h1, h2, h3⟩ := h
  exact ⟨Ds, h1, h2, fun D hD => ⟨(h3 D hD).1, (Array.getElem?_eq_some_iff.1 (h3 D hD).2).1, (h3 D hD).2⟩⟩
theorem Marks.keep {B : Nat} {ds : List Deferred} {W W' : World} (h : Marks B ds W) (hk : ∀ D, D < W.heap.size → W.heap[D]? = some (.deferred (some [])) → W'.heap[D]? = W.heap[D]?) : Marks B ds W' := by
  obtain ⟨Ds, h1, h2, h3⟩ := h.lt
  exact ⟨Ds, h1, h2, fun D hD => ⟨(h3 D hD).1, (hk D (h3 D hD).2.1 (h3 D hD).2.2).trans (h3 D hD).2.2⟩⟩
theorem marks_cons {B D : Nat} {ds : List Deferred} {W W' : World} (h : Marks B ds W) (hk : ∀ q, q < W.heap.size → W'.heap[q]? = W.heap[q]?) (hD : W.heap.size ≤ D) (hB : B ≤ W.heap.size) (hd : W'.heap[D]? = some (.deferred (some []))) : Marks B (mark D :: ds) W' := by
  obtain ⟨Ds, rfl, h2, h3⟩ := h.lt
  refine ⟨D :: Ds, rfl, List.nodup_cons.2 ⟨fun hm => by have := (h3 D hm).2.1; omega, h2⟩, fun E hE => ?_⟩
  rcases List.mem_cons.1 hE with rfl | hE
  · exact ⟨by omega, hd⟩
  · exact ⟨(h3 E hE).1, (hk E (h3 E hE).2.1).trans (h3 E hE).2.2⟩
theorem leaves_marks {F : Fence} {n : Nat} {P : Program} {fn : Func} {tmps : Array Value} {R : Ending → World → Prop} {B : Nat} {w : World} : ∀ (Ds : List Nat) (W : World), Ds.Nodup → (∀ D ∈ Ds, B ≤ D ∧ W.heap[D]? = some (.deferred (some []))) → B ≤ W.heap.size → Below B w W →
    (∀ W', Below B w W' → LeavesInM F n P fn tmps R [] .returning W') → LeavesInM F n P fn tmps R (Ds.map mark) .returning W
  | [], W, _, _, _, hb, h => h W hb
  | D :: Ds, W, hn, hD, hB, hb, h => by
    obtain ⟨h1, h2⟩ := hD D (by simp)
    have hg := grownBy_putObj' W D (.deferred none)
    refine ⟨by simp, .inl ⟨D, _, rfl, run_takeDeferred h2, ?_⟩⟩
    refine leaves_marks Ds _ (List.nodup_cons.1 hn).2 (fun E hE => ⟨(hD E (by simp [hE])).1, ?_⟩) (Nat.le_trans hB hg.size) (hb.grown hg hB (fun k e => by cases e; exact h1)) h
    have hne : E ≠ D := fun e => (List.nodup_cons.1 hn).1 (e ▸ hE)
    exact (World.putObj_heap_other hne).trans (hD E (by simp [hE])).2
theorem leaves_of {F : Fence} {n : Nat} {P : Program} {fn : Func} {tmps : Array Value} {R : Ending → World → Prop} {B : Nat} {w : World} {ds : List Deferred} {W : World} (hm : Marks B ds W) (hB : B ≤ W.heap.size) (hb : Below B w W) (h : ∀ W', Below B w W' → LeavesInM F n P fn tmps R [] .returning W') : LeavesInM F n P fn tmps R ds .returning W := by
  obtain ⟨Ds, rfl, h2, h3⟩ := hm
  exact leaves_marks Ds W h2 h3 hB hb h
/-- what stands between two rounds of the loop -/
def J (w6 : World) (s : List S24) (u : List S49) (value at_ known : Int) (k : Nat) (ds : List Deferred) (W : World) : Prop :=
  firstF s u value at_ known = firstF (s.drop k) u value at_ known ∧ Below w6.heap.size w6 W ∧ Marks w6.heap.size ds W
def Inv (w6 : World) (s : List S24) (u : List S49) (value at_ known kind : Int) (A A6 B : Option Addr) (l : List S24) (c c6 d : Nat) (a : Act) (W : World) : Prop :=
  ∃ (k : Nat) (ds : List Deferred) (u55 u15 u17 u18 u19 u20 u21 u22 u23 u24 u26 u27 u28 u29 u30 u31 u32 u33 u34 u35 u36 u37 u38 u39 u40 u41 u42 u43 u44 u45 u46 u47 u48 u56 u57 u58 u59 u60 u61 u62 u63 u64 u65 u66 u67 u68 u69 u70 u71 u72 u73 u74 u75 u76 u77 u78 u79 u80 u81 u82 u83 : Value), k ≤ s.length ∧ u55 = .int .i64 (k : Int) ∧ J w6 s u value at_ known k ds W ∧ a = { tmps := #[(.slice A l.length c), (.slice B u.length d), (.int .i64 kind), (.int .i64 value), (.int .i64 at_), (.int .i64 known), undef, undef, undef, undef, undef, undef, (.int .i64 0), (.bool false), (.int .i64 0), u15, undef, u17, u18, u19, u20, u21, u22, u23, u24, undef, u26, u27, u28, u29, u30, u31, u32, u33, u34, u35, u36, u37, u38, u39, u40, u41, u42, u43, u44, u45, u46, u47, u48, (.slice A l.length c), (.int .i64 kind), (.int .i64 at_), (.int .i64 known), (.slice A6 s.length c6), (.int .i64 s.length), (u55), u56, u57, u58, u59, u60, u61, u62, u63, u64, u65, u66, u67, u68, u69, u70, u71, u72, u73, u74, u75, u76, u77, u78, u79, u80, u81, u82, u83], defers := ds }
/-- what stands between two rounds of the inner loop -/
def I {u : List S49} (w6 W1 : World) (bm bs : Nat) (value : Int) (pre : List (Us u)) (W : World) : Prop :=
  Boxed W bm 3 (.int .i64 (1 + (pre.length : Int))) ∧ Boxed W bs 3 (.int .i64 (value + (pre.map (fun x => x.1.f2)).sum)) ∧ (∀ k, k < W1.heap.size → k ≠ bm → k ≠ bs → W.heap[k]? = W1.heap[k]?) ∧ W1.heap.size ≤ W.heap.size ∧ Below w6.heap.size w6 W
theorem I_own {u : List S49} (w6 W1 : World) (bm bs : Nat) (value : Int) (h6 : w6.heap.size ≤ W1.heap.size) : OwnFrom W1.heap.size (I (u := u) w6 W1 bm bs value) := by
  rintro pre W W' row ⟨h1, h2, h3, h4, h5⟩ hg hr
  have hlt : ∀ k, row = some k → W1.heap.size ≤ k := fun k e => (hr k e).1
  have hnc : ∀ (B : Nat) (cs : Array Value) (t : TypeId) (f : Nat × Nat), W.heap[B]? = some (.cells cs t f) → row ≠ some B := by
    rintro B cs t f hB e
    obtain ⟨_, o, ho, hc⟩ := hr B e
    rw [hB] at ho
    cases ho
    cases hc
  refine ⟨h1.kept hg (hnc _ _ _ _ h1).symm, h2.kept hg (hnc _ _ _ _ h2).symm, fun k hk hk1 hk2 => ?_, Nat.le_trans h4 hg.size, h5.grown hg h5.size (fun k e => by have := hlt k e; omega)⟩
  exact (hg.block k (Nat.lt_of_lt_of_le hk h4) (fun e => by have := hlt _ e.symm; omega)).trans (h3 k hk hk1 hk2)
theorem sum_bound {u : List S49} (hu : ∀ x ∈ u, 0 ≤ x.f2 ∧ x.f2 ≤ 1099511627776) : ∀ (pre : List (Us u)), 0 ≤ (pre.map (fun x => x.1.f2)).sum ∧ (pre.map (fun x => x.1.f2)).sum ≤ 1099511627776 * (pre.length : Int)
  | [] => by simp
  | x :: pre => by
    have h := sum_bound hu pre
    have hx := hu x.1 x.2
    simp only [List.map_cons, List.sum_cons, List.length_cons]
    omega
theorem uses_val : ∀ (u : List S49) (met : List Int), usesF met u = true → ∀ x ∈ u, 0 ≤ x.f2 ∧ x.f2 ≤ 1099511627776
  | [], _, _ => fun x hx => by cases hx
  | y :: u, met, h => by
    simp only [usesF, Bool.and_eq_true] at h
    intro x hx
    rcases List.mem_cons.1 hx with rfl | hx
    · have := h.1.2
      unfold S.useF betweenF S.outB at this
      simp at this
      omega
    · exact uses_val u _ h.2 x hx
theorem right_period {b : S24} (h : S.rightF b = true) : 1 ≤ b.f4 := by
  unfold S.rightF betweenF S.outB at h
  simp at h
  omega
theorem many_eq {u : List S49} {b : S24} {at_ known : Int} {xs : List (Us u)} (h : xs = u.attach.filter fun x => usedF b at_ known x.1) : 1 + (xs.length : Int) = manyF b u at_ known := by
  unfold manyF
  rw [← upto_out, h, List.length_map]
theorem sum_eq {u : List S49} {b : S24} {value at_ known : Int} {xs : List (Us u)} (h : xs = u.attach.filter fun x => usedF b at_ known x.1) : value + (xs.map (fun x => x.1.f2)).sum = sumF b u value at_ known := by
  unfold sumF
  rw [← upto_out, h, List.map_map]
  rfl
theorem first_next {s : List S24} {u : List S49} {value at_ known : Int} {k : Nat} {b : S24} {r : Int × Bool × Int} (hd : s.drop k = b :: s.drop (k + 1)) (hj : r = firstF (s.drop k) u value at_ known) :
    (overF b u value at_ known = true → r = (b.f0, false, 0)) ∧ (overF b u value at_ known = false → r = firstF (s.drop (k + 1)) u value at_ known) := by
  rw [hj, hd]
  unfold firstF
  rw [List.find?_cons]
  refine ⟨fun h => ?_, fun h => ?_⟩
  · rw [h]
  · rw [h]
set_option maxHeartbeats 8000000 in
set_option maxRecDepth 100000 in
theorem room_in (n : Nat) (hn5 : 5 ≤ n) (A : Option Addr) (c : Nat) (l : List S24) (B : Option Addr) (d : Nat) (u : List S49) (kind value at_ known : Int) (w : World) (hr : Kd.C k24 w A l.length l) (hc : l.length ≤ c) (hru : Kd.C k49 w B u.length u) (hcu : u.length ≤ d) :
    CallsIn Fence.wide n Try.prog 19 #[.slice A l.length c, .slice B u.length d, .int .i64 kind, .int .i64 value, .int .i64 at_, .int .i64 known] w (Post (roomF l u kind value at_ known) w) := by
  have hck := U.check_f l (l.length + 2) (by omega)
  obtain ⟨ck, hckr⟩ : ∃ ck, checkF l = ck := ⟨_, rfl⟩
  rw [hckr] at hck
  have HR := pk hr
  have HU := pk hru
  have Hck := pk hck
  have Hckr := pk hckr
  have Hc := pk hc
  have Hcu := pk hcu
  clear hr hc hru hcu hck hckr
  have hum := HU.out.2.1
  refine callsIn_of_wp_marks Try.func19 rfl trivial ?_ rfl
  simp only [Try.ntmps19, List.size_toArray, List.length_cons, List.length_nil, Nat.reduceAdd, Nat.reduceSub, Array.replicate_succ, Array.replicate_zero, List.push_toArray, List.append_toArray, List.nil_append, List.cons_append]
  gi_wp2_with fail
  refine ⟨trivial, fun h => (by cases h), (callsIn_wide.2 (budgets_Check.calls _ A c l ck _ HR.out Hc.out Hck.out)).mono ?_⟩
  rintro e w1 ⟨rfl, hb1⟩
  have Hb1 := pk hb1
  clear hb1
  by_cases h0 : ck = 0
  · subst h0
    by_cases hu : u.length ≤ 4096
    · gi_wp2_with fail
      refine ⟨trivial, fun h => (by cases h), (callsIn_wide.2 (uses_hook B d u _ (Kd.C_below HU.out Hb1.out) hu)).mono ?_⟩
      rintro e w2 ⟨rfl, hb2⟩
      have Hb2 := pk (Hb1.out.trans (hb2.mono Hb1.out.size))
      clear hb2
      generalize hus : usesF [] u = us
      replace hus := pk hus
      cases us with
      | false =>
        gi_wp2_with fail
        exact ⟨.tuple #[.int .i64 0, .bool false, .int .i64 180], by simp [results, Try.results19, go_sem], by rw [room_e3 Hckr.out hu hus.out]; exact ⟨rfl, Hb2.out⟩⟩
      | true =>
        generalize h1 : betweenF 0 15 [kind] = b1
        replace h1 := pk h1
        generalize h2 : betweenF 0 1099511627776 [value] = b2
        replace h2 := pk h2
        generalize h3 : betweenF 0 1099511627775 [at_, known] = b3
        replace h3 := pk h3
        gi_wp2_with fail
        refine ⟨trivial, fun h => (by cases h), (callsIn_wide.2 (Us.btw1 0 15 kind b1 h1.out _ _ (by simp))).mono ?_⟩
        rintro e w3 ⟨rfl, hb3⟩
        have Hb3 := pk (Hb2.out.trans (hb3.mono Hb2.out.size))
        clear hb3
        cases b1 with
        | false =>
          gi_wp2_with fail
          repeat (first | (refine ⟨trivial, ?_⟩; gi_wp2_with fail) | (refine ⟨fun _ _ => trivial, ?_⟩; gi_wp2_with fail))
          exact ⟨.tuple #[.int .i64 0, .bool false, .int .i64 1], by simp [results, Try.results19, go_sem], by rw [room_e4 Hckr.out hu hus.out (.inl h1.out)]; exact ⟨rfl, Hb3.out⟩⟩
        | true =>
          gi_wp2_with fail
          refine ⟨trivial, fun h => (by cases h), (callsIn_wide.2 (Us.btw1 0 1099511627776 value b2 h2.out _ _ (by simp))).mono ?_⟩
          rintro e w4 ⟨rfl, hb4⟩
          have Hb4 := pk (Hb3.out.trans (hb4.mono Hb3.out.size))
          clear hb4
          cases b2 with
          | false =>
            gi_wp2_with fail
            repeat (first | (refine ⟨trivial, ?_⟩; gi_wp2_with fail) | (refine ⟨fun _ _ => trivial, ?_⟩; gi_wp2_with fail))
            exact ⟨.tuple #[.int .i64 0, .bool false, .int .i64 1], by simp [results, Try.results19, go_sem], by rw [room_e4 Hckr.out hu hus.out (.inr (.inl h2.out))]; exact ⟨rfl, Hb4.out⟩⟩
          | true =>
            gi_wp2_with fail
            refine ⟨trivial, fun h => (by cases h), (callsIn_wide.2 (Us.btw2 0 1099511627775 at_ known b3 h3.out _ _ (by simp))).mono ?_⟩
            rintro e w5 ⟨rfl, hb5⟩
            have Hb5 := pk (Hb4.out.trans (hb5.mono Hb4.out.size))
            clear hb5
            cases b3 with
            | false =>
              gi_wp2_with fail
              repeat (first | (refine ⟨trivial, ?_⟩; gi_wp2_with fail) | (refine ⟨fun _ _ => trivial, ?_⟩; gi_wp2_with fail))
              exact ⟨.tuple #[.int .i64 0, .bool false, .int .i64 1], by simp [results, Try.results19, go_sem], by rw [room_e4 Hckr.out hu hus.out (.inr (.inr h3.out))]; exact ⟨rfl, Hb5.out⟩⟩
            | true =>
              obtain ⟨hln, _, hright⟩ := U.check_ok Hckr.out
              replace hright := pk hright
              gi_wp2_with fail
              refine ⟨trivial, fun h => (by cases h), (callsIn_wide.2 (standing_hook A c l kind at_ known _ (Kd.C_below HR.out Hb5.out) hln)).mono ?_⟩
              rintro e w6 ⟨v6, rfl, hR6, hb6⟩
              obtain ⟨s, hs⟩ : ∃ s, standingF l kind at_ known = s := ⟨_, rfl⟩
              rw [hs] at hR6
              have hsl : s.length ≤ 4096 := by rw [← hs]; exact Nat.le_trans (List.length_filter_le _ _) hln
              have hsr : ∀ b ∈ s, S.rightF b = true := by
                intro b hb
                rw [← hs] at hb
                exact hright.out b (List.mem_filter.1 hb).1
              obtain ⟨A6, c6, rfl, hc6, hr6⟩ := row_of_R hR6 hsl
              have Hb6 := pk (Hb5.out.trans (hb6.mono Hb5.out.size))
              have Hr6 := pk hr6
              have Hc6 := pk hc6
              have Hsr := pk hsr
              have Hroom := pk (room_ok Hckr.out hu hus.out h1.out h2.out h3.out)
              rw [hs] at Hroom
              replace hs := pk hs
              clear hb6 hR6 hr6 hc6 hsr
              gi_wp2_with fail
              have h1n : 1 ≤ n := by omega
              have hvb : 0 ≤ value ∧ value ≤ 1099511627776 := by
                have := h2.out
                unfold betweenF S.outB at this
                simp at this
                omega
              obtain ⟨hv0, hv1⟩ := hvb
              have hval := pk (uses_val u [] hus.out)
              have HU6 := pk (Kd.C_below HU.out Hb6.out)
              have hr0 : Pk (roomF l u kind value at_ known = firstF s u value at_ known) := Hroom
              clear Hroom h1 h2 h3 hus hs HR Hck Hckr Hc Hb1 Hb2 Hb3 Hb4 Hb5 hright hln
              refine wpIn_loop (Inv w6 s u value at_ known kind A A6 B l c c6 d) (fun a _ => s.length - (intOf (a.tmps.getD 55 undef)).toNat) ?_ ?_
              · exact ⟨0, [], _, _, _, _, _, _, _, _, _, _, _, _, _, _, _, _, _, _, _, _, _, _, _, _, _, _, _, _, _, _, _, _, _, _, _, _, _, _, _, _, _, _, _, _, _, _, _, _, _, _, _, _, _, _, _, _, _, _, _, _, _, Nat.zero_le _, rfl, ⟨by simp, Below.refl _ _, [], rfl, List.nodup_nil, fun D hD => by cases hD⟩, rfl⟩
              rintro a wr ⟨k, ds, u55, u15, u17, u18, u19, u20, u21, u22, u23, u24, u26, u27, u28, u29, u30, u31, u32, u33, u34, u35, u36, u37, u38, u39, u40, u41, u42, u43, u44, u45, u46, u47, u48, u56, u57, u58, u59, u60, u61, u62, u63, u64, u65, u66, u67, u68, u69, u70, u71, u72, u73, u74, u75, u76, u77, u78, u79, u80, u81, u82, u83, hk, rfl, hJ, rfl⟩
              obtain ⟨hJ1, hJ2, hJ3⟩ := hJ
              have HJ1 := pk hJ1
              have HJ2 := pk hJ2
              have HJ3 := pk hJ3
              have hw6 : w6.heap.size ≤ wr.heap.size := hJ2.size
              clear hJ1 hJ2 hJ3
              dsimp only
              by_cases hlt : k < s.length
              · obtain ⟨ad, hA, hcells⟩ := at_24 (Kd.C_below Hr6.out HJ2.out) k hlt
                generalize hb : s.getD k z24 = b at hcells
                have hget : s[k] = b := by rw [← hb, List.getD_eq_getElem?_getD, List.getElem?_eq_getElem hlt]; rfl
                have hdr : s.drop k = b :: s.drop (k + 1) := by rw [List.drop_eq_getElem_cons hlt, hget]
                have hp4 : 1 ≤ b.f4 := right_period (Hsr.out b (by rw [← hget]; exact List.getElem_mem hlt))
                have Hnext := pk (first_next hdr HJ1.out)
                clear hb hget hdr
                subst hA
                gi_wp2_with fail
                refine ⟨trivial, (used_in _ b B u.length d at_ known _).mono ?_⟩
                rintro e W1 ⟨rfl, hb1, hB1⟩
                simp only [World.size_alloc] at hB1
                have hB1' : Below wr.heap.size wr W1 := (((((Below.refl _ wr).alloc (Nat.le_refl _) _).alloc (by simp) _).alloc (by simp; omega) _).trans (hb1.mono (by simp; omega)))
                have hX1 : W1.heap[wr.heap.size]? = some (.cells #[.int .i64 b.f0, .int .i64 b.f1, .int .i64 b.f2, .int .i64 b.f3, .int .i64 b.f4, .int .i64 b.f5, .int .i64 b.f6, .bool b.f7] 24 (0, 0)) := by
                  refine (hb1.block _ (by simp <;> omega)).trans ?_
                  show (((wr.heap.push _).push _).push _)[_]? = _
                  simp only [Array.getElem?_push, Array.size_push]
                  repeat (first | rfl | rw [if_pos trivial] | rw [if_pos (by omega)] | rw [if_neg (by omega)])
                have hM1 : Boxed W1 (wr.heap.size + 1) 3 (.int .i64 1) := by
                  refine (hb1.block _ (by simp <;> omega)).trans ?_
                  show (((wr.heap.push _).push _).push _)[_]? = _
                  simp only [Array.getElem?_push, Array.size_push]
                  repeat (first | rfl | rw [if_pos trivial] | rw [if_pos (by omega)] | rw [if_neg (by omega)])
                have hS1 : Boxed W1 (wr.heap.size + 1 + 1) 3 (.int .i64 value) := by
                  refine (hb1.block _ (by simp <;> omega)).trans ?_
                  show (((wr.heap.push _).push _).push _)[_]? = _
                  simp only [Array.getElem?_push, Array.size_push]
                  repeat (first | rfl | rw [if_pos trivial] | rw [if_pos (by omega)] | rw [if_neg (by omega)])
                have hU1 : Kd.C k49 W1 B u.length u := Kd.C_below (Kd.C_below HU6.out HJ2.out) hB1'
                have hsz1 : wr.heap.size + 1 + 1 < W1.heap.size := hS1.lt
                have h61 : Below w6.heap.size w6 W1 := HJ2.out.trans (hB1'.mono hw6)
                have hKlt : ∀ q, InK (wr.heap.size + 1 + 1 + 1) (wr.heap.size + 1 + 1 + 1 + 1) (wr.heap.size + 1 + 1 + 1 + 2) (wr.heap.size + 1 + 1 + 1 + 3) B u.length q → q < W1.heap.size := ink_lt hB1 hU1
                have hKne : ∀ q, InK (wr.heap.size + 1 + 1 + 1) (wr.heap.size + 1 + 1 + 1 + 1) (wr.heap.size + 1 + 1 + 1 + 2) (wr.heap.size + 1 + 1 + 1 + 3) B u.length q → q ≠ wr.heap.size + 1 ∧ q ≠ wr.heap.size + 1 + 1 := by
                  rintro q (rfl | rfl | rfl | rfl | ⟨ad, rfl, hl, rfl⟩)
                  iterate 4 omega
                  have := row_lt HU6.out hl
                  omega
                have hstops := iter_stops (n - 1) _ _ _ _ b B d u at_ known W1 hB1 hU1 hum hp4
                gi_wp2_with fail
                refine wpIn_rangeFunc_ownH rfl h1n (gf := 48) (lb := #[.pointer (some ⟨wr.heap.size + 1 + 1 + 1 + 1, 0, none⟩), .pointer (some ⟨wr.heap.size + 1 + 1 + 1 + 3, 0, none⟩), .pointer (some ⟨wr.heap.size + 1 + 1 + 1, 0, none⟩), .pointer (some ⟨wr.heap.size + 1 + 1 + 1 + 2, 0, none⟩)]) rfl trivial (enters_of Try.func48 (by kernel_rfl) rfl)
                  hstops keepK_t (keepK_b hKlt) (Below.refl _ _) (fun _ => rfl) (I w6 W1 (wr.heap.size + 1) (wr.heap.size + 1 + 1) value) (fun _ _ _ => False)
                  (I_own w6 W1 _ _ value h61.size) (fun _ _ _ _ _ h _ _ => h) ?h0
                  (fun x a' _ => a' = { tmps := #[(.slice A l.length c), (.slice B u.length d), (.int .i64 kind), (.int .i64 value), (.int .i64 at_), (.int .i64 known), undef, undef, undef, undef, undef, undef, (.int .i64 0), (.bool false), (.int .i64 0), u15, undef, (.pointer (some ⟨wr.heap.size, 0, none⟩)), (.pointer (some ⟨wr.heap.size + 1, 0, none⟩)), (.pointer (some ⟨wr.heap.size + 1 + 1, 0, none⟩)), (.int .i64 x.1.f2), u21, u22, u23, u24, undef, u26, u27, u28, u29, u30, u31, u32, u33, u34, u35, u36, u37, u38, u39, u40, u41, u42, u43, u44, u45, u46, u47, u48, (.slice A l.length c), (.int .i64 kind), (.int .i64 at_), (.int .i64 known), (.slice (some ad) s.length c6), (.int .i64 s.length), (.int .i64 k), (.bool true), (.pointer (some (ad.add (k * 8)))), (.agg #[.int .i64 b.f0, .int .i64 b.f1, .int .i64 b.f2, .int .i64 b.f3, .int .i64 b.f4, .int .i64 b.f5, .int .i64 b.f6, .bool b.f7]), (.int .i64 value), (.agg #[.int .i64 b.f0, .int .i64 b.f1, .int .i64 b.f2, .int .i64 b.f3, .int .i64 b.f4, .int .i64 b.f5, .int .i64 b.f6, .bool b.f7]), (.slice B u.length d), (.int .i64 at_), (.int .i64 known), (.func (.func 48) #[] #[.pointer (some ⟨wr.heap.size + 1 + 1 + 1 + 1, 0, none⟩), .pointer (some ⟨wr.heap.size + 1 + 1 + 1 + 3, 0, none⟩), .pointer (some ⟨wr.heap.size + 1 + 1 + 1, 0, none⟩), .pointer (some ⟨wr.heap.size + 1 + 1 + 1 + 2, 0, none⟩)]), (.int .i64 x.1.f2), u66, u67, u68, u69, u70, u71, u72, u73, u74, u75, u76, u77, u78, u79, u80, u81, u82, u83], defers := [] })
                  (fun _ _ _ _ _ _ h _ _ => h)
                  ?assign ?body ?done ?stop
                case h0 => exact ⟨hM1, by simpa using hS1, fun _ _ _ _ => rfl, Nat.le_refl _, h61⟩
                case assign =>
                  intro ly pre x W K hI hK
                  simp only [enc]
                  gi_wp2_with fail
                  exact hK _ _ ((KeepsOthers.refl W).from _) (Keep.refl _ W) hI rfl
                case body =>
                  rintro ly pre x a' W' hl ⟨r, hr'⟩ ⟨hbm, hbs, hsame, hsz, hb6⟩ rfl hlen
                  have hx := hval.out x.1 x.2
                  obtain ⟨hx0, hx1⟩ := hx
                  have hsb := sum_bound hval.out pre
                  have hsum : value + ((pre ++ [x]).map (fun x => x.1.f2)).sum = value + (pre.map (fun x => x.1.f2)).sum + x.1.f2 := by simp [Int.add_assoc]
                  have hlen2 : 1 + ((pre ++ [x]).length : Int) = 1 + (pre.length : Int) + 1 := by simp; omega
                  generalize hS : value + (pre.map (fun x => x.1.f2)).sum = S at hbs hsum
                  have hS0 : 0 ≤ S := by omega
                  have hS1' : S ≤ 4504699138998272 := by omega
                  generalize hM : 1 + (pre.length : Int) = M at hbm hlen2
                  have hM0 : 1 ≤ M := by omega
                  have hM1' : M ≤ 4097 := by omega
                  have hc1 := hbm.cell
                  have hf1 := hbm.frozen
                  have hc2 := hbs.cell
                  have hf2 := hbs.frozen
                  have Hbm := pk hbm
                  have Hbs := pk hbs
                  have Hsum := pk hsum
                  have Hlen2 := pk hlen2
                  have Hsame := pk hsame
                  have Hb6' := pk hb6
                  have hKne' := pk hKne
                  have hKlt' := pk hKlt
                  clear hbm hbs hsum hlen2 hsame hb6 hsb hlen hS hM hKne hKlt hr' hstops hX1 hM1 hS1 hU1 h61 hB1 hB1' hb1
                  gi_wp2_with fail
                  have hmm : ∀ (v v' : Value) q, q ≠ wr.heap.size + 1 → q ≠ wr.heap.size + 1 + 1 → ((W'.setCell ⟨wr.heap.size + 1, 0, none⟩ v).setCell ⟨wr.heap.size + 1 + 1, 0, none⟩ v').heap[q]? = W'.heap[q]? := fun v v' q h1 h2 =>
                    (Below.heap_setCell _ _ _ q (by simpa using h2)).trans (Below.heap_setCell _ _ _ q (by simpa using h1))
                  refine ⟨((KeepsOthers.setCell _ _ _).trans (KeepsOthers.setCell _ _ _)).from _, fun q hq => hmm _ _ q (hKne'.out q hq).1 (hKne'.out q hq).2, ?_, ?_, fun q hq h1 h2 => (hmm _ _ q h1 h2).trans (Hsame.out q hq h1 h2), ?_, ?_⟩
                  · rw [Hlen2.out]
                    exact (Hbm.out.set _).other (by omega) _
                  · rw [Hsum.out]
                    exact (Hbs.out.other (by omega) _).set _
                  · rw [World.size_setCell, World.size_setCell]; exact hsz
                  · exact (Hb6'.out.setCell (show w6.heap.size ≤ wr.heap.size + 1 by omega) _).setCell (show w6.heap.size ≤ wr.heap.size + 1 + 1 by omega) _
                case stop => rintro D c pre W _ _ h _; exact h.elim
                case done =>
                  rintro D xs W2 hD hxs ⟨hbm, hbs, hsame, hsz2, hb62⟩ hDel
                  rw [many_eq hxs] at hbm
                  rw [sum_eq hxs] at hbs
                  have hover : overF b u value at_ known = (decide (b.f5 < manyF b u at_ known) || decide (b.f6 < sumF b u value at_ known)) := rfl
                  generalize manyF b u at_ known = M at hbm hover
                  generalize sumF b u value at_ known = S at hbs hover
                  have hc1 := hbm.cell
                  have hc2 := hbs.cell
                  have hcl := fun j => cell_of_row W2 wr.heap.size j _ 24 (0, 0) ((hsame _ (by omega) (by omega) (by omega)).trans hX1)
                  have hy0 : W2.cell? ⟨wr.heap.size, 0, none⟩ = some (.int .i64 b.f0) := hcl 0
                  have hy1 : W2.cell? ⟨wr.heap.size, 1, none⟩ = some (.int .i64 b.f1) := hcl 1
                  have hy2 : W2.cell? ⟨wr.heap.size, 2, none⟩ = some (.int .i64 b.f2) := hcl 2
                  have hy3 : W2.cell? ⟨wr.heap.size, 3, none⟩ = some (.int .i64 b.f3) := hcl 3
                  have hy4 : W2.cell? ⟨wr.heap.size, 4, none⟩ = some (.int .i64 b.f4) := hcl 4
                  have hy5 : W2.cell? ⟨wr.heap.size, 5, none⟩ = some (.int .i64 b.f5) := hcl 5
                  have hy6 : W2.cell? ⟨wr.heap.size, 6, none⟩ = some (.int .i64 b.f6) := hcl 6
                  have hy7 : W2.cell? ⟨wr.heap.size, 7, none⟩ = some (.bool b.f7) := hcl 7
                  have hmk : Marks w6.heap.size (mark D :: ds) W2 := marks_cons HJ3.out (fun q hq => (hsame q (by omega) (by omega) (by omega)).trans (hB1'.block q hq)) (by omega) hw6 hDel
                  have hw62 : w6.heap.size ≤ W2.heap.size := hb62.size
                  have Hmk := pk hmk
                  have Hb62 := pk hb62
                  clear hcl hbm hbs hsame hsz2 hb62 hDel hmk hX1 hM1 hS1 hU1 h61 hKlt hKne hstops hxs hB1 hB1' hb1 hD
                  by_cases h5 : b.f5 < M
                  · have Hov := pk (Hnext.out.1 (by rw [hover]; simp [h5]))
                    clear hover
                    gi_wp2_with fail
                    refine leaves_of Hmk.out hw62 Hb62.out (fun W' hb' => ⟨.tuple #[.int .i64 b.f0, .bool false, .int .i64 0], by simp [results, Try.results19, go_sem], ?_⟩)
                    rw [hr0.out, Hov.out]
                    exact ⟨rfl, Hb6.out.trans (hb'.mono Hb6.out.size)⟩
                  · by_cases h6 : b.f6 < S
                    · have Hov := pk (Hnext.out.1 (by rw [hover]; simp [h6]))
                      clear hover
                      gi_wp2_with fail
                      refine leaves_of Hmk.out hw62 Hb62.out (fun W' hb' => ⟨.tuple #[.int .i64 b.f0, .bool false, .int .i64 0], by simp [results, Try.results19, go_sem], ?_⟩)
                      rw [hr0.out, Hov.out]
                      exact ⟨rfl, Hb6.out.trans (hb'.mono Hb6.out.size)⟩
                    · have Hov := pk (Hnext.out.2 (by rw [hover]; simp [h5, h6]))
                      clear hover
                      gi_wp2_with fail
                      exact ⟨⟨k + 1, mark D :: ds, _, _, _, _, _, _, _, _, _, _, _, _, _, _, _, _, _, _, _, _, _, _, _, _, _, _, _, _, _, _, _, _, _, _, _, _, _, _, _, _, _, _, _, _, _, _, _, _, _, _, _, _, _, _, _, _, _, _, _, _, _, by omega, by go_num, ⟨Hov.out, Hb62.out, Hmk.out⟩, rfl⟩, by simp [intOf]; omega⟩
              · obtain rfl : k = s.length := by omega
                gi_wp2_with fail
                refine leaves_of HJ3.out hw6 HJ2.out (fun W' hb' => ⟨.tuple #[.int .i64 (-1), .bool true, .int .i64 0], by simp [results, Try.results19, go_sem], ?_⟩)
                rw [hr0.out, HJ1.out, List.drop_length]
                exact ⟨rfl, Hb6.out.trans (hb'.mono Hb6.out.size)⟩
    · gi_wp2_with fail
      exact ⟨.tuple #[.int .i64 0, .bool false, .int .i64 2], by simp [results, Try.results19, go_sem], by rw [room_e2 Hckr.out (by omega)]; exact ⟨rfl, Hb1.out⟩⟩
  · have g0 : (ck != 0) = true := by simp [h0]
    gi_wp2_with fail
    exact ⟨.tuple #[.int .i64 0, .bool false, .int .i64 ck], by simp [results, Try.results19, go_sem], by rw [room_e1 (by rw [Hckr.out]; exact h0), Hckr.out]; exact ⟨rfl, Hb1.out⟩⟩
end Rm
theorem room_hook (A0 : Option Addr) (c0 : Nat) (l0 : List S24) (A1 : Option Addr) (c1 : Nat) (l1 : List S49) (a2 a3 a4 a5 : Int) (w : World) (hr0 : Kd.C k24 w A0 l0.length l0) (hc0 : l0.length ≤ c0) (hr1 : Kd.C k49 w A1 l1.length l1) (hc1 : l1.length ≤ c1) :
    Calls Try.prog 19 #[.slice A0 l0.length c0, .slice A1 l1.length c1, .int .i64 a2, .int .i64 a3, .int .i64 a4, .int .i64 a5] w fun e w' => e = .returned (.tuple #[.int .i64 (S.roomF l0 l1 a2 a3 a4 a5).1, .bool (S.roomF l0 l1 a2 a3 a4 a5).2.1, .int .i64 (S.roomF l0 l1 a2 a3 a4 a5).2.2]) ∧ Below w.heap.size w w' :=
  callsIn_wide.1 (Rm.room_in 5 (Nat.le_refl _) A0 c0 l0 A1 c1 l1 a2 a3 a4 a5 w hr0 hc0 hr1 hc1)
end Go.Proofs.Ytaemdkbfdpjimaa.W

-- FOLDED: the printed part of the function that is given by hand
-- Written by drive.py (a session's program over the kit's print). Not trusted: Lean checks it.
namespace Go.Proofs.Ytaemdkbfdpjimaa.P
open Go.RowKit Go.Proofs.YtaemdkbfdpjimaaW.PrintWords Go.Proofs.YtaemdkbfdpjimaaW.PrintLast Go.Proofs.YtaemdkbfdpjimaaW.PrintMore
attribute [local go_sem] max2_int min2_int max_two min_two max_three min_three max_four min_four   -- for this text's walks alone
set_option linter.unusedVariables false
set_option linter.unusedSimpArgs false

/-! ### budgets_Room: function 19 -/
-- HOOK Derived.Test.YtaemdkbfdpjimaaWd
def budgets_Room.f (l0 : List (S24)) (l1 : List (S49)) (a2 : Int) (a3 : Int) (a4 : Int) (a5 : Int) : Option (Int × Bool × Int) := some (S.roomF l0 l1 a2 a3 a4 a5)
theorem budgets_Room.calls (A0 : Option Addr) (c0 : Nat) (l0 : List (S24)) (A1 : Option Addr) (c1 : Nat) (l1 : List (S49)) (a2 : Int) (a3 : Int) (a4 : Int) (a5 : Int) (r1 : Int) (r2 : Bool) (r3 : Int) (w : World) (hr0 : Kd.C k24 w A0 l0.length l0) (hc0 : l0.length ≤ c0) (hr1 : Kd.C k49 w A1 l1.length l1) (hc1 : l1.length ≤ c1) (h : budgets_Room.f l0 l1 a2 a3 a4 a5 = some (r1, r2, r3)) :
    Calls Try.prog 19 #[.slice A0 l0.length c0, .slice A1 l1.length c1, .int .i64 a2, .int .i64 a3, .int .i64 a4, .int .i64 a5] w (fun e w' => e = .returned (.tuple #[.int .i64 r1, .bool r2, .int .i64 r3]) ∧ Below w.heap.size w w') := by
  unfold budgets_Room.f at h
  simp only [Option.some.injEq] at h
  have h0_ := congrArg (fun p_ => p_.1) h
  have h1_ := congrArg (fun p_ => p_.2.1) h
  have h2_ := congrArg (fun p_ => p_.2.2) h
  dsimp only at h0_ h1_ h2_
  subst h0_ h1_ h2_
  exact W.room_hook A0 c0 l0 A1 c1 l1 a2 a3 a4 a5 w hr0 hc0 hr1 hc1
end Go.Proofs.Ytaemdkbfdpjimaa.P
