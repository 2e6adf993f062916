/-
covering of the package deputies, by a walk: counts and covers, and the map of the last ones. Condition: the row is read.
-/
import Derived.Test.YtoenefdjejkncaaIt
import Derived.Test.YtoenefdjejkncaaS
import Derived.Deep.RegionWith
import Derived.Laws.EntriesVeiled
namespace Go.Proofs.Ytoenefdjejkncaa.W
open Go.RowKit Go.Proofs.YtoenefdjejkncaaW.PrintWords Go.Proofs.YtoenefdjejkncaaW.PrintLast Go.Proofs.YtoenefdjejkncaaW.PrintMore Go.Proofs.Ytoenefdjejkncaa.P
open S (countsF sameSubj lastF coversF yieldF coverF)
set_option linter.unusedVariables false
namespace Cv
/-- what a chain is asked for -/
structure Qn where
  o : Int
  k : Int
  v : Int
  a : Int
  n : Int
def qc (q : Qn) : Array Value := #[.int .i64 q.o, .int .i64 q.k, .int .i64 q.v, .int .i64 q.a, .int .i64 q.n]
theorem ret_bool {a b : Bool} (h : a = b) : Ending.returned (.bool a) = .returned (.bool b) := by rw [h]
theorem two_below (w : World) (o o' : Obj) : Below w.heap.size w ((w.alloc o).alloc o') := ((Below.refl _ w).alloc (Nat.le_refl _) _).alloc (by simp) _
theorem counts_any (q : Qn) (x : S24) (b : Bool) (h : countsF q.a q.n x = b) (w : World) : Calls Try.prog 54 #[.agg #[.int .i64 q.o, .int .i64 q.k, .int .i64 q.v, .int .i64 q.a, .int .i64 q.n], .agg #[.int .i64 x.f0, .int .i64 x.f1, .int .i64 x.f2, .int .i64 x.f3, .int .i64 x.f4, .int .i64 x.f5, .int .i64 x.f6, .int .i64 x.f7, .int .i64 x.f8, .bool x.f9]] w fun e w' => e = .returned (.bool b) ∧ Below w.heap.size w w' := by
  subst h
  by_cases h1 : x.f1 ≤ q.a
  · have H1 := pk h1
    go_enter Try.func54, Try.ntmps54
    go_wp2_with fail
    go_ret
    exact ⟨ret_bool (by have := H1.out; simp [countsF, this]), two_below _ _ _⟩
  · have H1 := pk h1
    go_enter Try.func54, Try.ntmps54
    go_wp2_with fail
    go_ret
    exact ⟨ret_bool (by have := H1.out; simp [countsF, this]), two_below _ _ _⟩
set_option maxHeartbeats 1000000 in
theorem covers_any (q : Qn) (x : S24) (b : Bool) (h : coversF q.o q.k q.v q.a x = b) (w : World) : Calls Try.prog 56 #[.agg #[.int .i64 q.o, .int .i64 q.k, .int .i64 q.v, .int .i64 q.a, .int .i64 q.n], .agg #[.int .i64 x.f0, .int .i64 x.f1, .int .i64 x.f2, .int .i64 x.f3, .int .i64 x.f4, .int .i64 x.f5, .int .i64 x.f6, .int .i64 x.f7, .int .i64 x.f8, .bool x.f9]] w fun e w' => e = .returned (.bool b) ∧ Below w.heap.size w w' := by
  subst h
  cases h9 : x.f9 with
  | true =>
    go_enter Try.func56, Try.ntmps56
    go_wp2_with fail
    go_ret
    exact ⟨ret_bool (by simp [coversF, h9]), two_below _ _ _⟩
  | false =>
    by_cases h3 : q.a < x.f3
    · by_cases h6 : x.f6 = q.o
      · have g6 : (x.f6 == q.o) = true := by simp [h6]
        by_cases h7 : x.f7 = -1
        · have g7 : (x.f7 == -1) = true := by simp [h7]
          go_enter Try.func56, Try.ntmps56
          go_wp2_with fail
          go_ret
          exact ⟨ret_bool (by simp [coversF, h9, h3, h6, h7]), two_below _ _ _⟩
        · have g7 : (x.f7 == -1) = false := by simpa using h7
          by_cases h8 : x.f7 = q.k
          · have g8 : (x.f7 == q.k) = true := by simp [h8]
            have H7 := pk h7
            have H8 := pk h8
            clear h7 h8
            go_enter Try.func56, Try.ntmps56
            go_wp2_with fail
            go_ret
            exact ⟨ret_bool (by simp [coversF, h9, h3, h6, H8.out]), two_below _ _ _⟩
          · have g8 : (x.f7 == q.k) = false := by simpa using h8
            go_enter Try.func56, Try.ntmps56
            go_wp2_with fail
            go_ret
            exact ⟨ret_bool (by simp [coversF, h9, h3, h6, h7, h8]), two_below _ _ _⟩
      · have g6 : (x.f6 == q.o) = false := by simpa using h6
        go_enter Try.func56, Try.ntmps56
        go_wp2_with fail
        go_ret
        exact ⟨ret_bool (by simp [coversF, h9, h3, h6]), two_below _ _ _⟩
    · have H3 := pk h3
      go_enter Try.func56, Try.ntmps56
      go_wp2_with fail
      go_ret
      exact ⟨ret_bool (by have := H3.out; simp [coversF, h9, this]), two_below _ _ _⟩
def lastStep (y : S24) (o : Option S24) (x : S24) : Option S24 := if sameSubj x y then (match o with | none => some x | some z => if z.f1 ≤ x.f1 then some x else some z) else o
theorem lastF_fold (y : S24) : ∀ (l : List S24) (o : Option S24), lastF y o l = l.foldl (lastStep y) o
  | [], _ => rfl
  | x :: l, o => lastF_fold y l _
/-- what a delegation is about -/
structure Sb where
  a : Int
  b : Int
  c : Int
  d : Int
deriving instance DecidableEq for Sb
def ek (s : Sb) : Value := .agg #[.int .i64 s.a, .int .i64 s.b, .int .i64 s.c, .int .i64 s.d]
def ev (x : S24) : Value := .agg #[.int .i64 x.f0, .int .i64 x.f1, .int .i64 x.f2, .int .i64 x.f3, .int .i64 x.f4, .int .i64 x.f5, .int .i64 x.f6, .int .i64 x.f7, .int .i64 x.f8, .bool x.f9]
def sbOf (x : S24) : Sb := ⟨x.f4, x.f5, x.f6, x.f7⟩
theorem sb_eq (d : Nat) (w : World) (x0 y0 x1 y1 x2 y2 x3 y3 : Int) :
    (Op.equalIn (d + 2) 83 (.agg #[.int .i64 x0, .int .i64 x1, .int .i64 x2, .int .i64 x3]) (.agg #[.int .i64 y0, .int .i64 y1, .int .i64 y2, .int .i64 y3])).run Try.prog w = .ok (x0 == y0 && (x1 == y1 && (x2 == y2 && (x3 == y3)))) w := by
  refine eqA_of Try.underlying83 (by kernel_rfl) ?_
  refine eqf_cons (by rfl) (by go_simp; rfl) (by go_simp; rfl) (by go_simp) ?_
  refine eqf_cons (by rfl) (by go_simp; rfl) (by go_simp; rfl) (by go_simp) ?_
  refine eqf_cons (by rfl) (by go_simp; rfl) (by go_simp; rfl) (by go_simp) ?_
  exact eqf_last (by rfl) (by go_simp; rfl) (by go_simp; rfl) (by go_simp)
theorem sb_equal (x y : Sb) (w : World) : (Op.equal 83 (ek x) (ek y)).run Try.prog w = .ok (decide (x = y)) w := by
  have h := sb_eq 9998 w x.a y.a x.b y.b x.c y.c x.d y.d
  refine h.trans ?_
  congr 1
  obtain ⟨a, b, c, d⟩ := x
  obtain ⟨a', b', c', d'⟩ := y
  simp only [Sb.mk.injEq]
  by_cases h1 : a = a' <;> by_cases h2 : b = b' <;> by_cases h3 : c = c' <;> by_cases h4 : d = d' <;> simp [h1, h2, h3, h4]
theorem chkSb (em : Bool) (k : Sb) (w : World) : (Instr.checkKey em 10000 83 (ek k)).run Try.prog w = .ok () w := by kernel_rfl
theorem staysSb (k : Sb) (w : World) : (Instr.keyThatStays (ek k) (ek k)).run Try.prog w = .ok (ek k) w := by
  simp [Instr.keyThatStays, Instr.sameBits, ek]
theorem law : MapLaw Try.prog 81 83 24 ek ev (ev z24) :=
  ⟨Try.underlying81, chkSb, find_struct Try.underlying83 sb_equal, staysSb, fun w => by kernel_rfl⟩
theorem count_end {at_ known : Int} {l : List S24} {k : Nat} {x z : S24} {so : Bool} {m : List (Sb × S24)} (hz : (mget m (sbOf x)).getD z24 = z) (hso : (mget m (sbOf x)).isSome = so)
    (hft : (l.take (k + 1)).filter (countsF at_ known) = (l.take k).filter (countsF at_ known) ++ (if countsF at_ known x = true then [x] else [])) (hcx : countsF at_ known x = true)
    (hm2 : ∀ y, mget m (sbOf y) = ((l.take k).filter (countsF at_ known)).foldl (lastStep y) none) (y : S24) :
    ((l.take (k + 1)).filter (countsF at_ known)).foldl (lastStep y) none = mget (if so = false ∨ z.f1 ≤ x.f1 then mput m (sbOf x) x else m) (sbOf y) := by
  rw [hft, if_pos hcx, List.foldl_append, ← hm2 y]
  simp only [List.foldl_cons, List.foldl_nil, lastStep]
  have hss : (sameSubj x y = true) ↔ (sbOf x = sbOf y) := by simp [sameSubj, sbOf, and_assoc]
  by_cases hxy : sbOf x = sbOf y
  · rw [if_pos (hss.2 hxy), ← hxy, ← hso, ← hz]
    cases hm : mget m (sbOf x) with
    | none => simp [mget_put]
    | some u =>
      by_cases hu : u.f1 ≤ x.f1
      · simp [hu, mget_put]
      · simp [hu, hm]
  · rw [if_neg (fun e => hxy (hss.1 e))]
    split
    · rw [mget_put, if_neg hxy]
    · rfl
/-- the function that the iterator's box holds -/
def cf (q : Qn) : Value := .func (.func 54) #[.agg #[.int .i64 q.o, .int .i64 q.k, .int .i64 q.v, .int .i64 q.a, .int .i64 q.n]] #[]
/-- what the iterator's boxes hold -/
structure Boxes (W : World) (b0 : Nat) (q : Qn) (A : Option Addr) (n c : Nat) : Prop where
  h0 : W.heap[b0]? = some (.cells #[.int .i64 q.o, .int .i64 q.k, .int .i64 q.v, .int .i64 q.a, .int .i64 q.n] 69 (0, 0))
  h1 : W.heap[b0 + 1]? = some (.cells #[.slice A n c] 22 (0, 0))
  h2 : W.heap[b0 + 2]? = some (.cells #[cf q] 56 (0, 0))
  h4 : W.heap[b0 + 4]? = some (.cells #[.map (some (b0 + 3))] 81 (0, 0))
theorem Boxes.keep {W W' : World} {b0 n c : Nat} {q : Qn} {A : Option Addr} (h : Boxes W b0 q A n c) (hk : ∀ k, k < W.heap.size → k ≠ b0 + 3 → W'.heap[k]? = W.heap[k]?) : Boxes W' b0 q A n c :=
  ⟨(hk _ (Array.getElem?_eq_some_iff.1 h.h0).1 (by omega)).trans h.h0, (hk _ (Array.getElem?_eq_some_iff.1 h.h1).1 (by omega)).trans h.h1, (hk _ (Array.getElem?_eq_some_iff.1 h.h2).1 (by omega)).trans h.h2, (hk _ (Array.getElem?_eq_some_iff.1 h.h4).1 (by omega)).trans h.h4⟩
theorem one_cell {W : World} {b : Nat} {v : Value} {t : TypeId} (h : W.heap[b]? = some (.cells #[v] t (0, 0))) : W.cell? ⟨b, 0, none⟩ = some v := by simp [World.cell?, h]
/-- what stands between two rounds of the loop -/
def J1 (w : World) (q : Qn) (A : Option Addr) (c : Nat) (l : List S24) (k : Nat) (W : World) : Prop :=
  ∃ m : List (Sb × S24), IsMap ek ev W (w.heap.size + 3) m ∧ (∀ y, mget m (sbOf y) = ((l.take k).filter (countsF q.a q.n)).foldl (lastStep y) none) ∧ Boxes W w.heap.size q A l.length c ∧ Below w.heap.size w W
/-- what covering leaves -/
def Post (q : Qn) (A : Option Addr) (c : Nat) (l : List S24) (w : World) (e : Ending) (W : World) : Prop :=
  e = .returned (.func (.func 55) #[] #[.pointer (some ⟨w.heap.size + 1, 0, none⟩), .pointer (some ⟨w.heap.size + 4, 0, none⟩), .pointer (some ⟨w.heap.size + 2, 0, none⟩), .pointer (some ⟨w.heap.size, 0, none⟩)]) ∧ J1 w q A c l l.length W
theorem put_j {w wr W6 W7 : World} {q : Qn} {A : Option Addr} {c : Nat} {n : Nat} (hB : Boxes W6 w.heap.size q A n c) (h6 : Below w.heap.size w W6) (h5 : w.heap.size + 3 < W6.heap.size) (hg : W6.grownBy W7 (some (w.heap.size + 3))) : Boxes W7 w.heap.size q A n c ∧ Below w.heap.size w W7 :=
  ⟨hB.keep (fun k hk hne => hg.block k hk (fun e => hne (by cases e; rfl))), h6.grown hg (by omega) (fun k e => by cases e; omega)⟩
theorem below3 (w wr : World) (o1 o2 o3 : Obj) : Below wr.heap.size wr (((wr.alloc o1).alloc o2).alloc o3) := (((Below.refl _ wr).alloc (Nat.le_refl _) _).alloc (by simp) _).alloc (by simp; omega) _
set_option maxHeartbeats 8000000 in
set_option maxRecDepth 100000 in
theorem covering_any (q : Qn) (A : Option Addr) (c : Nat) (l : List S24) (w : World) (hr : Kd.C k24 w A l.length l) :
    Calls Try.prog 49 #[.agg #[.int .i64 q.o, .int .i64 q.k, .int .i64 q.v, .int .i64 q.a, .int .i64 q.n], .slice A l.length c] w (Post q A c l w) := by
  have hmm := @run_makeMap Try.prog
  have hn := hr.2.1
  have HR := pk hr
  clear hr
  go_enter Try.func49, Try.ntmps49
  go_wp2_with fail
  clear hmm
  go_loopw [17] (fun i wr => ∃ k : Nat, k ≤ l.length ∧ i = .int .i64 k ∧ Hid (J1 w q A c l k wr)) (fun i _ => l.length - (intOf i).toNat)
  case atStart =>
    refine ⟨0, Nat.zero_le _, rfl, [], ?_, fun y => rfl, ?_, ?_⟩
    · refine IsMap.nil ?_
      (show (((((w.heap.push _).push _).push _).push _).push _)[_]? = _; simp only [Array.getElem?_push, Array.size_push]; repeat (first | rfl | rw [if_pos trivial] | rw [if_pos (by omega)] | rw [if_neg (by omega)]))
    · refine ⟨?_, ?_, ?_, ?_⟩
      all_goals (show (((((w.heap.push _).push _).push _).push _).push _)[_]? = _; simp only [Array.getElem?_push, Array.size_push]; repeat (first | rfl | rw [if_pos trivial] | rw [if_pos (by omega)] | rw [if_neg (by omega)]))
    · repeat (first | exact Below.refl _ _ | refine Below.alloc ?_ (by simp <;> omega) _)
  case round =>
    obtain ⟨k, hk, rfl, hh⟩ := hrel
    have Hh := pk hh.out
    clear hh
    by_cases hlt : k < l.length
    · obtain ⟨m, hm1, hm2, hBx, hbW⟩ := Hh.out
      have hBm : w.heap.size + 4 < wr.heap.size := (Array.getElem?_eq_some_iff.1 hBx.h4).1
      obtain ⟨ad, hA, hcells⟩ := at_24 (Kd.C_below HR.out hbW) k hlt
      generalize hx : l.getD k z24 = x at hcells
      have hft : (l.take (k + 1)).filter (countsF q.a q.n) = (l.take k).filter (countsF q.a q.n) ++ (if countsF q.a q.n x = true then [x] else []) := by
        rw [List.take_succ_eq_append_getElem hlt, List.filter_append]
        have e : l[k] = x := by rw [← hx, List.getD_eq_getElem?_getD, List.getElem?_eq_getElem hlt]; rfl
        rw [e]
        congr 1
        by_cases hp : countsF q.a q.n x = true <;> simp [hp]
      have Hft := pk hft
      have Hm1 := pk hm1
      have Hm2 := pk hm2
      have HBx := pk hBx
      have HbW := pk hbW
      have hf4 : ∀ o, (wr.alloc o).cell? ⟨w.heap.size + 4, 0, none⟩ = some (.map (some (w.heap.size + 3))) := fun o => one_cell ((Below.heap_alloc wr o _ hBm).trans hBx.h4)
      have hf42 : ∀ o o', ((wr.alloc o).alloc o').cell? ⟨w.heap.size + 4, 0, none⟩ = some (.map (some (w.heap.size + 3))) := fun o o' => one_cell ((Below.heap_alloc _ o' _ (by simp; omega)).trans ((Below.heap_alloc wr o _ hBm).trans hBx.h4))
      have hf2 : ∀ o o' o'', (((wr.alloc o).alloc o').alloc o'').cell? ⟨w.heap.size + 2, 0, none⟩ = some (cf q) := fun o o' o'' => one_cell ((Below.heap_alloc _ o'' _ (by simp; omega)).trans ((Below.heap_alloc _ o' _ (by simp; omega)).trans ((Below.heap_alloc wr o _ (by omega)).trans hBx.h2)))
      unfold cf at hf2
      clear hx hft hm1 hm2 hBx hbW Hh
      subst hA
      generalize hz : (mget m (sbOf x)).getD z24 = z
      generalize hso : (mget m (sbOf x)).isSome = so
      have hlook : ∀ o o', (Instr.lookup 81 (.map (some (w.heap.size + 3))) (.agg #[.int .i64 x.f4, .int .i64 x.f5, .int .i64 x.f6, .int .i64 x.f7]) true).run Try.prog ((wr.alloc o).alloc o') = .ok (.tuple #[.agg #[.int .i64 z.f0, .int .i64 z.f1, .int .i64 z.f2, .int .i64 z.f3, .int .i64 z.f4, .int .i64 z.f5, .int .i64 z.f6, .int .i64 z.f7, .int .i64 z.f8, .bool z.f9], .bool so]) ((wr.alloc o).alloc o') := by
        intro o o'
        refine (run_look_ok law (Hm1.out.at_ ((Below.heap_alloc _ o' _ (by simp; omega)).trans (Below.heap_alloc wr o _ (by omega)))) (sbOf x)).trans ?_
        rw [← hz, ← hso]
        cases mget m (sbOf x) <;> rfl
      have Hz := pk hz
      have Hso := pk hso
      clear hz hso
      cases hcx : countsF q.a q.n x with
      | false =>
        have HC := pk (counts_any q x false hcx)
        have Hcx := pk hcx
        clear hcx
        go_wp2_with fail
        refine (HC.out _).mono ?_
        rintro e w6 ⟨rfl, hb6⟩
        have HB6 := pk ((below3 w wr _ _ _).trans (hb6.mono (by simp; omega)))
        clear hb6
        go_wp2_with fail
        go_roundw
        case rel => exact ⟨k + 1, by omega, by go_num, m, Hm1.out.at_ (HB6.out.block _ (by omega)), fun y => (by rw [Hft.out, Hcx.out, Hm2.out y]; simp), HBx.out.keep (fun k hk _ => HB6.out.block k hk), below_step HbW.out HB6.out⟩
        case measure => simp [intOf]; omega
      | true =>
        have HC := pk (counts_any q x true hcx)
        have Hend := pk (count_end (z := z) (so := so) Hz.out Hso.out Hft.out hcx Hm2.out)
        replace hcx := pk hcx
        have Hput : Pk (∀ w6, Below wr.heap.size wr w6 → ∃ W7, (Instr.mapUpdate 81 (.map (some (w.heap.size + 3))) (.agg #[.int .i64 x.f4, .int .i64 x.f5, .int .i64 x.f6, .int .i64 x.f7]) (.agg #[.int .i64 x.f0, .int .i64 x.f1, .int .i64 x.f2, .int .i64 x.f3, .int .i64 x.f4, .int .i64 x.f5, .int .i64 x.f6, .int .i64 x.f7, .int .i64 x.f8, .bool x.f9])).run Try.prog w6 = .ok () W7 ∧ ((so = false ∨ z.f1 ≤ x.f1) → J1 w q (some ad) c l (k + 1) W7)) := pk (fun w6 h6 => by
          obtain ⟨W7, hput, hm7, hg7, hs7⟩ := run_put law (Hm1.out.at_ (h6.block _ (by omega))) (sbOf x) x
          refine ⟨W7, hput, fun hc => ⟨_, hm7, fun y => ?_, ?_⟩⟩
          · rw [Hend.out y, if_pos hc]
          · exact put_j (wr := wr) (HBx.out.keep (fun k hk _ => h6.block k hk)) (below_step HbW.out h6) (by have := h6.size; omega) hg7)
        cases so with
        | false =>
          go_wp2_with fail
          refine (HC.out _).mono ?_
          rintro e w6 ⟨rfl, hb6⟩
          have HB6 := pk ((below3 w wr _ _ _).trans (hb6.mono (by simp; omega)))
          obtain ⟨W7, hput, hj⟩ := Hput.out w6 HB6.out
          have Hj := pk hj
          have hf46 : w6.cell? ⟨w.heap.size + 4, 0, none⟩ = some (.map (some (w.heap.size + 3))) := one_cell ((HB6.out.block _ hBm).trans HBx.out.h4)
          have hX6 : w6.heap[wr.heap.size]? = some (.cells #[.int .i64 x.f0, .int .i64 x.f1, .int .i64 x.f2, .int .i64 x.f3, .int .i64 x.f4, .int .i64 x.f5, .int .i64 x.f6, .int .i64 x.f7, .int .i64 x.f8, .bool x.f9] 24 (0, 0)) := (hb6.block _ (by simp; omega)).trans ((Below.heap_alloc _ _ _ (by simp; omega)).trans ((Below.heap_alloc _ _ _ (by simp)).trans (Go.heap_alloc_new wr _)))
          have hS6 : w6.heap[wr.heap.size + 1]? = some (.cells #[.int .i64 x.f4, .int .i64 x.f5, .int .i64 x.f6, .int .i64 x.f7] 83 (0, 0)) := (hb6.block _ (by simp <;> omega)).trans ((Below.heap_alloc _ _ _ (by simp)).trans (by have h9 := Go.heap_alloc_new (wr.alloc (.cells #[.int .i64 x.f0, .int .i64 x.f1, .int .i64 x.f2, .int .i64 x.f3, .int .i64 x.f4, .int .i64 x.f5, .int .i64 x.f6, .int .i64 x.f7, .int .i64 x.f8, .bool x.f9] 24)) (.cells #[.int .i64 x.f4, .int .i64 x.f5, .int .i64 x.f6, .int .i64 x.f7] 83); rwa [World.size_alloc] at h9))
          have hZ6 : w6.heap[wr.heap.size + 1 + 1]? = some (.cells #[.int .i64 z.f0, .int .i64 z.f1, .int .i64 z.f2, .int .i64 z.f3, .int .i64 z.f4, .int .i64 z.f5, .int .i64 z.f6, .int .i64 z.f7, .int .i64 z.f8, .bool z.f9] 24 (0, 0)) := (hb6.block _ (by simp <;> omega)).trans (by have h9 := Go.heap_alloc_new ((wr.alloc (.cells #[.int .i64 x.f0, .int .i64 x.f1, .int .i64 x.f2, .int .i64 x.f3, .int .i64 x.f4, .int .i64 x.f5, .int .i64 x.f6, .int .i64 x.f7, .int .i64 x.f8, .bool x.f9] 24)).alloc (.cells #[.int .i64 x.f4, .int .i64 x.f5, .int .i64 x.f6, .int .i64 x.f7] 83)) (.cells #[.int .i64 z.f0, .int .i64 z.f1, .int .i64 z.f2, .int .i64 z.f3, .int .i64 z.f4, .int .i64 z.f5, .int .i64 z.f6, .int .i64 z.f7, .int .i64 z.f8, .bool z.f9] 24); rwa [World.size_alloc, World.size_alloc] at h9)
          have hclx := fun j => cell_of_row w6 wr.heap.size j _ 24 (0, 0) hX6
          have hcls := fun j => cell_of_row w6 (wr.heap.size + 1) j _ 83 (0, 0) hS6
          have hclz := fun j => cell_of_row w6 (wr.heap.size + 1 + 1) j _ 24 (0, 0) hZ6
          have hp0 : w6.cell? ⟨wr.heap.size, 0, none⟩ = some (.int .i64 x.f0) := hclx 0
          have hp1 : w6.cell? ⟨wr.heap.size, 1, none⟩ = some (.int .i64 x.f1) := hclx 1
          have hp2 : w6.cell? ⟨wr.heap.size, 2, none⟩ = some (.int .i64 x.f2) := hclx 2
          have hp3 : w6.cell? ⟨wr.heap.size, 3, none⟩ = some (.int .i64 x.f3) := hclx 3
          have hp4 : w6.cell? ⟨wr.heap.size, 4, none⟩ = some (.int .i64 x.f4) := hclx 4
          have hp5 : w6.cell? ⟨wr.heap.size, 5, none⟩ = some (.int .i64 x.f5) := hclx 5
          have hp6 : w6.cell? ⟨wr.heap.size, 6, none⟩ = some (.int .i64 x.f6) := hclx 6
          have hp7 : w6.cell? ⟨wr.heap.size, 7, none⟩ = some (.int .i64 x.f7) := hclx 7
          have hp8 : w6.cell? ⟨wr.heap.size, 8, none⟩ = some (.int .i64 x.f8) := hclx 8
          have hp9 : w6.cell? ⟨wr.heap.size, 9, none⟩ = some (.bool x.f9) := hclx 9
          have hs0 : w6.cell? ⟨wr.heap.size + 1, 0, none⟩ = some (.int .i64 x.f4) := hcls 0
          have hs1 : w6.cell? ⟨wr.heap.size + 1, 1, none⟩ = some (.int .i64 x.f5) := hcls 1
          have hs2 : w6.cell? ⟨wr.heap.size + 1, 2, none⟩ = some (.int .i64 x.f6) := hcls 2
          have hs3 : w6.cell? ⟨wr.heap.size + 1, 3, none⟩ = some (.int .i64 x.f7) := hcls 3
          have hz1 : w6.cell? ⟨wr.heap.size + 1 + 1, 1, none⟩ = some (.int .i64 z.f1) := hclz 1
          clear hj hb6 hX6 hS6 hZ6 hclx hcls hclz
          go_wp2_with fail
          go_roundw
          case rel => exact ⟨k + 1, by omega, by go_num, Hj.out (.inl rfl)⟩
          case measure => simp [intOf]; omega
        | true =>
          by_cases hle : z.f1 ≤ x.f1
          · go_wp2_with fail
            refine (HC.out _).mono ?_
            rintro e w6 ⟨rfl, hb6⟩
            have HB6 := pk ((below3 w wr _ _ _).trans (hb6.mono (by simp; omega)))
            obtain ⟨W7, hput, hj⟩ := Hput.out w6 HB6.out
            have Hj := pk hj
            have hf46 : w6.cell? ⟨w.heap.size + 4, 0, none⟩ = some (.map (some (w.heap.size + 3))) := one_cell ((HB6.out.block _ hBm).trans HBx.out.h4)
            have hX6 : w6.heap[wr.heap.size]? = some (.cells #[.int .i64 x.f0, .int .i64 x.f1, .int .i64 x.f2, .int .i64 x.f3, .int .i64 x.f4, .int .i64 x.f5, .int .i64 x.f6, .int .i64 x.f7, .int .i64 x.f8, .bool x.f9] 24 (0, 0)) := (hb6.block _ (by simp; omega)).trans ((Below.heap_alloc _ _ _ (by simp; omega)).trans ((Below.heap_alloc _ _ _ (by simp)).trans (Go.heap_alloc_new wr _)))
            have hS6 : w6.heap[wr.heap.size + 1]? = some (.cells #[.int .i64 x.f4, .int .i64 x.f5, .int .i64 x.f6, .int .i64 x.f7] 83 (0, 0)) := (hb6.block _ (by simp <;> omega)).trans ((Below.heap_alloc _ _ _ (by simp)).trans (by have h9 := Go.heap_alloc_new (wr.alloc (.cells #[.int .i64 x.f0, .int .i64 x.f1, .int .i64 x.f2, .int .i64 x.f3, .int .i64 x.f4, .int .i64 x.f5, .int .i64 x.f6, .int .i64 x.f7, .int .i64 x.f8, .bool x.f9] 24)) (.cells #[.int .i64 x.f4, .int .i64 x.f5, .int .i64 x.f6, .int .i64 x.f7] 83); rwa [World.size_alloc] at h9))
            have hZ6 : w6.heap[wr.heap.size + 1 + 1]? = some (.cells #[.int .i64 z.f0, .int .i64 z.f1, .int .i64 z.f2, .int .i64 z.f3, .int .i64 z.f4, .int .i64 z.f5, .int .i64 z.f6, .int .i64 z.f7, .int .i64 z.f8, .bool z.f9] 24 (0, 0)) := (hb6.block _ (by simp <;> omega)).trans (by have h9 := Go.heap_alloc_new ((wr.alloc (.cells #[.int .i64 x.f0, .int .i64 x.f1, .int .i64 x.f2, .int .i64 x.f3, .int .i64 x.f4, .int .i64 x.f5, .int .i64 x.f6, .int .i64 x.f7, .int .i64 x.f8, .bool x.f9] 24)).alloc (.cells #[.int .i64 x.f4, .int .i64 x.f5, .int .i64 x.f6, .int .i64 x.f7] 83)) (.cells #[.int .i64 z.f0, .int .i64 z.f1, .int .i64 z.f2, .int .i64 z.f3, .int .i64 z.f4, .int .i64 z.f5, .int .i64 z.f6, .int .i64 z.f7, .int .i64 z.f8, .bool z.f9] 24); rwa [World.size_alloc, World.size_alloc] at h9)
            have hclx := fun j => cell_of_row w6 wr.heap.size j _ 24 (0, 0) hX6
            have hcls := fun j => cell_of_row w6 (wr.heap.size + 1) j _ 83 (0, 0) hS6
            have hclz := fun j => cell_of_row w6 (wr.heap.size + 1 + 1) j _ 24 (0, 0) hZ6
            have hp0 : w6.cell? ⟨wr.heap.size, 0, none⟩ = some (.int .i64 x.f0) := hclx 0
            have hp1 : w6.cell? ⟨wr.heap.size, 1, none⟩ = some (.int .i64 x.f1) := hclx 1
            have hp2 : w6.cell? ⟨wr.heap.size, 2, none⟩ = some (.int .i64 x.f2) := hclx 2
            have hp3 : w6.cell? ⟨wr.heap.size, 3, none⟩ = some (.int .i64 x.f3) := hclx 3
            have hp4 : w6.cell? ⟨wr.heap.size, 4, none⟩ = some (.int .i64 x.f4) := hclx 4
            have hp5 : w6.cell? ⟨wr.heap.size, 5, none⟩ = some (.int .i64 x.f5) := hclx 5
            have hp6 : w6.cell? ⟨wr.heap.size, 6, none⟩ = some (.int .i64 x.f6) := hclx 6
            have hp7 : w6.cell? ⟨wr.heap.size, 7, none⟩ = some (.int .i64 x.f7) := hclx 7
            have hp8 : w6.cell? ⟨wr.heap.size, 8, none⟩ = some (.int .i64 x.f8) := hclx 8
            have hp9 : w6.cell? ⟨wr.heap.size, 9, none⟩ = some (.bool x.f9) := hclx 9
            have hs0 : w6.cell? ⟨wr.heap.size + 1, 0, none⟩ = some (.int .i64 x.f4) := hcls 0
            have hs1 : w6.cell? ⟨wr.heap.size + 1, 1, none⟩ = some (.int .i64 x.f5) := hcls 1
            have hs2 : w6.cell? ⟨wr.heap.size + 1, 2, none⟩ = some (.int .i64 x.f6) := hcls 2
            have hs3 : w6.cell? ⟨wr.heap.size + 1, 3, none⟩ = some (.int .i64 x.f7) := hcls 3
            have hz1 : w6.cell? ⟨wr.heap.size + 1 + 1, 1, none⟩ = some (.int .i64 z.f1) := hclz 1
            clear hj hb6 hX6 hS6 hZ6 hclx hcls hclz
            go_wp2_with fail
            go_roundw
            case rel => exact ⟨k + 1, by omega, by go_num, Hj.out (.inr hle)⟩
            case measure => simp [intOf]; omega
          · go_wp2_with fail
            refine (HC.out _).mono ?_
            rintro e w6 ⟨rfl, hb6⟩
            have HB6 := pk ((below3 w wr _ _ _).trans (hb6.mono (by simp; omega)))
            obtain ⟨W7, hput, hj⟩ := Hput.out w6 HB6.out
            have Hj := pk hj
            have hf46 : w6.cell? ⟨w.heap.size + 4, 0, none⟩ = some (.map (some (w.heap.size + 3))) := one_cell ((HB6.out.block _ hBm).trans HBx.out.h4)
            have hX6 : w6.heap[wr.heap.size]? = some (.cells #[.int .i64 x.f0, .int .i64 x.f1, .int .i64 x.f2, .int .i64 x.f3, .int .i64 x.f4, .int .i64 x.f5, .int .i64 x.f6, .int .i64 x.f7, .int .i64 x.f8, .bool x.f9] 24 (0, 0)) := (hb6.block _ (by simp; omega)).trans ((Below.heap_alloc _ _ _ (by simp; omega)).trans ((Below.heap_alloc _ _ _ (by simp)).trans (Go.heap_alloc_new wr _)))
            have hS6 : w6.heap[wr.heap.size + 1]? = some (.cells #[.int .i64 x.f4, .int .i64 x.f5, .int .i64 x.f6, .int .i64 x.f7] 83 (0, 0)) := (hb6.block _ (by simp <;> omega)).trans ((Below.heap_alloc _ _ _ (by simp)).trans (by have h9 := Go.heap_alloc_new (wr.alloc (.cells #[.int .i64 x.f0, .int .i64 x.f1, .int .i64 x.f2, .int .i64 x.f3, .int .i64 x.f4, .int .i64 x.f5, .int .i64 x.f6, .int .i64 x.f7, .int .i64 x.f8, .bool x.f9] 24)) (.cells #[.int .i64 x.f4, .int .i64 x.f5, .int .i64 x.f6, .int .i64 x.f7] 83); rwa [World.size_alloc] at h9))
            have hZ6 : w6.heap[wr.heap.size + 1 + 1]? = some (.cells #[.int .i64 z.f0, .int .i64 z.f1, .int .i64 z.f2, .int .i64 z.f3, .int .i64 z.f4, .int .i64 z.f5, .int .i64 z.f6, .int .i64 z.f7, .int .i64 z.f8, .bool z.f9] 24 (0, 0)) := (hb6.block _ (by simp <;> omega)).trans (by have h9 := Go.heap_alloc_new ((wr.alloc (.cells #[.int .i64 x.f0, .int .i64 x.f1, .int .i64 x.f2, .int .i64 x.f3, .int .i64 x.f4, .int .i64 x.f5, .int .i64 x.f6, .int .i64 x.f7, .int .i64 x.f8, .bool x.f9] 24)).alloc (.cells #[.int .i64 x.f4, .int .i64 x.f5, .int .i64 x.f6, .int .i64 x.f7] 83)) (.cells #[.int .i64 z.f0, .int .i64 z.f1, .int .i64 z.f2, .int .i64 z.f3, .int .i64 z.f4, .int .i64 z.f5, .int .i64 z.f6, .int .i64 z.f7, .int .i64 z.f8, .bool z.f9] 24); rwa [World.size_alloc, World.size_alloc] at h9)
            have hclx := fun j => cell_of_row w6 wr.heap.size j _ 24 (0, 0) hX6
            have hcls := fun j => cell_of_row w6 (wr.heap.size + 1) j _ 83 (0, 0) hS6
            have hclz := fun j => cell_of_row w6 (wr.heap.size + 1 + 1) j _ 24 (0, 0) hZ6
            have hp0 : w6.cell? ⟨wr.heap.size, 0, none⟩ = some (.int .i64 x.f0) := hclx 0
            have hp1 : w6.cell? ⟨wr.heap.size, 1, none⟩ = some (.int .i64 x.f1) := hclx 1
            have hp2 : w6.cell? ⟨wr.heap.size, 2, none⟩ = some (.int .i64 x.f2) := hclx 2
            have hp3 : w6.cell? ⟨wr.heap.size, 3, none⟩ = some (.int .i64 x.f3) := hclx 3
            have hp4 : w6.cell? ⟨wr.heap.size, 4, none⟩ = some (.int .i64 x.f4) := hclx 4
            have hp5 : w6.cell? ⟨wr.heap.size, 5, none⟩ = some (.int .i64 x.f5) := hclx 5
            have hp6 : w6.cell? ⟨wr.heap.size, 6, none⟩ = some (.int .i64 x.f6) := hclx 6
            have hp7 : w6.cell? ⟨wr.heap.size, 7, none⟩ = some (.int .i64 x.f7) := hclx 7
            have hp8 : w6.cell? ⟨wr.heap.size, 8, none⟩ = some (.int .i64 x.f8) := hclx 8
            have hp9 : w6.cell? ⟨wr.heap.size, 9, none⟩ = some (.bool x.f9) := hclx 9
            have hs0 : w6.cell? ⟨wr.heap.size + 1, 0, none⟩ = some (.int .i64 x.f4) := hcls 0
            have hs1 : w6.cell? ⟨wr.heap.size + 1, 1, none⟩ = some (.int .i64 x.f5) := hcls 1
            have hs2 : w6.cell? ⟨wr.heap.size + 1, 2, none⟩ = some (.int .i64 x.f6) := hcls 2
            have hs3 : w6.cell? ⟨wr.heap.size + 1, 3, none⟩ = some (.int .i64 x.f7) := hcls 3
            have hz1 : w6.cell? ⟨wr.heap.size + 1 + 1, 1, none⟩ = some (.int .i64 z.f1) := hclz 1
            clear hj hb6 hX6 hS6 hZ6 hclx hcls hclz
            have Hn : Pk (J1 w q (some ad) c l (k + 1) w6) := pk ⟨m, Hm1.out.at_ (HB6.out.block _ (by omega)), fun y => (by rw [Hend.out y, if_neg (by simp [hle])]), HBx.out.keep (fun k hk _ => HB6.out.block k hk), below_step HbW.out HB6.out⟩
            clear hput
            go_wp2_with fail
            go_roundw
            case rel => exact ⟨k + 1, by omega, by go_num, Hn.out⟩
            case measure => simp [intOf]; omega
    · obtain rfl : k = l.length := by omega
      have HJ := pk Hh.out
      clear Hh
      go_wp2_with fail
      go_ret
      exact ⟨rfl, HJ.out⟩
end Cv
end Go.Proofs.Ytoenefdjejkncaa.W
