/-
A law's arguments, opened: a struct by value and a slice of structs, as plain values. No condition beyond what the row's statement gives.
A law's arguments, opened: a struct by value and a slice of structs, as plain values. No condition beyond what the row's statement gives.
-/
import Derived.Test.YtaemdkbfdpjimaaWk
import Derived.Deep.Slices
import Derived.Deep.Fields
import Derived.ChangeSame
namespace Go.Proofs.Ytaemdkbfdpjimaa.W
open Go.RowKit Go.ChangeShapes Go.WideShapes Go.Deep Go.Proofs.YtaemdkbfdpjimaaW.PrintWords Go.Proofs.YtaemdkbfdpjimaaW.PrintLast Go.Proofs.YtaemdkbfdpjimaaW.PrintMore Go.Proofs.Ytaemdkbfdpjimaa.P
set_option linter.unusedVariables false
/-- the numbers of a struct are numbers of their kinds -/
def WF24 (s : S24) : Prop := (Lit.int .i64 s.f0).wf = true ∧ (Lit.int .i64 s.f1).wf = true ∧ (Lit.int .i64 s.f2).wf = true ∧ (Lit.int .i64 s.f3).wf = true ∧ (Lit.int .i64 s.f4).wf = true ∧ (Lit.int .i64 s.f5).wf = true ∧ (Lit.int .i64 s.f6).wf = true
section
variable {H : Type} {enc : TypeId × Value → H} {w : World} {base : Nat} {spare : Nat → Bool} {held : Bool}
theorem row_of_trod24 {fuel : Nat} {cs : List Value} {x : DataW H × List MemPlace} (h : DataW.trod enc Try.prog w base spare held fuel 24 cs = some x) : ∃ s : S24, cs = cs24 s ∧ WF24 s := by
  obtain ⟨xs, n, _, _, hcs, hxs, hg⟩ := DataW.trod_struct Try.underlying24 h
  have hC : Try.prog.cellsOf 24 = 8 := by kernel_rfl
  rw [hC] at hcs
  have hx : xs.length = 8 := hxs
  match cs, hcs with
  | [c0, c1, c2, c3, c4, c5, c6, c7], _ =>
    have g0 := hg 0 _ rfl
    have k0 : Try.prog.cellsOf 3 = 1 := by kernel_rfl
    change DataW.trod enc Try.prog w base spare held n 3 (([c0, c1, c2, c3, c4, c5, c6, c7].drop 0).take (Try.prog.cellsOf 3)) = _ at g0
    rw [k0] at g0
    obtain ⟨n0, e0, _, u0⟩ := DataW.trod_int Try.underlying3 (g0.trans (List.getElem?_eq_getElem (by omega)))
    have q0 : c0 = .int .i64 n0 := by simpa using e0
    have g1 := hg 1 _ rfl
    have k1 : Try.prog.cellsOf 3 = 1 := by kernel_rfl
    change DataW.trod enc Try.prog w base spare held n 3 (([c0, c1, c2, c3, c4, c5, c6, c7].drop 1).take (Try.prog.cellsOf 3)) = _ at g1
    rw [k1] at g1
    obtain ⟨n1, e1, _, u1⟩ := DataW.trod_int Try.underlying3 (g1.trans (List.getElem?_eq_getElem (by omega)))
    have q1 : c1 = .int .i64 n1 := by simpa using e1
    have g2 := hg 2 _ rfl
    have k2 : Try.prog.cellsOf 3 = 1 := by kernel_rfl
    change DataW.trod enc Try.prog w base spare held n 3 (([c0, c1, c2, c3, c4, c5, c6, c7].drop 2).take (Try.prog.cellsOf 3)) = _ at g2
    rw [k2] at g2
    obtain ⟨n2, e2, _, u2⟩ := DataW.trod_int Try.underlying3 (g2.trans (List.getElem?_eq_getElem (by omega)))
    have q2 : c2 = .int .i64 n2 := by simpa using e2
    have g3 := hg 3 _ rfl
    have k3 : Try.prog.cellsOf 3 = 1 := by kernel_rfl
    change DataW.trod enc Try.prog w base spare held n 3 (([c0, c1, c2, c3, c4, c5, c6, c7].drop 3).take (Try.prog.cellsOf 3)) = _ at g3
    rw [k3] at g3
    obtain ⟨n3, e3, _, u3⟩ := DataW.trod_int Try.underlying3 (g3.trans (List.getElem?_eq_getElem (by omega)))
    have q3 : c3 = .int .i64 n3 := by simpa using e3
    have g4 := hg 4 _ rfl
    have k4 : Try.prog.cellsOf 3 = 1 := by kernel_rfl
    change DataW.trod enc Try.prog w base spare held n 3 (([c0, c1, c2, c3, c4, c5, c6, c7].drop 4).take (Try.prog.cellsOf 3)) = _ at g4
    rw [k4] at g4
    obtain ⟨n4, e4, _, u4⟩ := DataW.trod_int Try.underlying3 (g4.trans (List.getElem?_eq_getElem (by omega)))
    have q4 : c4 = .int .i64 n4 := by simpa using e4
    have g5 := hg 5 _ rfl
    have k5 : Try.prog.cellsOf 3 = 1 := by kernel_rfl
    change DataW.trod enc Try.prog w base spare held n 3 (([c0, c1, c2, c3, c4, c5, c6, c7].drop 5).take (Try.prog.cellsOf 3)) = _ at g5
    rw [k5] at g5
    obtain ⟨n5, e5, _, u5⟩ := DataW.trod_int Try.underlying3 (g5.trans (List.getElem?_eq_getElem (by omega)))
    have q5 : c5 = .int .i64 n5 := by simpa using e5
    have g6 := hg 6 _ rfl
    have k6 : Try.prog.cellsOf 3 = 1 := by kernel_rfl
    change DataW.trod enc Try.prog w base spare held n 3 (([c0, c1, c2, c3, c4, c5, c6, c7].drop 6).take (Try.prog.cellsOf 3)) = _ at g6
    rw [k6] at g6
    obtain ⟨n6, e6, _, u6⟩ := DataW.trod_int Try.underlying3 (g6.trans (List.getElem?_eq_getElem (by omega)))
    have q6 : c6 = .int .i64 n6 := by simpa using e6
    have g7 := hg 7 _ rfl
    have k7 : Try.prog.cellsOf 4 = 1 := by kernel_rfl
    change DataW.trod enc Try.prog w base spare held n 4 (([c0, c1, c2, c3, c4, c5, c6, c7].drop 7).take (Try.prog.cellsOf 4)) = _ at g7
    rw [k7] at g7
    obtain ⟨n7, e7, _⟩ := DataW.trod_bool Try.underlying4 (g7.trans (List.getElem?_eq_getElem (by omega)))
    have q7 : c7 = .bool n7 := by simpa using e7
    exact ⟨⟨n0, n1, n2, n3, n4, n5, n6, n7⟩, by rw [q0, q1, q2, q3, q4, q5, q6, q7]; rfl, u0, u1, u2, u3, u4, u5, u6⟩
theorem open_one24 {r : Reach} {b0 : Nat} {v : Value} {d : DataW H} {p : List MemPlace} (hv : Value.okWide Try.prog w r b0 24 v) (h : DataW.Trod enc Try.prog w base spare held 24 v d p) : ∃ s : S24, v = .agg #[.int .i64 s.f0, .int .i64 s.f1, .int .i64 s.f2, .int .i64 s.f3, .int .i64 s.f4, .int .i64 s.f5, .int .i64 s.f6, .bool s.f7] ∧ WF24 s := by
  obtain ⟨cs, rfl, hsz⟩ := okWide_struct Try.underlying24 hv
  obtain ⟨fuel, hf⟩ := h
  obtain ⟨s, e, hw⟩ := row_of_trod24 hf
  refine ⟨s, ?_, hw⟩
  have e2 : cs.toList = cs24 s := e
  rw [← Array.toArray_toList (xs := cs), e2]
  rfl
theorem open_row24 {r : Reach} {b0 : Nat} {v : Value} {d : DataW H} {p : List MemPlace} (hv : Value.okWide Try.prog w r b0 22 v) (h : DataW.Trod enc Try.prog w base spare held 22 v d p) :
    ∃ (A : Option Addr) (cap : Nat) (l : List S24), v = .slice A l.length cap ∧ l.length ≤ cap ∧ Kd.C k24 w A l.length l ∧ (∀ x ∈ l, WF24 x) := by
  obtain ⟨A, len, cap, rfl⟩ := okWide_slice Try.underlying22 hv
  obtain ⟨fuel, hf⟩ := h
  rcases open_slice Try.underlying22 hf with ⟨h1, _⟩ | ⟨a, len', cap', m, n, D, Pl, h1, _, hlc, hcm, hm, _, hi⟩
  · simp [Value.cells] at h1
    obtain ⟨rfl, rfl, rfl⟩ := h1
    exact ⟨none, 0, [], rfl, Nat.le_refl _, Kd.C_nil _ _, by simp⟩
  · simp [Value.cells] at h1
    obtain ⟨rfl, rfl, rfl⟩ := h1
    have hC : Try.prog.cellsOf 24 = 8 := by kernel_rfl
    have hml : len ≤ m := by rw [hm]; split <;> omega
    have hs : ∀ i, i < len → ∃ s : S24, (∀ j u, (cs24 s)[j]? = some u → w.cell? (a.add (i * 8 + j)) = some u) ∧ WF24 s := by
      intro i hil
      obtain ⟨cs', hc, ht⟩ := hi i (by omega)
      obtain ⟨s, rfl, hw⟩ := row_of_trod24 ht
      rw [hC] at hc
      obtain ⟨_, _, hat⟩ := World.cells?_some hc
      refine ⟨s, fun j u hj => ?_, hw⟩
      have hjl : j < 8 := by have := (List.getElem?_eq_some_iff.1 hj).1; rwa [cs24_len] at this
      rw [← hj, ← hat j hjl, ← Deep.add_add]
    obtain ⟨g, hg⟩ : ∃ g : Nat → S24, ∀ i, i < len → (∀ j u, (cs24 (g i))[j]? = some u → w.cell? (a.add (i * 8 + j)) = some u) ∧ WF24 (g i) := by
      refine ⟨fun i => if h : i < len then Classical.choose (hs i h) else z24, fun i h => ?_⟩
      simp only [dif_pos h]
      exact Classical.choose_spec (hs i h)
    have hlen : ((List.range len).map g).length = len := by simp
    refine ⟨some a, cap, (List.range len).map g, by rw [hlen], by rw [hlen]; exact hlc, ?_, ?_⟩
    · rw [hlen]
      refine ⟨hlen, by unfold maxLen at hcm; omega, fun _ => ⟨a, rfl, fun j p hj => ?_⟩⟩
      have hjl : j < len := by have := (List.getElem?_eq_some_iff.1 hj).1; rwa [hlen] at this
      obtain rfl : g j = p := by
        rw [List.getElem?_map, List.getElem?_range hjl] at hj
        simpa using hj
      exact ⟨cs24 (g j), cs24_len _, k24.K_of_M (k24_mkM w 0 (fun _ => True) (g j)), (hg j hjl).1⟩
    · intro x hx
      obtain ⟨i, hi', rfl⟩ := List.mem_map.1 hx
      exact (hg i (List.mem_range.1 hi')).2
end
end Go.Proofs.Ytaemdkbfdpjimaa.W

namespace Go.Proofs.Ytaemdkbfdpjimaa.W
open Go.RowKit Go.ChangeShapes Go.WideShapes Go.Deep Go.Proofs.YtaemdkbfdpjimaaW.PrintWords Go.Proofs.YtaemdkbfdpjimaaW.PrintLast Go.Proofs.YtaemdkbfdpjimaaW.PrintMore Go.Proofs.Ytaemdkbfdpjimaa.P
set_option linter.unusedVariables false
def cs49 (x : S49) : List Value := [.int .i64 x.f0, .int .i64 x.f1, .int .i64 x.f2, .int .i64 x.f3, .int .i64 x.f4]
theorem cs49_len (x : S49) : (cs49 x).length = 5 := rfl
/-- the numbers of a struct are numbers of their kinds -/
def WF49 (s : S49) : Prop := (Lit.int .i64 s.f0).wf = true ∧ (Lit.int .i64 s.f1).wf = true ∧ (Lit.int .i64 s.f2).wf = true ∧ (Lit.int .i64 s.f3).wf = true ∧ (Lit.int .i64 s.f4).wf = true
section
variable {H : Type} {enc : TypeId × Value → H} {w : World} {base : Nat} {spare : Nat → Bool} {held : Bool}
theorem row_of_trod49 {fuel : Nat} {cs : List Value} {x : DataW H × List MemPlace} (h : DataW.trod enc Try.prog w base spare held fuel 49 cs = some x) : ∃ s : S49, cs = cs49 s ∧ WF49 s := by
  obtain ⟨xs, n, _, _, hcs, hxs, hg⟩ := DataW.trod_struct Try.underlying49 h
  have hC : Try.prog.cellsOf 49 = 5 := by kernel_rfl
  rw [hC] at hcs
  have hx : xs.length = 5 := hxs
  match cs, hcs with
  | [c0, c1, c2, c3, c4], _ =>
    have g0 := hg 0 _ rfl
    have k0 : Try.prog.cellsOf 3 = 1 := by kernel_rfl
    change DataW.trod enc Try.prog w base spare held n 3 (([c0, c1, c2, c3, c4].drop 0).take (Try.prog.cellsOf 3)) = _ at g0
    rw [k0] at g0
    obtain ⟨n0, e0, _, u0⟩ := DataW.trod_int Try.underlying3 (g0.trans (List.getElem?_eq_getElem (by omega)))
    have q0 : c0 = .int .i64 n0 := by simpa using e0
    have g1 := hg 1 _ rfl
    have k1 : Try.prog.cellsOf 3 = 1 := by kernel_rfl
    change DataW.trod enc Try.prog w base spare held n 3 (([c0, c1, c2, c3, c4].drop 1).take (Try.prog.cellsOf 3)) = _ at g1
    rw [k1] at g1
    obtain ⟨n1, e1, _, u1⟩ := DataW.trod_int Try.underlying3 (g1.trans (List.getElem?_eq_getElem (by omega)))
    have q1 : c1 = .int .i64 n1 := by simpa using e1
    have g2 := hg 2 _ rfl
    have k2 : Try.prog.cellsOf 3 = 1 := by kernel_rfl
    change DataW.trod enc Try.prog w base spare held n 3 (([c0, c1, c2, c3, c4].drop 2).take (Try.prog.cellsOf 3)) = _ at g2
    rw [k2] at g2
    obtain ⟨n2, e2, _, u2⟩ := DataW.trod_int Try.underlying3 (g2.trans (List.getElem?_eq_getElem (by omega)))
    have q2 : c2 = .int .i64 n2 := by simpa using e2
    have g3 := hg 3 _ rfl
    have k3 : Try.prog.cellsOf 3 = 1 := by kernel_rfl
    change DataW.trod enc Try.prog w base spare held n 3 (([c0, c1, c2, c3, c4].drop 3).take (Try.prog.cellsOf 3)) = _ at g3
    rw [k3] at g3
    obtain ⟨n3, e3, _, u3⟩ := DataW.trod_int Try.underlying3 (g3.trans (List.getElem?_eq_getElem (by omega)))
    have q3 : c3 = .int .i64 n3 := by simpa using e3
    have g4 := hg 4 _ rfl
    have k4 : Try.prog.cellsOf 3 = 1 := by kernel_rfl
    change DataW.trod enc Try.prog w base spare held n 3 (([c0, c1, c2, c3, c4].drop 4).take (Try.prog.cellsOf 3)) = _ at g4
    rw [k4] at g4
    obtain ⟨n4, e4, _, u4⟩ := DataW.trod_int Try.underlying3 (g4.trans (List.getElem?_eq_getElem (by omega)))
    have q4 : c4 = .int .i64 n4 := by simpa using e4
    exact ⟨⟨n0, n1, n2, n3, n4⟩, by rw [q0, q1, q2, q3, q4]; rfl, u0, u1, u2, u3, u4⟩
theorem open_one49 {r : Reach} {b0 : Nat} {v : Value} {d : DataW H} {p : List MemPlace} (hv : Value.okWide Try.prog w r b0 49 v) (h : DataW.Trod enc Try.prog w base spare held 49 v d p) : ∃ s : S49, v = .agg #[.int .i64 s.f0, .int .i64 s.f1, .int .i64 s.f2, .int .i64 s.f3, .int .i64 s.f4] ∧ WF49 s := by
  obtain ⟨cs, rfl, hsz⟩ := okWide_struct Try.underlying49 hv
  obtain ⟨fuel, hf⟩ := h
  obtain ⟨s, e, hw⟩ := row_of_trod49 hf
  refine ⟨s, ?_, hw⟩
  have e2 : cs.toList = cs49 s := e
  rw [← Array.toArray_toList (xs := cs), e2]
  rfl
theorem open_row49 {r : Reach} {b0 : Nat} {v : Value} {d : DataW H} {p : List MemPlace} (hv : Value.okWide Try.prog w r b0 33 v) (h : DataW.Trod enc Try.prog w base spare held 33 v d p) :
    ∃ (A : Option Addr) (cap : Nat) (l : List S49), v = .slice A l.length cap ∧ l.length ≤ cap ∧ Kd.C k49 w A l.length l ∧ (∀ x ∈ l, WF49 x) := by
  obtain ⟨A, len, cap, rfl⟩ := okWide_slice Try.underlying33 hv
  obtain ⟨fuel, hf⟩ := h
  rcases open_slice Try.underlying33 hf with ⟨h1, _⟩ | ⟨a, len', cap', m, n, D, Pl, h1, _, hlc, hcm, hm, _, hi⟩
  · simp [Value.cells] at h1
    obtain ⟨rfl, rfl, rfl⟩ := h1
    exact ⟨none, 0, [], rfl, Nat.le_refl _, Kd.C_nil _ _, by simp⟩
  · simp [Value.cells] at h1
    obtain ⟨rfl, rfl, rfl⟩ := h1
    have hC : Try.prog.cellsOf 49 = 5 := by kernel_rfl
    have hml : len ≤ m := by rw [hm]; split <;> omega
    have hs : ∀ i, i < len → ∃ s : S49, (∀ j u, (cs49 s)[j]? = some u → w.cell? (a.add (i * 5 + j)) = some u) ∧ WF49 s := by
      intro i hil
      obtain ⟨cs', hc, ht⟩ := hi i (by omega)
      obtain ⟨s, rfl, hw⟩ := row_of_trod49 ht
      rw [hC] at hc
      obtain ⟨_, _, hat⟩ := World.cells?_some hc
      refine ⟨s, fun j u hj => ?_, hw⟩
      have hjl : j < 5 := by have := (List.getElem?_eq_some_iff.1 hj).1; rwa [cs49_len] at this
      rw [← hj, ← hat j hjl, ← Deep.add_add]
    obtain ⟨g, hg⟩ : ∃ g : Nat → S49, ∀ i, i < len → (∀ j u, (cs49 (g i))[j]? = some u → w.cell? (a.add (i * 5 + j)) = some u) ∧ WF49 (g i) := by
      refine ⟨fun i => if h : i < len then Classical.choose (hs i h) else z49, fun i h => ?_⟩
      simp only [dif_pos h]
      exact Classical.choose_spec (hs i h)
    have hlen : ((List.range len).map g).length = len := by simp
    refine ⟨some a, cap, (List.range len).map g, by rw [hlen], by rw [hlen]; exact hlc, ?_, ?_⟩
    · rw [hlen]
      refine ⟨hlen, by unfold maxLen at hcm; omega, fun _ => ⟨a, rfl, fun j p hj => ?_⟩⟩
      have hjl : j < len := by have := (List.getElem?_eq_some_iff.1 hj).1; rwa [hlen] at this
      obtain rfl : g j = p := by
        rw [List.getElem?_map, List.getElem?_range hjl] at hj
        simpa using hj
      exact ⟨cs49 (g j), cs49_len _, k49.K_of_M (k49_mkM w 0 (fun _ => True) (g j)), (hg j hjl).1⟩
    · intro x hx
      obtain ⟨i, hi', rfl⟩ := List.mem_map.1 hx
      exact (hg i (List.mem_range.1 hi')).2
end
end Go.Proofs.Ytaemdkbfdpjimaa.W
