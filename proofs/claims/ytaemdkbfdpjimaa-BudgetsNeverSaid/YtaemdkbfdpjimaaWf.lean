/-
Parts of a row of structs laid in a block, read as a list. No condition beyond the premises.
Rows of uses laid in a block, read as a list. No condition beyond the premises.
-/
import Derived.Test.YtaemdkbfdpjimaaWk
namespace Go.Proofs.Ytaemdkbfdpjimaa.W
open Go.RowKit Go.Proofs.YtaemdkbfdpjimaaW.PrintWords Go.Proofs.YtaemdkbfdpjimaaW.PrintLast Go.Proofs.YtaemdkbfdpjimaaW.PrintMore Go.Proofs.Ytaemdkbfdpjimaa.P
set_option linter.unusedVariables false
namespace Sn
/-- a part of a row laid in a block is read -/
theorem C_block {W : World} {b : Nat} (p l m : List S24) (hb : W.heap[b]? = some (.cells (cl24 (p ++ l ++ m)).toArray 24 (0, 0))) (hn : l.length ≤ 4096) : Kd.C k24 W (some ⟨b, p.length * 8, none⟩) l.length l := by
  refine ⟨rfl, by omega, fun h0 => ⟨_, rfl, fun j x hj => ⟨cs24 x, cs24_len x, k24.K_of_M (k24_mkM W 0 (fun _ => True) x), fun i u hi => ?_⟩⟩⟩
  obtain ⟨hjl, he⟩ := List.getElem?_eq_some_iff.1 hj
  have hil : i < 8 := by have := (List.getElem?_eq_some_iff.1 hi).1; rwa [cs24_len] at this
  show W.cell? ((⟨b, p.length * 8, none⟩ : Addr).add (j * 8 + i)) = some u
  rw [Addr.add_lit, cell_of_row W b _ _ 24 (0, 0) hb, List.getElem?_toArray, List.append_assoc, cl24_append, List.getElem?_append_right (by rw [cl24_len]; omega), cl24_len, Nat.add_sub_cancel_left, cl24_append,
    List.getElem?_append_left (by rw [cl24_len]; omega)]
  have e : l = l.take j ++ x :: l.drop (j + 1) := by rw [← he, List.getElem_cons_drop, List.take_append_drop]
  have h1 : (cl24 (l.take j)).length = j * 8 := by rw [cl24_len, List.length_take, Nat.min_eq_left (by omega)]
  rw [e, cl24_append, cl24_cons, List.getElem?_append_right (by omega), h1, Nat.add_sub_cancel_left, List.getElem?_append_left (by rw [cs24_len]; exact hil)]
  exact hi
theorem ints_row (w : World) (l : List Int) (hl : l.length ≤ 4096) : Kd.C (Kd.int .i64) (w.alloc (.cells (l.map (Value.int .i64)).toArray 3)) (some ⟨w.heap.size, 0, none⟩) l.length l := by
  refine Kd.C_of_reads (d := 0) ⟨rfl, by omega, fun _ => ⟨_, rfl, fun j hj => ?_⟩⟩
  rw [Addr.add_lit, Nat.zero_add, cell_of_row _ _ j _ 3 (0, 0) (Go.heap_alloc_new w _), List.getElem?_toArray, List.getElem?_map, List.getElem?_eq_getElem hj, List.getD_eq_getElem?_getD, List.getElem?_eq_getElem hj]
  rfl
theorem row_of_R {W : World} {base : Nat} {ok : Nat → Prop} {v : Value} {l : List S24} (h : Kd.R k24 24 W base ok v l) : ∃ A c, v = .slice A l.length c ∧ l.length ≤ c ∧ Kd.C k24 W A l.length l := by
  obtain ⟨A, c, e⟩ := Kd.R_slice h
  subst e
  exact ⟨A, c, rfl, (Kd.R_reads' h).2.1, (Kd.R_reads' h).2.2⟩
end Sn
end Go.Proofs.Ytaemdkbfdpjimaa.W

namespace Go.Proofs.Ytaemdkbfdpjimaa.W
open Go.RowKit Go.Proofs.YtaemdkbfdpjimaaW.PrintWords Go.Proofs.YtaemdkbfdpjimaaW.PrintLast Go.Proofs.YtaemdkbfdpjimaaW.PrintMore Go.Proofs.Ytaemdkbfdpjimaa.P
set_option linter.unusedVariables false
namespace Sn
def cs49 (x : S49) : List Value := [.int .i64 x.f0, .int .i64 x.f1, .int .i64 x.f2, .int .i64 x.f3, .int .i64 x.f4]
theorem cs49_len (x : S49) : (cs49 x).length = 5 := rfl
def cl49 (l : List S49) : List Value := l.flatMap cs49
theorem cl49_cons (x : S49) (l : List S49) : cl49 (x :: l) = cs49 x ++ cl49 l := by simp [cl49]
theorem cl49_append (l m : List S49) : cl49 (l ++ m) = cl49 l ++ cl49 m := by simp [cl49]
theorem cl49_len (l : List S49) : (cl49 l).length = l.length * 5 := by
  induction l with
  | nil => rfl
  | cons x l ih => rw [cl49_cons, List.length_append, ih, cs49_len, List.length_cons]; omega
/-- a part of a row laid in a block is read -/
theorem C_block49 {W : World} {b : Nat} (p l m : List S49) (hb : W.heap[b]? = some (.cells (cl49 (p ++ l ++ m)).toArray 49 (0, 0))) (hn : l.length ≤ 4096) : Kd.C k49 W (some ⟨b, p.length * 5, none⟩) l.length l := by
  refine ⟨rfl, by omega, fun h0 => ⟨_, rfl, fun j x hj => ⟨cs49 x, cs49_len x, k49.K_of_M (k49_mkM W 0 (fun _ => True) x), fun i u hi => ?_⟩⟩⟩
  obtain ⟨hjl, he⟩ := List.getElem?_eq_some_iff.1 hj
  have hil : i < 5 := by have := (List.getElem?_eq_some_iff.1 hi).1; rwa [cs49_len] at this
  show W.cell? ((⟨b, p.length * 5, none⟩ : Addr).add (j * 5 + i)) = some u
  rw [Addr.add_lit, cell_of_row W b _ _ 49 (0, 0) hb, List.getElem?_toArray, List.append_assoc, cl49_append, List.getElem?_append_right (by rw [cl49_len]; omega), cl49_len, Nat.add_sub_cancel_left, cl49_append,
    List.getElem?_append_left (by rw [cl49_len]; omega)]
  have e : l = l.take j ++ x :: l.drop (j + 1) := by rw [← he, List.getElem_cons_drop, List.take_append_drop]
  have h1 : (cl49 (l.take j)).length = j * 5 := by rw [cl49_len, List.length_take, Nat.min_eq_left (by omega)]
  rw [e, cl49_append, cl49_cons, List.getElem?_append_right (by omega), h1, Nat.add_sub_cancel_left, List.getElem?_append_left (by rw [cs49_len]; exact hil)]
  exact hi
end Sn
end Go.Proofs.Ytaemdkbfdpjimaa.W
