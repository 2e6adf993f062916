/-
Parts of a row of structs laid in a block, read as a list. No condition beyond the premises.
-/
import Derived.Test.YtoenefdjejkncaaWk
namespace Go.Proofs.Ytoenefdjejkncaa.W
open Go.RowKit Go.Proofs.YtoenefdjejkncaaW.PrintWords Go.Proofs.YtoenefdjejkncaaW.PrintLast Go.Proofs.YtoenefdjejkncaaW.PrintMore Go.Proofs.Ytoenefdjejkncaa.P
set_option linter.unusedVariables false
namespace Sn
/-- a part of a row laid in a block is read -/
theorem C_block {W : World} {b : Nat} (p l m : List S24) (hb : W.heap[b]? = some (.cells (cl24 (p ++ l ++ m)).toArray 24 (0, 0))) (hn : l.length ≤ 4096) : Kd.C k24 W (some ⟨b, p.length * 10, none⟩) l.length l := by
  refine ⟨rfl, by omega, fun h0 => ⟨_, rfl, fun j x hj => ⟨cs24 x, cs24_len x, k24.K_of_M (k24_mkM W 0 (fun _ => True) x), fun i u hi => ?_⟩⟩⟩
  obtain ⟨hjl, he⟩ := List.getElem?_eq_some_iff.1 hj
  have hil : i < 10 := by have := (List.getElem?_eq_some_iff.1 hi).1; rwa [cs24_len] at this
  show W.cell? ((⟨b, p.length * 10, none⟩ : Addr).add (j * 10 + i)) = some u
  rw [Addr.add_lit, cell_of_row W b _ _ 24 (0, 0) hb, List.getElem?_toArray, List.append_assoc, cl24_append, List.getElem?_append_right (by rw [cl24_len]; omega), cl24_len, Nat.add_sub_cancel_left, cl24_append,
    List.getElem?_append_left (by rw [cl24_len]; omega)]
  have e : l = l.take j ++ x :: l.drop (j + 1) := by rw [← he, List.getElem_cons_drop, List.take_append_drop]
  have h1 : (cl24 (l.take j)).length = j * 10 := by rw [cl24_len, List.length_take, Nat.min_eq_left (by omega)]
  rw [e, cl24_append, cl24_cons, List.getElem?_append_right (by omega), h1, Nat.add_sub_cancel_left, List.getElem?_append_left (by rw [cs24_len]; exact hil)]
  exact hi
theorem ints_row (w : World) (l : List Int) (hl : l.length ≤ 4096) : Kd.C (Kd.int .i64) (w.alloc (.cells (l.map (Value.int .i64)).toArray 3)) (some ⟨w.heap.size, 0, none⟩) l.length l := by
  refine Kd.C_of_reads (d := 0) ⟨rfl, by omega, fun _ => ⟨_, rfl, fun j hj => ?_⟩⟩
  rw [Addr.add_lit, Nat.zero_add, cell_of_row _ _ j _ 3 (0, 0) (Go.heap_alloc_new w _), List.getElem?_toArray, List.getElem?_map, List.getElem?_eq_getElem hj, List.getD_eq_getElem?_getD, List.getElem?_eq_getElem hj]
  rfl
theorem row_of_R {W : World} {base : Nat} {ok : Nat → Prop} {v : Value} {l : List S24} (h : Kd.R k24 24 W base ok v l) : ∃ A c, v = .slice A l.length c ∧ l.length ≤ c ∧ Kd.C k24 W A l.length l := by
  obtain ⟨A, c, e⟩ := Kd.R_slice h
  subst e
  exact ⟨A, c, rfl, (Kd.R_reads' h).2.1, (Kd.R_reads' h).2.2⟩
end Sn
end Go.Proofs.Ytoenefdjejkncaa.W
