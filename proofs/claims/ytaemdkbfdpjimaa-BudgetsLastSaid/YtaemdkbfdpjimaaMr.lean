/-
Maps of the call's own as lists of pairs, with the stamps of their entries: a store, and a range over them. No condition beyond the premises.
-/
import Derived.Test.YtaemdkbfdpjimaaIt
import Derived.Maps.RangeRun
import Derived.Laws.IdiomRangeMap
namespace Go.Proofs.Ytaemdkbfdpjimaa.W
open Go.RowKit
set_option linter.unusedVariables false
section
variable {K V : Type} {ek : K → Value} {ev : V → Value} {P : Program}
/-- Block B is a map that reads as the list m; its entries bear stamps of their own. -/
def IsMapB (ek : K → Value) (ev : V → Value) (W : World) (B : Nat) (m : List (K × V)) : Prop :=
  ∃ es clock, W.heap[B]? = some (.map es clock) ∧ es.toList.map (fun e => (e.key, e.val)) = m.map (fun p => (ek p.1, ev p.2)) ∧ (es.toList.map (·.born)).Nodup ∧ ∀ x ∈ es.toList, x.born < clock
theorem IsMapB.is {W : World} {B : Nat} {m : List (K × V)} (h : IsMapB ek ev W B m) : IsMap ek ev W B m := by
  obtain ⟨es, c, h1, h2, _⟩ := h
  exact ⟨es, c, h1, h2⟩
theorem IsMapB.at_ {W W' : World} {B : Nat} {m : List (K × V)} (h : IsMapB ek ev W B m) (hb : W'.heap[B]? = W.heap[B]?) : IsMapB ek ev W' B m := by
  obtain ⟨es, c, h1, h2⟩ := h
  exact ⟨es, c, hb.trans h1, h2⟩
theorem IsMapB.new (W : World) : IsMapB ek ev (W.alloc (.map #[] 0)) W.heap.size ([] : List (K × V)) := ⟨#[], 0, Go.heap_alloc_new W _, rfl, by simp, by simp⟩
theorem IsMapB.lt {W : World} {B : Nat} {m : List (K × V)} (h : IsMapB ek ev W B m) : B < W.heap.size := h.is.lt
theorem run_putB [DecidableEq K] {T kt et : TypeId} {zv : Value} {W : World} {B : Nat} {m : List (K × V)} (L : MapLaw P T kt et ek ev zv) (h : IsMapB ek ev W B m) (k : K) (v : V) :
    ∃ W', (Instr.mapUpdate T (.map (some B)) (ek k) (ev v)).run P W = .ok () W' ∧ IsMapB ek ev W' B (mput m k v) ∧ W.grownBy W' (some B) ∧ W'.heap.size = W.heap.size := by
  obtain ⟨es, c, hb, hm, hn, hbc⟩ := h
  have hf := L.find k es.toList m W hm
  have hgrow : ∀ o, W.grownBy { W with heap := W.heap.setIfInBounds B o } (some B) := fun o =>
    ⟨rfl, rfl, rfl, by simp, fun j _ hj => (MapKept.heap_set (o' := o) hb).2 j (fun e => hj (by rw [e]))⟩
  cases hi : midx k m 0 with
  | none =>
    rw [hi] at hf
    refine ⟨{ W with heap := W.heap.setIfInBounds B (.map (es.push { key := ek k, val := ev v, born := c }) (c + 1)) }, ?_, ⟨_, _, (MapKept.heap_set hb).1, ?_, ?_, ?_⟩, hgrow _, by simp⟩
    · simp only [Instr.mapUpdate, Sem.run_bind, run_underlying L.und, Result.andThen_ok, MapKept.run_getObj_map hb, L.chk, hf, Option.map_none, MapKept.run_setObj_map _ hb]
    · rw [midx_none k v m 0 hi]; simp [hm]
    · simp only [Array.toList_push, List.map_append, List.map_cons, List.map_nil]
      refine List.nodup_append.2 ⟨hn, by simp, fun a ha b hb' => ?_⟩
      obtain ⟨x, hx, rfl⟩ := List.mem_map.1 ha
      have h1 := hbc x hx
      simp at hb'
      omega
    · intro x hx
      simp only [Array.toList_push, List.mem_append, List.mem_singleton] at hx
      rcases hx with hx | rfl
      · have := hbc x hx; omega
      · simp
  | some q =>
    obtain ⟨j, u⟩ := q
    rw [hi] at hf
    obtain ⟨_, hj, hput⟩ := midx_some k v m 0 j u hi
    rw [Nat.sub_zero] at hj hput
    have he : (es.toList.map (fun e => (e.key, e.val)))[j]? = some (ek k, ev u) := by rw [hm, List.getElem?_map, hj]; rfl
    rw [List.getElem?_map] at he
    obtain ⟨e0, he0, hek⟩ := Option.map_eq_some_iff.1 he
    simp only [Prod.mk.injEq] at hek
    have hes : es[j]? = some e0 := by simpa using he0
    have hborn : ((es.modify j fun e => { e with key := ek k, val := ev v }).toList.map (·.born)) = es.toList.map (·.born) := by
      apply List.ext_getElem?
      intro i
      simp only [List.getElem?_map, Array.getElem?_toList, Array.getElem?_modify]
      split
      · cases es[i]? <;> rfl
      · rfl
    refine ⟨{ W with heap := W.heap.setIfInBounds B (.map (es.modify j fun e => { e with key := ek k, val := ev v }) c) }, ?_, ⟨_, _, (MapKept.heap_set hb).1, ?_, ?_, ?_⟩, hgrow _, by simp⟩
    · simp only [Instr.mapUpdate, Sem.run_bind, run_underlying L.und, Result.andThen_ok, MapKept.run_getObj_map hb, L.chk, hf, Option.map_some, hes, Option.getD_some, hek.1, L.stays, MapKept.run_setObj_map _ hb]
    · rw [hput]
      apply List.ext_getElem?
      intro i
      have hmi : (es.toList.map (fun e => (e.key, e.val)))[i]? = (m.map (fun p => (ek p.1, ev p.2)))[i]? := by rw [hm]
      simp only [List.getElem?_map, Array.getElem?_toList, Array.getElem?_modify, List.getElem?_set] at hmi ⊢
      by_cases hji : j = i
      · subst hji
        have hl : j < m.length := (List.getElem?_eq_some_iff.1 hj).1
        simp [hes, hl]
      · simp only [if_neg hji]; exact hmi
    · rw [hborn]; exact hn
    · intro x hx
      have : x.born ∈ es.toList.map (·.born) := by rw [← hborn]; exact List.mem_map.2 ⟨x, hx, rfl⟩
      obtain ⟨y, hy, e⟩ := List.mem_map.1 this
      rw [← e]
      exact hbc y hy
/-- a range over the map in block B is under way, its place is block r; left is still to come -/
def Rng (ek : K → Value) (ev : V → Value) (W : World) (B r : Nat) (left : List (K × V)) : Prop :=
  ∃ es clock since seen c0, W.heap[B]? = some (.map es clock) ∧ (es.toList.map (·.born)).Nodup ∧ (∀ x ∈ es.toList, x.born < since) ∧ W.heap[r]? = some (.mapIter (some B) since seen c0) ∧ since ≤ c0 ∧ since ≤ clock ∧
    (leftOf es seen).toList.map (fun e => (e.key, e.val)) = left.map (fun p => (ek p.1, ev p.2))
theorem Rng.len {W : World} {B r : Nat} {left : List (K × V)} (h : Rng ek ev W B r left) : W.rangeLeft B r = left.length := by
  obtain ⟨es, clock, since, seen, c0, h1, _, _, h2, _, _, h3⟩ := h
  have := congrArg List.length h3
  simp only [List.length_map, Array.length_toList] at this
  simp only [World.rangeLeft, h1, h2, this]
theorem Rng.ne {W : World} {B r : Nat} {left : List (K × V)} (h : Rng ek ev W B r left) : B ≠ r := by
  rintro rfl
  obtain ⟨es, clock, since, seen, c0, h1, _, _, h2, _⟩ := h
  rw [h1] at h2
  cases h2
theorem Rng.at_ {W W' : World} {B r : Nat} {left : List (K × V)} (h : Rng ek ev W B r left) (hB : W'.heap[B]? = W.heap[B]?) (hr : W'.heap[r]? = W.heap[r]?) : Rng ek ev W' B r left := by
  obtain ⟨es, clock, since, seen, c0, h1, h2, h3, h4, h5⟩ := h
  exact ⟨es, clock, since, seen, c0, hB.trans h1, h2, h3, hr.trans h4, h5⟩
theorem run_range [DecidableEq K] {T kt et : TypeId} {zv : Value} {W : World} {B : Nat} {m : List (K × V)} (L : MapLaw P T kt et ek ev zv) (h : IsMapB ek ev W B m) :
    ∃ W', (Instr.range T (.map (some B))).run P W = .ok (.pointer (some ⟨W.heap.size, 0, none⟩)) W' ∧ Rng ek ev W' B W.heap.size m ∧ W.grownBy W' none ∧ W'.heap.size = W.heap.size + 1 := by
  have hlt := h.lt
  obtain ⟨es, c, hb, hm, hn, hbc⟩ := h
  refine ⟨_, run_range_map W T kt et B es c L.und hb, ⟨es, c, c, #[], c, ((MapKept.heap_alloc W _).2 B hlt).trans hb, hn, hbc, (MapKept.heap_alloc W _).1, Nat.le_refl _, Nat.le_refl _, ?_⟩, World.grownBy_alloc W _ none, by simp⟩
  have he : (leftOf es #[]).toList = es.toList := by unfold leftOf; rw [Array.toList_filter]; exact List.filter_eq_self.2 (fun a _ => by simp)
  rw [he]; exact hm
theorem left_push {es : Array MapEntry} {seen : Array Nat} {e : MapEntry} {L1 L2 : List MapEntry} (hn : (es.toList.map (·.born)).Nodup) (h : (leftOf es seen).toList = L1 ++ e :: L2) : (leftOf es (seen.push e.born)).toList = L1 ++ L2 := by
  have h1 : (leftOf es (seen.push e.born)).toList = (leftOf es seen).toList.filter (fun x => !(x.born == e.born)) := by
    unfold leftOf
    rw [Array.toList_filter, Array.toList_filter, List.filter_filter]
    refine List.filter_congr fun x _ => ?_
    have : (seen.push e.born).contains x.born = (seen.contains x.born || (x.born == e.born)) := by
      rw [Bool.eq_iff_iff]
      simp [Array.mem_push]
    rw [this]
    cases seen.contains x.born <;> cases (x.born == e.born) <;> rfl
  have h2 : ((leftOf es seen).toList.map (·.born)).Nodup := by
    unfold leftOf
    rw [Array.toList_filter]
    exact hn.sublist (List.filter_sublist.map _)
  rw [h1, h, List.filter_append, List.filter_cons]
  rw [h, List.map_append, List.map_cons] at h2
  obtain ⟨_, h4, h5⟩ := List.nodup_append.1 h2
  have h6 := (List.nodup_cons.1 h4).1
  rw [if_neg (by simp), List.filter_eq_self.2 (fun x hx => ?_), List.filter_eq_self.2 (fun x hx => ?_)]
  · simp only [Bool.not_eq_true', beq_eq_false_iff_ne, ne_eq]
    exact fun e1 => h6 (e1 ▸ List.mem_map.2 ⟨x, hx, rfl⟩)
  · simp only [Bool.not_eq_true', beq_eq_false_iff_ne, ne_eq]
    exact h5 _ (List.mem_map.2 ⟨x, hx, rfl⟩) _ (by simp)
theorem Rng.next {W : World} {B r : Nat} {left : List (K × V)} (h : Rng ek ev W B r left) (ty : TypeId) :
    (left = [] ∧ (Instr.next (.pointer (some ⟨r, 0, none⟩)) false ty).run P W = .ok (.tuple #[.bool false]) W) ∨
    ∃ l1 k v l2 W', left = l1 ++ (k, v) :: l2 ∧ (Instr.next (.pointer (some ⟨r, 0, none⟩)) false ty).run P W = .ok (.tuple #[.bool true, ek k, ev v]) W' ∧ Rng ek ev W' B r (l1 ++ l2) ∧ W.grownBy W' (some r) ∧ W'.heap.size = W.heap.size ∧
      (Instr.entry (.pointer (some ⟨r, 0, none⟩))).run P W' = .ok (.tuple #[ek k, ev v]) W' := by
  have hne := h.ne
  obtain ⟨es, clock, since, seen, c0, hb, hn, hold, hr, hsc, hsk, hl⟩ := h
  rcases run_next_at (P := P) W ty r B since c0 seen es clock hr hb hold hsc with ⟨h0, hrun⟩ | ⟨e, he, w1, hal, hrun⟩
  · refine .inl ⟨?_, hrun⟩
    have := congrArg List.length hl
    simp only [List.length_map, Array.length_toList] at this
    exact List.eq_nil_of_length_eq_zero (by omega)
  · obtain ⟨L1, L2, hL⟩ := List.append_of_mem he
    have hl2 := hl
    rw [hL, List.map_append, List.map_cons] at hl2
    obtain ⟨l1, l', e1, e2, e3⟩ := List.map_eq_append_iff.1 hl2.symm
    obtain ⟨p, l2, e4, e5, e6⟩ := List.map_eq_cons_iff.1 e3
    simp only [Prod.mk.injEq] at e5
    have hr1 : w1.heap[r]? = some (.mapIter (some B) since seen c0) := by rcases hal with rfl | rfl <;> exact hr
    have hb1 : w1.heap[B]? = some (.map es clock) := by rcases hal with rfl | rfl <;> exact hb
    have hset := MapKept.heap_set (o' := .mapIter (some B) since (seen.push e.born) clock) hr1
    have hb' : (Go.ChangeMaps.setBlock w1 r (.mapIter (some B) since (seen.push e.born) clock)).heap[B]? = some (.map es clock) := (hset.2 B hne).trans hb1
    refine .inr ⟨l1, p.1, p.2, l2, Go.ChangeMaps.setBlock w1 r (.mapIter (some B) since (seen.push e.born) clock), by rw [e1, e4], by rw [hrun, e5.1, e5.2],
      ⟨es, clock, since, seen.push e.born, clock, hb', hn, hold, hset.1, hsk, hsk, ?_⟩, ?_, ?_, ?_⟩
    · rw [left_push hn hL, List.map_append, List.map_append, e2, e6]
    · rcases hal with rfl | rfl <;> exact ⟨rfl, rfl, rfl, by simp [Go.ChangeMaps.setBlock], fun i _ hi => hset.2 i (fun e1 => hi (by rw [e1]))⟩
    · rcases hal with rfl | rfl <;> simp [Go.ChangeMaps.setBlock]
    · have hem : e ∈ es.toList := by
        have : e ∈ (leftOf es seen).toList := by rw [hL]; simp
        unfold leftOf at this
        rw [Array.toList_filter] at this
        exact (List.mem_filter.1 this).1
      rw [run_entry_at _ r B since seen es clock e hset.1 hb' hem hn, e5.1, e5.2]
end
end Go.Proofs.Ytaemdkbfdpjimaa.W
