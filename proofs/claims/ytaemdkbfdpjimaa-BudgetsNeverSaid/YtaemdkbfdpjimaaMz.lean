/-
Maps of the call's own as lists of pairs, with the stamps of their entries: a store, and a range over them. No condition beyond the premises.
A region inside a fence that draws its order, and is cut into parts: each part reads, and ends in one operation that all before it lead to and all behind it wait for. One walk in the order of the text serves every order. No condition beyond the premises.
A law's arguments, opened: a struct by value and a slice of structs, as plain values. No condition beyond what the row's statement gives.
-/
import Derived.Test.YtaemdkbfdpjimaaIt
import Derived.Maps.RangeRun
import Derived.Laws.IdiomRangeMap
import Derived.Sort.QuietIn
import Derived.StillTail
import Derived.TacticsIn
import Derived.KernelRfl
import Derived.Test.YtaemdkbfdpjimaaWk
import Derived.Deep.Slices
import Derived.Deep.Fields
import Derived.ChangeSame
namespace Go.Proofs.Ytaemdkbfdpjimaa.W
open Go.RowKit
set_option linter.unusedVariables false
section
variable {K V : Type} {ek : K → Value} {ev : V → Value} {P : Program}
/-- Block B is a map that reads as the list m; its entries bear stamps of their own. -/
def IsMapB (ek : K → Value) (ev : V → Value) (W : World) (B : Nat) (m : List (K × V)) : Prop :=
  ∃ es clock, W.heap[B]? = some (.map es clock) ∧ es.toList.map (fun e => (e.key, e.val)) = m.map (fun p => (ek p.1, ev p.2)) ∧ (es.toList.map (·.born)).Nodup ∧ ∀ x ∈ es.toList, x.born < clock
theorem IsMapB.is {W : World} {B : Nat} {m : List (K × V)} (h : IsMapB ek ev W B m) : IsMap ek ev W B m := by
  obtain ⟨es, c, h1, h2, _⟩ := h
  exact ⟨es, c, h1, h2⟩
theorem IsMapB.at_ {W W' : World} {B : Nat} {m : List (K × V)} (h : IsMapB ek ev W B m) (hb : W'.heap[B]? = W.heap[B]?) : IsMapB ek ev W' B m := by
  obtain ⟨es, c, h1, h2⟩ := h
  exact ⟨es, c, hb.trans h1, h2⟩
theorem IsMapB.new (W : World) : IsMapB ek ev (W.alloc (.map #[] 0)) W.heap.size ([] : List (K × V)) := ⟨#[], 0, Go.heap_alloc_new W _, rfl, by simp, by simp⟩
theorem IsMapB.lt {W : World} {B : Nat} {m : List (K × V)} (h : IsMapB ek ev W B m) : B < W.heap.size := h.is.lt
theorem run_putB [DecidableEq K] {T kt et : TypeId} {zv : Value} {W : World} {B : Nat} {m : List (K × V)} (L : MapLaw P T kt et ek ev zv) (h : IsMapB ek ev W B m) (k : K) (v : V) :
    ∃ W', (Instr.mapUpdate T (.map (some B)) (ek k) (ev v)).run P W = .ok () W' ∧ IsMapB ek ev W' B (mput m k v) ∧ W.grownBy W' (some B) ∧ W'.heap.size = W.heap.size := by
  obtain ⟨es, c, hb, hm, hn, hbc⟩ := h
  have hf := L.find k es.toList m W hm
  have hgrow : ∀ o, W.grownBy { W with heap := W.heap.setIfInBounds B o } (some B) := fun o =>
    ⟨rfl, rfl, rfl, by simp, fun j _ hj => (MapKept.heap_set (o' := o) hb).2 j (fun e => hj (by rw [e]))⟩
  cases hi : midx k m 0 with
  | none =>
    rw [hi] at hf
    refine ⟨{ W with heap := W.heap.setIfInBounds B (.map (es.push { key := ek k, val := ev v, born := c }) (c + 1)) }, ?_, ⟨_, _, (MapKept.heap_set hb).1, ?_, ?_, ?_⟩, hgrow _, by simp⟩
    · simp only [Instr.mapUpdate, Sem.run_bind, run_underlying L.und, Result.andThen_ok, MapKept.run_getObj_map hb, L.chk, hf, Option.map_none, MapKept.run_setObj_map _ hb]
    · rw [midx_none k v m 0 hi]; simp [hm]
    · simp only [Array.toList_push, List.map_append, List.map_cons, List.map_nil]
      refine List.nodup_append.2 ⟨hn, by simp, fun a ha b hb' => ?_⟩
      obtain ⟨x, hx, rfl⟩ := List.mem_map.1 ha
      have h1 := hbc x hx
      simp at hb'
      omega
    · intro x hx
      simp only [Array.toList_push, List.mem_append, List.mem_singleton] at hx
      rcases hx with hx | rfl
      · have := hbc x hx; omega
      · simp
  | some q =>
    obtain ⟨j, u⟩ := q
    rw [hi] at hf
    obtain ⟨_, hj, hput⟩ := midx_some k v m 0 j u hi
    rw [Nat.sub_zero] at hj hput
    have he : (es.toList.map (fun e => (e.key, e.val)))[j]? = some (ek k, ev u) := by rw [hm, List.getElem?_map, hj]; rfl
    rw [List.getElem?_map] at he
    obtain ⟨e0, he0, hek⟩ := Option.map_eq_some_iff.1 he
    simp only [Prod.mk.injEq] at hek
    have hes : es[j]? = some e0 := by simpa using he0
    have hborn : ((es.modify j fun e => { e with key := ek k, val := ev v }).toList.map (·.born)) = es.toList.map (·.born) := by
      apply List.ext_getElem?
      intro i
      simp only [List.getElem?_map, Array.getElem?_toList, Array.getElem?_modify]
      split
      · cases es[i]? <;> rfl
      · rfl
    refine ⟨{ W with heap := W.heap.setIfInBounds B (.map (es.modify j fun e => { e with key := ek k, val := ev v }) c) }, ?_, ⟨_, _, (MapKept.heap_set hb).1, ?_, ?_, ?_⟩, hgrow _, by simp⟩
    · simp only [Instr.mapUpdate, Sem.run_bind, run_underlying L.und, Result.andThen_ok, MapKept.run_getObj_map hb, L.chk, hf, Option.map_some, hes, Option.getD_some, hek.1, L.stays, MapKept.run_setObj_map _ hb]
    · rw [hput]
      apply List.ext_getElem?
      intro i
      have hmi : (es.toList.map (fun e => (e.key, e.val)))[i]? = (m.map (fun p => (ek p.1, ev p.2)))[i]? := by rw [hm]
      simp only [List.getElem?_map, Array.getElem?_toList, Array.getElem?_modify, List.getElem?_set] at hmi ⊢
      by_cases hji : j = i
      · subst hji
        have hl : j < m.length := (List.getElem?_eq_some_iff.1 hj).1
        simp [hes, hl]
      · simp only [if_neg hji]; exact hmi
    · rw [hborn]; exact hn
    · intro x hx
      have : x.born ∈ es.toList.map (·.born) := by rw [← hborn]; exact List.mem_map.2 ⟨x, hx, rfl⟩
      obtain ⟨y, hy, e⟩ := List.mem_map.1 this
      rw [← e]
      exact hbc y hy
/-- a range over the map in block B is under way, its place is block r; left is still to come -/
def Rng (ek : K → Value) (ev : V → Value) (W : World) (B r : Nat) (left : List (K × V)) : Prop :=
  ∃ es clock since seen c0, W.heap[B]? = some (.map es clock) ∧ (es.toList.map (·.born)).Nodup ∧ (∀ x ∈ es.toList, x.born < since) ∧ W.heap[r]? = some (.mapIter (some B) since seen c0) ∧ since ≤ c0 ∧ since ≤ clock ∧
    (leftOf es seen).toList.map (fun e => (e.key, e.val)) = left.map (fun p => (ek p.1, ev p.2))
theorem Rng.len {W : World} {B r : Nat} {left : List (K × V)} (h : Rng ek ev W B r left) : W.rangeLeft B r = left.length := by
  obtain ⟨es, clock, since, seen, c0, h1, _, _, h2, _, _, h3⟩ := h
  have := congrArg List.length h3
  simp only [List.length_map, Array.length_toList] at this
  simp only [World.rangeLeft, h1, h2, this]
theorem Rng.ne {W : World} {B r : Nat} {left : List (K × V)} (h : Rng ek ev W B r left) : B ≠ r := by
  rintro rfl
  obtain ⟨es, clock, since, seen, c0, h1, _, _, h2, _⟩ := h
  rw [h1] at h2
  cases h2
theorem Rng.at_ {W W' : World} {B r : Nat} {left : List (K × V)} (h : Rng ek ev W B r left) (hB : W'.heap[B]? = W.heap[B]?) (hr : W'.heap[r]? = W.heap[r]?) : Rng ek ev W' B r left := by
  obtain ⟨es, clock, since, seen, c0, h1, h2, h3, h4, h5⟩ := h
  exact ⟨es, clock, since, seen, c0, hB.trans h1, h2, h3, hr.trans h4, h5⟩
theorem run_range [DecidableEq K] {T kt et : TypeId} {zv : Value} {W : World} {B : Nat} {m : List (K × V)} (L : MapLaw P T kt et ek ev zv) (h : IsMapB ek ev W B m) :
    ∃ W', (Instr.range T (.map (some B))).run P W = .ok (.pointer (some ⟨W.heap.size, 0, none⟩)) W' ∧ Rng ek ev W' B W.heap.size m ∧ W.grownBy W' none ∧ W'.heap.size = W.heap.size + 1 := by
  have hlt := h.lt
  obtain ⟨es, c, hb, hm, hn, hbc⟩ := h
  refine ⟨_, run_range_map W T kt et B es c L.und hb, ⟨es, c, c, #[], c, ((MapKept.heap_alloc W _).2 B hlt).trans hb, hn, hbc, (MapKept.heap_alloc W _).1, Nat.le_refl _, Nat.le_refl _, ?_⟩, World.grownBy_alloc W _ none, by simp⟩
  have he : (leftOf es #[]).toList = es.toList := by unfold leftOf; rw [Array.toList_filter]; exact List.filter_eq_self.2 (fun a _ => by simp)
  rw [he]; exact hm
theorem left_push {es : Array MapEntry} {seen : Array Nat} {e : MapEntry} {L1 L2 : List MapEntry} (hn : (es.toList.map (·.born)).Nodup) (h : (leftOf es seen).toList = L1 ++ e :: L2) : (leftOf es (seen.push e.born)).toList = L1 ++ L2 := by
  have h1 : (leftOf es (seen.push e.born)).toList = (leftOf es seen).toList.filter (fun x => !(x.born == e.born)) := by
    unfold leftOf
    rw [Array.toList_filter, Array.toList_filter, List.filter_filter]
    refine List.filter_congr fun x _ => ?_
    have : (seen.push e.born).contains x.born = (seen.contains x.born || (x.born == e.born)) := by
      rw [Bool.eq_iff_iff]
      simp [Array.mem_push]
    rw [this]
    cases seen.contains x.born <;> cases (x.born == e.born) <;> rfl
  have h2 : ((leftOf es seen).toList.map (·.born)).Nodup := by
    unfold leftOf
    rw [Array.toList_filter]
    exact hn.sublist (List.filter_sublist.map _)
  rw [h1, h, List.filter_append, List.filter_cons]
  rw [h, List.map_append, List.map_cons] at h2
  obtain ⟨_, h4, h5⟩ := List.nodup_append.1 h2
  have h6 := (List.nodup_cons.1 h4).1
  rw [if_neg (by simp), List.filter_eq_self.2 (fun x hx => ?_), List.filter_eq_self.2 (fun x hx => ?_)]
  · simp only [Bool.not_eq_true', beq_eq_false_iff_ne, ne_eq]
    exact fun e1 => h6 (e1 ▸ List.mem_map.2 ⟨x, hx, rfl⟩)
  · simp only [Bool.not_eq_true', beq_eq_false_iff_ne, ne_eq]
    exact h5 _ (List.mem_map.2 ⟨x, hx, rfl⟩) _ (by simp)
theorem Rng.next {W : World} {B r : Nat} {left : List (K × V)} (h : Rng ek ev W B r left) (ty : TypeId) :
    (left = [] ∧ (Instr.next (.pointer (some ⟨r, 0, none⟩)) false ty).run P W = .ok (.tuple #[.bool false]) W) ∨
    ∃ l1 k v l2 W', left = l1 ++ (k, v) :: l2 ∧ (Instr.next (.pointer (some ⟨r, 0, none⟩)) false ty).run P W = .ok (.tuple #[.bool true, ek k, ev v]) W' ∧ Rng ek ev W' B r (l1 ++ l2) ∧ W.grownBy W' (some r) ∧ W'.heap.size = W.heap.size ∧
      (Instr.entry (.pointer (some ⟨r, 0, none⟩))).run P W' = .ok (.tuple #[ek k, ev v]) W' := by
  have hne := h.ne
  obtain ⟨es, clock, since, seen, c0, hb, hn, hold, hr, hsc, hsk, hl⟩ := h
  rcases run_next_at (P := P) W ty r B since c0 seen es clock hr hb hold hsc with ⟨h0, hrun⟩ | ⟨e, he, w1, hal, hrun⟩
  · refine .inl ⟨?_, hrun⟩
    have := congrArg List.length hl
    simp only [List.length_map, Array.length_toList] at this
    exact List.eq_nil_of_length_eq_zero (by omega)
  · obtain ⟨L1, L2, hL⟩ := List.append_of_mem he
    have hl2 := hl
    rw [hL, List.map_append, List.map_cons] at hl2
    obtain ⟨l1, l', e1, e2, e3⟩ := List.map_eq_append_iff.1 hl2.symm
    obtain ⟨p, l2, e4, e5, e6⟩ := List.map_eq_cons_iff.1 e3
    simp only [Prod.mk.injEq] at e5
    have hr1 : w1.heap[r]? = some (.mapIter (some B) since seen c0) := by rcases hal with rfl | rfl <;> exact hr
    have hb1 : w1.heap[B]? = some (.map es clock) := by rcases hal with rfl | rfl <;> exact hb
    have hset := MapKept.heap_set (o' := .mapIter (some B) since (seen.push e.born) clock) hr1
    have hb' : (Go.ChangeMaps.setBlock w1 r (.mapIter (some B) since (seen.push e.born) clock)).heap[B]? = some (.map es clock) := (hset.2 B hne).trans hb1
    refine .inr ⟨l1, p.1, p.2, l2, Go.ChangeMaps.setBlock w1 r (.mapIter (some B) since (seen.push e.born) clock), by rw [e1, e4], by rw [hrun, e5.1, e5.2],
      ⟨es, clock, since, seen.push e.born, clock, hb', hn, hold, hset.1, hsk, hsk, ?_⟩, ?_, ?_, ?_⟩
    · rw [left_push hn hL, List.map_append, List.map_append, e2, e6]
    · rcases hal with rfl | rfl <;> exact ⟨rfl, rfl, rfl, by simp [Go.ChangeMaps.setBlock], fun i _ hi => hset.2 i (fun e1 => hi (by rw [e1]))⟩
    · rcases hal with rfl | rfl <;> simp [Go.ChangeMaps.setBlock]
    · have hem : e ∈ es.toList := by
        have : e ∈ (leftOf es seen).toList := by rw [hL]; simp
        unfold leftOf at this
        rw [Array.toList_filter] at this
        exact (List.mem_filter.1 this).1
      rw [run_entry_at _ r B since seen es clock e hset.1 hb' hem hn, e5.1, e5.2]
end
end Go.Proofs.Ytaemdkbfdpjimaa.W

namespace Go.Proofs.Ytaemdkbfdpjimaa.W
open Go
set_option linter.unusedVariables false
namespace Qs
section
variable {F : Fence} {n : Nat} {P : Program} {ops : Array Oper} {md : Region.Mode} {C : World → Prop}
/-- what is listed when the first k operations are over -/
def lis (m : Nat) : Nat → Array Bool
  | 0 => Array.replicate m false
  | k + 1 => (lis m k).setIfInBounds k true
theorem lis_size (m : Nat) : ∀ k, (lis m k).size = m
  | 0 => by simp [lis]
  | k + 1 => by simp [lis, lis_size m k]
theorem lis_tail (m : Nat) : ∀ k t, k ≤ t → t < m → (lis m k).getD t true = false
  | 0, t, _, ht => getD_in (by simpa [lis] using ht) (getD_replicate_false _ _)
  | k + 1, t, hk, ht => by
    simp only [lis]
    rw [getD_set_ne true (by omega)]
    exact lis_tail m k t (by omega) ht
/-- all operations behind number N lead back to it or to one behind it -/
def descB (md : Region.Mode) (ops : Array Oper) (N : Nat) : Bool :=
  (List.range ops.size).all fun t => decide (t ≤ N) || (List.range t).any fun j => decide (N ≤ j) && Region.waitsFor md ops t j
/-- what is not listed and what it waits for -/
structure Inv (md : Region.Mode) (ops : Array Oper) (N : Nat) (listed : Array Bool) : Prop where
  size : listed.size = ops.size
  closed : ∀ j oj, ops[j]? = some oj → listed.getD j false = true → ∀ e ∈ oj.after, Region.binds md e = true → listed.getD e.on false = true
  tail : ∀ t, N ≤ t → t < ops.size → listed.getD t true = false
theorem Inv.set {N i : Nat} {listed : Array Bool} (inv : Inv md ops N listed) (hi : i ∈ Region.ready md ops listed) (hin : i < N) : Inv md ops N (listed.setIfInBounds i true) := by
  obtain ⟨_, oi, hoi, hall⟩ := mem_ready.1 hi
  refine ⟨by simp [inv.size], fun j oj hj hl e he hb => ?_, fun t ht ht' => by rw [getD_set_ne true (by omega)]; exact inv.tail t ht ht'⟩
  by_cases hij : i = j
  · subst hij
    have : oj = oi := Option.some.inj (hj.symm.trans hoi)
    subst this
    exact getD_set_true (hall e he hb)
  · rw [getD_set_ne false hij] at hl
    exact getD_set_true (inv.closed j oj hj hl e he hb)
theorem waits {N : Nat} {listed : Array Bool} (hs : Region.sinkB md ops N = true) (hc : descB md ops N = true) (inv : Inv md ops N listed) :
    ∀ (d i : Nat), N - i = d → i < N → listed.getD i true = false → ∀ t, N ≤ t → t ∉ Region.ready md ops listed := by
  intro d
  induction d using Nat.strongRecOn with
  | _ d ih =>
    intro i hd hi hun t ht hr
    obtain ⟨_, ot, hot, hall⟩ := mem_ready.1 hr
    have htlt : t < ops.size := (Array.getElem?_eq_some_iff.1 hot).1
    by_cases htn : t = N
    · subst htn
      obtain ⟨j, hj, hj2⟩ := List.any_eq_true.1 (List.all_eq_true.1 hs i (List.mem_range.2 hi))
      simp only [Bool.and_eq_true, decide_eq_true_eq] at hj2
      obtain ⟨oj, hoj, e, he, hb, hon⟩ := Region.waitsFor_spec hj2.2
      have hjle : j ≤ t := by have := List.mem_range.1 hj; omega
      by_cases hjt : j = t
      · subst hjt
        have : oj = ot := Option.some.inj (hoj.symm.trans hot)
        subst this
        have h2 := hall e he hb
        rw [hon, getD_both hun] at h2
        cases h2
      · cases hl : listed.getD j false with
        | true =>
          have h2 := inv.closed j oj hoj hl e he hb
          rw [hon, getD_both hun] at h2
          cases h2
        | false =>
          have hjs : j < listed.size := by rw [inv.size]; omega
          exact ih (t - j) (by omega) j rfl (by omega) (getD_in hjs hl) t (Nat.le_refl _) hr
    · have h1 := List.all_eq_true.1 hc t (List.mem_range.2 htlt)
      simp only [Bool.or_eq_true, decide_eq_true_eq] at h1
      rcases h1 with h1 | h1
      · omega
      · obtain ⟨j, hj, hj2⟩ := List.any_eq_true.1 h1
        have hjt := List.mem_range.1 hj
        simp only [Bool.and_eq_true, decide_eq_true_eq] at hj2
        obtain ⟨o', ho', e, he, hb, hon⟩ := Region.waitsFor_spec hj2.2
        have : o' = ot := Option.some.inj (ho'.symm.trans hot)
        subst this
        have h2 := hall e he hb
        rw [hon, getD_both (inv.tail j hj2.1 (by omega))] at h2
        cases h2
/-- the operations from where we are to number N, in whatever order -/
def HeadIn (F : Fence) (n : Nat) (P : Program) (md : Region.Mode) (ops : Array Oper) (C : World → Prop) (N : Nat) (L : Array Bool → Act → Prop) : Nat → Array Bool → Act → Prop
  | 0, listed, a => L listed a
  | f + 1, listed, a => Region.ready md ops listed ≠ [] ∧ ∀ i ∈ Region.ready md ops listed, i < N ∧ qOpIn F n P ops C i (HeadIn F n P md ops C N L f (listed.setIfInBounds i true)) a
theorem any_of_head {N g : Nat} {L : Array Bool → Act → Prop} {Q' : Exit → Act → World → Prop} (hro : F.round = none) (hL : ∀ listed a w, C w → L listed a → wpAnyIn F n P md ops Q' g listed a w) :
    ∀ (f : Nat) (listed : Array Bool) (a : Act) (w : World), C w → HeadIn F n P md ops C N L f listed a → wpAnyIn F n P md ops Q' (f + g) listed a w
  | 0, listed, a, w, hw, h => by rw [Nat.zero_add]; exact hL _ _ _ hw h
  | f + 1, listed, a, w, hw, h => by
    rw [show f + 1 + g = (f + g) + 1 by omega]
    exact ⟨fun h0 => absurd h0 h.1, fun i hi => wpOpIn_of_qOpIn hro hw (fun a' w' hw' h' => any_of_head hro hL f _ a' w' hw' h') (h.2 i hi).2⟩
theorem head_first {N i : Nat} {oi : Oper} {v : Value} {L : Array Bool → Act → Prop} (hi : ops[i]? = some oi) (hsel : ∀ (j : Nat) (o : Oper) cs b, ops[j]? = some o → o.op ≠ .select cs b)
    (hs : Region.sinkB md ops N = true) (hc : descB md ops N = true) (hin : i < N)
    (hdone : ∀ listed a, L listed a → ∀ j ∈ Region.ready md ops listed, N ≤ j) :
    ∀ (f : Nat) (listed : Array Bool) (a : Act), Inv md ops N listed →
      (∀ j oj, ops[j]? = some oj → j ≠ i → listed.getD j true = false → (∀ e ∈ oj.after, Region.binds md e = true → e.on ≠ i) → oi.apart ops oj = true) →
      i ∈ Region.ready md ops listed → YieldsQuiet F n P ops C oi v a →
      HeadIn F n P md ops C N L f (listed.setIfInBounds i true) (a.put oi.dst v) → HeadIn F n P md ops C N L (f + 1) listed a := by
  intro f
  induction f with
  | zero =>
    intro listed a inv _ hr hy H
    refine ⟨fun h => (by rw [h] at hr; cases hr), fun j hj => ?_⟩
    have hjn : j < N := Nat.lt_of_not_le fun h => waits hs hc inv _ i rfl hin (mem_ready.1 hr).1 j h hj
    refine ⟨hjn, ?_⟩
    by_cases hji : j = i
    · subst hji; exact hy.qOpIn hi H
    · have := hdone _ _ H j (ready_mono hj hji)
      omega
  | succ f ih =>
    intro listed a inv hfree hr hy H
    have hun := (mem_ready.1 hr).1
    refine ⟨fun h => (by rw [h] at hr; cases hr), fun j hj => ?_⟩
    have hjn : j < N := Nat.lt_of_not_le fun h => waits hs hc inv _ i rfl hin hun j h hj
    refine ⟨hjn, ?_⟩
    by_cases hji : j = i
    · subst hji; exact hy.qOpIn hi H
    · have h1 := (H.2 j (ready_mono hj hji)).2
      obtain ⟨hjun, oj, hoj, hall⟩ := mem_ready.1 hj
      have hnot : ∀ e ∈ oj.after, Region.binds md e = true → e.on ≠ i := fun e he hb heq => by
        have h3 := hall e he hb
        rw [heq, getD_both hun] at h3
        cases h3
      have h2 := qOpIn_put hoj (hfree j oj hoj hji hjun hnot) (fun cs b => hsel i oi cs b hi) (fun cs b => hsel j oj cs b hoj) hy h1
      refine qOpIn_mono (fun a' h3 => ih (listed.setIfInBounds j true) a' (inv.set hj hjn) (fun k ok hk hki hk1 hno => ?_) (ready_mono hr (Ne.symm hji)) h3.1 ?_) h2
      · refine hfree k ok hk hki ?_ hno
        by_cases hjk : j = k
        · subst hjk; exact hjun
        · rw [getD_set_ne true hjk] at hk1; exact hk1
      · rw [Array.setIfInBounds_comm _ _ hji]
        exact h3.2
/-- from number k on, f operations may come up in the order of the text, each free of all that does not wait for it -/
def freeB (md : Region.Mode) (ops : Array Oper) (m : Nat) : Nat → Nat → Bool
  | 0, _ => true
  | f + 1, k => (Region.ready md ops (lis m k)).contains k && Region.free md ops (lis m k) k && freeB md ops m f (k + 1)
theorem head_lex {N : Nat} {Lq : Act → Prop} (hsel : Region.noSelect ops = true) (hs : Region.sinkB md ops N = true) (hc : descB md ops N = true) (hrd : ∀ j ∈ Region.ready md ops (lis ops.size N), N ≤ j) :
    ∀ (l : List Oper) (k : Nat) (a : Act), (∀ j, j < l.length → l[j]? = ops[k + j]?) → k + l.length = N → Inv md ops N (lis ops.size k) →
    freeB md ops ops.size l.length k = true → wpQuietIn F n P ops C Lq l a →
    HeadIn F n P md ops C N (fun listed' a' => listed' = lis ops.size N ∧ Lq a') l.length (lis ops.size k) a
  | [], k, a, _, hk, _, hB, h => by
    obtain rfl : k = N := by simpa using hk
    exact ⟨rfl, h⟩
  | o :: l, k, a, hl, hk, inv, hB, h => by
    have h0 : ops[k]? = some o := by simpa using (hl 0 (by simp)).symm
    simp only [List.length_cons, freeB, Bool.and_eq_true] at hB
    obtain ⟨⟨hr, hf⟩, hB'⟩ := hB
    have hkn : k < N := by simp only [List.length_cons] at hk; omega
    have hr' : k ∈ Region.ready md ops (lis ops.size k) := by simpa using hr
    have hst : qOpIn F n P ops C k (wpQuietIn F n P ops C Lq l) a := by unfold qOpIn; simp only [h0]; exact h
    obtain ⟨v, hy, hK⟩ := yieldsQuiet_of_qOpIn h0 hst
    exact head_first h0 (Region.noSelect_spec hsel) hs hc hkn (fun listed' a' hL => by rw [hL.1]; exact hrd) l.length (lis ops.size k) a inv (Region.free_spec h0 hf) hr' hy
      (head_lex hsel hs hc hrd l (k + 1) _ (fun j hj => by have := hl (j + 1) (by simp; omega); simpa [Nat.add_assoc, Nat.add_comm 1 j] using this) (by simp only [List.length_cons] at hk; omega) (inv.set hr' hkn) hB' hK)
/-- the last part: reads to the end -/
def LastB (md : Region.Mode) (ops : Array Oper) (k : Nat) : Bool := Region.noSelect ops && Region.lexFrom md ops (ops.size - k) k (lis ops.size k)
theorem any_last {k : Nat} {Q : Exit → Act → World → Prop} {a : Act} {w : World} (hro : F.round = none) (hk : k ≤ ops.size) (hB : LastB md ops k = true)
    (h : wpQuietIn F n P ops (fun w' => ∃ n, w' = w.drewN n) (fun a' => ∀ w', (∃ n, w' = w.drewN n) → Q .normal a' w') (ops.toList.drop k) a) (w1 : World) (hw : ∃ n, w1 = w.drewN n) :
    wpAnyIn F n P md ops Q (ops.size - k) (lis ops.size k) a w1 := by
  simp only [LastB, Bool.and_eq_true] at hB
  have hlen : (ops.toList.drop k).length = ops.size - k := by simp
  have := wpAnyQIn_lex (F := F) (n := n) (P := P) (C := fun w' => ∃ n, w' = w.drewN n) (Q := fun a' => ∀ w', (∃ n, w' = w.drewN n) → Q .normal a' w') (md := md) hB.1 (ops.toList.drop k) k (lis ops.size k) a (fun j => by simp [List.getElem?_drop]) (by rw [hlen]; exact hB.2) h
  rw [hlen] at this
  exact wpAnyIn_of_quiet (Q := fun a' => ∀ w', (∃ n, w' = w.drewN n) → Q .normal a' w') hro (fun _ w' hw' h => h w' hw') _ _ _ _ hw this
/-- a part: reads from number k on, then operation N -/
def PartB (md : Region.Mode) (ops : Array Oper) (k N : Nat) : Bool :=
  Region.noSelect ops && decide (k ≤ N) && decide (N < ops.size) && Region.sinkB md ops N && descB md ops N && decide (Region.ready md ops (lis ops.size N) = [N]) && freeB md ops ops.size (N - k) k
theorem any_part {k N : Nat} {Q : Exit → Act → World → Prop} {a : Act} {w : World} (hro : F.round = none) (hB : PartB md ops k N = true) (hinv : ∀ j oj, ops[j]? = some oj → (lis ops.size k).getD j false = true → ∀ e ∈ oj.after, Region.binds md e = true → (lis ops.size k).getD e.on false = true)
    (K : Act → World → Prop) (hK : ∀ a' w', K a' w' → wpAnyIn F n P md ops Q (ops.size - (N + 1)) (lis ops.size (N + 1)) a' w')
    (h : wpQuietIn F n P ops (fun w' => ∃ n, w' = w.drewN n) (fun a' => ∀ w', (∃ n, w' = w.drewN n) → wpOpIn F n P ops Q N K a' w') ((ops.toList.drop k).take (N - k)) a) (w1 : World) (hw : ∃ n, w1 = w.drewN n) :
    wpAnyIn F n P md ops Q (ops.size - k) (lis ops.size k) a w1 := by
  simp only [PartB, Bool.and_eq_true, decide_eq_true_eq] at hB
  obtain ⟨⟨⟨⟨⟨⟨hsel, hkN⟩, hN⟩, hs⟩, hc⟩, hrd⟩, hf⟩ := hB
  have hlen : ((ops.toList.drop k).take (N - k)).length = N - k := by simp; omega
  have inv : Inv md ops N (lis ops.size k) := ⟨lis_size _ _, hinv, fun t ht ht' => lis_tail _ _ _ (by omega) ht'⟩
  have H := head_lex (F := F) (n := n) (P := P) (C := fun w' => ∃ n, w' = w.drewN n) (md := md) hsel hs hc (fun j hj => by rw [hrd] at hj; simp at hj; omega) ((ops.toList.drop k).take (N - k)) k a
    (fun j hj => by rw [hlen] at hj; simp [List.getElem?_drop, hj]) (by rw [hlen]; omega) inv (by rw [hlen]; exact hf) h
  have := any_of_head (Q' := Q) (g := ops.size - N) hro (fun listed a' w' hw' hL => by
    obtain ⟨rfl, hq⟩ := hL
    rw [show ops.size - N = ops.size - (N + 1) + 1 by omega]
    refine ⟨fun h1 => (by rw [hrd] at h1; cases h1), fun i hi => ?_⟩
    rw [hrd] at hi
    obtain rfl : i = N := by simpa using hi
    exact wpOpIn_mono (fun a'' w'' hk => hK a'' w'' hk) (hq w' hw')) _ _ _ _ hw H
  rw [hlen, show N - k + (ops.size - N) = ops.size - k by omega] at this
  exact this
/-- is all listed that a listed one waits for? -/
def closedB (md : Region.Mode) (ops : Array Oper) (k : Nat) : Bool :=
  (List.range ops.size).all fun j => !(lis ops.size k).getD j false || match ops[j]? with | none => true | some oj => oj.after.all fun e => !Region.binds md e || (lis ops.size k).getD e.on false
theorem closed_of {k : Nat} (h : closedB md ops k = true) : ∀ j oj, ops[j]? = some oj → (lis ops.size k).getD j false = true → ∀ e ∈ oj.after, Region.binds md e = true → (lis ops.size k).getD e.on false = true := by
  intro j oj hj hl e he hb
  have hjs : j < ops.size := (Array.getElem?_eq_some_iff.1 hj).1
  have h1 := List.all_eq_true.1 h j (List.mem_range.2 hjs)
  rw [hl, hj] at h1
  simp only [Bool.not_true, Bool.false_or] at h1
  have h2 := Array.all_eq_true'.1 h1 e he
  rw [hb] at h2
  simpa using h2
/-- **The parts, one behind the other.** -/
theorem region_start {id : Nat} {Q : Exit → Act → World → Prop} {a : Act} {w : World} {l : List Oper} (hm : P.follows .mixedOrders = true)
    (h : wpAnyIn F n P .any l.toArray Q (l.toArray.size - 0) (lis l.toArray.size 0) a w.drew) : (Code.region id l.toArray true).wpIn F n P Q a w :=
  wpIn_region_any hm h
/-- the operation that ends a part -/
theorem op_step {Q : Exit → Act → World → Prop} {N : Nat} {o : Oper} {K : Act → World → Prop} {a : Act} {w : World} (h0 : ops[N]? = some o) (hw : Region.wanted o (yielded ops a.tmps) = true)
    (h : ∀ K' : Act → World → Prop, (∀ a w, K a w → K' a w) → o.wpIn F n P a w K' Q) : wpOpIn F n P ops Q N K a w := by
  unfold wpOpIn
  simp only [h0, hw, if_true]
  exact h K (fun _ _ h => h)
end
end Qs
end Go.Proofs.Ytaemdkbfdpjimaa.W

namespace Go.Proofs.Ytaemdkbfdpjimaa.W
open Go.RowKit Go.ChangeShapes Go.WideShapes Go.Deep Go.Proofs.YtaemdkbfdpjimaaW.PrintWords Go.Proofs.YtaemdkbfdpjimaaW.PrintLast Go.Proofs.YtaemdkbfdpjimaaW.PrintMore Go.Proofs.Ytaemdkbfdpjimaa.P
set_option linter.unusedVariables false
def cs47 (x : S47) : List Value := [.int .u16 x.f0, .int .u8 x.f1, .int .u8 x.f2]
theorem cs47_len (x : S47) : (cs47 x).length = 3 := rfl
/-- the numbers of a struct are numbers of their kinds -/
def WF47 (s : S47) : Prop := (Lit.int .u16 s.f0).wf = true ∧ (Lit.int .u8 s.f1).wf = true ∧ (Lit.int .u8 s.f2).wf = true
section
variable {H : Type} {enc : TypeId × Value → H} {w : World} {base : Nat} {spare : Nat → Bool} {held : Bool}
theorem row_of_trod47 {fuel : Nat} {cs : List Value} {x : DataW H × List MemPlace} (h : DataW.trod enc Try.prog w base spare held fuel 47 cs = some x) : ∃ s : S47, cs = cs47 s ∧ WF47 s := by
  obtain ⟨xs, n, _, _, hcs, hxs, hg⟩ := DataW.trod_struct Try.underlying47 h
  have hC : Try.prog.cellsOf 47 = 3 := by kernel_rfl
  rw [hC] at hcs
  have hx : xs.length = 3 := hxs
  match cs, hcs with
  | [c0, c1, c2], _ =>
    have g0 := hg 0 _ rfl
    have k0 : Try.prog.cellsOf 45 = 1 := by kernel_rfl
    change DataW.trod enc Try.prog w base spare held n 45 (([c0, c1, c2].drop 0).take (Try.prog.cellsOf 45)) = _ at g0
    rw [k0] at g0
    obtain ⟨n0, e0, _, u0⟩ := DataW.trod_int Try.underlying45 (g0.trans (List.getElem?_eq_getElem (by omega)))
    have q0 : c0 = .int .u16 n0 := by simpa using e0
    have g1 := hg 1 _ rfl
    have k1 : Try.prog.cellsOf 5 = 1 := by kernel_rfl
    change DataW.trod enc Try.prog w base spare held n 5 (([c0, c1, c2].drop 1).take (Try.prog.cellsOf 5)) = _ at g1
    rw [k1] at g1
    obtain ⟨n1, e1, _, u1⟩ := DataW.trod_int Try.underlying5 (g1.trans (List.getElem?_eq_getElem (by omega)))
    have q1 : c1 = .int .u8 n1 := by simpa using e1
    have g2 := hg 2 _ rfl
    have k2 : Try.prog.cellsOf 5 = 1 := by kernel_rfl
    change DataW.trod enc Try.prog w base spare held n 5 (([c0, c1, c2].drop 2).take (Try.prog.cellsOf 5)) = _ at g2
    rw [k2] at g2
    obtain ⟨n2, e2, _, u2⟩ := DataW.trod_int Try.underlying5 (g2.trans (List.getElem?_eq_getElem (by omega)))
    have q2 : c2 = .int .u8 n2 := by simpa using e2
    exact ⟨⟨n0, n1, n2⟩, by rw [q0, q1, q2]; rfl, u0, u1, u2⟩
theorem open_one47 {r : Reach} {b0 : Nat} {v : Value} {d : DataW H} {p : List MemPlace} (hv : Value.okWide Try.prog w r b0 47 v) (h : DataW.Trod enc Try.prog w base spare held 47 v d p) : ∃ s : S47, v = .agg #[.int .u16 s.f0, .int .u8 s.f1, .int .u8 s.f2] ∧ WF47 s := by
  obtain ⟨cs, rfl, hsz⟩ := okWide_struct Try.underlying47 hv
  obtain ⟨fuel, hf⟩ := h
  obtain ⟨s, e, hw⟩ := row_of_trod47 hf
  refine ⟨s, ?_, hw⟩
  have e2 : cs.toList = cs47 s := e
  rw [← Array.toArray_toList (xs := cs), e2]
  rfl
theorem open_row47 {r : Reach} {b0 : Nat} {v : Value} {d : DataW H} {p : List MemPlace} (hv : Value.okWide Try.prog w r b0 44 v) (h : DataW.Trod enc Try.prog w base spare held 44 v d p) :
    ∃ (A : Option Addr) (cap : Nat) (l : List S47), v = .slice A l.length cap ∧ l.length ≤ cap ∧ Kd.C k47 w A l.length l ∧ (∀ x ∈ l, WF47 x) := by
  obtain ⟨A, len, cap, rfl⟩ := okWide_slice Try.underlying44 hv
  obtain ⟨fuel, hf⟩ := h
  rcases open_slice Try.underlying44 hf with ⟨h1, _⟩ | ⟨a, len', cap', m, n, D, Pl, h1, _, hlc, hcm, hm, _, hi⟩
  · simp [Value.cells] at h1
    obtain ⟨rfl, rfl, rfl⟩ := h1
    exact ⟨none, 0, [], rfl, Nat.le_refl _, Kd.C_nil _ _, by simp⟩
  · simp [Value.cells] at h1
    obtain ⟨rfl, rfl, rfl⟩ := h1
    have hC : Try.prog.cellsOf 47 = 3 := by kernel_rfl
    have hml : len ≤ m := by rw [hm]; split <;> omega
    have hs : ∀ i, i < len → ∃ s : S47, (∀ j u, (cs47 s)[j]? = some u → w.cell? (a.add (i * 3 + j)) = some u) ∧ WF47 s := by
      intro i hil
      obtain ⟨cs', hc, ht⟩ := hi i (by omega)
      obtain ⟨s, rfl, hw⟩ := row_of_trod47 ht
      rw [hC] at hc
      obtain ⟨_, _, hat⟩ := World.cells?_some hc
      refine ⟨s, fun j u hj => ?_, hw⟩
      have hjl : j < 3 := by have := (List.getElem?_eq_some_iff.1 hj).1; rwa [cs47_len] at this
      rw [← hj, ← hat j hjl, ← Deep.add_add]
    obtain ⟨g, hg⟩ : ∃ g : Nat → S47, ∀ i, i < len → (∀ j u, (cs47 (g i))[j]? = some u → w.cell? (a.add (i * 3 + j)) = some u) ∧ WF47 (g i) := by
      refine ⟨fun i => if h : i < len then Classical.choose (hs i h) else z47, fun i h => ?_⟩
      simp only [dif_pos h]
      exact Classical.choose_spec (hs i h)
    have hlen : ((List.range len).map g).length = len := by simp
    refine ⟨some a, cap, (List.range len).map g, by rw [hlen], by rw [hlen]; exact hlc, ?_, ?_⟩
    · rw [hlen]
      refine ⟨hlen, by unfold maxLen at hcm; omega, fun _ => ⟨a, rfl, fun j p hj => ?_⟩⟩
      have hjl : j < len := by have := (List.getElem?_eq_some_iff.1 hj).1; rwa [hlen] at this
      obtain rfl : g j = p := by
        rw [List.getElem?_map, List.getElem?_range hjl] at hj
        simpa using hj
      exact ⟨cs47 (g j), cs47_len _, k47.K_of_M (k47_mkM w 0 (fun _ => True) (g j)), (hg j hjl).1⟩
    · intro x hx
      obtain ⟨i, hi', rfl⟩ := List.mem_map.1 hx
      exact (hg i (List.mem_range.1 hi')).2
end
end Go.Proofs.Ytaemdkbfdpjimaa.W
