/-
Words for ranges over functions: what a round keeps. No condition beyond the premises.
Maps of the call's own as lists of pairs: what a look-up and a store come to, keys being structs or whole numbers. No program in sight; no condition beyond the premises.
The order == of one struct type: two rows of fields are equal just where the structs are. No condition.
-/
import Derived.Test.YtaemdkbfdpjimaaWk
import Derived.RangeFuncNested
import Derived.RangeFuncBound
import Derived.RangeFuncCalls
import Derived.RangeFuncLeaves
import Derived.OwnWalkIn
import Derived.TacticsInMore
import Derived.LoopNIn
import Derived.LoopIn
import Derived.MapKept
import Derived.Maps.OwnIn
import Derived.Test.YtaemdkbfdpjimaaS
namespace Go.Proofs.Ytaemdkbfdpjimaa.W
open Go.RowKit Go.Proofs.YtaemdkbfdpjimaaW.PrintWords Go.Proofs.YtaemdkbfdpjimaaW.PrintLast Go.Proofs.YtaemdkbfdpjimaaW.PrintMore Go.Proofs.Ytaemdkbfdpjimaa.P
set_option linter.unusedVariables false
/-- A fact laid where the walk's simplifier does not see it (it takes every proof of the context for a rule). -/
structure Pk (p : Prop) : Type where
  out : p
def pk {p : Prop} (h : p) : Pk p := ⟨h⟩
/-- the blocks of K lie as they lay -/
def Keep (K : Nat → Prop) (W W' : World) : Prop := ∀ k, K k → W'.heap[k]? = W.heap[k]?
theorem Keep.refl (K : Nat → Prop) (W : World) : Keep K W W := fun _ _ => rfl
theorem Keep.trans {K : Nat → Prop} {A B C : World} (h : Keep K A B) (h' : Keep K B C) : Keep K A C := fun k hk => (h' k hk).trans (h k hk)
theorem Keep.alloc {K : Nat → Prop} {A B : World} (h : Keep K A B) (hK : ∀ k, K k → k < B.heap.size) (o : Obj) : Keep K A (B.alloc o) := fun k hk => (Below.heap_alloc B o k (hK k hk)).trans (h k hk)
theorem Keep.drew {K : Nat → Prop} {A B : World} (h : Keep K A B) : Keep K A B.drew := h
theorem Keep.below {K : Nat → Prop} {A B C : World} {n : Nat} (h : Keep K A B) (hb : Below n B C) (hK : ∀ k, K k → k < n) : Keep K A C := fun k hk => (hb.block k (hK k hk)).trans (h k hk)
theorem Keep.of_below {K : Nat → Prop} {A B : World} {n : Nat} (hb : Below n A B) (hK : ∀ k, K k → k < n) : Keep K A B := fun k hk => hb.block k (hK k hk)
theorem keepK_t {K : Nat → Prop} {A B C : World} (h : Keep K A B) (h' : Keep K B C) : Keep K A C := h.trans h'
theorem keepK_b {K : Nat → Prop} {w : World} (hK : ∀ k, K k → k < w.heap.size) (W : World) (l : Nat) (o o' : Obj) (hl : w.heap.size ≤ l) (h : W.heap[l]? = some o) (_ : o.isCells = false) (_ : o.isWalk = false) : Keep K W (W.putObj l o') := fun k hk => by
  have := hK k hk
  exact World.putObj_heap_other (by omega)
theorem C_keep24 {K : Nat → Prop} {W W' : World} {A : Option Addr} {n : Nat} {l : List S24} (h : Kd.C k24 W A n l) (hk : Keep K W W') (hA : ∀ ad, A = some ad → 0 < n → K ad.block) : Kd.C k24 W' A n l := by
  obtain ⟨h1, h2, h3⟩ := h
  refine ⟨h1, h2, fun hn => ?_⟩
  obtain ⟨ad, e, hc⟩ := h3 hn
  refine ⟨ad, e, fun j p hj => ?_⟩
  obtain ⟨c, hl, hK, hcell⟩ := hc j p hj
  have hcs := k24_open hK
  refine ⟨c, hl, by rw [hcs]; exact k24_mk W' p, fun i u hu => ?_⟩
  have hb : ∀ q, (ad.add q).block = ad.block := fun q => by unfold Addr.add; split <;> rfl
  exact (World.cell?_of_block (w := W) (by rw [hb]; exact hk _ (hA ad e hn))).trans (hcell i u hu)
theorem at_24 {w : World} {A : Option Addr} {n : Nat} {xs : List S24} (h : Kd.C k24 w A n xs) (k : Nat) (hk : k < n) :
    ∃ ad, A = some ad ∧ w.cell? (ad.add (k * 8)) = some (.int .i64 (xs.getD k z24).f0) ∧ w.cell? ⟨(ad.add (k * 8)).block, (ad.add (k * 8)).off + 1, none⟩ = some (.int .i64 (xs.getD k z24).f1) ∧ w.cell? ⟨(ad.add (k * 8)).block, (ad.add (k * 8)).off + 2, none⟩ = some (.int .i64 (xs.getD k z24).f2) ∧ w.cell? ⟨(ad.add (k * 8)).block, (ad.add (k * 8)).off + 3, none⟩ = some (.int .i64 (xs.getD k z24).f3) ∧ w.cell? ⟨(ad.add (k * 8)).block, (ad.add (k * 8)).off + 4, none⟩ = some (.int .i64 (xs.getD k z24).f4) ∧ w.cell? ⟨(ad.add (k * 8)).block, (ad.add (k * 8)).off + 5, none⟩ = some (.int .i64 (xs.getD k z24).f5) ∧ w.cell? ⟨(ad.add (k * 8)).block, (ad.add (k * 8)).off + 6, none⟩ = some (.int .i64 (xs.getD k z24).f6) ∧ w.cell? ⟨(ad.add (k * 8)).block, (ad.add (k * 8)).off + 7, none⟩ = some (.bool (xs.getD k z24).f7) := by
  have := at_T24 h (k : Int) (by omega) (by omega)
  simpa [rd_T24] using this
end Go.Proofs.Ytaemdkbfdpjimaa.W

namespace Go.Proofs.Ytaemdkbfdpjimaa.W
open Go.RowKit
set_option linter.unusedVariables false
section
variable {K V : Type} [DecidableEq K]
def mget : List (K × V) → K → Option V
  | [], _ => none
  | p :: m, k => if p.1 = k then some p.2 else mget m k
def mput : List (K × V) → K → V → List (K × V)
  | [], k, v => [(k, v)]
  | p :: m, k, v => if p.1 = k then (k, v) :: m else p :: mput m k v
def midx (k : K) : List (K × V) → Nat → Option (Nat × V)
  | [], _ => none
  | p :: m, i => if p.1 = k then some (i, p.2) else midx k m (i + 1)
theorem mget_put (m : List (K × V)) (k k' : K) (v : V) : mget (mput m k v) k' = if k = k' then some v else mget m k' := by
  induction m with
  | nil => simp [mput, mget]
  | cons p m ih =>
    unfold mput
    by_cases h : p.1 = k
    · rw [if_pos h]
      by_cases h2 : k = k'
      · simp [mget, h2]
      · simp only [mget]; rw [if_neg h2, if_neg (show ¬ p.1 = k' by rw [h]; exact h2), if_neg h2]
    · rw [if_neg h]
      simp only [mget]
      by_cases h2 : p.1 = k'
      · rw [if_pos h2, if_pos h2, if_neg (fun e => h (h2.trans e.symm))]
      · rw [if_neg h2, if_neg h2, ih]
theorem midx_get (k : K) : ∀ (m : List (K × V)) (i : Nat), (midx k m i).map (·.2) = mget m k
  | [], _ => rfl
  | p :: m, i => by
    unfold midx mget
    by_cases h : p.1 = k
    · rw [if_pos h, if_pos h]; rfl
    · rw [if_neg h, if_neg h]; exact midx_get k m (i + 1)
theorem midx_some (k : K) (v : V) : ∀ (m : List (K × V)) (i j : Nat) (u : V), midx k m i = some (j, u) → i ≤ j ∧ m[j - i]? = some (k, u) ∧ mput m k v = m.set (j - i) (k, v)
  | [], _, _, _, h => by cases h
  | p :: m, i, j, u, h => by
    unfold midx at h
    by_cases h2 : p.1 = k
    · rw [if_pos h2] at h
      cases h
      refine ⟨Nat.le_refl _, by simp [← h2], ?_⟩
      unfold mput; rw [if_pos h2]; simp
    · rw [if_neg h2] at h
      obtain ⟨a, b, c⟩ := midx_some k v m (i + 1) j u h
      have e : j - i = (j - (i + 1)) + 1 := by omega
      refine ⟨by omega, by rw [e]; simpa using b, ?_⟩
      unfold mput; rw [if_neg h2, c, e]; rfl
theorem midx_none (k : K) (v : V) : ∀ (m : List (K × V)) (i : Nat), midx k m i = none → mput m k v = m ++ [(k, v)]
  | [], _, _ => rfl
  | p :: m, i, h => by
    unfold midx at h
    by_cases h2 : p.1 = k
    · rw [if_pos h2] at h; cases h
    · rw [if_neg h2] at h
      unfold mput; rw [if_neg h2, midx_none k v m (i + 1) h]; rfl
structure MapLaw (P : Program) (T kt et : TypeId) (ek : K → Value) (ev : V → Value) (zv : Value) : Prop where
  und : P.underlying T = some (.map kt et)
  chk : ∀ (em : Bool) (k : K) (w : World), (Instr.checkKey em 10000 kt (ek k)).run P w = .ok () w
  find : ∀ (k : K) (es : List MapEntry) (m : List (K × V)) (w : World), es.map (fun e => (e.key, e.val)) = m.map (fun p => (ek p.1, ev p.2)) → (Instr.findKey kt (ek k) es).run P w = .ok ((midx k m 0).map fun q => (q.1, ev q.2)) w
  stays : ∀ (k : K) (w : World), (Instr.keyThatStays (ek k) (ek k)).run P w = .ok (ek k) w
  zero : ∀ (w : World), (zeroValue et).run P w = .ok zv w
variable {P : Program} {ek : K → Value} {ev : V → Value}
theorem find_asking {kt : TypeId} (heq : ∀ (a b : K) (w : World), (Op.equal kt (ek a) (ek b)).run P w = .ok (decide (a = b)) w) (k : K) : ∀ (es : List MapEntry) (m : List (K × V)) (i : Nat) (w : World),
    es.map (fun e => (e.key, e.val)) = m.map (fun p => (ek p.1, ev p.2)) → (Instr.findAsking kt (ek k) es i).run P w = .ok ((midx k m i).map fun q => (q.1, ev q.2)) w
  | [], [], _, _, _ => rfl
  | [], _ :: _, _, _, h => by cases h
  | _ :: _, [], _, _, h => by cases h
  | e :: es, p :: m, i, w, h => by
    simp only [List.map_cons, List.cons.injEq, Prod.mk.injEq] at h
    obtain ⟨⟨h1, h2⟩, h3⟩ := h
    simp only [Instr.findAsking, Sem.run_bind, h1, heq, Result.andThen_ok, Sem.run_ite, decide_eq_true_eq]
    unfold midx
    by_cases hk : k = p.1
    · rw [if_pos hk, if_pos hk.symm, h2]; rfl
    · rw [if_neg hk, if_neg (fun e => hk e.symm)]; exact find_asking heq k es m (i + 1) w h3
theorem find_struct {kt : TypeId} {fs : Array Field} (hu : P.underlying kt = some (.struct fs)) (heq : ∀ (a b : K) (w : World), (Op.equal kt (ek a) (ek b)).run P w = .ok (decide (a = b)) w) (k : K) (es : List MapEntry) (m : List (K × V)) (w : World)
    (h : es.map (fun e => (e.key, e.val)) = m.map (fun p => (ek p.1, ev p.2))) : (Instr.findKey kt (ek k) es).run P w = .ok ((midx k m 0).map fun q => (q.1, ev q.2)) w := by
  cases es with
  | nil =>
    cases m with
    | nil => simp [Instr.findKey, run_underlying hu, Instr.findNow, midx]
    | cons p m => cases h
  | cons e es =>
    have hs : Instr.findNow (.struct fs) (ek k) (e :: es) 0 = none := rfl
    simp only [Instr.findKey, Sem.run_bind, run_underlying hu, Result.andThen_ok, hs]
    exact find_asking heq k (e :: es) m 0 w h
theorem find_now_int {q : IntKind} (k : Int) {ev : V → Value} : ∀ (es : List MapEntry) (m : List (Int × V)) (i : Nat), es.map (fun e => (e.key, e.val)) = m.map (fun p => (Value.int q p.1, ev p.2)) →
    Instr.findNow (.int q) (.int q k) es i = some ((midx k m i).map fun z => (z.1, ev z.2))
  | [], [], _, _ => rfl
  | [], _ :: _, _, h => by cases h
  | _ :: _, [], _, h => by cases h
  | e :: es, p :: m, i, h => by
    simp only [List.map_cons, List.cons.injEq, Prod.mk.injEq] at h
    obtain ⟨⟨h1, h2⟩, h3⟩ := h
    unfold midx
    have hs : Instr.sameNow (.int q) (.int q k) e.key = some (k == p.1) := by rw [h1]; simp [Instr.sameNow]
    by_cases hk : k = p.1
    · rw [if_pos hk.symm]
      simp only [Instr.findNow]
      rw [hs, show (k == p.1) = true by simpa using hk]
      simp [h2]
    · rw [if_neg (fun e => hk e.symm)]
      simp only [Instr.findNow]
      rw [hs, show (k == p.1) = false by simpa using hk]
      exact find_now_int k es m (i + 1) h3
theorem find_int {q : IntKind} {kt : TypeId} {ev : V → Value} (hu : P.underlying kt = some (.int q)) (k : Int) (es : List MapEntry) (m : List (Int × V)) (w : World) (h : es.map (fun e => (e.key, e.val)) = m.map (fun p => (Value.int q p.1, ev p.2))) :
    (Instr.findKey kt (.int q k) es).run P w = .ok ((midx k m 0).map fun z => (z.1, ev z.2)) w := MapKept.run_findKey hu (find_now_int k es m 0 h)
theorem int_law {q : IntKind} {T kt et : TypeId} {ev : V → Value} {zv : Value} (hT : P.underlying T = some (.map kt et)) (hu : P.underlying kt = some (.int q)) (hz : ∀ (w : World), (zeroValue et).run P w = .ok zv w) : MapLaw P T kt et (Value.int q) ev zv :=
  ⟨hT, fun em k w => MapKept.run_checkKey hu (by simp [MapKept.IsKey]) em 9999, fun k es m w h => find_int hu k es m w h, fun k w => MapKept.run_keyThatStays (d := .int q) (by simp [MapKept.IsKey]), hz⟩
/-- Block B is a map that reads as the list m. -/
def IsMap (ek : K → Value) (ev : V → Value) (W : World) (B : Nat) (m : List (K × V)) : Prop :=
  ∃ es clock, W.heap[B]? = some (.map es clock) ∧ es.toList.map (fun e => (e.key, e.val)) = m.map (fun p => (ek p.1, ev p.2))
omit [DecidableEq K] in
theorem IsMap.lt {W : World} {B : Nat} {m : List (K × V)} (h : IsMap ek ev W B m) : B < W.heap.size := by
  obtain ⟨es, c, h, _⟩ := h
  exact (Array.getElem?_eq_some_iff.1 h).1
omit [DecidableEq K] in
theorem IsMap.at_ {W W' : World} {B : Nat} {m : List (K × V)} (h : IsMap ek ev W B m) (hb : W'.heap[B]? = W.heap[B]?) : IsMap ek ev W' B m := by
  obtain ⟨es, c, h, hm⟩ := h
  exact ⟨es, c, hb.trans h, hm⟩
omit [DecidableEq K] in
theorem IsMap.new (W : World) : IsMap ek ev (W.alloc (.map #[] 0)) W.heap.size ([] : List (K × V)) := ⟨#[], 0, Go.heap_alloc_new W _, rfl⟩
omit [DecidableEq K] in
theorem IsMap.nil {W : World} {B : Nat} (h : W.heap[B]? = some (.map #[] 0)) : IsMap ek ev W B ([] : List (K × V)) := ⟨#[], 0, h, rfl⟩
variable {T kt et : TypeId} {zv : Value}
theorem run_look {W : World} {B : Nat} {m : List (K × V)} (L : MapLaw P T kt et ek ev zv) (h : IsMap ek ev W B m) (k : K) :
    (Instr.lookup T (.map (some B)) (ek k) false).run P W = .ok (((mget m k).map ev).getD zv) W := by
  obtain ⟨es, c, hb, hm⟩ := h
  have hf := L.find k es.toList m W hm
  simp only [Instr.lookup, Sem.run_bind, run_underlying L.und, Result.andThen_ok, MapKept.run_getObj_map hb, Sem.run_pure, L.chk, hf]
  rw [← midx_get k m 0]
  cases midx k m 0 with
  | none => simp [L.zero]
  | some q => simp
theorem run_look_ok {W : World} {B : Nat} {m : List (K × V)} (L : MapLaw P T kt et ek ev zv) (h : IsMap ek ev W B m) (k : K) :
    (Instr.lookup T (.map (some B)) (ek k) true).run P W = .ok (.tuple #[((mget m k).map ev).getD zv, .bool (mget m k).isSome]) W := by
  obtain ⟨es, c, hb, hm⟩ := h
  have hf := L.find k es.toList m W hm
  simp only [Instr.lookup, Sem.run_bind, run_underlying L.und, Result.andThen_ok, MapKept.run_getObj_map hb, Sem.run_pure, L.chk, hf]
  rw [← midx_get k m 0]
  cases midx k m 0 with
  | none => simp [L.zero]
  | some q => simp
theorem run_put {W : World} {B : Nat} {m : List (K × V)} (L : MapLaw P T kt et ek ev zv) (h : IsMap ek ev W B m) (k : K) (v : V) :
    ∃ W', (Instr.mapUpdate T (.map (some B)) (ek k) (ev v)).run P W = .ok () W' ∧ IsMap ek ev W' B (mput m k v) ∧ W.grownBy W' (some B) ∧ W'.heap.size = W.heap.size := by
  obtain ⟨es, c, hb, hm⟩ := h
  have hf := L.find k es.toList m W hm
  have hlt := (Array.getElem?_eq_some_iff.1 hb).1
  have hgrow : ∀ o, W.grownBy { W with heap := W.heap.setIfInBounds B o } (some B) := fun o =>
    ⟨rfl, rfl, rfl, by simp, fun j _ hj => (MapKept.heap_set (o' := o) hb).2 j (fun e => hj (by rw [e]))⟩
  cases hi : midx k m 0 with
  | none =>
    rw [hi] at hf
    refine ⟨{ W with heap := W.heap.setIfInBounds B (.map (es.push { key := ek k, val := ev v, born := c }) (c + 1)) }, ?_, ⟨_, _, (MapKept.heap_set hb).1, ?_⟩, hgrow _, by simp⟩
    · simp only [Instr.mapUpdate, Sem.run_bind, run_underlying L.und, Result.andThen_ok, MapKept.run_getObj_map hb, L.chk, hf, Option.map_none, MapKept.run_setObj_map _ hb]
    · rw [midx_none k v m 0 hi]; simp [hm]
  | some q =>
    obtain ⟨j, u⟩ := q
    rw [hi] at hf
    obtain ⟨_, hj, hput⟩ := midx_some k v m 0 j u hi
    rw [Nat.sub_zero] at hj hput
    have he : (es.toList.map (fun e => (e.key, e.val)))[j]? = some (ek k, ev u) := by rw [hm, List.getElem?_map, hj]; rfl
    rw [List.getElem?_map] at he
    obtain ⟨e0, he0, hek⟩ := Option.map_eq_some_iff.1 he
    simp only [Prod.mk.injEq] at hek
    have hes : es[j]? = some e0 := by simpa using he0
    refine ⟨{ W with heap := W.heap.setIfInBounds B (.map (es.modify j fun e => { e with key := ek k, val := ev v }) c) }, ?_, ⟨_, _, (MapKept.heap_set hb).1, ?_⟩, hgrow _, by simp⟩
    · simp only [Instr.mapUpdate, Sem.run_bind, run_underlying L.und, Result.andThen_ok, MapKept.run_getObj_map hb, L.chk, hf, Option.map_some, hes, Option.getD_some, hek.1, L.stays, MapKept.run_setObj_map _ hb]
    · rw [hput]
      apply List.ext_getElem?
      intro i
      have hmi : (es.toList.map (fun e => (e.key, e.val)))[i]? = (m.map (fun p => (ek p.1, ev p.2)))[i]? := by rw [hm]
      simp only [List.getElem?_map, Array.getElem?_toList, Array.getElem?_modify, List.getElem?_set] at hmi ⊢
      by_cases hji : j = i
      · subst hji
        have hl : j < m.length := (List.getElem?_eq_some_iff.1 hj).1
        simp [hes, hl]
      · simp only [if_neg hji]; exact hmi
end
end Go.Proofs.Ytaemdkbfdpjimaa.W

namespace Go.Proofs.Ytaemdkbfdpjimaa.W
open Go.RowKit Go.Proofs.YtaemdkbfdpjimaaW.PrintWords Go.Proofs.YtaemdkbfdpjimaaW.PrintLast Go.Proofs.YtaemdkbfdpjimaaW.PrintMore Go.Proofs.Ytaemdkbfdpjimaa.P
theorem eqs24 (d : Nat) (w : World) (a0 : Int) (a1 : Int) (a2 : Int) (a3 : Int) (a4 : Int) (a5 : Int) (a6 : Int) (a7 : Bool) (b0 : Int) (b1 : Int) (b2 : Int) (b3 : Int) (b4 : Int) (b5 : Int) (b6 : Int) (b7 : Bool) :
    (Op.equalIn (d + 2) 24 (.agg #[.int .i64 a0, .int .i64 a1, .int .i64 a2, .int .i64 a3, .int .i64 a4, .int .i64 a5, .int .i64 a6, .bool a7]) (.agg #[.int .i64 b0, .int .i64 b1, .int .i64 b2, .int .i64 b3, .int .i64 b4, .int .i64 b5, .int .i64 b6, .bool b7])).run Try.prog w = .ok (a0 == b0 && (a1 == b1 && (a2 == b2 && (a3 == b3 && (a4 == b4 && (a5 == b5 && (a6 == b6 && (a7 == b7)))))))) w := by
  refine eqA_of Try.underlying24 (by kernel_rfl) ?_
  iterate 7 refine eqf_cons (by rfl) (by go_simp; rfl) (by go_simp; rfl) (by go_simp) ?_
  exact eqf_last (by rfl) (by go_simp; rfl) (by go_simp; rfl) (by go_simp)
theorem equal24 (x y : S24) (w : World) : (Op.equal 24 (.agg #[.int .i64 x.f0, .int .i64 x.f1, .int .i64 x.f2, .int .i64 x.f3, .int .i64 x.f4, .int .i64 x.f5, .int .i64 x.f6, .bool x.f7]) (.agg #[.int .i64 y.f0, .int .i64 y.f1, .int .i64 y.f2, .int .i64 y.f3, .int .i64 y.f4, .int .i64 y.f5, .int .i64 y.f6, .bool y.f7])).run Try.prog w = .ok (decide (x = y)) w := by
  refine (eqs24 9998 w x.f0 x.f1 x.f2 x.f3 x.f4 x.f5 x.f6 x.f7 y.f0 y.f1 y.f2 y.f3 y.f4 y.f5 y.f6 y.f7).trans ?_
  congr 1
  obtain ⟨a0, a1, a2, a3, a4, a5, a6, a7⟩ := x
  obtain ⟨b0, b1, b2, b3, b4, b5, b6, b7⟩ := y
  rw [Bool.eq_iff_iff]
  simp only [Bool.and_eq_true, beq_iff_eq, decide_eq_true_eq, S24.mk.injEq]
theorem eqdec24 (x y : S24) : (x.f0 == y.f0 && (x.f1 == y.f1 && (x.f2 == y.f2 && (x.f3 == y.f3 && (x.f4 == y.f4 && (x.f5 == y.f5 && (x.f6 == y.f6 && (x.f7 == y.f7)))))))) = decide (x = y) := by
  obtain ⟨a0, a1, a2, a3, a4, a5, a6, a7⟩ := x
  obtain ⟨b0, b1, b2, b3, b4, b5, b6, b7⟩ := y
  rw [Bool.eq_iff_iff]
  simp only [Bool.and_eq_true, beq_iff_eq, decide_eq_true_eq, S24.mk.injEq]
end Go.Proofs.Ytaemdkbfdpjimaa.W
