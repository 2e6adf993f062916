/-
The law ApprovalsThink, by a walk of the law by hand over the contracts of what it calls: it returns true. Condition: the row is read.
-/
import Derived.Test.YtcpheagandpacaaP22
import Derived.Test.YtcpheagandpacaaWd
import Derived.Test.YtcpheagandpacaaP8
import Derived.Test.YtcpheagandpacaaP6
import Derived.Test.YtcpheagandpacaaWe
import Derived.Test.YtcpheagandpacaaOp
import Derived.Test.YtcpheagandpacaaV2
import Derived.Test.YtcpheagandpacaaV4
import Derived.Test.YtcpheagandpacaaVr
namespace Go.Proofs.Ytcpheagandpacaa.T
open Go.RowKit Go.Proofs.YtcpheagandpacaaW.PrintWords Go.Proofs.YtcpheagandpacaaW.PrintLast Go.Proofs.YtcpheagandpacaaW.PrintMore Go.Proofs.Ytcpheagandpacaa.P Go.Proofs.Ytcpheagandpacaa.W Go.Proofs.Ytcpheagandpacaa.S Go.Proofs.Ytcpheagandpacaa.U Go.Proofs.Ytcpheagandpacaa.V
set_option linter.unusedVariables false
namespace Think
theorem ret_bool {a b : Bool} (h : a = b) : Ending.returned (.bool a) = .returned (.bool b) := by rw [h]
theorem row_of_R {W : World} {base : Nat} {ok : Nat → Prop} {v : Value} {l : List S24} (h : Kd.R k24 24 W base ok v l) (hn : l.length ≤ 4096) : ∃ A c, v = .slice A l.length c ∧ l.length ≤ c ∧ Kd.C k24 W A l.length l := by
  have ho := own_of_R24 h
  rcases ho.2 with ⟨rfl, h0⟩ | ⟨g, cap, cur, rfl, _, _, h4, _⟩
  · obtain rfl : l = [] := List.eq_nil_of_length_eq_zero h0
    exact ⟨none, 0, rfl, Nat.le_refl _, Kd.C_nil _ _⟩
  · exact ⟨some ⟨g, 0, none⟩, cap, rfl, h4, Dl.C_of_own ho hn⟩
theorem eq_run (x y : S24) (b : Bool) (h : decide (x = y) = b) : ∀ d w, (Op.equalIn (d + 2) 24 (.agg #[.int .i64 x.f0, .int .i64 x.f1, .int .i64 x.f2, .int .i64 x.f3, .int .i64 x.f4, .int .i64 x.f5, .int .i64 x.f6, .bool x.f7]) (.agg #[.int .i64 y.f0, .int .i64 y.f1, .int .i64 y.f2, .int .i64 y.f3, .int .i64 y.f4, .int .i64 y.f5, .int .i64 y.f6, .bool y.f7])).run Try.prog w = .ok b w := by
  intro d w
  rw [eqs24, eqdec24, h]
set_option maxHeartbeats 1000000 in
theorem has_any (A : Option Addr) (c : Nat) (l : List S24) (x : S24) (w : World) (hr : Kd.C k24 w A l.length l) :
    Calls Try.prog 23 #[.slice A l.length c, .agg #[.int .i64 x.f0, .int .i64 x.f1, .int .i64 x.f2, .int .i64 x.f3, .int .i64 x.f4, .int .i64 x.f5, .int .i64 x.f6, .bool x.f7]] w fun e w' => e = .returned (.bool (decide (x ∈ l))) ∧ Below w.heap.size w w' := by
  have hn := hr.2.1
  have HR := pk hr
  clear hr
  go_enter Try.func23, Try.ntmps23
  go_wp2_with fail
  go_loopw [9] (fun i wr => ∃ k : Nat, k ≤ l.length ∧ i = .int .i64 k ∧ Hid (¬ x ∈ l.take k) ∧ Hid (Below (w.heap.size + 1) (w.alloc (.cells #[.int .i64 x.f0, .int .i64 x.f1, .int .i64 x.f2, .int .i64 x.f3, .int .i64 x.f4, .int .i64 x.f5, .int .i64 x.f6, .bool x.f7] 24)) wr)) (fun i _ => l.length - (intOf i).toNat)
  case atStart => exact ⟨0, Nat.zero_le _, rfl, Lib.hid (by simp), Lib.hid (Below.refl _ _)⟩
  case round =>
    obtain ⟨k, hk, rfl, HX, HB⟩ := hrel
    have hbw : Below w.heap.size w wr := ((Below.refl _ w).alloc (Nat.le_refl _) _).trans (HB.out.mono (by omega))
    have hsz : w.heap.size + 1 ≤ wr.heap.size := by have := HB.out.size; simpa using this
    have hxb : wr.heap[w.heap.size]? = some (.cells #[.int .i64 x.f0, .int .i64 x.f1, .int .i64 x.f2, .int .i64 x.f3, .int .i64 x.f4, .int .i64 x.f5, .int .i64 x.f6, .bool x.f7] 24 (0, 0)) := (HB.out.block _ (by omega)).trans (Go.heap_alloc_new w _)
    by_cases hlt : k < l.length
    · obtain ⟨ad, hA, hcells⟩ := at_24 (Kd.C_below HR.out hbw) k hlt
      generalize hy : l.getD k z24 = y at hcells
      have hey : l[k] = y := by rw [← hy, List.getD_eq_getElem?_getD, List.getElem?_eq_getElem hlt]; rfl
      have hts : l.take (k + 1) = l.take k ++ [y] := by rw [List.take_succ_eq_append_getElem hlt, hey]
      have hmem : y ∈ l := by rw [← hey]; exact List.getElem_mem hlt
      have hxa : ∀ o, (wr.alloc o).heap[w.heap.size]? = some (.cells #[.int .i64 x.f0, .int .i64 x.f1, .int .i64 x.f2, .int .i64 x.f3, .int .i64 x.f4, .int .i64 x.f5, .int .i64 x.f6, .bool x.f7] 24 (0, 0)) := fun o => (Below.heap_alloc wr o _ (by omega)).trans hxb
      have hcl := fun o j => cell_of_row (wr.alloc o) w.heap.size j _ 24 (0, 0) (hxa o)
      subst hA
      have hx0 : ∀ o, (wr.alloc o).cell? ⟨w.heap.size, 0, none⟩ = some (.int .i64 x.f0) := fun o => hcl o 0
      have hx1 : ∀ o, (wr.alloc o).cell? ⟨w.heap.size, 1, none⟩ = some (.int .i64 x.f1) := fun o => hcl o 1
      have hx2 : ∀ o, (wr.alloc o).cell? ⟨w.heap.size, 2, none⟩ = some (.int .i64 x.f2) := fun o => hcl o 2
      have hx3 : ∀ o, (wr.alloc o).cell? ⟨w.heap.size, 3, none⟩ = some (.int .i64 x.f3) := fun o => hcl o 3
      have hx4 : ∀ o, (wr.alloc o).cell? ⟨w.heap.size, 4, none⟩ = some (.int .i64 x.f4) := fun o => hcl o 4
      have hx5 : ∀ o, (wr.alloc o).cell? ⟨w.heap.size, 5, none⟩ = some (.int .i64 x.f5) := fun o => hcl o 5
      have hx6 : ∀ o, (wr.alloc o).cell? ⟨w.heap.size, 6, none⟩ = some (.int .i64 x.f6) := fun o => hcl o 6
      have hx7 : ∀ o, (wr.alloc o).cell? ⟨w.heap.size, 7, none⟩ = some (.bool x.f7) := fun o => hcl o 7
      replace hts := pk hts
      replace hmem := pk hmem
      replace hbw := pk hbw
      replace hsz := pk hsz
      clear hey hy hxa hxb hcl
      by_cases hxy : x = y
      · have hrun := eq_run x y true (by simp [hxy])
        replace hxy := pk hxy
        go_wp2_with fail
        go_ret
        refine ⟨ret_bool ?_, ?_⟩
        · rw [hxy.out]; simp [hmem.out]
        · exact hbw.out.alloc (by have := hsz.out; omega) _
      · have hrun := eq_run x y false (by simp [hxy])
        replace hxy := pk hxy
        go_wp2_with fail
        go_roundw
        case rel => exact ⟨k + 1, by omega, by go_num, Lib.hid (by rw [hts.out]; simp [HX.out, hxy.out]), Lib.hid (HB.out.alloc hsz.out _)⟩
        case measure => simp [intOf]; omega
    · obtain rfl : k = l.length := by omega
      replace hbw := pk hbw
      clear hxb
      go_wp2_with fail
      go_ret
      refine ⟨ret_bool ?_, hbw.out⟩
      have := HX.out
      rw [List.take_length] at this
      simp [this]
theorem has_b (A : Option Addr) (c : Nat) (l : List S24) (n : Nat) (hn : l.length = n) (x : S24) (hx : x ∈ l) (w : World) (hr : Kd.C k24 w A l.length l) :
    Calls Try.prog 23 #[.slice A n c, .agg #[.int .i64 x.f0, .int .i64 x.f1, .int .i64 x.f2, .int .i64 x.f3, .int .i64 x.f4, .int .i64 x.f5, .int .i64 x.f6, .bool x.f7]] w fun e w' => e = .returned (.bool true) ∧ Below w.heap.size w w' := by
  subst hn
  refine (has_any A c l x w hr).mono ?_
  rintro e w' ⟨rfl, hb⟩
  exact ⟨ret_bool (by simp [hx]), hb⟩
/-- what stood, and is asked for the time when it was given -/
theorem stood {l : List S24} (hp : l.Pairwise (fun a b => a.f0 < b.f0)) {doc at_ known : Int} {x : S24} (h : x ∈ standingF l doc at_ known) : x ∈ standingF l doc x.f1 known := by
  rw [standing_eq hp] at h ⊢
  obtain ⟨hl, hc⟩ := List.mem_filter.1 h
  refine List.mem_filter.2 ⟨hl, ?_⟩
  unfold standsB at hc ⊢
  simp only [Bool.and_eq_true, Bool.not_eq_true', List.any_eq_false] at hc ⊢
  obtain ⟨h3, ⟨h7, hk⟩, ha⟩ := hc
  have hk1 : x.f1 ≤ at_ ∧ x.f2 ≤ known := by unfold knownB at hk; simpa using hk
  refine ⟨h3, ⟨h7, by unfold knownB; simp; exact hk1.2⟩, fun z hz hh => ha z hz ⟨⟨?_, hh.1.2⟩, hh.2⟩⟩
  have := hh.1.1
  unfold knownB at this ⊢
  simp at this ⊢
  omega
theorem stand_time {l : List S24} (hr : ∀ x ∈ l, rightF x = true) {doc at_ known : Int} {x : S24} (h : x ∈ standingF l doc at_ known) : 0 ≤ x.f1 ∧ x.f1 ≤ at_ ∧ x.f1 ≤ 1099511627775 := by
  obtain ⟨h1, h2⟩ := List.mem_filter.1 (List.mem_filter.1 h).1
  have h3 := right_time (hr x h1)
  unfold countsF at h2
  simp at h2
  omega
def thinkB (begun think at_ : Int) (y : S24) : Bool := !(decide (y.f1 < begun) || decide (wrap64 (at_ - y.f1) < think))
theorem counting_eq {l : List S24} {doc begun think at_ known : Int} (h : checkF l = 0) (h1 : withinF 4095 [doc] = true) (h2 : withinF 1099511627775 [begun] = true) (h3 : withinF 1099511627775 [think] = true) (h4 : withinF 1099511627775 [at_] = true) (h5 : withinF 1099511627775 [known] = true) :
    approvals_Counting.f l doc begun think at_ known = some ((standingF l doc at_ known).filter (thinkB begun think at_), 0) := by
  have : approvals_Counting.f l doc begun think at_ known = some (countingF l doc begun think at_ known) := rfl
  rw [this]
  unfold countingF
  rw [if_neg (by simp [h]), if_neg (by rw [within_four, h1, h2, h3, h4, h5]; simp)]
  rfl
theorem standing_ok {l : List S24} {doc at_ known : Int} (h : checkF l = 0) (h1 : withinF 4095 [doc] = true) (h4 : withinF 1099511627775 [at_] = true) (h5 : withinF 1099511627775 [known] = true) (k : Nat) (hk : l.length < k) : approvals_Standing.f k l doc at_ known = some (standingF l doc at_ known, 0) := by
  rw [standing_p l doc at_ known k hk]
  unfold standF
  rw [if_neg (by simp [h]), if_neg (by rw [within_two, h1, h4, h5]; simp)]
theorem think_all {l : List S24} (hr : ∀ x ∈ l, rightF x = true) {doc at_ known : Int} (ha : 0 ≤ at_ ∧ at_ ≤ 1099511627775) : (standingF l doc at_ known).filter (thinkB 0 0 at_) = standingF l doc at_ known := by
  refine List.filter_eq_self.2 fun x hx => ?_
  have := stand_time hr hx
  unfold thinkB
  have e : wrap64 (at_ - x.f1) = at_ - x.f1 := by unfold wrap64; omega
  rw [e]
  simp
  omega
set_option maxHeartbeats 8000000 in
set_option maxRecDepth 100000 in
theorem think_any (A : Option Addr) (c : Nat) (l : List S24) (doc begun think later more at_ known : Int) (w : World) (hr : Kd.C k24 w A l.length l) (hc : l.length ≤ c) :
    Calls Try.prog 7 #[.slice A l.length c, .int .i64 doc, .int .i64 begun, .int .i64 think, .int .i64 later, .int .i64 more, .int .i64 at_, .int .i64 known] w fun e w' => e = .returned (.bool true) ∧ Below w.heap.size w w' := by
  have hright := right_l l doc [begun, think, later, more, at_, known] (by simp) (l.length + 20) (by simp; omega)
  generalize hb : rightsB l doc [begun, think, later, more, at_, known] = b at hright
  have HR := pk hr
  have Hc := pk hc
  have Hright := pk hright
  clear hr hc hright
  cases b with
  | false =>
    replace hb := pk hb
    go_enter Try.func7, Try.ntmps7
    go_wp2_with fail
    refine (sane_hook _).mono ?_
    rintro e w1 ⟨rfl, hb1⟩
    have HB1 := pk hb1
    clear hb1
    go_wp2_with fail
    refine (signatorylaw28_right.calls _ A c l doc (some ⟨w1.heap.size, 0, none⟩) 6 [begun, think, later, more, at_, known] false _ (Kd.C_below HR.out (below_alloc HB1.out _)) Hc.out (Sn.ints_row w1 _ (by simp)) (by simp) Hright.out).mono ?_
    rintro e w2 ⟨rfl, hb2⟩
    have HB2 := pk (below_step (below_alloc HB1.out _) hb2)
    clear hb2
    go_wp2_with fail
    go_ret
    exact ⟨rfl, HB2.out⟩
  | true =>
    have hbb := hb
    unfold rightsB at hbb
    simp only [Bool.and_eq_true, List.all_cons, List.all_nil, decide_eq_true_eq, Bool.and_true] at hbb
    obtain ⟨⟨t1, t2, t3, t4, t5, t6⟩, hlen, hck, t0⟩ := hbb
    obtain ⟨hn, hp, hrt⟩ := check_ok hck
    have hat := (V.within_iff _ _).1 t5
    have K5 := pk t5
    have K6 := pk t6
    have K0 := pk t0
    have Ck := pk hck
    have Hp := pk hp
    have Hrt := pk hrt
    have C1 := pk (counting_eq (begun := begun) (think := think) hck t0 t1 t2 t5 t6)
    have C2 := pk (counting_eq (begun := later) (think := more) hck t0 t3 t4 t5 t6)
    have C3 := pk (counting_eq (begun := 0) (think := 0) hck t0 (by decide) (by decide) t5 t6)
    rw [think_all hrt hat] at C3
    have S1 := pk (standing_ok hck t0 t5 t6 (l.length + 20) (by omega))
    clear hb t1 t2 t3 t4 t5 t6 hck t0 hp hrt
    by_cases hm : more < think
    · go_enter Try.func7, Try.ntmps7
      go_wp2_with fail
      refine (sane_hook _).mono ?_
      rintro e w1 ⟨rfl, hb1⟩
      have HB1 := pk hb1
      clear hb1
      go_wp2_with fail
      refine (signatorylaw28_right.calls _ A c l doc (some ⟨w1.heap.size, 0, none⟩) 6 [begun, think, later, more, at_, known] true _ (Kd.C_below HR.out (below_alloc HB1.out _)) Hc.out (Sn.ints_row w1 _ (by simp)) (by simp) Hright.out).mono ?_
      rintro e w2 ⟨rfl, hb2⟩
      have HB2 := pk (below_step (below_alloc HB1.out _) hb2)
      clear hb2
      go_wp2_with fail
      go_ret
      exact ⟨rfl, HB2.out⟩
    · by_cases hl : later < begun
      · go_enter Try.func7, Try.ntmps7
        go_wp2_with fail
        refine (sane_hook _).mono ?_
        rintro e w1 ⟨rfl, hb1⟩
        have HB1 := pk hb1
        clear hb1
        go_wp2_with fail
        refine (signatorylaw28_right.calls _ A c l doc (some ⟨w1.heap.size, 0, none⟩) 6 [begun, think, later, more, at_, known] true _ (Kd.C_below HR.out (below_alloc HB1.out _)) Hc.out (Sn.ints_row w1 _ (by simp)) (by simp) Hright.out).mono ?_
        rintro e w2 ⟨rfl, hb2⟩
        have HB2 := pk (below_step (below_alloc HB1.out _) hb2)
        clear hb2
        go_wp2_with fail
        go_ret
        exact ⟨rfl, HB2.out⟩
      · go_enter Try.func7, Try.ntmps7
        go_wp2_with fail
        refine (sane_hook _).mono ?_
        rintro e w1 ⟨rfl, hb1⟩
        have HB1 := pk hb1
        clear hb1
        go_wp2_with fail
        refine (signatorylaw28_right.calls _ A c l doc (some ⟨w1.heap.size, 0, none⟩) 6 [begun, think, later, more, at_, known] true _ (Kd.C_below HR.out (below_alloc HB1.out _)) Hc.out (Sn.ints_row w1 _ (by simp)) (by simp) Hright.out).mono ?_
        rintro e w2 ⟨rfl, hb2⟩
        have HB2 := pk (below_step (below_alloc HB1.out _) hb2)
        clear hb2
        obtain ⟨s, hs⟩ : ∃ s, standingF l doc at_ known = s := ⟨_, rfl⟩
        obtain ⟨a, ha⟩ : ∃ a, s.filter (thinkB begun think at_) = a := ⟨_, rfl⟩
        obtain ⟨b, hbq⟩ : ∃ b, s.filter (thinkB later more at_) = b := ⟨_, rfl⟩
        rw [hs] at C1 C2 C3 S1
        rw [ha] at C1
        rw [hbq] at C2
        have hsn : s.length ≤ 30 := by rw [← hs]; exact Nat.le_trans (stand_len _ _ _ _) hlen
        have han : a.length ≤ 30 := by rw [← ha]; exact Nat.le_trans (List.length_filter_le _ _) hsn
        have hbn : b.length ≤ 30 := by rw [← hbq]; exact Nat.le_trans (List.length_filter_le _ _) hsn
        have hba : Pk (∀ x ∈ b, x ∈ a) := pk (by
          intro x hx
          rw [← hbq] at hx
          rw [← ha]
          obtain ⟨h1, h2⟩ := List.mem_filter.1 hx
          refine List.mem_filter.2 ⟨h1, ?_⟩
          unfold thinkB at h2 ⊢
          simp at h2 ⊢
          omega)
        have hax : Pk (∀ x ∈ a, x ∈ s ∧ x ∈ standingF l doc x.f1 known ∧ begun ≤ x.f1 ∧ think ≤ at_ - x.f1 ∧ 0 ≤ x.f1 ∧ x.f1 ≤ at_ ∧ x.f1 ≤ 1099511627775) := pk (by
          intro x hx
          rw [← ha] at hx
          obtain ⟨h1, h2⟩ := List.mem_filter.1 hx
          have h3 := h1
          rw [← hs] at h3
          have h4 := stand_time Hrt.out h3
          have e : wrap64 (at_ - x.f1) = at_ - x.f1 := by unfold wrap64; omega
          unfold thinkB at h2
          rw [e] at h2
          simp at h2
          exact ⟨h1, stood Hp.out h3, by omega, by omega, by omega, by omega, by omega⟩)
        replace hs := pk hs
        replace ha := pk ha
        replace hbq := pk hbq
        clear hlen
        go_wp2_with fail
        refine (approvals_Counting.calls A c l doc begun think at_ known a 0 _ (Kd.C_below HR.out HB2.out) Hc.out C1.out).mono ?_
        rintro e w3 ⟨v3, rfl, hR, hb3⟩
        obtain ⟨A3, c3, rfl, hc3, hC⟩ := row_of_R hR (by omega)
        have HC3 := pk hC
        have HB3 := pk (below_step HB2.out hb3)
        clear hR hC hb3
        go_wp2_with fail
        refine (approvals_Counting.calls A c l doc later more at_ known b 0 _ (Kd.C_below HR.out HB3.out) Hc.out C2.out).mono ?_
        rintro e w4 ⟨v4, rfl, hR, hb4⟩
        obtain ⟨A4, c4, rfl, hc4, hC⟩ := row_of_R hR (by omega)
        have HC4 := pk hC
        have HC34 := pk (Kd.C_below HC3.out hb4)
        have HB4 := pk (below_step HB3.out hb4)
        clear hR hC hb4 HC3
        go_wp2_with fail
        refine (approvals_Standing.calls _ A c l doc at_ known s 0 _ (Kd.C_below HR.out HB4.out) Hc.out S1.out).mono ?_
        rintro e w5 ⟨v5, rfl, hR, hb5⟩
        obtain ⟨A5, c5, rfl, hc5, hC⟩ := row_of_R hR (by omega)
        have HC5 := pk hC
        have HC35 := pk (Kd.C_below HC34.out hb5)
        have HC45 := pk (Kd.C_below HC4.out hb5)
        have HB5 := pk (below_step HB4.out hb5)
        clear hR hC hb5 HC34 HC4
        go_wp2_with fail
        refine (approvals_Counting.calls A c l doc 0 0 at_ known s 0 _ (Kd.C_below HR.out HB5.out) Hc.out C3.out).mono ?_
        rintro e w6 ⟨v6, rfl, hR, hb6⟩
        obtain ⟨A6, c6, rfl, hc6, hC⟩ := row_of_R hR (by omega)
        have HC6 := pk hC
        have HC36 := pk (Kd.C_below HC35.out hb6)
        have HC46 := pk (Kd.C_below HC45.out hb6)
        have HC56 := pk (Kd.C_below HC5.out hb6)
        have HB6 := pk (below_step HB5.out hb6)
        clear hR hC hb6 HC35 HC45 HC5
        go_wp2_with fail
        refine (signatoryref28_Same.calls 40 A5 c5 s A6 c6 s true _ HC56.out hc5 HC6.out hc6 (same_r s (by omega) 40 (by omega))).mono ?_
        rintro e w7 ⟨rfl, hd7⟩
        have hb7 := hd7.below
        have HC37 := pk (Kd.C_below HC36.out hb7)
        have HC47 := pk (Kd.C_below HC46.out hb7)
        have HC57 := pk (Kd.C_below HC56.out hb7)
        have HB7 := pk (below_step HB6.out hb7)
        clear hd7 hb7 HC36 HC46 HC56 HC6 C1 C2 C3 S1 Hright
        go_wp2_with fail
        go_loopw [113] (fun i wr => ∃ k : Nat, k ≤ b.length ∧ i = .int .i64 k ∧ Hid (Below w7.heap.size w7 wr)) (fun i _ => b.length - (intOf i).toNat)
        case atStart => exact ⟨0, Nat.zero_le _, rfl, Below.refl _ _⟩
        case round =>
          obtain ⟨k, hk, rfl, hh⟩ := hrel
          have Hb := pk hh.out
          clear hh
          by_cases hlt : k < b.length
          · obtain ⟨ad, hA, hcells⟩ := at_24 (Kd.C_below HC47.out Hb.out) k hlt
            generalize hx : b.getD k z24 = x at hcells
            have hget : b[k] = x := by rw [← hx, List.getD_eq_getElem?_getD, List.getElem?_eq_getElem hlt]; rfl
            have hxa := pk (hba.out x (by rw [← hget]; exact List.getElem_mem hlt))
            clear hx hget
            subst hA
            go_wp2_with fail
            refine (has_b A3 c3 a _ rfl x hxa.out _ (Kd.C_below HC37.out (below_alloc Hb.out _))).mono ?_
            rintro e w8 ⟨rfl, hb8⟩
            have HB8 := pk (below_step (below_alloc Hb.out _) hb8)
            clear hb8
            go_wp2_with fail
            go_roundw
            case rel => exact ⟨k + 1, by omega, by go_num, HB8.out⟩
            case measure => simp [intOf]; omega
          · go_wp2_with fail
            obtain ⟨W9, hW9⟩ : ∃ W9 : World, W9 = wr := ⟨_, rfl⟩
            subst hW9
            have HC39 := pk (Kd.C_below HC37.out Hb.out)
            have HC59 := pk (Kd.C_below HC57.out Hb.out)
            have HB9 := pk (below_step HB7.out Hb.out)
            clear HC37 HC47 HC57 Hb
            go_loopw [125] (fun i wr => ∃ k : Nat, k ≤ a.length ∧ i = .int .i64 k ∧ Hid (Below W9.heap.size W9 wr)) (fun i _ => a.length - (intOf i).toNat)
            case atStart => exact ⟨0, Nat.zero_le _, rfl, Below.refl _ _⟩
            case round =>
              obtain ⟨k, hk, rfl, hh⟩ := hrel
              have Hb := pk hh.out
              clear hh
              by_cases hlt : k < a.length
              · obtain ⟨ad, hA, hcells⟩ := at_24 (Kd.C_below HC39.out Hb.out) k hlt
                generalize hx : a.getD k z24 = x at hcells
                have hget : a[k] = x := by rw [← hx, List.getD_eq_getElem?_getD, List.getElem?_eq_getElem hlt]; rfl
                obtain ⟨x1, x2, x3, x4, x5, x6, x7⟩ := hax.out x (by rw [← hget]; exact List.getElem_mem hlt)
                have S2 := pk (standing_ok (l := l) (doc := doc) (at_ := x.f1) (known := known) Ck.out K0.out ((V.within_iff _ _).2 ⟨x5, x7⟩) K6.out (l.length + 20) (by omega))
                obtain ⟨q, hq⟩ : ∃ q, standingF l doc x.f1 known = q := ⟨_, rfl⟩
                rw [hq] at S2 x2
                have hqn : q.length ≤ 4096 := by rw [← hq]; exact Nat.le_trans (stand_len _ _ _ _) hn
                replace x1 := pk x1
                replace x2 := pk x2
                clear hx hget hq
                subst hA
                go_wp2_with fail
                refine (approvals_Standing.calls _ A c l doc x.f1 known q 0 _ (Kd.C_below HR.out (below_step HB9.out (below_alloc Hb.out _))) Hc.out S2.out).mono ?_
                rintro e w10 ⟨v10, rfl, hR, hb10⟩
                obtain ⟨A10, c10, rfl, hc10, hC⟩ := row_of_R hR hqn
                have HC10 := pk hC
                have HB10 := pk (below_step (below_alloc Hb.out _) hb10)
                have HX10 := pk ((hb10.block wr.heap.size (by simp)).trans (Go.heap_alloc_new wr _))
                clear hR hC hb10
                have hcl := fun j => cell_of_row w10 wr.heap.size j _ 24 (0, 0) HX10.out
                have hy0 : w10.cell? ⟨wr.heap.size, 0, none⟩ = some (.int .i64 x.f0) := hcl 0
                have hy1 : w10.cell? ⟨wr.heap.size, 1, none⟩ = some (.int .i64 x.f1) := hcl 1
                have hy2 : w10.cell? ⟨wr.heap.size, 2, none⟩ = some (.int .i64 x.f2) := hcl 2
                have hy3 : w10.cell? ⟨wr.heap.size, 3, none⟩ = some (.int .i64 x.f3) := hcl 3
                have hy4 : w10.cell? ⟨wr.heap.size, 4, none⟩ = some (.int .i64 x.f4) := hcl 4
                have hy5 : w10.cell? ⟨wr.heap.size, 5, none⟩ = some (.int .i64 x.f5) := hcl 5
                have hy6 : w10.cell? ⟨wr.heap.size, 6, none⟩ = some (.int .i64 x.f6) := hcl 6
                have hy7 : w10.cell? ⟨wr.heap.size, 7, none⟩ = some (.bool x.f7) := hcl 7
                clear hcl
                go_wp2_with fail
                refine (has_b A5 c5 s _ rfl x x1.out _ (Kd.C_below HC59.out HB10.out)).mono ?_
                rintro e w11 ⟨rfl, hb11⟩
                have HC11 := pk (Kd.C_below HC10.out hb11)
                have HB11 := pk (below_step HB10.out hb11)
                have HX11 := pk ((hb11.block wr.heap.size (Array.getElem?_eq_some_iff.1 HX10.out).1).trans HX10.out)
                clear hb11 hy0 hy1 hy2 hy3 hy4 hy5 hy6 hy7 HC10 HB10
                have hcl := fun j => cell_of_row w11 wr.heap.size j _ 24 (0, 0) HX11.out
                have hy0 : w11.cell? ⟨wr.heap.size, 0, none⟩ = some (.int .i64 x.f0) := hcl 0
                have hy1 : w11.cell? ⟨wr.heap.size, 1, none⟩ = some (.int .i64 x.f1) := hcl 1
                have hy2 : w11.cell? ⟨wr.heap.size, 2, none⟩ = some (.int .i64 x.f2) := hcl 2
                have hy3 : w11.cell? ⟨wr.heap.size, 3, none⟩ = some (.int .i64 x.f3) := hcl 3
                have hy4 : w11.cell? ⟨wr.heap.size, 4, none⟩ = some (.int .i64 x.f4) := hcl 4
                have hy5 : w11.cell? ⟨wr.heap.size, 5, none⟩ = some (.int .i64 x.f5) := hcl 5
                have hy6 : w11.cell? ⟨wr.heap.size, 6, none⟩ = some (.int .i64 x.f6) := hcl 6
                have hy7 : w11.cell? ⟨wr.heap.size, 7, none⟩ = some (.bool x.f7) := hcl 7
                clear hcl
                go_wp2_with fail
                refine (has_b A10 c10 q _ rfl x x2.out _ HC11.out).mono ?_
                rintro e w12 ⟨rfl, hb12⟩
                have HB12 := pk (below_step HB11.out hb12)
                clear hb12 hy0 hy1 hy2 hy3 hy4 hy5 hy6 hy7
                go_wp2_with fail
                go_roundw
                case rel => exact ⟨k + 1, by omega, by go_num, HB12.out⟩
                case measure => simp [intOf]; omega
              · go_wp2_with fail
                go_ret
                exact ⟨rfl, below_step HB9.out Hb.out⟩
end Think
end Go.Proofs.Ytcpheagandpacaa.T
