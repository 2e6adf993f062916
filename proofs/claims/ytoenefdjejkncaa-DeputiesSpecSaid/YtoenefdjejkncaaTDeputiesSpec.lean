/-
The law DeputiesSpec as plain functions: it is true.
-/
import Derived.Test.YtoenefdjejkncaaP21
import Derived.Test.YtoenefdjejkncaaOp
import Derived.Test.YtoenefdjejkncaaVa
namespace Go.Proofs.Ytoenefdjejkncaa.T
open Go.RowKit Go.Proofs.Ytoenefdjejkncaa.P Go.Proofs.Ytoenefdjejkncaa.W Go.Proofs.Ytoenefdjejkncaa.S Go.Proofs.Ytoenefdjejkncaa.U Go.Proofs.Ytoenefdjejkncaa.V
theorem DeputiesSpec (l : List S24) (x : S24) (hl : ∀ y ∈ l, WF24 y) (hx : WF24 x) : ∃ k, signatorylaw16_DeputiesSpec.f k l x.f0 x.f1 x.f2 x.f3 x.f4 x.f5 x.f6 x.f7 x.f8 x.f9 = some true := by
  refine ⟨l.length + 6, ?_⟩
  unfold signatorylaw16_DeputiesSpec.f
  obtain ⟨b, hb⟩ : ∃ b, signatoryref16_Few.f l = some b := by
    unfold signatoryref16_Few.f
    repeat' split
    all_goals exact ⟨_, rfl⟩
  have hs : signatorylaw16_sane.f = some true := rfl
  rw [hs, hb]
  simp only [Option.bind_some, if_true]
  cases b with
  | false => rfl
  | true =>
    have hlen : l.length ≤ 4200 := by
      unfold signatoryref16_Few.f at hb
      split at hb
      · omega
      · split at hb
        · simp at hb; omega
        · simp at hb
    have ha : deputies_Add.f l x.f0 x.f1 x.f2 x.f3 x.f4 x.f5 x.f6 x.f7 x.f8 x.f9 = some (addF l x) := rfl
    have h1 := add_len l x
    rw [ha, add_r l x _ (by omega), check_f l _ (by omega), check_r l _ (by omega)]
    simp only [Option.bind_some, if_true]
    rw [same_r _ (by omega) _ (by omega)]
    simp
end Go.Proofs.Ytoenefdjejkncaa.T
