/-
  No cell of these rows narrows 'for every input' (looked for: loops, veiled, ifaces, maps, wideKeys, modest, calm, conditions, laid).
  DERIVED. THE GIVEN ROWS OF THIS SEAT. 6 by the template 'for every input the law returns true; each argument reads behind the call as it read before'; 0 by the template 'total and deterministic' (their statements: YtoenefdjejkncaaTotals.lean).
  GIVEN WITH THE SEED: the statements are not yours to turn. If you find one false, say at which input.
  Laid BY PROGRAM, IN A SANDBOX (cutbox-rows.mjs): the forced cells as the released guide's own fill.sh prints them over the translation cfd26d9bc63d3a1f… (all of the seat's roots in one cut). By AI agents, Wed Nov 11 2026. No macro, syntax, notation, axiom, sorry.
-/
import Derived.Test.YtoenefdjejkncaaChecked
import GoSem.Claim
import GoSem.ClaimJoined
import GoSem.ClaimMapViews
import Derived.JoinedTies
import Derived.KernelRfl
namespace Go.Proofs.Ytoenefdjejkncaa
/- THE CELL 'sum', in the pinned program and in every row, IS THE sha256 OF THE DUMP (.gsa) THAT YtoenefdjejkncaaProg.lean LOADS. Nothing in Lean hashes anything: it is a label: what it is worth is what the hold of that sum in a sandbox is worth. -/
noncomputable def Try.pinned : Pinned := { name := "ytoenefdjejkncaa", sum := "cfd26d9bc63d3a1f4ee8c4d2b4c4e254e8f0dbedb1df3daac5c45e8c85b577e4", checked := Try.checked }
namespace Rows
def none {H : Type} : Left H := { results := [], args := [] }

/-- 'signatorylaw16.DeputiesSpec': WHATEVER THE INPUT: true; the input reads as it did. -/
def deputiesSpecSpec : ChangeSpec := { name := "deputiesSpec", fn := fun _ => fun
  | [d1, d2] => { results := [.lit (.bool true)], args := [d1, d2] }
  | _ => none }
def deputiesSpecRow : OpenClaim := { program := "ytoenefdjejkncaa", sum := "cfd26d9bc63d3a1f4ee8c4d2b4c4e254e8f0dbedb1df3daac5c45e8c85b577e4", func := "signatory/signatorylaw16.DeputiesSpec", spec := "deputiesSpec", inPlace := ["slices.overlaps[signatory/api.Deputy]"], unfollowed := true, recurses := true, plainKeys := false, apart := false }
def DeputiesSpecSaid : Prop := deputiesSpecRow.holds Try.pinned (OpenSpec.ofChange deputiesSpecSpec)

/-- ITS FALSE NEIGHBOUR: 'it returns false'. Refute it at one input. -/
def deputiesSpecWrong : ChangeSpec := { name := "deputiesSpec", fn := fun _ => fun
  | [d1, d2] => { results := [.lit (.bool false)], args := [d1, d2] }
  | _ => none }
def DeputiesSpecWrongFalsely : Prop := deputiesSpecRow.holds Try.pinned (OpenSpec.ofChange deputiesSpecWrong)

/-- 'signatorylaw16.DeputiesChainSpec': WHATEVER THE INPUT: true; the input reads as it did. -/
def deputiesChainSpecSpec : ChangeSpec := { name := "deputiesChainSpec", fn := fun _ => fun
  | [d1, d2, d3] => { results := [.lit (.bool true)], args := [d1, d2, d3] }
  | _ => none }
def deputiesChainSpecRow : OpenClaim := { program := "ytoenefdjejkncaa", sum := "cfd26d9bc63d3a1f4ee8c4d2b4c4e254e8f0dbedb1df3daac5c45e8c85b577e4", func := "signatory/signatorylaw16.DeputiesChainSpec", spec := "deputiesChainSpec", inPlace := ["slices.overlaps[signatory/api.Deputy]"], unfollowed := true, recurses := true, plainKeys := false, apart := false }
def DeputiesChainSpecSaid : Prop := deputiesChainSpecRow.holds Try.pinned (OpenSpec.ofChange deputiesChainSpecSpec)

/-- ITS FALSE NEIGHBOUR: 'it returns false'. Refute it at one input. -/
def deputiesChainSpecWrong : ChangeSpec := { name := "deputiesChainSpec", fn := fun _ => fun
  | [d1, d2, d3] => { results := [.lit (.bool false)], args := [d1, d2, d3] }
  | _ => none }
def DeputiesChainSpecWrongFalsely : Prop := deputiesChainSpecRow.holds Try.pinned (OpenSpec.ofChange deputiesChainSpecWrong)

/-- 'signatorylaw16.DeputiesShortest': WHATEVER THE INPUT: true; the input reads as it did. -/
def deputiesShortestSpec : ChangeSpec := { name := "deputiesShortest", fn := fun _ => fun
  | [d1, d2, d3] => { results := [.lit (.bool true)], args := [d1, d2, d3] }
  | _ => none }
def deputiesShortestRow : OpenClaim := { program := "ytoenefdjejkncaa", sum := "cfd26d9bc63d3a1f4ee8c4d2b4c4e254e8f0dbedb1df3daac5c45e8c85b577e4", func := "signatory/signatorylaw16.DeputiesShortest", spec := "deputiesShortest", inPlace := ["slices.overlaps[signatory/api.Deputy]"], unfollowed := true, recurses := true, plainKeys := false, apart := false }
def DeputiesShortestSaid : Prop := deputiesShortestRow.holds Try.pinned (OpenSpec.ofChange deputiesShortestSpec)

/-- ITS FALSE NEIGHBOUR: 'it returns false'. Refute it at one input. -/
def deputiesShortestWrong : ChangeSpec := { name := "deputiesShortest", fn := fun _ => fun
  | [d1, d2, d3] => { results := [.lit (.bool false)], args := [d1, d2, d3] }
  | _ => none }
def DeputiesShortestWrongFalsely : Prop := deputiesShortestRow.holds Try.pinned (OpenSpec.ofChange deputiesShortestWrong)

/-- 'signatorylaw16.DeputiesLinks': WHATEVER THE INPUT: true; the input reads as it did. -/
def deputiesLinksSpec : ChangeSpec := { name := "deputiesLinks", fn := fun _ => fun
  | [d1, d2, d3] => { results := [.lit (.bool true)], args := [d1, d2, d3] }
  | _ => none }
def deputiesLinksRow : OpenClaim := { program := "ytoenefdjejkncaa", sum := "cfd26d9bc63d3a1f4ee8c4d2b4c4e254e8f0dbedb1df3daac5c45e8c85b577e4", func := "signatory/signatorylaw16.DeputiesLinks", spec := "deputiesLinks", inPlace := ["slices.overlaps[signatory/api.Deputy]"], unfollowed := true, recurses := true, plainKeys := false, apart := false }
def DeputiesLinksSaid : Prop := deputiesLinksRow.holds Try.pinned (OpenSpec.ofChange deputiesLinksSpec)

/-- ITS FALSE NEIGHBOUR: 'it returns false'. Refute it at one input. -/
def deputiesLinksWrong : ChangeSpec := { name := "deputiesLinks", fn := fun _ => fun
  | [d1, d2, d3] => { results := [.lit (.bool false)], args := [d1, d2, d3] }
  | _ => none }
def DeputiesLinksWrongFalsely : Prop := deputiesLinksRow.holds Try.pinned (OpenSpec.ofChange deputiesLinksWrong)

/-- 'signatorylaw16.DeputiesThrough': WHATEVER THE INPUT: true; the input reads as it did. -/
def deputiesThroughSpec : ChangeSpec := { name := "deputiesThrough", fn := fun _ => fun
  | [d1, d2, d3, d4] => { results := [.lit (.bool true)], args := [d1, d2, d3, d4] }
  | _ => none }
def deputiesThroughRow : OpenClaim := { program := "ytoenefdjejkncaa", sum := "cfd26d9bc63d3a1f4ee8c4d2b4c4e254e8f0dbedb1df3daac5c45e8c85b577e4", func := "signatory/signatorylaw16.DeputiesThrough", spec := "deputiesThrough", inPlace := ["slices.overlaps[signatory/api.Deputy]"], unfollowed := true, recurses := true, plainKeys := false, apart := false }
def DeputiesThroughSaid : Prop := deputiesThroughRow.holds Try.pinned (OpenSpec.ofChange deputiesThroughSpec)

/-- ITS FALSE NEIGHBOUR: 'it returns false'. Refute it at one input. -/
def deputiesThroughWrong : ChangeSpec := { name := "deputiesThrough", fn := fun _ => fun
  | [d1, d2, d3, d4] => { results := [.lit (.bool false)], args := [d1, d2, d3, d4] }
  | _ => none }
def DeputiesThroughWrongFalsely : Prop := deputiesThroughRow.holds Try.pinned (OpenSpec.ofChange deputiesThroughWrong)

/-- 'signatorylaw16.DeputiesMatter': WHATEVER THE INPUT: true; the input reads as it did. -/
def deputiesMatterSpec : ChangeSpec := { name := "deputiesMatter", fn := fun _ => fun
  | [d1, d2, d3] => { results := [.lit (.bool true)], args := [d1, d2, d3] }
  | _ => none }
def deputiesMatterRow : OpenClaim := { program := "ytoenefdjejkncaa", sum := "cfd26d9bc63d3a1f4ee8c4d2b4c4e254e8f0dbedb1df3daac5c45e8c85b577e4", func := "signatory/signatorylaw16.DeputiesMatter", spec := "deputiesMatter", inPlace := ["slices.overlaps[signatory/api.Deputy]"], unfollowed := true, recurses := true, plainKeys := false, apart := false }
def DeputiesMatterSaid : Prop := deputiesMatterRow.holds Try.pinned (OpenSpec.ofChange deputiesMatterSpec)

/-- ITS FALSE NEIGHBOUR: 'it returns false'. Refute it at one input. -/
def deputiesMatterWrong : ChangeSpec := { name := "deputiesMatter", fn := fun _ => fun
  | [d1, d2, d3] => { results := [.lit (.bool false)], args := [d1, d2, d3] }
  | _ => none }
def DeputiesMatterWrongFalsely : Prop := deputiesMatterRow.holds Try.pinned (OpenSpec.ofChange deputiesMatterWrong)

/- THE SECOND FORM. 'bulk': how many values and letters a reading holds, each counted each time it is reached (what is shared counts as often as it is met; a slice's spare places count too). A statement '..UptoSaid' is the law's where the arguments, and the package variables that the reading takes, are together of bulk at most 1048576: NARROWER than '..Said'. Prove '..Said' where nothing that the law and all that it calls make is longer than what came in: it says more and counts as full. Else prove '..UptoSaid'. A law counts once. -/
mutual
def uptoBulk {H : Type} : DataW H → Nat
  | .lit (.string bytes) => bytes.length + 1
  | .lit _ => 1
  | .nil => 1
  | .ptr d => uptoBulk d + 1
  | .slice elems spare => uptoBulkAll elems + uptoBulkAll spare + 1
  | .agg parts => uptoBulkAll parts + 1
  | .iface _ d => uptoBulk d + 1
  | .map entries => uptoBulkEntries entries + 1
  | .held _ => 1
def uptoBulkAll {H : Type} : List (DataW H) → Nat
  | [] => 0
  | d :: r => uptoBulk d + uptoBulkAll r
def uptoBulkEntries {H : Type} : List (Lit × DataW H) → Nat
  | [] => 0
  | x :: r => uptoBulkEntry x + uptoBulkEntries r
def uptoBulkEntry {H : Type} : Lit × DataW H → Nat
  | (.string bytes, d) => bytes.length + uptoBulk d + 1
  | (_, d) => uptoBulk d + 1
 end
def uptoSmall : (H : Type) → List (DataW H) → Bool := fun _ ds => decide (uptoBulkAll ds ≤ 1048576)
def OpenSpec.upto (s : _root_.Go.ChangeSpec) : _root_.Go.OpenSpec := { _root_.Go.OpenSpec.ofChange s with cond := some uptoSmall }

/-- 'signatorylaw16.DeputiesSpec', WHERE WHAT IT READS IS OF BULK AT MOST 1048576: true; the input reads as it did. -/
def deputiesSpecUptoRow : OpenClaim := { program := "ytoenefdjejkncaa", sum := "cfd26d9bc63d3a1f4ee8c4d2b4c4e254e8f0dbedb1df3daac5c45e8c85b577e4", func := "signatory/signatorylaw16.DeputiesSpec", spec := "deputiesSpec", inPlace := ["slices.overlaps[signatory/api.Deputy]"], unfollowed := true, recurses := true, plainKeys := false, apart := false, narrowed := true }
def DeputiesSpecUptoSaid : Prop := deputiesSpecUptoRow.holds Try.pinned (OpenSpec.upto deputiesSpecSpec)

/-- 'signatorylaw16.DeputiesChainSpec', WHERE WHAT IT READS IS OF BULK AT MOST 1048576: true; the input reads as it did. -/
def deputiesChainSpecUptoRow : OpenClaim := { program := "ytoenefdjejkncaa", sum := "cfd26d9bc63d3a1f4ee8c4d2b4c4e254e8f0dbedb1df3daac5c45e8c85b577e4", func := "signatory/signatorylaw16.DeputiesChainSpec", spec := "deputiesChainSpec", inPlace := ["slices.overlaps[signatory/api.Deputy]"], unfollowed := true, recurses := true, plainKeys := false, apart := false, narrowed := true }
def DeputiesChainSpecUptoSaid : Prop := deputiesChainSpecUptoRow.holds Try.pinned (OpenSpec.upto deputiesChainSpecSpec)

/-- 'signatorylaw16.DeputiesShortest', WHERE WHAT IT READS IS OF BULK AT MOST 1048576: true; the input reads as it did. -/
def deputiesShortestUptoRow : OpenClaim := { program := "ytoenefdjejkncaa", sum := "cfd26d9bc63d3a1f4ee8c4d2b4c4e254e8f0dbedb1df3daac5c45e8c85b577e4", func := "signatory/signatorylaw16.DeputiesShortest", spec := "deputiesShortest", inPlace := ["slices.overlaps[signatory/api.Deputy]"], unfollowed := true, recurses := true, plainKeys := false, apart := false, narrowed := true }
def DeputiesShortestUptoSaid : Prop := deputiesShortestUptoRow.holds Try.pinned (OpenSpec.upto deputiesShortestSpec)

/-- 'signatorylaw16.DeputiesLinks', WHERE WHAT IT READS IS OF BULK AT MOST 1048576: true; the input reads as it did. -/
def deputiesLinksUptoRow : OpenClaim := { program := "ytoenefdjejkncaa", sum := "cfd26d9bc63d3a1f4ee8c4d2b4c4e254e8f0dbedb1df3daac5c45e8c85b577e4", func := "signatory/signatorylaw16.DeputiesLinks", spec := "deputiesLinks", inPlace := ["slices.overlaps[signatory/api.Deputy]"], unfollowed := true, recurses := true, plainKeys := false, apart := false, narrowed := true }
def DeputiesLinksUptoSaid : Prop := deputiesLinksUptoRow.holds Try.pinned (OpenSpec.upto deputiesLinksSpec)

/-- 'signatorylaw16.DeputiesThrough', WHERE WHAT IT READS IS OF BULK AT MOST 1048576: true; the input reads as it did. -/
def deputiesThroughUptoRow : OpenClaim := { program := "ytoenefdjejkncaa", sum := "cfd26d9bc63d3a1f4ee8c4d2b4c4e254e8f0dbedb1df3daac5c45e8c85b577e4", func := "signatory/signatorylaw16.DeputiesThrough", spec := "deputiesThrough", inPlace := ["slices.overlaps[signatory/api.Deputy]"], unfollowed := true, recurses := true, plainKeys := false, apart := false, narrowed := true }
def DeputiesThroughUptoSaid : Prop := deputiesThroughUptoRow.holds Try.pinned (OpenSpec.upto deputiesThroughSpec)

/-- 'signatorylaw16.DeputiesMatter', WHERE WHAT IT READS IS OF BULK AT MOST 1048576: true; the input reads as it did. -/
def deputiesMatterUptoRow : OpenClaim := { program := "ytoenefdjejkncaa", sum := "cfd26d9bc63d3a1f4ee8c4d2b4c4e254e8f0dbedb1df3daac5c45e8c85b577e4", func := "signatory/signatorylaw16.DeputiesMatter", spec := "deputiesMatter", inPlace := ["slices.overlaps[signatory/api.Deputy]"], unfollowed := true, recurses := true, plainKeys := false, apart := false, narrowed := true }
def DeputiesMatterUptoSaid : Prop := deputiesMatterUptoRow.holds Try.pinned (OpenSpec.upto deputiesMatterSpec)

end Rows
end Go.Proofs.Ytoenefdjejkncaa
