/-
  No cell of these rows narrows 'for every input' (looked for: loops, veiled, ifaces, maps, wideKeys, modest, calm, conditions, laid).
  DERIVED. THE GIVEN ROWS OF THIS SEAT. 6 by the template 'for every input the law returns true; each argument reads behind the call as it read before'; 0 by the template 'total and deterministic' (their statements: YtgceikecdedfcaaGreatTotals.lean).
  GIVEN WITH THE SEED: the statements are not yours to turn. If you find one false, say at which input.
  Laid BY PROGRAM, IN A SANDBOX (cutbox-rows.mjs): the forced cells as the released guide's own fill.sh prints them over the translation cba8771c1665ad2a… (all of the seat's roots in one cut). By AI agents, Wed Nov 11 2026. No macro, syntax, notation, axiom, sorry.
-/
import Derived.Test.YtgceikecdedfcaaGreatChecked
import GoSem.Claim
import GoSem.ClaimJoined
import GoSem.ClaimMapViews
import Derived.JoinedTies
import Derived.KernelRfl
namespace Go.Proofs.YtgceikecdedfcaaGreat
/- THE CELL 'sum', in the pinned program and in every row, IS THE sha256 OF THE DUMP (.gsa) THAT YtgceikecdedfcaaGreatProg.lean LOADS. Nothing in Lean hashes anything: it is a label: what it is worth is what the hold of that sum in a sandbox is worth. -/
noncomputable def Tryz.pinned : Pinned := { name := "ytgceikecdedfcaagreat", sum := "cba8771c1665ad2a74f6e209ab3e89a42bc1035331fb61b9bccf2800946356b9", checked := Tryz.checked }
namespace Rows
def none {H : Type} : Left H := { results := [], args := [] }

/-- 'locutionlaw45.CoderApart': WHATEVER THE INPUT: true; the input reads as it did. -/
def coderApartSpec : ChangeSpec := { name := "coderApart", fn := fun _ => fun
  | [d1, d2, d3] => { results := [.lit (.bool true)], args := [d1, d2, d3] }
  | _ => none }
def coderApartRow : OpenClaim := { program := "ytgceikecdedfcaagreat", sum := "cba8771c1665ad2a74f6e209ab3e89a42bc1035331fb61b9bccf2800946356b9", func := "locution/locutionlaw45.CoderApart", spec := "coderApart", inPlace := ["math/bits.Add64", "math/bits.Sub64"], unfollowed := true, recurses := true, named := ["math/bits.divideError", "math/bits.overflowError"], apart := false }
def CoderApartSaid : Prop := coderApartRow.holds Tryz.pinned (OpenSpec.ofChange coderApartSpec)

/-- ITS FALSE NEIGHBOUR: 'it returns false'. Refute it at one input. -/
def coderApartWrong : ChangeSpec := { name := "coderApart", fn := fun _ => fun
  | [d1, d2, d3] => { results := [.lit (.bool false)], args := [d1, d2, d3] }
  | _ => none }
def CoderApartWrongFalsely : Prop := coderApartRow.holds Tryz.pinned (OpenSpec.ofChange coderApartWrong)

/-- 'locutionlaw45.CoderDecodes': WHATEVER THE INPUT: true; the input reads as it did. -/
def coderDecodesSpec : ChangeSpec := { name := "coderDecodes", fn := fun _ => fun
  | [d1, d2, d3] => { results := [.lit (.bool true)], args := [d1, d2, d3] }
  | _ => none }
def coderDecodesRow : OpenClaim := { program := "ytgceikecdedfcaagreat", sum := "cba8771c1665ad2a74f6e209ab3e89a42bc1035331fb61b9bccf2800946356b9", func := "locution/locutionlaw45.CoderDecodes", spec := "coderDecodes", inPlace := ["math/bits.Add64", "math/bits.Sub64"], unfollowed := true, recurses := true, named := ["math/bits.divideError", "math/bits.overflowError"], apart := false }
def CoderDecodesSaid : Prop := coderDecodesRow.holds Tryz.pinned (OpenSpec.ofChange coderDecodesSpec)

/-- ITS FALSE NEIGHBOUR: 'it returns false'. Refute it at one input. -/
def coderDecodesWrong : ChangeSpec := { name := "coderDecodes", fn := fun _ => fun
  | [d1, d2, d3] => { results := [.lit (.bool false)], args := [d1, d2, d3] }
  | _ => none }
def CoderDecodesWrongFalsely : Prop := coderDecodesRow.holds Tryz.pinned (OpenSpec.ofChange coderDecodesWrong)

/-- 'locutionlaw45.CoderEncodes': WHATEVER THE INPUT: true; the input reads as it did. -/
def coderEncodesSpec : ChangeSpec := { name := "coderEncodes", fn := fun _ => fun
  | [d1, d2, d3] => { results := [.lit (.bool true)], args := [d1, d2, d3] }
  | _ => none }
def coderEncodesRow : OpenClaim := { program := "ytgceikecdedfcaagreat", sum := "cba8771c1665ad2a74f6e209ab3e89a42bc1035331fb61b9bccf2800946356b9", func := "locution/locutionlaw45.CoderEncodes", spec := "coderEncodes", inPlace := ["math/bits.Add64", "math/bits.Sub64"], unfollowed := true, recurses := true, named := ["math/bits.divideError", "math/bits.overflowError"], apart := false }
def CoderEncodesSaid : Prop := coderEncodesRow.holds Tryz.pinned (OpenSpec.ofChange coderEncodesSpec)

/-- ITS FALSE NEIGHBOUR: 'it returns false'. Refute it at one input. -/
def coderEncodesWrong : ChangeSpec := { name := "coderEncodes", fn := fun _ => fun
  | [d1, d2, d3] => { results := [.lit (.bool false)], args := [d1, d2, d3] }
  | _ => none }
def CoderEncodesWrongFalsely : Prop := coderEncodesRow.holds Tryz.pinned (OpenSpec.ofChange coderEncodesWrong)

/-- 'locutionlaw45.CoderPicks': WHATEVER THE INPUT: true; the input reads as it did. -/
def coderPicksSpec : ChangeSpec := { name := "coderPicks", fn := fun _ => fun
  | [d1, d2, d3] => { results := [.lit (.bool true)], args := [d1, d2, d3] }
  | _ => none }
def coderPicksRow : OpenClaim := { program := "ytgceikecdedfcaagreat", sum := "cba8771c1665ad2a74f6e209ab3e89a42bc1035331fb61b9bccf2800946356b9", func := "locution/locutionlaw45.CoderPicks", spec := "coderPicks", inPlace := ["math/bits.Add64", "math/bits.Sub64"], unfollowed := true, recurses := true, named := ["math/bits.divideError", "math/bits.overflowError"], apart := false }
def CoderPicksSaid : Prop := coderPicksRow.holds Tryz.pinned (OpenSpec.ofChange coderPicksSpec)

/-- ITS FALSE NEIGHBOUR: 'it returns false'. Refute it at one input. -/
def coderPicksWrong : ChangeSpec := { name := "coderPicks", fn := fun _ => fun
  | [d1, d2, d3] => { results := [.lit (.bool false)], args := [d1, d2, d3] }
  | _ => none }
def CoderPicksWrongFalsely : Prop := coderPicksRow.holds Tryz.pinned (OpenSpec.ofChange coderPicksWrong)

/-- 'locutionlaw45.CoderSpans': WHATEVER THE INPUT: true; the input reads as it did. -/
def coderSpansSpec : ChangeSpec := { name := "coderSpans", fn := fun _ => fun
  | [d1, d2, d3] => { results := [.lit (.bool true)], args := [d1, d2, d3] }
  | _ => none }
def coderSpansRow : OpenClaim := { program := "ytgceikecdedfcaagreat", sum := "cba8771c1665ad2a74f6e209ab3e89a42bc1035331fb61b9bccf2800946356b9", func := "locution/locutionlaw45.CoderSpans", spec := "coderSpans", inPlace := ["math/bits.Add64", "math/bits.Sub64"], unfollowed := true, recurses := true, named := ["math/bits.divideError", "math/bits.overflowError"], apart := false }
def CoderSpansSaid : Prop := coderSpansRow.holds Tryz.pinned (OpenSpec.ofChange coderSpansSpec)

/-- ITS FALSE NEIGHBOUR: 'it returns false'. Refute it at one input. -/
def coderSpansWrong : ChangeSpec := { name := "coderSpans", fn := fun _ => fun
  | [d1, d2, d3] => { results := [.lit (.bool false)], args := [d1, d2, d3] }
  | _ => none }
def CoderSpansWrongFalsely : Prop := coderSpansRow.holds Tryz.pinned (OpenSpec.ofChange coderSpansWrong)

/-- 'locutionlaw45.CoderBack': WHATEVER THE INPUT: true; the input reads as it did. -/
def coderBackSpec : ChangeSpec := { name := "coderBack", fn := fun _ => fun
  | [d1, d2, d3] => { results := [.lit (.bool true)], args := [d1, d2, d3] }
  | _ => none }
def coderBackRow : OpenClaim := { program := "ytgceikecdedfcaagreat", sum := "cba8771c1665ad2a74f6e209ab3e89a42bc1035331fb61b9bccf2800946356b9", func := "locution/locutionlaw45.CoderBack", spec := "coderBack", inPlace := ["math/bits.Add64", "math/bits.Sub64"], unfollowed := true, recurses := true, named := ["math/bits.divideError", "math/bits.overflowError"], apart := false }
def CoderBackSaid : Prop := coderBackRow.holds Tryz.pinned (OpenSpec.ofChange coderBackSpec)

/-- ITS FALSE NEIGHBOUR: 'it returns false'. Refute it at one input. -/
def coderBackWrong : ChangeSpec := { name := "coderBack", fn := fun _ => fun
  | [d1, d2, d3] => { results := [.lit (.bool false)], args := [d1, d2, d3] }
  | _ => none }
def CoderBackWrongFalsely : Prop := coderBackRow.holds Tryz.pinned (OpenSpec.ofChange coderBackWrong)

/- THE SECOND FORM. 'bulk': how many values and letters a reading holds, each counted each time it is reached (what is shared counts as often as it is met; a slice's spare places count too). A statement '..UptoSaid' is the law's where the arguments, and the package variables that the reading takes, are together of bulk at most 1048576: NARROWER than '..Said'. Prove '..Said' where nothing that the law and all that it calls make is longer than what came in: it says more and counts as full. Else prove '..UptoSaid'. A law counts once. -/
mutual
def uptoBulk {H : Type} : DataW H → Nat
  | .lit (.string bytes) => bytes.length + 1
  | .lit _ => 1
  | .nil => 1
  | .ptr d => uptoBulk d + 1
  | .slice elems spare => uptoBulkAll elems + uptoBulkAll spare + 1
  | .agg parts => uptoBulkAll parts + 1
  | .iface _ d => uptoBulk d + 1
  | .map entries => uptoBulkEntries entries + 1
  | .held _ => 1
def uptoBulkAll {H : Type} : List (DataW H) → Nat
  | [] => 0
  | d :: r => uptoBulk d + uptoBulkAll r
def uptoBulkEntries {H : Type} : List (Lit × DataW H) → Nat
  | [] => 0
  | x :: r => uptoBulkEntry x + uptoBulkEntries r
def uptoBulkEntry {H : Type} : Lit × DataW H → Nat
  | (.string bytes, d) => bytes.length + uptoBulk d + 1
  | (_, d) => uptoBulk d + 1
 end
def uptoSmall : (H : Type) → List (DataW H) → Bool := fun _ ds => decide (uptoBulkAll ds ≤ 1048576)
def OpenSpec.upto (s : _root_.Go.ChangeSpec) : _root_.Go.OpenSpec := { _root_.Go.OpenSpec.ofChange s with cond := some uptoSmall }

/-- 'locutionlaw45.CoderApart', WHERE WHAT IT READS IS OF BULK AT MOST 1048576: true; the input reads as it did. -/
def coderApartUptoRow : OpenClaim := { program := "ytgceikecdedfcaagreat", sum := "cba8771c1665ad2a74f6e209ab3e89a42bc1035331fb61b9bccf2800946356b9", func := "locution/locutionlaw45.CoderApart", spec := "coderApart", inPlace := ["math/bits.Add64", "math/bits.Sub64"], unfollowed := true, recurses := true, named := ["math/bits.divideError", "math/bits.overflowError"], apart := false, narrowed := true }
def CoderApartUptoSaid : Prop := coderApartUptoRow.holds Tryz.pinned (OpenSpec.upto coderApartSpec)

/-- 'locutionlaw45.CoderDecodes', WHERE WHAT IT READS IS OF BULK AT MOST 1048576: true; the input reads as it did. -/
def coderDecodesUptoRow : OpenClaim := { program := "ytgceikecdedfcaagreat", sum := "cba8771c1665ad2a74f6e209ab3e89a42bc1035331fb61b9bccf2800946356b9", func := "locution/locutionlaw45.CoderDecodes", spec := "coderDecodes", inPlace := ["math/bits.Add64", "math/bits.Sub64"], unfollowed := true, recurses := true, named := ["math/bits.divideError", "math/bits.overflowError"], apart := false, narrowed := true }
def CoderDecodesUptoSaid : Prop := coderDecodesUptoRow.holds Tryz.pinned (OpenSpec.upto coderDecodesSpec)

/-- 'locutionlaw45.CoderEncodes', WHERE WHAT IT READS IS OF BULK AT MOST 1048576: true; the input reads as it did. -/
def coderEncodesUptoRow : OpenClaim := { program := "ytgceikecdedfcaagreat", sum := "cba8771c1665ad2a74f6e209ab3e89a42bc1035331fb61b9bccf2800946356b9", func := "locution/locutionlaw45.CoderEncodes", spec := "coderEncodes", inPlace := ["math/bits.Add64", "math/bits.Sub64"], unfollowed := true, recurses := true, named := ["math/bits.divideError", "math/bits.overflowError"], apart := false, narrowed := true }
def CoderEncodesUptoSaid : Prop := coderEncodesUptoRow.holds Tryz.pinned (OpenSpec.upto coderEncodesSpec)

/-- 'locutionlaw45.CoderPicks', WHERE WHAT IT READS IS OF BULK AT MOST 1048576: true; the input reads as it did. -/
def coderPicksUptoRow : OpenClaim := { program := "ytgceikecdedfcaagreat", sum := "cba8771c1665ad2a74f6e209ab3e89a42bc1035331fb61b9bccf2800946356b9", func := "locution/locutionlaw45.CoderPicks", spec := "coderPicks", inPlace := ["math/bits.Add64", "math/bits.Sub64"], unfollowed := true, recurses := true, named := ["math/bits.divideError", "math/bits.overflowError"], apart := false, narrowed := true }
def CoderPicksUptoSaid : Prop := coderPicksUptoRow.holds Tryz.pinned (OpenSpec.upto coderPicksSpec)

/-- 'locutionlaw45.CoderSpans', WHERE WHAT IT READS IS OF BULK AT MOST 1048576: true; the input reads as it did. -/
def coderSpansUptoRow : OpenClaim := { program := "ytgceikecdedfcaagreat", sum := "cba8771c1665ad2a74f6e209ab3e89a42bc1035331fb61b9bccf2800946356b9", func := "locution/locutionlaw45.CoderSpans", spec := "coderSpans", inPlace := ["math/bits.Add64", "math/bits.Sub64"], unfollowed := true, recurses := true, named := ["math/bits.divideError", "math/bits.overflowError"], apart := false, narrowed := true }
def CoderSpansUptoSaid : Prop := coderSpansUptoRow.holds Tryz.pinned (OpenSpec.upto coderSpansSpec)

/-- 'locutionlaw45.CoderBack', WHERE WHAT IT READS IS OF BULK AT MOST 1048576: true; the input reads as it did. -/
def coderBackUptoRow : OpenClaim := { program := "ytgceikecdedfcaagreat", sum := "cba8771c1665ad2a74f6e209ab3e89a42bc1035331fb61b9bccf2800946356b9", func := "locution/locutionlaw45.CoderBack", spec := "coderBack", inPlace := ["math/bits.Add64", "math/bits.Sub64"], unfollowed := true, recurses := true, named := ["math/bits.divideError", "math/bits.overflowError"], apart := false, narrowed := true }
def CoderBackUptoSaid : Prop := coderBackUptoRow.holds Tryz.pinned (OpenSpec.upto coderBackSpec)

end Rows
end Go.Proofs.YtgceikecdedfcaaGreat
