/-
  No cell of these rows narrows 'for every input' (looked for: loops, veiled, ifaces, maps, wideKeys, modest, calm, conditions, laid).
  DERIVED. THE GIVEN ROWS OF THIS SEAT. 4 by the template 'for every input the law returns true; each argument reads behind the call as it read before'; 0 by the template 'total and deterministic' (their statements: YtpmchgndnhgncaaGreatTotals.lean).
  GIVEN WITH THE SEED: the statements are not yours to turn. If you find one false, say at which input.
  Laid BY PROGRAM, IN A SANDBOX (cutbox-rows.mjs): the forced cells as the released guide's own fill.sh prints them over the translation 302c00d0cb36f12c… (all of the seat's roots in one cut). By AI agents, Wed Nov 11 2026. No macro, syntax, notation, axiom, sorry.
-/
import Derived.Test.YtpmchgndnhgncaaGreatChecked
import GoSem.Claim
import GoSem.ClaimJoined
import GoSem.ClaimMapViews
import Derived.JoinedTies
import Derived.KernelRfl
namespace Go.Proofs.YtpmchgndnhgncaaGreat
/- THE CELL 'sum', in the pinned program and in every row, IS THE sha256 OF THE DUMP (.gsa) THAT YtpmchgndnhgncaaGreatProg.lean LOADS. Nothing in Lean hashes anything: it is a label: what it is worth is what the hold of that sum in a sandbox is worth. -/
noncomputable def Tryz.pinned : Pinned := { name := "ytpmchgndnhgncaagreat", sum := "302c00d0cb36f12cab973ed6c9a4e1c7e63f03e1961d555d8afd4400bea559c0", checked := Tryz.checked }
namespace Rows
def none {H : Type} : Left H := { results := [], args := [] }

/-- 'locutionlaw29.KneserSums': WHATEVER THE INPUT: true; the input reads as it did. -/
def kneserSumsSpec : ChangeSpec := { name := "kneserSums", fn := fun _ => fun
  | [d1, d2, d3] => { results := [.lit (.bool true)], args := [d1, d2, d3] }
  | _ => none }
def kneserSumsRow : OpenClaim := { program := "ytpmchgndnhgncaagreat", sum := "302c00d0cb36f12cab973ed6c9a4e1c7e63f03e1961d555d8afd4400bea559c0", func := "locution/locutionlaw29.KneserSums", spec := "kneserSums", inPlace := ["math/bits.Add64", "math/bits.Sub64"], unfollowed := true, recurses := true, named := ["math/bits.divideError", "math/bits.overflowError"], apart := false }
def KneserSumsSaid : Prop := kneserSumsRow.holds Tryz.pinned (OpenSpec.ofChange kneserSumsSpec)

/-- ITS FALSE NEIGHBOUR: 'it returns false'. Refute it at one input. -/
def kneserSumsWrong : ChangeSpec := { name := "kneserSums", fn := fun _ => fun
  | [d1, d2, d3] => { results := [.lit (.bool false)], args := [d1, d2, d3] }
  | _ => none }
def KneserSumsWrongFalsely : Prop := kneserSumsRow.holds Tryz.pinned (OpenSpec.ofChange kneserSumsWrong)

/-- 'locutionlaw29.KneserTells': WHATEVER THE INPUT: true; the input reads as it did. -/
def kneserTellsSpec : ChangeSpec := { name := "kneserTells", fn := fun _ => fun
  | [d1, d2, d3] => { results := [.lit (.bool true)], args := [d1, d2, d3] }
  | _ => none }
def kneserTellsRow : OpenClaim := { program := "ytpmchgndnhgncaagreat", sum := "302c00d0cb36f12cab973ed6c9a4e1c7e63f03e1961d555d8afd4400bea559c0", func := "locution/locutionlaw29.KneserTells", spec := "kneserTells", inPlace := ["math/bits.Add64", "math/bits.Sub64"], unfollowed := true, recurses := true, named := ["math/bits.divideError", "math/bits.overflowError"], apart := false }
def KneserTellsSaid : Prop := kneserTellsRow.holds Tryz.pinned (OpenSpec.ofChange kneserTellsSpec)

/-- ITS FALSE NEIGHBOUR: 'it returns false'. Refute it at one input. -/
def kneserTellsWrong : ChangeSpec := { name := "kneserTells", fn := fun _ => fun
  | [d1, d2, d3] => { results := [.lit (.bool false)], args := [d1, d2, d3] }
  | _ => none }
def KneserTellsWrongFalsely : Prop := kneserTellsRow.holds Tryz.pinned (OpenSpec.ofChange kneserTellsWrong)

/-- 'locutionlaw29.KneserBacks': WHATEVER THE INPUT: true; the input reads as it did. -/
def kneserBacksSpec : ChangeSpec := { name := "kneserBacks", fn := fun _ => fun
  | [d1, d2, d3] => { results := [.lit (.bool true)], args := [d1, d2, d3] }
  | _ => none }
def kneserBacksRow : OpenClaim := { program := "ytpmchgndnhgncaagreat", sum := "302c00d0cb36f12cab973ed6c9a4e1c7e63f03e1961d555d8afd4400bea559c0", func := "locution/locutionlaw29.KneserBacks", spec := "kneserBacks", inPlace := ["math/bits.Add64", "math/bits.Sub64"], unfollowed := true, recurses := true, named := ["math/bits.divideError", "math/bits.overflowError"], apart := false }
def KneserBacksSaid : Prop := kneserBacksRow.holds Tryz.pinned (OpenSpec.ofChange kneserBacksSpec)

/-- ITS FALSE NEIGHBOUR: 'it returns false'. Refute it at one input. -/
def kneserBacksWrong : ChangeSpec := { name := "kneserBacks", fn := fun _ => fun
  | [d1, d2, d3] => { results := [.lit (.bool false)], args := [d1, d2, d3] }
  | _ => none }
def KneserBacksWrongFalsely : Prop := kneserBacksRow.holds Tryz.pinned (OpenSpec.ofChange kneserBacksWrong)

/-- 'locutionlaw29.KneserCounts': WHATEVER THE INPUT: true; the input reads as it did. -/
def kneserCountsSpec : ChangeSpec := { name := "kneserCounts", fn := fun _ => fun
  | [d1, d2, d3] => { results := [.lit (.bool true)], args := [d1, d2, d3] }
  | _ => none }
def kneserCountsRow : OpenClaim := { program := "ytpmchgndnhgncaagreat", sum := "302c00d0cb36f12cab973ed6c9a4e1c7e63f03e1961d555d8afd4400bea559c0", func := "locution/locutionlaw29.KneserCounts", spec := "kneserCounts", inPlace := ["math/bits.Add64", "math/bits.Sub64"], unfollowed := true, recurses := true, named := ["math/bits.divideError", "math/bits.overflowError"], apart := false }
def KneserCountsSaid : Prop := kneserCountsRow.holds Tryz.pinned (OpenSpec.ofChange kneserCountsSpec)

/-- ITS FALSE NEIGHBOUR: 'it returns false'. Refute it at one input. -/
def kneserCountsWrong : ChangeSpec := { name := "kneserCounts", fn := fun _ => fun
  | [d1, d2, d3] => { results := [.lit (.bool false)], args := [d1, d2, d3] }
  | _ => none }
def KneserCountsWrongFalsely : Prop := kneserCountsRow.holds Tryz.pinned (OpenSpec.ofChange kneserCountsWrong)

/- THE SECOND FORM. 'bulk': how many values and letters a reading holds, each counted each time it is reached (what is shared counts as often as it is met; a slice's spare places count too). A statement '..UptoSaid' is the law's where the arguments, and the package variables that the reading takes, are together of bulk at most 1048576: NARROWER than '..Said'. Prove '..Said' where nothing that the law and all that it calls make is longer than what came in: it says more and counts as full. Else prove '..UptoSaid'. A law counts once. -/
mutual
def uptoBulk {H : Type} : DataW H → Nat
  | .lit (.string bytes) => bytes.length + 1
  | .lit _ => 1
  | .nil => 1
  | .ptr d => uptoBulk d + 1
  | .slice elems spare => uptoBulkAll elems + uptoBulkAll spare + 1
  | .agg parts => uptoBulkAll parts + 1
  | .iface _ d => uptoBulk d + 1
  | .map entries => uptoBulkEntries entries + 1
  | .held _ => 1
def uptoBulkAll {H : Type} : List (DataW H) → Nat
  | [] => 0
  | d :: r => uptoBulk d + uptoBulkAll r
def uptoBulkEntries {H : Type} : List (Lit × DataW H) → Nat
  | [] => 0
  | x :: r => uptoBulkEntry x + uptoBulkEntries r
def uptoBulkEntry {H : Type} : Lit × DataW H → Nat
  | (.string bytes, d) => bytes.length + uptoBulk d + 1
  | (_, d) => uptoBulk d + 1
 end
def uptoSmall : (H : Type) → List (DataW H) → Bool := fun _ ds => decide (uptoBulkAll ds ≤ 1048576)
def OpenSpec.upto (s : _root_.Go.ChangeSpec) : _root_.Go.OpenSpec := { _root_.Go.OpenSpec.ofChange s with cond := some uptoSmall }

/-- 'locutionlaw29.KneserSums', WHERE WHAT IT READS IS OF BULK AT MOST 1048576: true; the input reads as it did. -/
def kneserSumsUptoRow : OpenClaim := { program := "ytpmchgndnhgncaagreat", sum := "302c00d0cb36f12cab973ed6c9a4e1c7e63f03e1961d555d8afd4400bea559c0", func := "locution/locutionlaw29.KneserSums", spec := "kneserSums", inPlace := ["math/bits.Add64", "math/bits.Sub64"], unfollowed := true, recurses := true, named := ["math/bits.divideError", "math/bits.overflowError"], apart := false, narrowed := true }
def KneserSumsUptoSaid : Prop := kneserSumsUptoRow.holds Tryz.pinned (OpenSpec.upto kneserSumsSpec)

/-- 'locutionlaw29.KneserTells', WHERE WHAT IT READS IS OF BULK AT MOST 1048576: true; the input reads as it did. -/
def kneserTellsUptoRow : OpenClaim := { program := "ytpmchgndnhgncaagreat", sum := "302c00d0cb36f12cab973ed6c9a4e1c7e63f03e1961d555d8afd4400bea559c0", func := "locution/locutionlaw29.KneserTells", spec := "kneserTells", inPlace := ["math/bits.Add64", "math/bits.Sub64"], unfollowed := true, recurses := true, named := ["math/bits.divideError", "math/bits.overflowError"], apart := false, narrowed := true }
def KneserTellsUptoSaid : Prop := kneserTellsUptoRow.holds Tryz.pinned (OpenSpec.upto kneserTellsSpec)

/-- 'locutionlaw29.KneserBacks', WHERE WHAT IT READS IS OF BULK AT MOST 1048576: true; the input reads as it did. -/
def kneserBacksUptoRow : OpenClaim := { program := "ytpmchgndnhgncaagreat", sum := "302c00d0cb36f12cab973ed6c9a4e1c7e63f03e1961d555d8afd4400bea559c0", func := "locution/locutionlaw29.KneserBacks", spec := "kneserBacks", inPlace := ["math/bits.Add64", "math/bits.Sub64"], unfollowed := true, recurses := true, named := ["math/bits.divideError", "math/bits.overflowError"], apart := false, narrowed := true }
def KneserBacksUptoSaid : Prop := kneserBacksUptoRow.holds Tryz.pinned (OpenSpec.upto kneserBacksSpec)

/-- 'locutionlaw29.KneserCounts', WHERE WHAT IT READS IS OF BULK AT MOST 1048576: true; the input reads as it did. -/
def kneserCountsUptoRow : OpenClaim := { program := "ytpmchgndnhgncaagreat", sum := "302c00d0cb36f12cab973ed6c9a4e1c7e63f03e1961d555d8afd4400bea559c0", func := "locution/locutionlaw29.KneserCounts", spec := "kneserCounts", inPlace := ["math/bits.Add64", "math/bits.Sub64"], unfollowed := true, recurses := true, named := ["math/bits.divideError", "math/bits.overflowError"], apart := false, narrowed := true }
def KneserCountsUptoSaid : Prop := kneserCountsUptoRow.holds Tryz.pinned (OpenSpec.upto kneserCountsSpec)

end Rows
end Go.Proofs.YtpmchgndnhgncaaGreat
