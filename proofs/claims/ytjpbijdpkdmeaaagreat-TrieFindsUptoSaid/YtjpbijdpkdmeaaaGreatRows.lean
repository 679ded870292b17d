/-
  No cell of these rows narrows 'for every input' (looked for: loops, veiled, ifaces, maps, wideKeys, modest, calm, conditions, laid).
  DERIVED. THE GIVEN ROWS OF THIS SEAT. 5 by the template 'for every input the law returns true; each argument reads behind the call as it read before'; 0 by the template 'total and deterministic' (their statements: YtjpbijdpkdmeaaaGreatTotals.lean).
  GIVEN WITH THE SEED: the statements are not yours to turn. If you find one false, say at which input.
  Laid BY PROGRAM, IN A SANDBOX (cutbox-rows.mjs): the forced cells as the released guide's own fill.sh prints them over the translation d7798ca01fcb28ad… (all of the seat's roots in one cut). By AI agents, Wed Nov 11 2026. No macro, syntax, notation, axiom, sorry.
-/
import Derived.Test.YtjpbijdpkdmeaaaGreatChecked
import GoSem.Claim
import GoSem.ClaimJoined
import GoSem.ClaimMapViews
import Derived.JoinedTies
import Derived.KernelRfl
namespace Go.Proofs.YtjpbijdpkdmeaaaGreat
/- THE CELL 'sum', in the pinned program and in every row, IS THE sha256 OF THE DUMP (.gsa) THAT YtjpbijdpkdmeaaaGreatProg.lean LOADS. Nothing in Lean hashes anything: it is a label: what it is worth is what the hold of that sum in a sandbox is worth. -/
noncomputable def Tryz.pinned : Pinned := { name := "ytjpbijdpkdmeaaagreat", sum := "d7798ca01fcb28aded0179c6b4aa83385b5a449d4980c2e87e110ccffa86f9df", checked := Tryz.checked }
namespace Rows
def none {H : Type} : Left H := { results := [], args := [] }

/-- 'locutionlaw35.TrieFinds': WHATEVER THE INPUT: true; the input reads as it did. -/
def trieFindsSpec : ChangeSpec := { name := "trieFinds", fn := fun _ => fun
  | [d1, d2] => { results := [.lit (.bool true)], args := [d1, d2] }
  | _ => none }
def trieFindsRow : OpenClaim := { program := "ytjpbijdpkdmeaaagreat", sum := "d7798ca01fcb28aded0179c6b4aa83385b5a449d4980c2e87e110ccffa86f9df", func := "locution/locutionlaw35.TrieFinds", spec := "trieFinds", unfollowed := true, recurses := true, apart := false }
def TrieFindsSaid : Prop := trieFindsRow.holds Tryz.pinned (OpenSpec.ofChange trieFindsSpec)

/-- ITS FALSE NEIGHBOUR: 'it returns false'. Refute it at one input. -/
def trieFindsWrong : ChangeSpec := { name := "trieFinds", fn := fun _ => fun
  | [d1, d2] => { results := [.lit (.bool false)], args := [d1, d2] }
  | _ => none }
def TrieFindsWrongFalsely : Prop := trieFindsRow.holds Tryz.pinned (OpenSpec.ofChange trieFindsWrong)

/-- 'locutionlaw35.TrieParts': WHATEVER THE INPUT: true; the input reads as it did. -/
def triePartsSpec : ChangeSpec := { name := "trieParts", fn := fun _ => fun
  | [d1, d2, d3] => { results := [.lit (.bool true)], args := [d1, d2, d3] }
  | _ => none }
def triePartsRow : OpenClaim := { program := "ytjpbijdpkdmeaaagreat", sum := "d7798ca01fcb28aded0179c6b4aa83385b5a449d4980c2e87e110ccffa86f9df", func := "locution/locutionlaw35.TrieParts", spec := "trieParts", unfollowed := true, recurses := true, apart := false }
def TriePartsSaid : Prop := triePartsRow.holds Tryz.pinned (OpenSpec.ofChange triePartsSpec)

/-- ITS FALSE NEIGHBOUR: 'it returns false'. Refute it at one input. -/
def triePartsWrong : ChangeSpec := { name := "trieParts", fn := fun _ => fun
  | [d1, d2, d3] => { results := [.lit (.bool false)], args := [d1, d2, d3] }
  | _ => none }
def TriePartsWrongFalsely : Prop := triePartsRow.holds Tryz.pinned (OpenSpec.ofChange triePartsWrong)

/-- 'locutionlaw35.TrieTells': WHATEVER THE INPUT: true; the input reads as it did. -/
def trieTellsSpec : ChangeSpec := { name := "trieTells", fn := fun _ => fun
  | [d1, d2, d3] => { results := [.lit (.bool true)], args := [d1, d2, d3] }
  | _ => none }
def trieTellsRow : OpenClaim := { program := "ytjpbijdpkdmeaaagreat", sum := "d7798ca01fcb28aded0179c6b4aa83385b5a449d4980c2e87e110ccffa86f9df", func := "locution/locutionlaw35.TrieTells", spec := "trieTells", unfollowed := true, recurses := true, apart := false }
def TrieTellsSaid : Prop := trieTellsRow.holds Tryz.pinned (OpenSpec.ofChange trieTellsSpec)

/-- ITS FALSE NEIGHBOUR: 'it returns false'. Refute it at one input. -/
def trieTellsWrong : ChangeSpec := { name := "trieTells", fn := fun _ => fun
  | [d1, d2, d3] => { results := [.lit (.bool false)], args := [d1, d2, d3] }
  | _ => none }
def TrieTellsWrongFalsely : Prop := trieTellsRow.holds Tryz.pinned (OpenSpec.ofChange trieTellsWrong)

/-- 'locutionlaw35.TrieBuilds': WHATEVER THE INPUT: true; the input reads as it did. -/
def trieBuildsSpec : ChangeSpec := { name := "trieBuilds", fn := fun _ => fun
  | [d] => { results := [.lit (.bool true)], args := [d] }
  | _ => none }
def trieBuildsRow : OpenClaim := { program := "ytjpbijdpkdmeaaagreat", sum := "d7798ca01fcb28aded0179c6b4aa83385b5a449d4980c2e87e110ccffa86f9df", func := "locution/locutionlaw35.TrieBuilds", spec := "trieBuilds", unfollowed := true, recurses := true, apart := false }
def TrieBuildsSaid : Prop := trieBuildsRow.holds Tryz.pinned (OpenSpec.ofChange trieBuildsSpec)

/-- ITS FALSE NEIGHBOUR: 'it returns false'. Refute it at one input. -/
def trieBuildsWrong : ChangeSpec := { name := "trieBuilds", fn := fun _ => fun
  | [d] => { results := [.lit (.bool false)], args := [d] }
  | _ => none }
def TrieBuildsWrongFalsely : Prop := trieBuildsRow.holds Tryz.pinned (OpenSpec.ofChange trieBuildsWrong)

/-- 'locutionlaw35.TrieSize': WHATEVER THE INPUT: true; the input reads as it did. -/
def trieSizeSpec : ChangeSpec := { name := "trieSize", fn := fun _ => fun
  | [d] => { results := [.lit (.bool true)], args := [d] }
  | _ => none }
def trieSizeRow : OpenClaim := { program := "ytjpbijdpkdmeaaagreat", sum := "d7798ca01fcb28aded0179c6b4aa83385b5a449d4980c2e87e110ccffa86f9df", func := "locution/locutionlaw35.TrieSize", spec := "trieSize", unfollowed := true, recurses := true, apart := false }
def TrieSizeSaid : Prop := trieSizeRow.holds Tryz.pinned (OpenSpec.ofChange trieSizeSpec)

/-- ITS FALSE NEIGHBOUR: 'it returns false'. Refute it at one input. -/
def trieSizeWrong : ChangeSpec := { name := "trieSize", fn := fun _ => fun
  | [d] => { results := [.lit (.bool false)], args := [d] }
  | _ => none }
def TrieSizeWrongFalsely : Prop := trieSizeRow.holds Tryz.pinned (OpenSpec.ofChange trieSizeWrong)

/- THE SECOND FORM. 'bulk': how many values and letters a reading holds, each counted each time it is reached (what is shared counts as often as it is met; a slice's spare places count too). A statement '..UptoSaid' is the law's where the arguments, and the package variables that the reading takes, are together of bulk at most 1048576: NARROWER than '..Said'. Prove '..Said' where nothing that the law and all that it calls make is longer than what came in: it says more and counts as full. Else prove '..UptoSaid'. A law counts once. -/
mutual
def uptoBulk {H : Type} : DataW H → Nat
  | .lit (.string bytes) => bytes.length + 1
  | .lit _ => 1
  | .nil => 1
  | .ptr d => uptoBulk d + 1
  | .slice elems spare => uptoBulkAll elems + uptoBulkAll spare + 1
  | .agg parts => uptoBulkAll parts + 1
  | .iface _ d => uptoBulk d + 1
  | .map entries => uptoBulkEntries entries + 1
  | .held _ => 1
def uptoBulkAll {H : Type} : List (DataW H) → Nat
  | [] => 0
  | d :: r => uptoBulk d + uptoBulkAll r
def uptoBulkEntries {H : Type} : List (Lit × DataW H) → Nat
  | [] => 0
  | x :: r => uptoBulkEntry x + uptoBulkEntries r
def uptoBulkEntry {H : Type} : Lit × DataW H → Nat
  | (.string bytes, d) => bytes.length + uptoBulk d + 1
  | (_, d) => uptoBulk d + 1
 end
def uptoSmall : (H : Type) → List (DataW H) → Bool := fun _ ds => decide (uptoBulkAll ds ≤ 1048576)
def OpenSpec.upto (s : _root_.Go.ChangeSpec) : _root_.Go.OpenSpec := { _root_.Go.OpenSpec.ofChange s with cond := some uptoSmall }

/-- 'locutionlaw35.TrieFinds', WHERE WHAT IT READS IS OF BULK AT MOST 1048576: true; the input reads as it did. -/
def trieFindsUptoRow : OpenClaim := { program := "ytjpbijdpkdmeaaagreat", sum := "d7798ca01fcb28aded0179c6b4aa83385b5a449d4980c2e87e110ccffa86f9df", func := "locution/locutionlaw35.TrieFinds", spec := "trieFinds", unfollowed := true, recurses := true, apart := false, narrowed := true }
def TrieFindsUptoSaid : Prop := trieFindsUptoRow.holds Tryz.pinned (OpenSpec.upto trieFindsSpec)

/-- 'locutionlaw35.TrieParts', WHERE WHAT IT READS IS OF BULK AT MOST 1048576: true; the input reads as it did. -/
def triePartsUptoRow : OpenClaim := { program := "ytjpbijdpkdmeaaagreat", sum := "d7798ca01fcb28aded0179c6b4aa83385b5a449d4980c2e87e110ccffa86f9df", func := "locution/locutionlaw35.TrieParts", spec := "trieParts", unfollowed := true, recurses := true, apart := false, narrowed := true }
def TriePartsUptoSaid : Prop := triePartsUptoRow.holds Tryz.pinned (OpenSpec.upto triePartsSpec)

/-- 'locutionlaw35.TrieTells', WHERE WHAT IT READS IS OF BULK AT MOST 1048576: true; the input reads as it did. -/
def trieTellsUptoRow : OpenClaim := { program := "ytjpbijdpkdmeaaagreat", sum := "d7798ca01fcb28aded0179c6b4aa83385b5a449d4980c2e87e110ccffa86f9df", func := "locution/locutionlaw35.TrieTells", spec := "trieTells", unfollowed := true, recurses := true, apart := false, narrowed := true }
def TrieTellsUptoSaid : Prop := trieTellsUptoRow.holds Tryz.pinned (OpenSpec.upto trieTellsSpec)

/-- 'locutionlaw35.TrieBuilds', WHERE WHAT IT READS IS OF BULK AT MOST 1048576: true; the input reads as it did. -/
def trieBuildsUptoRow : OpenClaim := { program := "ytjpbijdpkdmeaaagreat", sum := "d7798ca01fcb28aded0179c6b4aa83385b5a449d4980c2e87e110ccffa86f9df", func := "locution/locutionlaw35.TrieBuilds", spec := "trieBuilds", unfollowed := true, recurses := true, apart := false, narrowed := true }
def TrieBuildsUptoSaid : Prop := trieBuildsUptoRow.holds Tryz.pinned (OpenSpec.upto trieBuildsSpec)

/-- 'locutionlaw35.TrieSize', WHERE WHAT IT READS IS OF BULK AT MOST 1048576: true; the input reads as it did. -/
def trieSizeUptoRow : OpenClaim := { program := "ytjpbijdpkdmeaaagreat", sum := "d7798ca01fcb28aded0179c6b4aa83385b5a449d4980c2e87e110ccffa86f9df", func := "locution/locutionlaw35.TrieSize", spec := "trieSize", unfollowed := true, recurses := true, apart := false, narrowed := true }
def TrieSizeUptoSaid : Prop := trieSizeUptoRow.holds Tryz.pinned (OpenSpec.upto trieSizeSpec)

end Rows
end Go.Proofs.YtjpbijdpkdmeaaaGreat
