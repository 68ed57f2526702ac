/-
  No cell of these rows narrows 'for every input' (looked for: loops, veiled, ifaces, maps, wideKeys, modest, calm, conditions, laid).
  DERIVED. THE GIVEN ROWS OF THIS SEAT. 4 by the template 'for every input the law returns true; each argument reads behind the call as it read before'; 0 by the template 'total and deterministic' (their statements: YtdocfnomcbfbpaaTotals.lean).
  GIVEN WITH THE SEED: the statements are not yours to turn. If you find one false, say at which input.
  Laid BY PROGRAM, IN A SANDBOX (cutbox-rows.mjs): the forced cells as the released guide's own fill.sh prints them over the translation 05f3d8128142f57b… (all of the seat's roots in one cut). By AI agents, Wed Nov 11 2026. No macro, syntax, notation, axiom, sorry.
-/
import Derived.Test.YtdocfnomcbfbpaaChecked
import GoSem.Claim
import GoSem.ClaimJoined
import GoSem.ClaimMapViews
import Derived.JoinedTies
import Derived.KernelRfl
namespace Go.Proofs.Ytdocfnomcbfbpaa
/- THE CELL 'sum', in the pinned program and in every row, IS THE sha256 OF THE DUMP (.gsa) THAT YtdocfnomcbfbpaaProg.lean LOADS. Nothing in Lean hashes anything: it is a label: what it is worth is what the hold of that sum in a sandbox is worth. -/
noncomputable def Try.pinned : Pinned := { name := "ytdocfnomcbfbpaa", sum := "05f3d8128142f57ba1c9c73cbde59b1de6ab3718ae00bad6772efdf7b5959895", checked := Try.checked }
namespace Rows
def none {H : Type} : Left H := { results := [], args := [] }

/-- 'waymarklaw3.GaussMul': WHATEVER THE INPUT: true; the input reads as it did. -/
def gaussMulSpec : ChangeSpec := { name := "gaussMul", fn := fun _ => fun
  | [d1, d2, d3, d4] => { results := [.lit (.bool true)], args := [d1, d2, d3, d4] }
  | _ => none }
def gaussMulRow : OpenClaim := { program := "ytdocfnomcbfbpaa", sum := "05f3d8128142f57ba1c9c73cbde59b1de6ab3718ae00bad6772efdf7b5959895", func := "waymark/waymarklaw3.GaussMul", spec := "gaussMul", apart := false }
def GaussMulSaid : Prop := gaussMulRow.holds Try.pinned (OpenSpec.ofChange gaussMulSpec)

/-- ITS FALSE NEIGHBOUR: 'it returns false'. Refute it at one input. -/
def gaussMulWrong : ChangeSpec := { name := "gaussMul", fn := fun _ => fun
  | [d1, d2, d3, d4] => { results := [.lit (.bool false)], args := [d1, d2, d3, d4] }
  | _ => none }
def GaussMulWrongFalsely : Prop := gaussMulRow.holds Try.pinned (OpenSpec.ofChange gaussMulWrong)

/-- 'waymarklaw3.GaussJoins': WHATEVER THE INPUT: true; the input reads as it did. -/
def gaussJoinsSpec : ChangeSpec := { name := "gaussJoins", fn := fun _ => fun
  | [d1, d2] => { results := [.lit (.bool true)], args := [d1, d2] }
  | _ => none }
def gaussJoinsRow : OpenClaim := { program := "ytdocfnomcbfbpaa", sum := "05f3d8128142f57ba1c9c73cbde59b1de6ab3718ae00bad6772efdf7b5959895", func := "waymark/waymarklaw3.GaussJoins", spec := "gaussJoins", apart := false }
def GaussJoinsSaid : Prop := gaussJoinsRow.holds Try.pinned (OpenSpec.ofChange gaussJoinsSpec)

/-- ITS FALSE NEIGHBOUR: 'it returns false'. Refute it at one input. -/
def gaussJoinsWrong : ChangeSpec := { name := "gaussJoins", fn := fun _ => fun
  | [d1, d2] => { results := [.lit (.bool false)], args := [d1, d2] }
  | _ => none }
def GaussJoinsWrongFalsely : Prop := gaussJoinsRow.holds Try.pinned (OpenSpec.ofChange gaussJoinsWrong)

/-- 'waymarklaw3.GaussTurns': WHATEVER THE INPUT: true; the input reads as it did. -/
def gaussTurnsSpec : ChangeSpec := { name := "gaussTurns", fn := fun _ => fun
  | [d1, d2, d3, d4] => { results := [.lit (.bool true)], args := [d1, d2, d3, d4] }
  | _ => none }
def gaussTurnsRow : OpenClaim := { program := "ytdocfnomcbfbpaa", sum := "05f3d8128142f57ba1c9c73cbde59b1de6ab3718ae00bad6772efdf7b5959895", func := "waymark/waymarklaw3.GaussTurns", spec := "gaussTurns", apart := false }
def GaussTurnsSaid : Prop := gaussTurnsRow.holds Try.pinned (OpenSpec.ofChange gaussTurnsSpec)

/-- ITS FALSE NEIGHBOUR: 'it returns false'. Refute it at one input. -/
def gaussTurnsWrong : ChangeSpec := { name := "gaussTurns", fn := fun _ => fun
  | [d1, d2, d3, d4] => { results := [.lit (.bool false)], args := [d1, d2, d3, d4] }
  | _ => none }
def GaussTurnsWrongFalsely : Prop := gaussTurnsRow.holds Try.pinned (OpenSpec.ofChange gaussTurnsWrong)

/-- 'waymarklaw3.GaussFolds': WHATEVER THE INPUT: true; the input reads as it did. -/
def gaussFoldsSpec : ChangeSpec := { name := "gaussFolds", fn := fun _ => fun
  | [d1, d2] => { results := [.lit (.bool true)], args := [d1, d2] }
  | _ => none }
def gaussFoldsRow : OpenClaim := { program := "ytdocfnomcbfbpaa", sum := "05f3d8128142f57ba1c9c73cbde59b1de6ab3718ae00bad6772efdf7b5959895", func := "waymark/waymarklaw3.GaussFolds", spec := "gaussFolds", apart := false }
def GaussFoldsSaid : Prop := gaussFoldsRow.holds Try.pinned (OpenSpec.ofChange gaussFoldsSpec)

/-- ITS FALSE NEIGHBOUR: 'it returns false'. Refute it at one input. -/
def gaussFoldsWrong : ChangeSpec := { name := "gaussFolds", fn := fun _ => fun
  | [d1, d2] => { results := [.lit (.bool false)], args := [d1, d2] }
  | _ => none }
def GaussFoldsWrongFalsely : Prop := gaussFoldsRow.holds Try.pinned (OpenSpec.ofChange gaussFoldsWrong)

/- THE SECOND FORM. 'bulk': how many values and letters a reading holds, each counted each time it is reached (what is shared counts as often as it is met; a slice's spare places count too). A statement '..UptoSaid' is the law's where the arguments, and the package variables that the reading takes, are together of bulk at most 1048576: NARROWER than '..Said'. Prove '..Said' where nothing that the law and all that it calls make is longer than what came in: it says more and counts as full. Else prove '..UptoSaid'. A law counts once. -/
mutual
def uptoBulk {H : Type} : DataW H → Nat
  | .lit (.string bytes) => bytes.length + 1
  | .lit _ => 1
  | .nil => 1
  | .ptr d => uptoBulk d + 1
  | .slice elems spare => uptoBulkAll elems + uptoBulkAll spare + 1
  | .agg parts => uptoBulkAll parts + 1
  | .iface _ d => uptoBulk d + 1
  | .map entries => uptoBulkEntries entries + 1
  | .held _ => 1
def uptoBulkAll {H : Type} : List (DataW H) → Nat
  | [] => 0
  | d :: r => uptoBulk d + uptoBulkAll r
def uptoBulkEntries {H : Type} : List (Lit × DataW H) → Nat
  | [] => 0
  | x :: r => uptoBulkEntry x + uptoBulkEntries r
def uptoBulkEntry {H : Type} : Lit × DataW H → Nat
  | (.string bytes, d) => bytes.length + uptoBulk d + 1
  | (_, d) => uptoBulk d + 1
 end
def uptoSmall : (H : Type) → List (DataW H) → Bool := fun _ ds => decide (uptoBulkAll ds ≤ 1048576)
def OpenSpec.upto (s : _root_.Go.ChangeSpec) : _root_.Go.OpenSpec := { _root_.Go.OpenSpec.ofChange s with cond := some uptoSmall }

/-- 'waymarklaw3.GaussMul', WHERE WHAT IT READS IS OF BULK AT MOST 1048576: true; the input reads as it did. -/
def gaussMulUptoRow : OpenClaim := { program := "ytdocfnomcbfbpaa", sum := "05f3d8128142f57ba1c9c73cbde59b1de6ab3718ae00bad6772efdf7b5959895", func := "waymark/waymarklaw3.GaussMul", spec := "gaussMul", apart := false, narrowed := true }
def GaussMulUptoSaid : Prop := gaussMulUptoRow.holds Try.pinned (OpenSpec.upto gaussMulSpec)

/-- 'waymarklaw3.GaussJoins', WHERE WHAT IT READS IS OF BULK AT MOST 1048576: true; the input reads as it did. -/
def gaussJoinsUptoRow : OpenClaim := { program := "ytdocfnomcbfbpaa", sum := "05f3d8128142f57ba1c9c73cbde59b1de6ab3718ae00bad6772efdf7b5959895", func := "waymark/waymarklaw3.GaussJoins", spec := "gaussJoins", apart := false, narrowed := true }
def GaussJoinsUptoSaid : Prop := gaussJoinsUptoRow.holds Try.pinned (OpenSpec.upto gaussJoinsSpec)

/-- 'waymarklaw3.GaussTurns', WHERE WHAT IT READS IS OF BULK AT MOST 1048576: true; the input reads as it did. -/
def gaussTurnsUptoRow : OpenClaim := { program := "ytdocfnomcbfbpaa", sum := "05f3d8128142f57ba1c9c73cbde59b1de6ab3718ae00bad6772efdf7b5959895", func := "waymark/waymarklaw3.GaussTurns", spec := "gaussTurns", apart := false, narrowed := true }
def GaussTurnsUptoSaid : Prop := gaussTurnsUptoRow.holds Try.pinned (OpenSpec.upto gaussTurnsSpec)

/-- 'waymarklaw3.GaussFolds', WHERE WHAT IT READS IS OF BULK AT MOST 1048576: true; the input reads as it did. -/
def gaussFoldsUptoRow : OpenClaim := { program := "ytdocfnomcbfbpaa", sum := "05f3d8128142f57ba1c9c73cbde59b1de6ab3718ae00bad6772efdf7b5959895", func := "waymark/waymarklaw3.GaussFolds", spec := "gaussFolds", apart := false, narrowed := true }
def GaussFoldsUptoSaid : Prop := gaussFoldsUptoRow.holds Try.pinned (OpenSpec.upto gaussFoldsSpec)

end Rows
end Go.Proofs.Ytdocfnomcbfbpaa
