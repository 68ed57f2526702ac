/-
  No cell of these rows narrows 'for every input' (looked for: loops, veiled, ifaces, maps, wideKeys, modest, calm, conditions, laid).
  DERIVED. THE GIVEN ROWS OF THIS SEAT. 4 by the template 'for every input the law returns true; each argument reads behind the call as it read before'; 0 by the template 'total and deterministic' (their statements: YtgpeogbifpbcdaaTotals.lean).
  GIVEN WITH THE SEED: the statements are not yours to turn. If you find one false, say at which input.
  Laid BY PROGRAM, IN A SANDBOX (cutbox-rows.mjs): the forced cells as the released guide's own fill.sh prints them over the translation c9d0881bf1a1d9c8… (all of the seat's roots in one cut). By AI agents, Wed Nov 11 2026. No macro, syntax, notation, axiom, sorry.
-/
import Derived.Test.YtgpeogbifpbcdaaChecked
import GoSem.Claim
import GoSem.ClaimJoined
import GoSem.ClaimMapViews
import Derived.JoinedTies
import Derived.KernelRfl
namespace Go.Proofs.Ytgpeogbifpbcdaa
/- THE CELL 'sum', in the pinned program and in every row, IS THE sha256 OF THE DUMP (.gsa) THAT YtgpeogbifpbcdaaProg.lean LOADS. Nothing in Lean hashes anything: it is a label: what it is worth is what the hold of that sum in a sandbox is worth. -/
noncomputable def Try.pinned : Pinned := { name := "ytgpeogbifpbcdaa", sum := "c9d0881bf1a1d9c88800a00fd0bf14a10e96aca2de38d337341ce526bd1cc4f8", checked := Try.checked }
namespace Rows
def none {H : Type} : Left H := { results := [], args := [] }

/-- 'waymarklaw4.TlvTells': WHATEVER THE INPUT: true; the input reads as it did. -/
def tlvTellsSpec : ChangeSpec := { name := "tlvTells", fn := fun _ => fun
  | [d1, d2] => { results := [.lit (.bool true)], args := [d1, d2] }
  | _ => none }
def tlvTellsRow : OpenClaim := { program := "ytgpeogbifpbcdaa", sum := "c9d0881bf1a1d9c88800a00fd0bf14a10e96aca2de38d337341ce526bd1cc4f8", func := "waymark/waymarklaw4.TlvTells", spec := "tlvTells", apart := false }
def TlvTellsSaid : Prop := tlvTellsRow.holds Try.pinned (OpenSpec.ofChange tlvTellsSpec)

/-- ITS FALSE NEIGHBOUR: 'it returns false'. Refute it at one input. -/
def tlvTellsWrong : ChangeSpec := { name := "tlvTells", fn := fun _ => fun
  | [d1, d2] => { results := [.lit (.bool false)], args := [d1, d2] }
  | _ => none }
def TlvTellsWrongFalsely : Prop := tlvTellsRow.holds Try.pinned (OpenSpec.ofChange tlvTellsWrong)

/-- 'waymarklaw4.TlvLong': WHATEVER THE INPUT: true; the input reads as it did. -/
def tlvLongSpec : ChangeSpec := { name := "tlvLong", fn := fun _ => fun
  | [d] => { results := [.lit (.bool true)], args := [d] }
  | _ => none }
def tlvLongRow : OpenClaim := { program := "ytgpeogbifpbcdaa", sum := "c9d0881bf1a1d9c88800a00fd0bf14a10e96aca2de38d337341ce526bd1cc4f8", func := "waymark/waymarklaw4.TlvLong", spec := "tlvLong", apart := false }
def TlvLongSaid : Prop := tlvLongRow.holds Try.pinned (OpenSpec.ofChange tlvLongSpec)

/-- ITS FALSE NEIGHBOUR: 'it returns false'. Refute it at one input. -/
def tlvLongWrong : ChangeSpec := { name := "tlvLong", fn := fun _ => fun
  | [d] => { results := [.lit (.bool false)], args := [d] }
  | _ => none }
def TlvLongWrongFalsely : Prop := tlvLongRow.holds Try.pinned (OpenSpec.ofChange tlvLongWrong)

/-- 'waymarklaw4.TlvReports': WHATEVER THE INPUT: true; the input reads as it did. -/
def tlvReportsSpec : ChangeSpec := { name := "tlvReports", fn := fun _ => fun
  | [d1, d2] => { results := [.lit (.bool true)], args := [d1, d2] }
  | _ => none }
def tlvReportsRow : OpenClaim := { program := "ytgpeogbifpbcdaa", sum := "c9d0881bf1a1d9c88800a00fd0bf14a10e96aca2de38d337341ce526bd1cc4f8", func := "waymark/waymarklaw4.TlvReports", spec := "tlvReports", apart := false }
def TlvReportsSaid : Prop := tlvReportsRow.holds Try.pinned (OpenSpec.ofChange tlvReportsSpec)

/-- ITS FALSE NEIGHBOUR: 'it returns false'. Refute it at one input. -/
def tlvReportsWrong : ChangeSpec := { name := "tlvReports", fn := fun _ => fun
  | [d1, d2] => { results := [.lit (.bool false)], args := [d1, d2] }
  | _ => none }
def TlvReportsWrongFalsely : Prop := tlvReportsRow.holds Try.pinned (OpenSpec.ofChange tlvReportsWrong)

/-- 'waymarklaw4.TlvTorn': WHATEVER THE INPUT: true; the input reads as it did. -/
def tlvTornSpec : ChangeSpec := { name := "tlvTorn", fn := fun _ => fun
  | [d1, d2] => { results := [.lit (.bool true)], args := [d1, d2] }
  | _ => none }
def tlvTornRow : OpenClaim := { program := "ytgpeogbifpbcdaa", sum := "c9d0881bf1a1d9c88800a00fd0bf14a10e96aca2de38d337341ce526bd1cc4f8", func := "waymark/waymarklaw4.TlvTorn", spec := "tlvTorn", apart := false }
def TlvTornSaid : Prop := tlvTornRow.holds Try.pinned (OpenSpec.ofChange tlvTornSpec)

/-- ITS FALSE NEIGHBOUR: 'it returns false'. Refute it at one input. -/
def tlvTornWrong : ChangeSpec := { name := "tlvTorn", fn := fun _ => fun
  | [d1, d2] => { results := [.lit (.bool false)], args := [d1, d2] }
  | _ => none }
def TlvTornWrongFalsely : Prop := tlvTornRow.holds Try.pinned (OpenSpec.ofChange tlvTornWrong)

/- THE SECOND FORM. 'bulk': how many values and letters a reading holds, each counted each time it is reached (what is shared counts as often as it is met; a slice's spare places count too). A statement '..UptoSaid' is the law's where the arguments, and the package variables that the reading takes, are together of bulk at most 1048576: NARROWER than '..Said'. Prove '..Said' where nothing that the law and all that it calls make is longer than what came in: it says more and counts as full. Else prove '..UptoSaid'. A law counts once. -/
mutual
def uptoBulk {H : Type} : DataW H → Nat
  | .lit (.string bytes) => bytes.length + 1
  | .lit _ => 1
  | .nil => 1
  | .ptr d => uptoBulk d + 1
  | .slice elems spare => uptoBulkAll elems + uptoBulkAll spare + 1
  | .agg parts => uptoBulkAll parts + 1
  | .iface _ d => uptoBulk d + 1
  | .map entries => uptoBulkEntries entries + 1
  | .held _ => 1
def uptoBulkAll {H : Type} : List (DataW H) → Nat
  | [] => 0
  | d :: r => uptoBulk d + uptoBulkAll r
def uptoBulkEntries {H : Type} : List (Lit × DataW H) → Nat
  | [] => 0
  | x :: r => uptoBulkEntry x + uptoBulkEntries r
def uptoBulkEntry {H : Type} : Lit × DataW H → Nat
  | (.string bytes, d) => bytes.length + uptoBulk d + 1
  | (_, d) => uptoBulk d + 1
 end
def uptoSmall : (H : Type) → List (DataW H) → Bool := fun _ ds => decide (uptoBulkAll ds ≤ 1048576)
def OpenSpec.upto (s : _root_.Go.ChangeSpec) : _root_.Go.OpenSpec := { _root_.Go.OpenSpec.ofChange s with cond := some uptoSmall }

/-- 'waymarklaw4.TlvTells', WHERE WHAT IT READS IS OF BULK AT MOST 1048576: true; the input reads as it did. -/
def tlvTellsUptoRow : OpenClaim := { program := "ytgpeogbifpbcdaa", sum := "c9d0881bf1a1d9c88800a00fd0bf14a10e96aca2de38d337341ce526bd1cc4f8", func := "waymark/waymarklaw4.TlvTells", spec := "tlvTells", apart := false, narrowed := true }
def TlvTellsUptoSaid : Prop := tlvTellsUptoRow.holds Try.pinned (OpenSpec.upto tlvTellsSpec)

/-- 'waymarklaw4.TlvLong', WHERE WHAT IT READS IS OF BULK AT MOST 1048576: true; the input reads as it did. -/
def tlvLongUptoRow : OpenClaim := { program := "ytgpeogbifpbcdaa", sum := "c9d0881bf1a1d9c88800a00fd0bf14a10e96aca2de38d337341ce526bd1cc4f8", func := "waymark/waymarklaw4.TlvLong", spec := "tlvLong", apart := false, narrowed := true }
def TlvLongUptoSaid : Prop := tlvLongUptoRow.holds Try.pinned (OpenSpec.upto tlvLongSpec)

/-- 'waymarklaw4.TlvReports', WHERE WHAT IT READS IS OF BULK AT MOST 1048576: true; the input reads as it did. -/
def tlvReportsUptoRow : OpenClaim := { program := "ytgpeogbifpbcdaa", sum := "c9d0881bf1a1d9c88800a00fd0bf14a10e96aca2de38d337341ce526bd1cc4f8", func := "waymark/waymarklaw4.TlvReports", spec := "tlvReports", apart := false, narrowed := true }
def TlvReportsUptoSaid : Prop := tlvReportsUptoRow.holds Try.pinned (OpenSpec.upto tlvReportsSpec)

/-- 'waymarklaw4.TlvTorn', WHERE WHAT IT READS IS OF BULK AT MOST 1048576: true; the input reads as it did. -/
def tlvTornUptoRow : OpenClaim := { program := "ytgpeogbifpbcdaa", sum := "c9d0881bf1a1d9c88800a00fd0bf14a10e96aca2de38d337341ce526bd1cc4f8", func := "waymark/waymarklaw4.TlvTorn", spec := "tlvTorn", apart := false, narrowed := true }
def TlvTornUptoSaid : Prop := tlvTornUptoRow.holds Try.pinned (OpenSpec.upto tlvTornSpec)

end Rows
end Go.Proofs.Ytgpeogbifpbcdaa
