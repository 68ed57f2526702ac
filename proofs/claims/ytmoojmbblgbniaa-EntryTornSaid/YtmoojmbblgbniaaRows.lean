/-
  No cell of these rows narrows 'for every input' (looked for: loops, veiled, ifaces, maps, wideKeys, modest, calm, conditions, laid).
  DERIVED. THE GIVEN ROWS OF THIS SEAT. 7 by the template 'for every input the law returns true; each argument reads behind the call as it read before'; 0 by the template 'total and deterministic' (their statements: YtmoojmbblgbniaaTotals.lean).
  GIVEN WITH THE SEED: the statements are not yours to turn. If you find one false, say at which input.
  Laid BY PROGRAM, IN A SANDBOX (cutbox-rows.mjs): the forced cells as the released guide's own fill.sh prints them over the translation 84444e2f5bff8ece… (all of the seat's roots in one cut). By AI agents, Wed Nov 11 2026. No macro, syntax, notation, axiom, sorry.
-/
import Derived.Test.YtmoojmbblgbniaaChecked
import GoSem.Claim
import GoSem.ClaimJoined
import GoSem.ClaimMapViews
import Derived.JoinedTies
import Derived.KernelRfl
namespace Go.Proofs.Ytmoojmbblgbniaa
/- THE CELL 'sum', in the pinned program and in every row, IS THE sha256 OF THE DUMP (.gsa) THAT YtmoojmbblgbniaaProg.lean LOADS. Nothing in Lean hashes anything: it is a label: what it is worth is what the hold of that sum in a sandbox is worth. -/
noncomputable def Try.pinned : Pinned := { name := "ytmoojmbblgbniaa", sum := "84444e2f5bff8eceb4c6990eeafc6bd0f34bc1a205461a62c8ad361d4017e2d8", checked := Try.checked }
namespace Rows
def none {H : Type} : Left H := { results := [], args := [] }

/-- 'waymarklaw2.PacketTells': WHATEVER THE INPUT: true; the input reads as it did. -/
def packetTellsSpec : ChangeSpec := { name := "packetTells", fn := fun _ => fun
  | [d1, d2] => { results := [.lit (.bool true)], args := [d1, d2] }
  | _ => none }
def packetTellsRow : OpenClaim := { program := "ytmoojmbblgbniaa", sum := "84444e2f5bff8eceb4c6990eeafc6bd0f34bc1a205461a62c8ad361d4017e2d8", func := "waymark/waymarklaw2.PacketTells", spec := "packetTells", apart := false }
def PacketTellsSaid : Prop := packetTellsRow.holds Try.pinned (OpenSpec.ofChange packetTellsSpec)

/-- ITS FALSE NEIGHBOUR: 'it returns false'. Refute it at one input. -/
def packetTellsWrong : ChangeSpec := { name := "packetTells", fn := fun _ => fun
  | [d1, d2] => { results := [.lit (.bool false)], args := [d1, d2] }
  | _ => none }
def PacketTellsWrongFalsely : Prop := packetTellsRow.holds Try.pinned (OpenSpec.ofChange packetTellsWrong)

/-- 'waymarklaw2.PacketLimits': WHATEVER THE INPUT: true; the input reads as it did. -/
def packetLimitsSpec : ChangeSpec := { name := "packetLimits", fn := fun _ => fun
  | [d1, d2] => { results := [.lit (.bool true)], args := [d1, d2] }
  | _ => none }
def packetLimitsRow : OpenClaim := { program := "ytmoojmbblgbniaa", sum := "84444e2f5bff8eceb4c6990eeafc6bd0f34bc1a205461a62c8ad361d4017e2d8", func := "waymark/waymarklaw2.PacketLimits", spec := "packetLimits", apart := false }
def PacketLimitsSaid : Prop := packetLimitsRow.holds Try.pinned (OpenSpec.ofChange packetLimitsSpec)

/-- ITS FALSE NEIGHBOUR: 'it returns false'. Refute it at one input. -/
def packetLimitsWrong : ChangeSpec := { name := "packetLimits", fn := fun _ => fun
  | [d1, d2] => { results := [.lit (.bool false)], args := [d1, d2] }
  | _ => none }
def PacketLimitsWrongFalsely : Prop := packetLimitsRow.holds Try.pinned (OpenSpec.ofChange packetLimitsWrong)

/-- 'waymarklaw2.PacketOnes': WHATEVER THE INPUT: true; the input reads as it did. -/
def packetOnesSpec : ChangeSpec := { name := "packetOnes", fn := fun _ => fun
  | [d1, d2, d3, d4, d5] => { results := [.lit (.bool true)], args := [d1, d2, d3, d4, d5] }
  | _ => none }
def packetOnesRow : OpenClaim := { program := "ytmoojmbblgbniaa", sum := "84444e2f5bff8eceb4c6990eeafc6bd0f34bc1a205461a62c8ad361d4017e2d8", func := "waymark/waymarklaw2.PacketOnes", spec := "packetOnes", apart := false }
def PacketOnesSaid : Prop := packetOnesRow.holds Try.pinned (OpenSpec.ofChange packetOnesSpec)

/-- ITS FALSE NEIGHBOUR: 'it returns false'. Refute it at one input. -/
def packetOnesWrong : ChangeSpec := { name := "packetOnes", fn := fun _ => fun
  | [d1, d2, d3, d4, d5] => { results := [.lit (.bool false)], args := [d1, d2, d3, d4, d5] }
  | _ => none }
def PacketOnesWrongFalsely : Prop := packetOnesRow.holds Try.pinned (OpenSpec.ofChange packetOnesWrong)

/-- 'waymarklaw1.EntryTells': WHATEVER THE INPUT: true; the input reads as it did. -/
def entryTellsSpec : ChangeSpec := { name := "entryTells", fn := fun _ => fun
  | [d1, d2] => { results := [.lit (.bool true)], args := [d1, d2] }
  | _ => none }
def entryTellsRow : OpenClaim := { program := "ytmoojmbblgbniaa", sum := "84444e2f5bff8eceb4c6990eeafc6bd0f34bc1a205461a62c8ad361d4017e2d8", func := "waymark/waymarklaw1.EntryTells", spec := "entryTells", apart := false }
def EntryTellsSaid : Prop := entryTellsRow.holds Try.pinned (OpenSpec.ofChange entryTellsSpec)

/-- ITS FALSE NEIGHBOUR: 'it returns false'. Refute it at one input. -/
def entryTellsWrong : ChangeSpec := { name := "entryTells", fn := fun _ => fun
  | [d1, d2] => { results := [.lit (.bool false)], args := [d1, d2] }
  | _ => none }
def EntryTellsWrongFalsely : Prop := entryTellsRow.holds Try.pinned (OpenSpec.ofChange entryTellsWrong)

/-- 'waymarklaw1.EntryLimits': WHATEVER THE INPUT: true; the input reads as it did. -/
def entryLimitsSpec : ChangeSpec := { name := "entryLimits", fn := fun _ => fun
  | [d1, d2] => { results := [.lit (.bool true)], args := [d1, d2] }
  | _ => none }
def entryLimitsRow : OpenClaim := { program := "ytmoojmbblgbniaa", sum := "84444e2f5bff8eceb4c6990eeafc6bd0f34bc1a205461a62c8ad361d4017e2d8", func := "waymark/waymarklaw1.EntryLimits", spec := "entryLimits", apart := false }
def EntryLimitsSaid : Prop := entryLimitsRow.holds Try.pinned (OpenSpec.ofChange entryLimitsSpec)

/-- ITS FALSE NEIGHBOUR: 'it returns false'. Refute it at one input. -/
def entryLimitsWrong : ChangeSpec := { name := "entryLimits", fn := fun _ => fun
  | [d1, d2] => { results := [.lit (.bool false)], args := [d1, d2] }
  | _ => none }
def EntryLimitsWrongFalsely : Prop := entryLimitsRow.holds Try.pinned (OpenSpec.ofChange entryLimitsWrong)

/-- 'waymarklaw1.EntryLast': WHATEVER THE INPUT: true; the input reads as it did. -/
def entryLastSpec : ChangeSpec := { name := "entryLast", fn := fun _ => fun
  | [d1, d2] => { results := [.lit (.bool true)], args := [d1, d2] }
  | _ => none }
def entryLastRow : OpenClaim := { program := "ytmoojmbblgbniaa", sum := "84444e2f5bff8eceb4c6990eeafc6bd0f34bc1a205461a62c8ad361d4017e2d8", func := "waymark/waymarklaw1.EntryLast", spec := "entryLast", apart := false }
def EntryLastSaid : Prop := entryLastRow.holds Try.pinned (OpenSpec.ofChange entryLastSpec)

/-- ITS FALSE NEIGHBOUR: 'it returns false'. Refute it at one input. -/
def entryLastWrong : ChangeSpec := { name := "entryLast", fn := fun _ => fun
  | [d1, d2] => { results := [.lit (.bool false)], args := [d1, d2] }
  | _ => none }
def EntryLastWrongFalsely : Prop := entryLastRow.holds Try.pinned (OpenSpec.ofChange entryLastWrong)

/-- 'waymarklaw1.EntryTorn': WHATEVER THE INPUT: true; the input reads as it did. -/
def entryTornSpec : ChangeSpec := { name := "entryTorn", fn := fun _ => fun
  | [d1, d2] => { results := [.lit (.bool true)], args := [d1, d2] }
  | _ => none }
def entryTornRow : OpenClaim := { program := "ytmoojmbblgbniaa", sum := "84444e2f5bff8eceb4c6990eeafc6bd0f34bc1a205461a62c8ad361d4017e2d8", func := "waymark/waymarklaw1.EntryTorn", spec := "entryTorn", apart := false }
def EntryTornSaid : Prop := entryTornRow.holds Try.pinned (OpenSpec.ofChange entryTornSpec)

/-- ITS FALSE NEIGHBOUR: 'it returns false'. Refute it at one input. -/
def entryTornWrong : ChangeSpec := { name := "entryTorn", fn := fun _ => fun
  | [d1, d2] => { results := [.lit (.bool false)], args := [d1, d2] }
  | _ => none }
def EntryTornWrongFalsely : Prop := entryTornRow.holds Try.pinned (OpenSpec.ofChange entryTornWrong)

/- THE SECOND FORM. 'bulk': how many values and letters a reading holds, each counted each time it is reached (what is shared counts as often as it is met; a slice's spare places count too). A statement '..UptoSaid' is the law's where the arguments, and the package variables that the reading takes, are together of bulk at most 1048576: NARROWER than '..Said'. Prove '..Said' where nothing that the law and all that it calls make is longer than what came in: it says more and counts as full. Else prove '..UptoSaid'. A law counts once. -/
mutual
def uptoBulk {H : Type} : DataW H → Nat
  | .lit (.string bytes) => bytes.length + 1
  | .lit _ => 1
  | .nil => 1
  | .ptr d => uptoBulk d + 1
  | .slice elems spare => uptoBulkAll elems + uptoBulkAll spare + 1
  | .agg parts => uptoBulkAll parts + 1
  | .iface _ d => uptoBulk d + 1
  | .map entries => uptoBulkEntries entries + 1
  | .held _ => 1
def uptoBulkAll {H : Type} : List (DataW H) → Nat
  | [] => 0
  | d :: r => uptoBulk d + uptoBulkAll r
def uptoBulkEntries {H : Type} : List (Lit × DataW H) → Nat
  | [] => 0
  | x :: r => uptoBulkEntry x + uptoBulkEntries r
def uptoBulkEntry {H : Type} : Lit × DataW H → Nat
  | (.string bytes, d) => bytes.length + uptoBulk d + 1
  | (_, d) => uptoBulk d + 1
 end
def uptoSmall : (H : Type) → List (DataW H) → Bool := fun _ ds => decide (uptoBulkAll ds ≤ 1048576)
def OpenSpec.upto (s : _root_.Go.ChangeSpec) : _root_.Go.OpenSpec := { _root_.Go.OpenSpec.ofChange s with cond := some uptoSmall }

/-- 'waymarklaw2.PacketTells', WHERE WHAT IT READS IS OF BULK AT MOST 1048576: true; the input reads as it did. -/
def packetTellsUptoRow : OpenClaim := { program := "ytmoojmbblgbniaa", sum := "84444e2f5bff8eceb4c6990eeafc6bd0f34bc1a205461a62c8ad361d4017e2d8", func := "waymark/waymarklaw2.PacketTells", spec := "packetTells", apart := false, narrowed := true }
def PacketTellsUptoSaid : Prop := packetTellsUptoRow.holds Try.pinned (OpenSpec.upto packetTellsSpec)

/-- 'waymarklaw2.PacketLimits', WHERE WHAT IT READS IS OF BULK AT MOST 1048576: true; the input reads as it did. -/
def packetLimitsUptoRow : OpenClaim := { program := "ytmoojmbblgbniaa", sum := "84444e2f5bff8eceb4c6990eeafc6bd0f34bc1a205461a62c8ad361d4017e2d8", func := "waymark/waymarklaw2.PacketLimits", spec := "packetLimits", apart := false, narrowed := true }
def PacketLimitsUptoSaid : Prop := packetLimitsUptoRow.holds Try.pinned (OpenSpec.upto packetLimitsSpec)

/-- 'waymarklaw2.PacketOnes', WHERE WHAT IT READS IS OF BULK AT MOST 1048576: true; the input reads as it did. -/
def packetOnesUptoRow : OpenClaim := { program := "ytmoojmbblgbniaa", sum := "84444e2f5bff8eceb4c6990eeafc6bd0f34bc1a205461a62c8ad361d4017e2d8", func := "waymark/waymarklaw2.PacketOnes", spec := "packetOnes", apart := false, narrowed := true }
def PacketOnesUptoSaid : Prop := packetOnesUptoRow.holds Try.pinned (OpenSpec.upto packetOnesSpec)

/-- 'waymarklaw1.EntryTells', WHERE WHAT IT READS IS OF BULK AT MOST 1048576: true; the input reads as it did. -/
def entryTellsUptoRow : OpenClaim := { program := "ytmoojmbblgbniaa", sum := "84444e2f5bff8eceb4c6990eeafc6bd0f34bc1a205461a62c8ad361d4017e2d8", func := "waymark/waymarklaw1.EntryTells", spec := "entryTells", apart := false, narrowed := true }
def EntryTellsUptoSaid : Prop := entryTellsUptoRow.holds Try.pinned (OpenSpec.upto entryTellsSpec)

/-- 'waymarklaw1.EntryLimits', WHERE WHAT IT READS IS OF BULK AT MOST 1048576: true; the input reads as it did. -/
def entryLimitsUptoRow : OpenClaim := { program := "ytmoojmbblgbniaa", sum := "84444e2f5bff8eceb4c6990eeafc6bd0f34bc1a205461a62c8ad361d4017e2d8", func := "waymark/waymarklaw1.EntryLimits", spec := "entryLimits", apart := false, narrowed := true }
def EntryLimitsUptoSaid : Prop := entryLimitsUptoRow.holds Try.pinned (OpenSpec.upto entryLimitsSpec)

/-- 'waymarklaw1.EntryLast', WHERE WHAT IT READS IS OF BULK AT MOST 1048576: true; the input reads as it did. -/
def entryLastUptoRow : OpenClaim := { program := "ytmoojmbblgbniaa", sum := "84444e2f5bff8eceb4c6990eeafc6bd0f34bc1a205461a62c8ad361d4017e2d8", func := "waymark/waymarklaw1.EntryLast", spec := "entryLast", apart := false, narrowed := true }
def EntryLastUptoSaid : Prop := entryLastUptoRow.holds Try.pinned (OpenSpec.upto entryLastSpec)

/-- 'waymarklaw1.EntryTorn', WHERE WHAT IT READS IS OF BULK AT MOST 1048576: true; the input reads as it did. -/
def entryTornUptoRow : OpenClaim := { program := "ytmoojmbblgbniaa", sum := "84444e2f5bff8eceb4c6990eeafc6bd0f34bc1a205461a62c8ad361d4017e2d8", func := "waymark/waymarklaw1.EntryTorn", spec := "entryTorn", apart := false, narrowed := true }
def EntryTornUptoSaid : Prop := entryTornUptoRow.holds Try.pinned (OpenSpec.upto entryTornSpec)

end Rows
end Go.Proofs.Ytmoojmbblgbniaa
