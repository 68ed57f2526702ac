/-
  No cell of these rows narrows 'for every input' (looked for: loops, veiled, ifaces, maps, wideKeys, modest, calm, conditions, laid).
  DERIVED. THE GIVEN ROWS OF THIS SEAT. 5 by the template 'for every input the law returns true; each argument reads behind the call as it read before'; 0 by the template 'total and deterministic' (their statements: YtfohlaeahageaaaTotals.lean).
  GIVEN WITH THE SEED: the statements are not yours to turn. If you find one false, say at which input.
  Laid BY PROGRAM, IN A SANDBOX (cutbox-rows.mjs): the forced cells as the released guide's own fill.sh prints them over the translation 09d3f88bcc7721fa… (all of the seat's roots in one cut). By AI agents, Wed Nov 11 2026. No macro, syntax, notation, axiom, sorry.
-/
import Derived.Test.YtfohlaeahageaaaChecked
import GoSem.Claim
import GoSem.ClaimJoined
import GoSem.ClaimMapViews
import Derived.JoinedTies
import Derived.KernelRfl
namespace Go.Proofs.Ytfohlaeahageaaa
/- THE CELL 'sum', in the pinned program and in every row, IS THE sha256 OF THE DUMP (.gsa) THAT YtfohlaeahageaaaProg.lean LOADS. Nothing in Lean hashes anything: it is a label: what it is worth is what the hold of that sum in a sandbox is worth. -/
noncomputable def Try.pinned : Pinned := { name := "ytfohlaeahageaaa", sum := "09d3f88bcc7721fa5ede7fa4fbd3df1deb97d2e6eeb7a62e88a3c1217a283409", checked := Try.checked }
namespace Rows
def none {H : Type} : Left H := { results := [], args := [] }

/-- 'waymarklaw24.AgentPlays': WHATEVER THE INPUT: true; the input reads as it did. -/
def agentPlaysSpec : ChangeSpec := { name := "agentPlays", fn := fun _ => fun
  | [d1, d2] => { results := [.lit (.bool true)], args := [d1, d2] }
  | _ => none }
def agentPlaysRow : OpenClaim := { program := "ytfohlaeahageaaa", sum := "09d3f88bcc7721fa5ede7fa4fbd3df1deb97d2e6eeb7a62e88a3c1217a283409", func := "waymark/waymarklaw24.AgentPlays", spec := "agentPlays", apart := false }
def AgentPlaysSaid : Prop := agentPlaysRow.holds Try.pinned (OpenSpec.ofChange agentPlaysSpec)

/-- ITS FALSE NEIGHBOUR: 'it returns false'. Refute it at one input. -/
def agentPlaysWrong : ChangeSpec := { name := "agentPlays", fn := fun _ => fun
  | [d1, d2] => { results := [.lit (.bool false)], args := [d1, d2] }
  | _ => none }
def AgentPlaysWrongFalsely : Prop := agentPlaysRow.holds Try.pinned (OpenSpec.ofChange agentPlaysWrong)

/-- 'waymarklaw24.AgentRises': WHATEVER THE INPUT: true; the input reads as it did. -/
def agentRisesSpec : ChangeSpec := { name := "agentRises", fn := fun _ => fun
  | [d] => { results := [.lit (.bool true)], args := [d] }
  | _ => none }
def agentRisesRow : OpenClaim := { program := "ytfohlaeahageaaa", sum := "09d3f88bcc7721fa5ede7fa4fbd3df1deb97d2e6eeb7a62e88a3c1217a283409", func := "waymark/waymarklaw24.AgentRises", spec := "agentRises", apart := false }
def AgentRisesSaid : Prop := agentRisesRow.holds Try.pinned (OpenSpec.ofChange agentRisesSpec)

/-- ITS FALSE NEIGHBOUR: 'it returns false'. Refute it at one input. -/
def agentRisesWrong : ChangeSpec := { name := "agentRises", fn := fun _ => fun
  | [d] => { results := [.lit (.bool false)], args := [d] }
  | _ => none }
def AgentRisesWrongFalsely : Prop := agentRisesRow.holds Try.pinned (OpenSpec.ofChange agentRisesWrong)

/-- 'waymarklaw23.ChannelPlays': WHATEVER THE INPUT: true; the input reads as it did. -/
def channelPlaysSpec : ChangeSpec := { name := "channelPlays", fn := fun _ => fun
  | [d] => { results := [.lit (.bool true)], args := [d] }
  | _ => none }
def channelPlaysRow : OpenClaim := { program := "ytfohlaeahageaaa", sum := "09d3f88bcc7721fa5ede7fa4fbd3df1deb97d2e6eeb7a62e88a3c1217a283409", func := "waymark/waymarklaw23.ChannelPlays", spec := "channelPlays", apart := false }
def ChannelPlaysSaid : Prop := channelPlaysRow.holds Try.pinned (OpenSpec.ofChange channelPlaysSpec)

/-- ITS FALSE NEIGHBOUR: 'it returns false'. Refute it at one input. -/
def channelPlaysWrong : ChangeSpec := { name := "channelPlays", fn := fun _ => fun
  | [d] => { results := [.lit (.bool false)], args := [d] }
  | _ => none }
def ChannelPlaysWrongFalsely : Prop := channelPlaysRow.holds Try.pinned (OpenSpec.ofChange channelPlaysWrong)

/-- 'waymarklaw23.ChannelFull': WHATEVER THE INPUT: true; the input reads as it did. -/
def channelFullSpec : ChangeSpec := { name := "channelFull", fn := fun _ => fun
  | [d1, d2] => { results := [.lit (.bool true)], args := [d1, d2] }
  | _ => none }
def channelFullRow : OpenClaim := { program := "ytfohlaeahageaaa", sum := "09d3f88bcc7721fa5ede7fa4fbd3df1deb97d2e6eeb7a62e88a3c1217a283409", func := "waymark/waymarklaw23.ChannelFull", spec := "channelFull", apart := false }
def ChannelFullSaid : Prop := channelFullRow.holds Try.pinned (OpenSpec.ofChange channelFullSpec)

/-- ITS FALSE NEIGHBOUR: 'it returns false'. Refute it at one input. -/
def channelFullWrong : ChangeSpec := { name := "channelFull", fn := fun _ => fun
  | [d1, d2] => { results := [.lit (.bool false)], args := [d1, d2] }
  | _ => none }
def ChannelFullWrongFalsely : Prop := channelFullRow.holds Try.pinned (OpenSpec.ofChange channelFullWrong)

/-- 'waymarklaw23.ChannelOrder': WHATEVER THE INPUT: true; the input reads as it did. -/
def channelOrderSpec : ChangeSpec := { name := "channelOrder", fn := fun _ => fun
  | [d1, d2] => { results := [.lit (.bool true)], args := [d1, d2] }
  | _ => none }
def channelOrderRow : OpenClaim := { program := "ytfohlaeahageaaa", sum := "09d3f88bcc7721fa5ede7fa4fbd3df1deb97d2e6eeb7a62e88a3c1217a283409", func := "waymark/waymarklaw23.ChannelOrder", spec := "channelOrder", apart := false }
def ChannelOrderSaid : Prop := channelOrderRow.holds Try.pinned (OpenSpec.ofChange channelOrderSpec)

/-- ITS FALSE NEIGHBOUR: 'it returns false'. Refute it at one input. -/
def channelOrderWrong : ChangeSpec := { name := "channelOrder", fn := fun _ => fun
  | [d1, d2] => { results := [.lit (.bool false)], args := [d1, d2] }
  | _ => none }
def ChannelOrderWrongFalsely : Prop := channelOrderRow.holds Try.pinned (OpenSpec.ofChange channelOrderWrong)

/- THE SECOND FORM. 'bulk': how many values and letters a reading holds, each counted each time it is reached (what is shared counts as often as it is met; a slice's spare places count too). A statement '..UptoSaid' is the law's where the arguments, and the package variables that the reading takes, are together of bulk at most 1048576: NARROWER than '..Said'. Prove '..Said' where nothing that the law and all that it calls make is longer than what came in: it says more and counts as full. Else prove '..UptoSaid'. A law counts once. -/
mutual
def uptoBulk {H : Type} : DataW H → Nat
  | .lit (.string bytes) => bytes.length + 1
  | .lit _ => 1
  | .nil => 1
  | .ptr d => uptoBulk d + 1
  | .slice elems spare => uptoBulkAll elems + uptoBulkAll spare + 1
  | .agg parts => uptoBulkAll parts + 1
  | .iface _ d => uptoBulk d + 1
  | .map entries => uptoBulkEntries entries + 1
  | .held _ => 1
def uptoBulkAll {H : Type} : List (DataW H) → Nat
  | [] => 0
  | d :: r => uptoBulk d + uptoBulkAll r
def uptoBulkEntries {H : Type} : List (Lit × DataW H) → Nat
  | [] => 0
  | x :: r => uptoBulkEntry x + uptoBulkEntries r
def uptoBulkEntry {H : Type} : Lit × DataW H → Nat
  | (.string bytes, d) => bytes.length + uptoBulk d + 1
  | (_, d) => uptoBulk d + 1
 end
def uptoSmall : (H : Type) → List (DataW H) → Bool := fun _ ds => decide (uptoBulkAll ds ≤ 1048576)
def OpenSpec.upto (s : _root_.Go.ChangeSpec) : _root_.Go.OpenSpec := { _root_.Go.OpenSpec.ofChange s with cond := some uptoSmall }

/-- 'waymarklaw24.AgentPlays', WHERE WHAT IT READS IS OF BULK AT MOST 1048576: true; the input reads as it did. -/
def agentPlaysUptoRow : OpenClaim := { program := "ytfohlaeahageaaa", sum := "09d3f88bcc7721fa5ede7fa4fbd3df1deb97d2e6eeb7a62e88a3c1217a283409", func := "waymark/waymarklaw24.AgentPlays", spec := "agentPlays", apart := false, narrowed := true }
def AgentPlaysUptoSaid : Prop := agentPlaysUptoRow.holds Try.pinned (OpenSpec.upto agentPlaysSpec)

/-- 'waymarklaw24.AgentRises', WHERE WHAT IT READS IS OF BULK AT MOST 1048576: true; the input reads as it did. -/
def agentRisesUptoRow : OpenClaim := { program := "ytfohlaeahageaaa", sum := "09d3f88bcc7721fa5ede7fa4fbd3df1deb97d2e6eeb7a62e88a3c1217a283409", func := "waymark/waymarklaw24.AgentRises", spec := "agentRises", apart := false, narrowed := true }
def AgentRisesUptoSaid : Prop := agentRisesUptoRow.holds Try.pinned (OpenSpec.upto agentRisesSpec)

/-- 'waymarklaw23.ChannelPlays', WHERE WHAT IT READS IS OF BULK AT MOST 1048576: true; the input reads as it did. -/
def channelPlaysUptoRow : OpenClaim := { program := "ytfohlaeahageaaa", sum := "09d3f88bcc7721fa5ede7fa4fbd3df1deb97d2e6eeb7a62e88a3c1217a283409", func := "waymark/waymarklaw23.ChannelPlays", spec := "channelPlays", apart := false, narrowed := true }
def ChannelPlaysUptoSaid : Prop := channelPlaysUptoRow.holds Try.pinned (OpenSpec.upto channelPlaysSpec)

/-- 'waymarklaw23.ChannelFull', WHERE WHAT IT READS IS OF BULK AT MOST 1048576: true; the input reads as it did. -/
def channelFullUptoRow : OpenClaim := { program := "ytfohlaeahageaaa", sum := "09d3f88bcc7721fa5ede7fa4fbd3df1deb97d2e6eeb7a62e88a3c1217a283409", func := "waymark/waymarklaw23.ChannelFull", spec := "channelFull", apart := false, narrowed := true }
def ChannelFullUptoSaid : Prop := channelFullUptoRow.holds Try.pinned (OpenSpec.upto channelFullSpec)

/-- 'waymarklaw23.ChannelOrder', WHERE WHAT IT READS IS OF BULK AT MOST 1048576: true; the input reads as it did. -/
def channelOrderUptoRow : OpenClaim := { program := "ytfohlaeahageaaa", sum := "09d3f88bcc7721fa5ede7fa4fbd3df1deb97d2e6eeb7a62e88a3c1217a283409", func := "waymark/waymarklaw23.ChannelOrder", spec := "channelOrder", apart := false, narrowed := true }
def ChannelOrderUptoSaid : Prop := channelOrderUptoRow.holds Try.pinned (OpenSpec.upto channelOrderSpec)

end Rows
end Go.Proofs.Ytfohlaeahageaaa
