/- A counter in memory: its struct's block and its two maps; what it tells. -/
import Derived.Test.YtpojledgafmomaaWMore
import Derived.Test.YtpojledgafmomaaWKept
import Derived.Test.YtpojledgafmomaaProg
import Derived.Maps.Own
import Derived.Maps.OwnOps
import Derived.Maps.OwnSet
import Derived.Maps.Views
import Derived.WalkKit
import Derived.WalkSpells
import Derived.Deep.RegionHeld3
import Derived.Deep.LoopGhost
namespace Go.Proofs.Ytpojledgafmomaa.Count
open Go.RowKit Go.Maps Go.Proofs.YtpojledgafmomaaW.PrintWords Go.Proofs.YtpojledgafmomaaW.PrintMore Go.Proofs.YtpojledgafmomaaW.PrintLast

theorem law3 : Keyed Try.prog 3 := int_keyed Try.underlying3
theorem zero3 (w : World) : (zeroValue 3).run Try.prog w = .ok (.int .i64 0) w := by kernel_rfl
/-- The map at block b, of at most n entries, holds f x at x. -/
def Cm (w : World) (b n : Nat) (f : Int → Int) : Prop :=
  ∃ D : DataW Unit, w.ownsMap Try.prog 3 (plainElem Try.prog 3) b n D ∧ ∀ x, (Lit.int .i64 x).wf = true → D.atKey (.int .i64 x) (.lit (.int .i64 0)) = .lit (.int .i64 (f x))
theorem Cm.look {w : World} {b n : Nat} {f : Int → Int} (h : Cm w b n f) (x : Int) (hx : (Lit.int .i64 x).wf = true) : (Instr.lookup 25 (.map (some b)) (.int .i64 x) false).run Try.prog w = .ok (.int .i64 (f x)) w := by
  obtain ⟨D, hD, hf⟩ := h
  obtain ⟨c, hrun, hat, _⟩ := hD.lookup_int law3 Try.underlying25 Try.underlying3 (zero3 w) (keyOf_int_mk Try.underlying3 hx)
  rw [hf x hx] at hat
  have : f x = c := by simpa using hat
  rw [this]
  exact hrun
theorem Cm.made (w : World) : Cm (w.alloc (.map #[] 0)) w.heap.size 0 (fun _ => 0) := ⟨_, World.ownsMap_made _ _ _ _, fun _ _ => rfl⟩
theorem Cm.store {w : World} {b n : Nat} {f : Int → Int} (h : Cm w b n f) (hn : n < maxLen) (x v : Int) (hx : (Lit.int .i64 x).wf = true) (hv : (Lit.int .i64 v).wf = true) :
    ∃ w', (Instr.mapUpdate 25 (.map (some b)) (.int .i64 x) (.int .i64 v)).run Try.prog w = .ok () w' ∧ Cm w' b (n + 1) (fun y => if y = x then v else f y) ∧ w.grownBy w' (some b) := by
  obtain ⟨D, hD, hf⟩ := h
  obtain ⟨w', hrun, hown, hg⟩ := hD.update law3 Try.underlying25 hn (keyOf_int_mk Try.underlying3 hx) (plainElem_int Try.underlying3 hv)
  refine ⟨w', hrun, ⟨_, hown, fun y hy => ?_⟩, hg⟩
  by_cases e : y = x
  · subst e
    simp only [if_true]
    exact atKey_put_same (hD.isMap) (by simp [WideAt.IsKeyLit]) _ _
  · simp only [if_neg e]
    rw [atKey_put_other (by simpa using e)]
    exact hf y hy
theorem Cm.kept {w w' : World} {b n : Nat} {f : Int → Int} {S : Nat → Prop} (h : Cm w b n f) (hk : Kept w w' S) (hb : ¬ S b) : Cm w' b n f := by
  obtain ⟨D, ⟨es, clock, e1, e2, e3, e4⟩, hf⟩ := h
  exact ⟨D, ⟨es, clock, blk_kept e1 hk hb, e2, e3, e4⟩, hf⟩
theorem Cm.lt {w : World} {b n : Nat} {f : Int → Int} (h : Cm w b n f) : b < w.heap.size := by
  obtain ⟨D, hD, _⟩ := h
  exact hD.lt
theorem Cm.drew {w : World} {b n : Nat} {f : Int → Int} (h : Cm w b n f) : Cm w.drew b n f := h
theorem Cm.mono {w : World} {b n n' : Nat} {f : Int → Int} (h : Cm w b n f) (hn : n ≤ n') : Cm w b n' f := by
  obtain ⟨D, hD, hf⟩ := h
  exact ⟨D, hD.mono hn, hf⟩
theorem nil_look (w : World) (x : Int) (hx : (Lit.int .i64 x).wf = true) : (Instr.lookup 25 (.map none) (.int .i64 x) false).run Try.prog w = .ok (.int .i64 0) w := by
  have h := look_nil (w := w) false law3 Try.underlying25 (zero3 w) (keyOf_int_mk Try.underlying3 hx)
  simpa using h
/-- The counter at block g: its two maps (or none yet), and how many walks. All is at or above block B. -/
structure Ct (w : World) (B g : Nat) (s : Option (Nat × Nat)) (ends edges : Int → Int) (all : Int) (m : Nat) : Prop where
  blk : w.heap[g]? = some (.cells #[.map (s.map (·.1)), .map (s.map (·.2)), .int .i64 all] 27 (0, 0))
  le : B ≤ g
  none_ : s = none → ends = (fun _ => 0) ∧ edges = (fun _ => 0)
  some_ : ∀ b1 b2, s = some (b1, b2) → Cm w b1 m ends ∧ Cm w b2 m edges ∧ b1 ≠ b2 ∧ B ≤ b1 ∧ B ≤ b2
/-- The blocks that a counter owns. -/
def own (g : Nat) (s : Option (Nat × Nat)) (k : Nat) : Prop := k = g ∨ ∃ b1 b2, s = some (b1, b2) ∧ (k = b1 ∨ k = b2)
theorem all_any (w : World) (B g : Nat) (s : Option (Nat × Nat)) (ends edges : Int → Int) (all : Int) (m : Nat) (h : Ct w B g s ends edges all m) :
    Calls Try.prog 8 #[.pointer (some ⟨g, 0, none⟩)] w fun e w' => e = .returned (.int .i64 all) ∧ w = w' := by
  have hc : w.cell? ⟨g, 2, none⟩ = some (.int .i64 all) := (blk_cell h.blk 2).trans rfl
  go_enter Try.func8, Try.ntmps8
  go_wp2
  go_ret
  exact ⟨rfl, rfl⟩
theorem ends_any (w : World) (B g : Nat) (s : Option (Nat × Nat)) (ends edges : Int → Int) (all : Int) (m : Nat) (x : Int) (hx : (Lit.int .i64 x).wf = true) (h : Ct w B g s ends edges all m) :
    Calls Try.prog 9 #[.pointer (some ⟨g, 0, none⟩), .int .i64 x] w fun e w' => e = .returned (.int .i64 (ends x)) ∧ w = w' := by
  have hc : w.cell? ⟨g, 0, none⟩ = some (.map (s.map (·.1))) := (blk_cell h.blk 0).trans rfl
  cases s with
  | none =>
    rw [(h.none_ rfl).1]
    simp only [Option.map_none] at hc
    have hl := nil_look w x hx
    go_enter Try.func9, Try.ntmps9
    go_wp2
    go_ret
    exact ⟨rfl, rfl⟩
  | some p =>
    obtain ⟨b1, b2⟩ := p
    have hl := (h.some_ b1 b2 rfl).1.look x hx
    simp only [Option.map_some] at hc
    go_enter Try.func9, Try.ntmps9
    go_wp2
    go_ret
    exact ⟨rfl, rfl⟩
theorem edge_any (w : World) (B g : Nat) (s : Option (Nat × Nat)) (ends edges : Int → Int) (all : Int) (m : Nat) (x : Int) (hx : (Lit.int .i64 x).wf = true) (h : Ct w B g s ends edges all m) :
    Calls Try.prog 10 #[.pointer (some ⟨g, 0, none⟩), .int .i64 x] w fun e w' => e = .returned (.int .i64 (edges x)) ∧ w = w' := by
  have hc : w.cell? ⟨g, 1, none⟩ = some (.map (s.map (·.2))) := (blk_cell h.blk 1).trans rfl
  cases s with
  | none =>
    rw [(h.none_ rfl).2]
    simp only [Option.map_none] at hc
    have hl := nil_look w x hx
    go_enter Try.func10, Try.ntmps10
    go_wp2
    go_ret
    exact ⟨rfl, rfl⟩
  | some p =>
    obtain ⟨b1, b2⟩ := p
    have hl := (h.some_ b1 b2 rfl).2.1.look x hx
    simp only [Option.map_some] at hc
    go_enter Try.func10, Try.ntmps10
    go_wp2
    go_ret
    exact ⟨rfl, rfl⟩
end Go.Proofs.Ytpojledgafmomaa.Count
