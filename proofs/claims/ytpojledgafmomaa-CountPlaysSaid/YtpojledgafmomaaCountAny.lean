/- One contract of Add; what it leaves of another counter. -/
import Derived.Test.YtpojledgafmomaaCountAdd0
namespace Go.Proofs.Ytpojledgafmomaa.Count
open Go.RowKit Go.Maps Go.Proofs.YtpojledgafmomaaW.PrintWords Go.Proofs.YtpojledgafmomaaW.PrintMore Go.Proofs.YtpojledgafmomaaW.PrintLast

theorem add_any (w : World) (B g : Nat) (s : Option (Nat × Nat)) (ends edges : Int → Int) (all : Int) (m : Nat) (A : Option Addr) (cap : Nat) (l : List Int) (at_ en ar mo : Int) (h : Ct w B g s ends edges all m)
    (hr : ∀ w', Kept w w' (own g s) → ReadsInt w' .i64 A l.length l) (hll : l.length ≤ 1000) (hm : m ≤ 1000000) (hall : -1000000 ≤ all ∧ all ≤ 1000000) (hen : (Lit.int .i64 en).wf = true) (hlw : ∀ x, x ∈ l → (Lit.int .i64 x).wf = true)
    (hends : ∀ x, -1000000 ≤ ends x ∧ ends x ≤ 1000000) (hedges : ∀ x, -1000000 ≤ edges x ∧ edges x ≤ 1000000) :
    Calls Try.prog 7 #[.pointer (some ⟨g, 0, none⟩), .agg #[.slice A l.length cap, .int .i64 at_, .int .i64 en, .int .i64 ar, .int .i64 mo]] w fun e w' => e = .returned (.tuple #[]) ∧
      ∃ s', Ct w' B g s' (bump ends en) (l.foldl bump edges) (all + 1) (m + 1 + l.length) ∧ Below B w w' ∧ Kept w w' (own g s) ∧ (∀ k, own g s' k → own g s k ∨ w.heap.size ≤ k) := by
  cases s with
  | none =>
    refine (add_none w B g ends edges all m A cap l at_ en ar mo h hr hll hm hall hen hlw hends hedges).mono ?_
    rintro e w' ⟨rfl, b1, b2, h1, h2, hc, hb, hk⟩
    refine ⟨rfl, some (b1, b2), hc, hb, hk, ?_⟩
    rintro k (e | ⟨c1, c2, hs, e⟩)
    · exact .inl (.inl e)
    · have hs' := Option.some.inj hs
      simp only [Prod.mk.injEq] at hs'
      right
      omega
  | some p =>
    obtain ⟨b1, b2⟩ := p
    refine (add_some w B g b1 b2 ends edges all m A cap l at_ en ar mo h hr hll hm hall hen hlw hends hedges).mono ?_
    rintro e w' ⟨rfl, hc, hb, hk⟩
    exact ⟨rfl, some (b1, b2), hc, hb, hk, fun k hk => .inl hk⟩
/-- A counter beside what another call turned. -/
theorem Ct.kept {w w' : World} {B g : Nat} {s : Option (Nat × Nat)} {ends edges : Int → Int} {all : Int} {m : Nat} {S : Nat → Prop} (h : Ct w B g s ends edges all m) (hk : Kept w w' S) (hd : ∀ k, own g s k → ¬ S k) : Ct w' B g s ends edges all m := by
  refine ⟨blk_kept h.blk hk (hd g (.inl rfl)), h.le, h.none_, fun b1 b2 hs => ?_⟩
  obtain ⟨c1, c2, r⟩ := h.some_ b1 b2 hs
  exact ⟨c1.kept hk (hd b1 (.inr ⟨b1, b2, hs, .inl rfl⟩)), c2.kept hk (hd b2 (.inr ⟨b1, b2, hs, .inr rfl⟩)), r⟩
end Go.Proofs.Ytpojledgafmomaa.Count
