/- Three channels side by side, their rows' blocks coloured. -/
import Derived.Test.YtfohlaeahageaaaRDouble
namespace Go.Proofs.Ytfohlaeahageaaa.Edge
open Go.RowKit Go.Proofs.YtfohlaeahageaaaW.PrintWords Go.Proofs.YtfohlaeahageaaaW.PrintMore Go.Proofs.YtfohlaeahageaaaW.PrintLast

/-- The law's channel (colour 1), the one beside it (2), the document's (3); the structs' blocks have the colour 0. -/
structure T3 (col : Nat → Nat) (w : World) (gc go gr : Nat) (A1 : Option Addr) (c1 : Nat) (l1 : List NoteT) (A2 : Option Addr) (c2 : Nat) (l2 : List NoteT) (A3 : Option Addr) (c3 : Nat) (l3 : List NoteT) : Prop where
  c : Ch (fun k => col k = 1) 49 w gc A1 c1 l1
  o : Ch (fun k => col k = 2) 49 w go A2 c2 l2
  r : Ch (fun k => col k = 3) 52 w gr A3 c3 l3
  zc : col gc = 0
  zo : col go = 0
  zr : col gr = 0
  lo : gc < go
  lr : go < gr
/-- New blocks get the colour j. -/
def recol (col : Nat → Nat) (n j k : Nat) : Nat := if k < n then col k else j
theorem recol_old {col : Nat → Nat} {n j k : Nat} (h : k < n) : recol col n j k = col k := by unfold recol; rw [if_pos h]
theorem recol_new {col : Nat → Nat} {n j k : Nat} (h : n ≤ k) : recol col n j k = j := by unfold recol; rw [if_neg (by omega)]
section
variable {col : Nat → Nat} {w w1 : World} {gc go gr : Nat} {A1 A2 A3 : Option Addr} {c1 c2 c3 : Nat} {l1 l2 l3 : List NoteT}
theorem T3.recol (h : T3 col w gc go gr A1 c1 l1 A2 c2 l2 A3 c3 l3) (j : Nat) : T3 (recol col w.heap.size j) w gc go gr A1 c1 l1 A2 c2 l2 A3 c3 l3 :=
  ⟨h.c.imp (fun _ h1 _ h3 => (recol_old h3).trans h1), h.o.imp (fun _ h1 _ h3 => (recol_old h3).trans h1), h.r.imp (fun _ h1 _ h3 => (recol_old h3).trans h1), (recol_old h.c.lt).trans h.zc, (recol_old h.o.lt).trans h.zo, (recol_old h.r.lt).trans h.zr, h.lo, h.lr⟩
theorem T3.below (h : T3 col w gc go gr A1 c1 l1 A2 c2 l2 A3 c3 l3) (hb : Below w.heap.size w w1) : T3 col w1 gc go gr A1 c1 l1 A2 c2 l2 A3 c3 l3 :=
  ⟨h.c.below hb, h.o.below hb, h.r.below hb, h.zc, h.zo, h.zr, h.lo, h.lr⟩
/-- What is written has the colour 0, and is none of the structs. -/
theorem T3.kept {S : Nat → Prop} (h : T3 col w gc go gr A1 c1 l1 A2 c2 l2 A3 c3 l3) (hk : Kept w w1 S) (hS : ∀ k, S k → col k = 0 ∧ k ≠ gc ∧ k ≠ go ∧ k ≠ gr) : T3 col w1 gc go gr A1 c1 l1 A2 c2 l2 A3 c3 l3 :=
  ⟨h.c.kept hk (fun k h1 h2 => by have := (hS k h2).1; omega) (fun h2 => (hS _ h2).2.1 rfl), h.o.kept hk (fun k h1 h2 => by have := (hS k h2).1; omega) (fun h2 => (hS _ h2).2.2.1 rfl), h.r.kept hk (fun k h1 h2 => by have := (hS k h2).1; omega) (fun h2 => (hS _ h2).2.2.2 rfl), h.zc, h.zo, h.zr, h.lo, h.lr⟩
/-- A call on the law's channel. -/
theorem T3.on_c {A1' : Option Addr} {c1' : Nat} {l1' : List NoteT} (h : T3 col w gc go gr A1 c1 l1 A2 c2 l2 A3 c3 l3) (hc : Ch (fun k => col k = 1 ∨ w.heap.size ≤ k) 49 w1 gc A1' c1' l1') (hk : Kept w w1 (fun k => k = gc ∨ some k = ob A1)) : T3 (Go.Proofs.Ytfohlaeahageaaa.Edge.recol col w.heap.size 1) w1 gc go gr A1' c1' l1' A2 c2 l2 A3 c3 l3 := by
  have h' := h.recol 1
  have hlo := h.lo
  have hlr := h.lr
  have hz : ∀ k, (k = gc ∨ some k = ob A1) → Go.Proofs.Ytfohlaeahageaaa.Edge.recol col w.heap.size 1 k = 0 ∨ Go.Proofs.Ytfohlaeahageaaa.Edge.recol col w.heap.size 1 k = 1 := by
    rintro k (rfl | hk1)
    · exact .inl h'.zc
    · have := h.c.ob k hk1
      exact .inr ((recol_old this.2.2).trans this.1)
  refine ⟨hc.imp (fun k h1 _ _ => ?_), h'.o.kept hk (fun k h1 h2 => by have := hz k h2; omega) (fun h2 => ?_), h'.r.kept hk (fun k h1 h2 => by have := hz k h2; omega) (fun h2 => ?_), h'.zc, h'.zo, h'.zr, h.lo, h.lr⟩
  · rcases Nat.lt_or_ge k w.heap.size with h3 | h3
    · rw [recol_old h3]
      rcases h1 with h1 | h1
      · exact h1
      · omega
    · exact recol_new h3
  · rcases h2 with h2 | h2
    · omega
    · have := (h.c.ob go h2).1
      have := h.zo
      omega
  · rcases h2 with h2 | h2
    · omega
    · have := (h.c.ob gr h2).1
      have := h.zr
      omega
/-- A call on the channel beside it. -/
theorem T3.on_o {A2' : Option Addr} {c2' : Nat} {l2' : List NoteT} (h : T3 col w gc go gr A1 c1 l1 A2 c2 l2 A3 c3 l3) (hc : Ch (fun k => col k = 2 ∨ w.heap.size ≤ k) 49 w1 go A2' c2' l2') (hk : Kept w w1 (fun k => k = go ∨ some k = ob A2)) : T3 (Go.Proofs.Ytfohlaeahageaaa.Edge.recol col w.heap.size 2) w1 gc go gr A1 c1 l1 A2' c2' l2' A3 c3 l3 := by
  have h' := h.recol 2
  have hlo := h.lo
  have hlr := h.lr
  have hz : ∀ k, (k = go ∨ some k = ob A2) → Go.Proofs.Ytfohlaeahageaaa.Edge.recol col w.heap.size 2 k = 0 ∨ Go.Proofs.Ytfohlaeahageaaa.Edge.recol col w.heap.size 2 k = 2 := by
    rintro k (rfl | hk1)
    · exact .inl h'.zo
    · have := h.o.ob k hk1
      exact .inr ((recol_old this.2.2).trans this.1)
  refine ⟨h'.c.kept hk (fun k h1 h2 => by have := hz k h2; omega) (fun h2 => ?_), hc.imp (fun k h1 _ _ => ?_), h'.r.kept hk (fun k h1 h2 => by have := hz k h2; omega) (fun h2 => ?_), h'.zc, h'.zo, h'.zr, h.lo, h.lr⟩
  · rcases h2 with h2 | h2
    · omega
    · have := (h.o.ob gc h2).1
      have := h.zc
      omega
  · rcases Nat.lt_or_ge k w.heap.size with h3 | h3
    · rw [recol_old h3]
      rcases h1 with h1 | h1
      · exact h1
      · omega
    · exact recol_new h3
  · rcases h2 with h2 | h2
    · omega
    · have := (h.o.ob gr h2).1
      have := h.zr
      omega
/-- A call on the document's channel. -/
theorem T3.on_r {A3' : Option Addr} {c3' : Nat} {l3' : List NoteT} (h : T3 col w gc go gr A1 c1 l1 A2 c2 l2 A3 c3 l3) (hc : Ch (fun k => col k = 3 ∨ w.heap.size ≤ k) 52 w1 gr A3' c3' l3') (hk : Kept w w1 (fun k => k = gr ∨ some k = ob A3)) : T3 (Go.Proofs.Ytfohlaeahageaaa.Edge.recol col w.heap.size 3) w1 gc go gr A1 c1 l1 A2 c2 l2 A3' c3' l3' := by
  have h' := h.recol 3
  have hlo := h.lo
  have hlr := h.lr
  have hz : ∀ k, (k = gr ∨ some k = ob A3) → Go.Proofs.Ytfohlaeahageaaa.Edge.recol col w.heap.size 3 k = 0 ∨ Go.Proofs.Ytfohlaeahageaaa.Edge.recol col w.heap.size 3 k = 3 := by
    rintro k (rfl | hk1)
    · exact .inl h'.zr
    · have := h.r.ob k hk1
      exact .inr ((recol_old this.2.2).trans this.1)
  refine ⟨h'.c.kept hk (fun k h1 h2 => by have := hz k h2; omega) (fun h2 => ?_), h'.o.kept hk (fun k h1 h2 => by have := hz k h2; omega) (fun h2 => ?_), hc.imp (fun k h1 _ _ => ?_), h'.zc, h'.zo, h'.zr, h.lo, h.lr⟩
  · rcases h2 with h2 | h2
    · omega
    · have := (h.r.ob gc h2).1
      have := h.zc
      omega
  · rcases h2 with h2 | h2
    · omega
    · have := (h.r.ob go h2).1
      have := h.zo
      omega
  · rcases Nat.lt_or_ge k w.heap.size with h3 | h3
    · rw [recol_old h3]
      rcases h1 with h1 | h1
      · exact h1
      · omega
    · exact recol_new h3
end
end Go.Proofs.Ytfohlaeahageaaa.Edge
