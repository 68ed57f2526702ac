/- The document's own channel: no Give, Send, Double. -/
import Derived.Test.YtfohlaeahageaaaRGive
namespace Go.Proofs.Ytfohlaeahageaaa.Edge
open Go.RowKit Go.Proofs.YtfohlaeahageaaaW.PrintWords Go.Proofs.YtfohlaeahageaaaW.PrintMore Go.Proofs.YtfohlaeahageaaaW.PrintLast

set_option maxHeartbeats 2000000 in
theorem rgive_no (P : Nat → Prop) (w : World) (g : Nat) (A : Option Addr) (c : Nat) (ns : List NoteT) (i : Int) (h : Ch P 52 w g A c ns) (hi : ¬ (0 ≤ i ∧ i < ns.length)) :
    Calls Try.prog 21 #[.pointer (some ⟨g, 0, none⟩), .int .i64 i] w fun e w' => e = .returned (.tuple #[.agg #[.int .i64 0, .int .i64 0, .bool false, .slice none 0 0], .bool false]) ∧ Below w.heap.size w w' := by
  have hc := (h.below (below_alloc (Below.refl w.heap.size w) (.cells #[.int .i64 0, .int .i64 0, .bool false, .slice none 0 0] 31))).cell
  obtain ⟨n, hn⟩ : ∃ n, n = ns.length := ⟨_, rfl⟩
  rw [← hn] at hc hi
  clear h hn
  by_cases h0 : i < 0
  · go_enter Try.func21, Try.ntmps21
    go_wp2
    refine bodyPost_ret (results_ct rfl _ _ w.heap.size 31 #[.int .i64 0, .int .i64 0, .bool false, .slice none 0 0] _ (.bool false) rfl (blk_new _ _) rfl Try.underlying31 rfl info31s) rfl ?_
    exact ⟨rfl, below_alloc (Below.refl _ _) _⟩
  · have h1 : (n : Int) ≤ i := by omega
    have hd : decide (i < 0) = false := by simpa using h0
    go_enter Try.func21, Try.ntmps21
    go_wp2
    refine bodyPost_ret (results_ct rfl _ _ w.heap.size 31 #[.int .i64 0, .int .i64 0, .bool false, .slice none 0 0] _ (.bool false) rfl (blk_new _ _) rfl Try.underlying31 rfl info31s) rfl ?_
    exact ⟨rfl, below_alloc (Below.refl _ _) _⟩
theorem rdouble_no (P : Nat → Prop) (w : World) (g : Nat) (A : Option Addr) (c : Nat) (ns : List NoteT) (i : Int) (h : Ch P 52 w g A c ns) (hi : ¬ (0 ≤ i ∧ i < ns.length)) :
    Calls Try.prog 24 #[.pointer (some ⟨g, 0, none⟩), .int .i64 i] w fun e w' => e = .returned (.bool false) ∧ w = w' := by
  have hc := h.cell
  obtain ⟨n, hn⟩ : ∃ n, n = ns.length := ⟨_, rfl⟩
  rw [← hn] at hc hi
  clear h hn
  by_cases h0 : i < 0
  · go_enter Try.func24, Try.ntmps24
    go_wp2
    go_ret
    exact ⟨rfl, rfl⟩
  · have h1 : (n : Int) ≤ i := by omega
    have hd : decide (i < 0) = false := by simpa using h0
    go_enter Try.func24, Try.ntmps24
    go_wp2
    go_ret
    exact ⟨rfl, rfl⟩
theorem rsend_any (P : Nat → Prop) (w : World) (g : Nat) (A A' : Option Addr) (c c' n : Nat) (ns : List NoteT) (x : NoteT) (h : Ch P 52 w g A c ns) (hn : n = x.2.2.2.length) (hr : kPut.C w A' n x.2.2.2) (hl : n * 64 ≤ 140737488355328) (hf : Fits x.2.2.2) :
    Calls Try.prog 19 #[.pointer (some ⟨g, 0, none⟩), .agg #[.int .i64 x.1, .int .i64 x.2.1, .bool x.2.2.1, .slice A' n c']] w fun e w' => e = .returned (.tuple #[]) ∧ (∃ A1 c1, Ch (fun k => P k ∨ w.heap.size ≤ k) 52 w' g A1 c1 (sendN ns x)) ∧ Kept w w' (fun k => k = g ∨ some k = ob A) ∧ Below g w w' := by
  subst hn
  unfold sendN
  by_cases h1 : ns.length < 1000
  · rw [if_pos h1]
    exact rsend_some P w g A A' c c' ns x h hr hl hf h1
  · rw [if_neg h1]
    refine (rsend_full P w g A A' c _ c' ns x.1 x.2.1 x.2.2.1 h h1).mono ?_
    rintro e w' ⟨rfl, hb⟩
    exact ⟨rfl, ⟨A, c, (h.below hb).imp (fun k h1 _ _ => .inl h1)⟩, Kept.of_below hb _, hb.mono (Nat.le_of_lt h.lt)⟩
set_option maxHeartbeats 2000000 in
theorem rdouble_some (P : Nat → Prop) (w : World) (g : Nat) (A : Option Addr) (c : Nat) (ns : List NoteT) (i : Nat) (h : Ch P 52 w g A c ns) (hi : i < ns.length) (hl : ns.length ≤ 1000) (hx : ns[i].2.2.2.length ≤ 10 ∧ Fits ns[i].2.2.2) :
    Calls Try.prog 24 #[.pointer (some ⟨g, 0, none⟩), .int .i64 (i : Int)] w fun e w' => e = .returned (.bool true) ∧ (∃ A1 c1, Ch (fun k => P k ∨ w.heap.size ≤ k) 52 w' g A1 c1 (sendN ns ns[i])) ∧ Kept w w' (fun k => k = g ∨ some k = ob A) ∧ Below g w w' := by
  have H := Aside0.mk h
  obtain ⟨b, rfl⟩ := R_pos h.row (by omega)
  obtain ⟨m, hm⟩ : ∃ m, ns.length = m + 1 := ⟨ns.length - 1, by omega⟩
  have hi0 : ¬ (i : Int) < 0 := by omega
  have him : (i : Int) < (m : Int) + 1 := by omega
  have hml : (m : Int) ≤ 1000 := by omega
  obtain ⟨x, hxe⟩ : ∃ x, x = ns[i] := ⟨_, rfl⟩
  obtain ⟨A2, c2, e0, e1, e2, e3, hR⟩ := note_own h.row i hi
  have hc := h.cell
  rw [← hxe] at e0 e1 e2 e3 hR hx ⊢
  rw [hm] at hc
  obtain ⟨L, hL⟩ : ∃ L, L = x.2.2.2.length := ⟨_, rfl⟩
  have hC := R_readsC hR
  rw [← hL] at e3 hx hC
  have HH := Aside0.mk hC
  have HL := Aside0.mk hL
  have HX := Aside0.mk hx
  clear h hR hC hi hl hL hx hxe
  go_enter Try.func24, Try.ntmps24
  go_wp2_with fail
  refine (rsend_any P w g (some ⟨b, 0, none⟩) A2 c c2 L ns x H.out HL.out HH.out (by have := HX.out.1; omega) HX.out.2).mono ?_
  rintro e w' ⟨rfl, hs, hk, hb⟩
  have HS := Aside0.mk (And.intro hs (And.intro hk hb))
  clear hs hk hb
  go_wp2
  go_ret
  exact ⟨rfl, HS.out⟩
end Go.Proofs.Ytfohlaeahageaaa.Edge
