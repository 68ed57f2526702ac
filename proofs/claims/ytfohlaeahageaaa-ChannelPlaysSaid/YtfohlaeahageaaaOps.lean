/- The calls on three channels side by side. -/
import Derived.Test.YtfohlaeahageaaaThree
namespace Go.Proofs.Ytfohlaeahageaaa.Edge
open Go.RowKit Go.Proofs.YtfohlaeahageaaaW.PrintWords Go.Proofs.YtfohlaeahageaaaW.PrintMore Go.Proofs.YtfohlaeahageaaaW.PrintLast

/-- Blocks of the colour 0 that are no channel's struct stay. -/
def Keeps (col : Nat → Nat) (w w' : World) (gc go gr : Nat) : Prop := ∀ k o, col k = 0 → k ≠ gc → k ≠ go → k ≠ gr → w.heap[k]? = some o → w'.heap[k]? = some o
/-- What a call on the channels leaves. -/
structure Aft (col : Nat → Nat) (j : Nat) (w w' : World) (gc go gr : Nat) (l1 l2 l3 : List NoteT) : Prop where
  t : ∃ A1 c1 A2 c2 A3 c3, T3 (recol col w.heap.size j) w' gc go gr A1 c1 l1 A2 c2 l2 A3 c3 l3
  k : Keeps col w w' gc go gr
  b : Below gc w w'
section
variable {col : Nat → Nat} {w w' : World} {gc go gr : Nat} {A1 A2 A3 : Option Addr} {c1 c2 c3 : Nat} {l1 l2 l3 : List NoteT}
theorem T3.aft_c {l1' : List NoteT} (h : T3 col w gc go gr A1 c1 l1 A2 c2 l2 A3 c3 l3) (hc : ∃ A1' c1', Ch (fun k => col k = 1 ∨ w.heap.size ≤ k) 49 w' gc A1' c1' l1') (hk : Kept w w' (fun k => k = gc ∨ some k = ob A1)) (hb : Below gc w w') : Aft col 1 w w' gc go gr l1' l2 l3 := by
  obtain ⟨A1', c1', hc⟩ := hc
  refine ⟨⟨_, _, _, _, _, _, h.on_c hc hk⟩, fun k o h0 n1 n2 n3 ho => blk_kept ho hk (fun h9 => ?_), hb⟩
  rcases h9 with h9 | h9
  · exact n1 h9
  · have := (h.c.ob k h9).1
    omega
theorem T3.aft_o {l2' : List NoteT} (h : T3 col w gc go gr A1 c1 l1 A2 c2 l2 A3 c3 l3) (hc : ∃ A2' c2', Ch (fun k => col k = 2 ∨ w.heap.size ≤ k) 49 w' go A2' c2' l2') (hk : Kept w w' (fun k => k = go ∨ some k = ob A2)) (hb : Below go w w') : Aft col 2 w w' gc go gr l1 l2' l3 := by
  obtain ⟨A2', c2', hc⟩ := hc
  refine ⟨⟨_, _, _, _, _, _, h.on_o hc hk⟩, fun k o h0 n1 n2 n3 ho => blk_kept ho hk (fun h9 => ?_), hb.mono (Nat.le_of_lt h.lo)⟩
  rcases h9 with h9 | h9
  · exact n2 h9
  · have := (h.o.ob k h9).1
    omega
theorem T3.aft_r {l3' : List NoteT} (h : T3 col w gc go gr A1 c1 l1 A2 c2 l2 A3 c3 l3) (hc : ∃ A3' c3', Ch (fun k => col k = 3 ∨ w.heap.size ≤ k) 52 w' gr A3' c3' l3') (hk : Kept w w' (fun k => k = gr ∨ some k = ob A3)) (hb : Below gr w w') : Aft col 3 w w' gc go gr l1 l2 l3' := by
  obtain ⟨A3', c3', hc⟩ := hc
  refine ⟨⟨_, _, _, _, _, _, h.on_r hc hk⟩, fun k o h0 n1 n2 n3 ho => blk_kept ho hk (fun h9 => ?_), hb.mono (by have := h.lo; have := h.lr; omega)⟩
  rcases h9 with h9 | h9
  · exact n3 h9
  · have := (h.r.ob k h9).1
    omega
theorem T3.aft_same (h : T3 col w gc go gr A1 c1 l1 A2 c2 l2 A3 c3 l3) (j : Nat) (hb : Below w.heap.size w w') : Aft col j w w' gc go gr l1 l2 l3 :=
  ⟨⟨_, _, _, _, _, _, (h.recol j).below hb⟩, fun _ _ _ _ _ _ ho => blk_below ho hb, hb.mono (Nat.le_of_lt h.c.lt)⟩
end
/-- Give, Lose: is it one of them; what is left; which. -/
def gB (l : List NoteT) (i : Int) : Bool := decide (0 ≤ i ∧ i < l.length)
def gL (l : List NoteT) (i : Int) : List NoteT := if 0 ≤ i ∧ i < l.length then l.eraseIdx i.toNat else l
def gX (l : List NoteT) (i : Int) : NoteT := if 0 ≤ i ∧ i < l.length then l.getD i.toNat (0, 0, false, []) else (0, 0, false, [])
def gD (l : List NoteT) (i : Int) : List NoteT := if 0 ≤ i ∧ i < l.length then sendN l (l.getD i.toNat (0, 0, false, [])) else l
section
variable (col : Nat → Nat) (w : World) (gc go gr : Nat) (A1 A2 A3 : Option Addr) (c1 c2 c3 : Nat) (l1 l2 l3 : List NoteT) (h : T3 col w gc go gr A1 c1 l1 A2 c2 l2 A3 c3 l3)
include h
theorem op_send_c (A' : Option Addr) (c' n : Nat) (x : NoteT) (hn : n = x.2.2.2.length) (hr : kPut.C w A' n x.2.2.2) (hl : n ≤ 10) (hf : Fits x.2.2.2) :
    Calls Try.prog 18 #[.pointer (some ⟨gc, 0, none⟩), .agg #[.int .i64 x.1, .int .i64 x.2.1, .bool x.2.2.1, .slice A' n c']] w fun e w' => e = .returned (.tuple #[]) ∧ Aft col 1 w w' gc go gr (sendN l1 x) l2 l3 := by
  refine (send_any _ w gc A1 A' c1 c' n l1 x h.c hn hr (by omega) hf).mono ?_
  rintro e w' ⟨rfl, hc, hk, hb⟩
  exact ⟨rfl, h.aft_c hc hk hb⟩
theorem op_send_o (A' : Option Addr) (c' n : Nat) (x : NoteT) (hn : n = x.2.2.2.length) (hr : kPut.C w A' n x.2.2.2) (hl : n ≤ 10) (hf : Fits x.2.2.2) :
    Calls Try.prog 18 #[.pointer (some ⟨go, 0, none⟩), .agg #[.int .i64 x.1, .int .i64 x.2.1, .bool x.2.2.1, .slice A' n c']] w fun e w' => e = .returned (.tuple #[]) ∧ Aft col 2 w w' gc go gr l1 (sendN l2 x) l3 := by
  refine (send_any _ w go A2 A' c2 c' n l2 x h.o hn hr (by omega) hf).mono ?_
  rintro e w' ⟨rfl, hc, hk, hb⟩
  exact ⟨rfl, h.aft_o hc hk hb⟩
theorem op_send_r (A' : Option Addr) (c' n : Nat) (x : NoteT) (hn : n = x.2.2.2.length) (hr : kPut.C w A' n x.2.2.2) (hl : n ≤ 10) (hf : Fits x.2.2.2) :
    Calls Try.prog 19 #[.pointer (some ⟨gr, 0, none⟩), .agg #[.int .i64 x.1, .int .i64 x.2.1, .bool x.2.2.1, .slice A' n c']] w fun e w' => e = .returned (.tuple #[]) ∧ Aft col 3 w w' gc go gr l1 l2 (sendN l3 x) := by
  refine (rsend_any _ w gr A3 A' c3 c' n l3 x h.r hn hr (by omega) hf).mono ?_
  rintro e w' ⟨rfl, hc, hk, hb⟩
  exact ⟨rfl, h.aft_r hc hk hb⟩
theorem op_lose_c (i : Int) (hl : l1.length ≤ 1000) :
    Calls Try.prog 22 #[.pointer (some ⟨gc, 0, none⟩), .int .i64 i] w fun e w' => e = .returned (.bool (gB l1 i)) ∧ Aft col 1 w w' gc go gr (gL l1 i) l2 l3 := by
  unfold gB gL
  by_cases hi : 0 ≤ i ∧ i < l1.length
  · obtain ⟨n, rfl⟩ := Int.eq_ofNat_of_zero_le hi.1
    refine (lose_some _ w gc A1 c1 l1 n h.c (by omega) hl).mono ?_
    rintro e w' ⟨rfl, hc, hk, hb⟩
    rw [decide_eq_true hi, if_pos hi]
    exact ⟨rfl, h.aft_c ⟨_, _, hc.imp (fun k h1 _ _ => .inl h1)⟩ hk hb⟩
  · refine (lose_no _ w gc A1 c1 l1 i h.c hi).mono ?_
    rintro e w' ⟨rfl, rfl⟩
    rw [decide_eq_false hi, if_neg hi]
    exact ⟨rfl, h.aft_same 1 (Below.refl _ _)⟩
theorem op_give_c (i : Int) (hl : l1.length ≤ 1000) :
    Calls Try.prog 20 #[.pointer (some ⟨gc, 0, none⟩), .int .i64 i] w fun e w' => ∃ A' c', e = .returned (.tuple #[.agg #[.int .i64 (gX l1 i).1, .int .i64 (gX l1 i).2.1, .bool (gX l1 i).2.2.1, .slice A' (gX l1 i).2.2.2.length c'], .bool (gB l1 i)]) ∧ kPut.R 38 w' (gc + 1) (fun k => col k = 1) (.slice A' (gX l1 i).2.2.2.length c') (gX l1 i).2.2.2 ∧ Aft col 1 w w' gc go gr (gL l1 i) l2 l3 := by
  unfold gB gL gX
  by_cases hi : 0 ≤ i ∧ i < l1.length
  · obtain ⟨n, rfl⟩ := Int.eq_ofNat_of_zero_le hi.1
    have hn : n < l1.length := by omega
    refine (give_some _ w gc A1 c1 l1 n h.c hn hl).mono ?_
    rintro e w' ⟨⟨A', c', rfl, hR⟩, hc, hk, hb⟩
    have e1 : l1.getD (n : Int).toNat (0, 0, false, []) = l1[n] := by simp [List.getD_eq_getElem?_getD, hn]
    rw [decide_eq_true hi, if_pos hi, if_pos hi, e1]
    exact ⟨A', c', rfl, hR, h.aft_c ⟨_, _, hc.imp (fun k h1 _ _ => .inl h1)⟩ hk hb⟩
  · refine (give_no _ w gc A1 c1 l1 i h.c hi).mono ?_
    rintro e w' ⟨rfl, hb⟩
    rw [decide_eq_false hi, if_neg hi, if_neg hi]
    exact ⟨none, 0, rfl, Kd.R_nil _ _ _ _ _, h.aft_same 1 hb⟩
theorem op_double_c (i : Int) (hl : l1.length ≤ 1000) (hx : ∀ x, x ∈ l1 → x.2.2.2.length ≤ 10 ∧ Fits x.2.2.2) :
    Calls Try.prog 23 #[.pointer (some ⟨gc, 0, none⟩), .int .i64 i] w fun e w' => e = .returned (.bool (gB l1 i)) ∧ Aft col 1 w w' gc go gr (gD l1 i) l2 l3 := by
  unfold gB gD
  by_cases hi : 0 ≤ i ∧ i < l1.length
  · obtain ⟨n, rfl⟩ := Int.eq_ofNat_of_zero_le hi.1
    have hn : n < l1.length := by omega
    refine (double_some _ w gc A1 c1 l1 n h.c hn hl (hx _ (List.getElem_mem hn))).mono ?_
    rintro e w' ⟨rfl, hc, hk, hb⟩
    have e1 : l1.getD (n : Int).toNat (0, 0, false, []) = l1[n] := by simp [List.getD_eq_getElem?_getD, hn]
    rw [decide_eq_true hi, if_pos hi, e1]
    exact ⟨rfl, h.aft_c hc hk hb⟩
  · refine (double_no _ w gc A1 c1 l1 i h.c hi).mono ?_
    rintro e w' ⟨rfl, rfl⟩
    rw [decide_eq_false hi, if_neg hi]
    exact ⟨rfl, h.aft_same 1 (Below.refl _ _)⟩
theorem op_give_r (i : Int) (hl : l3.length ≤ 1000) :
    Calls Try.prog 21 #[.pointer (some ⟨gr, 0, none⟩), .int .i64 i] w fun e w' => ∃ A' c', e = .returned (.tuple #[.agg #[.int .i64 (gX l3 i).1, .int .i64 (gX l3 i).2.1, .bool (gX l3 i).2.2.1, .slice A' (gX l3 i).2.2.2.length c'], .bool (gB l3 i)]) ∧ kPut.C w' A' (gX l3 i).2.2.2.length (gX l3 i).2.2.2 ∧ Aft col 3 w w' gc go gr l1 l2 (gL l3 i) ∧ Kept w w' (fun k => k = gr) := by
  unfold gB gL gX
  by_cases hi : 0 ≤ i ∧ i < l3.length
  · obtain ⟨n, rfl⟩ := Int.eq_ofNat_of_zero_le hi.1
    have hn : n < l3.length := by omega
    refine (rgive_some0 _ w gr A3 c3 l3 n h.r hn hl).mono ?_
    rintro e w' ⟨⟨A', c', rfl, hC⟩, hc, hk, hb⟩
    have e1 : l3.getD (n : Int).toNat (0, 0, false, []) = l3[n] := by simp [List.getD_eq_getElem?_getD, hn]
    rw [decide_eq_true hi, if_pos hi, if_pos hi, e1, Int.toNat_natCast, List.eraseIdx_eq_take_drop_succ]
    exact ⟨A', c', rfl, hC, h.aft_r hc (hk.mono (fun k hk => .inl hk)) hb, hk⟩
  · refine (rgive_no _ w gr A3 c3 l3 i h.r hi).mono ?_
    rintro e w' ⟨rfl, hb⟩
    rw [decide_eq_false hi, if_neg hi, if_neg hi]
    exact ⟨none, 0, rfl, ⟨rfl, Nat.zero_le _, fun h => absurd h (Nat.lt_irrefl _)⟩, h.aft_same 3 hb, Kept.of_below hb _⟩
theorem op_double_r (i : Int) (hl : l3.length ≤ 1000) (hx : ∀ x, x ∈ l3 → x.2.2.2.length ≤ 10 ∧ Fits x.2.2.2) :
    Calls Try.prog 24 #[.pointer (some ⟨gr, 0, none⟩), .int .i64 i] w fun e w' => e = .returned (.bool (gB l3 i)) ∧ Aft col 3 w w' gc go gr l1 l2 (gD l3 i) := by
  unfold gB gD
  by_cases hi : 0 ≤ i ∧ i < l3.length
  · obtain ⟨n, rfl⟩ := Int.eq_ofNat_of_zero_le hi.1
    have hn : n < l3.length := by omega
    refine (rdouble_some _ w gr A3 c3 l3 n h.r hn hl (hx _ (List.getElem_mem hn))).mono ?_
    rintro e w' ⟨rfl, hc, hk, hb⟩
    have e1 : l3.getD (n : Int).toNat (0, 0, false, []) = l3[n] := by simp [List.getD_eq_getElem?_getD, hn]
    rw [decide_eq_true hi, if_pos hi, e1]
    exact ⟨rfl, h.aft_r hc hk hb⟩
  · refine (rdouble_no _ w gr A3 c3 l3 i h.r hi).mono ?_
    rintro e w' ⟨rfl, rfl⟩
    rw [decide_eq_false hi, if_neg hi]
    exact ⟨rfl, h.aft_same 3 (Below.refl _ _)⟩
end
end Go.Proofs.Ytfohlaeahageaaa.Edge
