/- A channel's Give, Double. -/
import Derived.Test.YtfohlaeahageaaaLose
namespace Go.Proofs.Ytfohlaeahageaaa.Edge
open Go.RowKit Go.Proofs.YtfohlaeahageaaaW.PrintWords Go.Proofs.YtfohlaeahageaaaW.PrintMore Go.Proofs.YtfohlaeahageaaaW.PrintLast

theorem R_readsC {α : Type} {d : Kd α} {e B n c : Nat} {ok : Nat → Prop} {w : World} {A : Option Addr} {xs : List α} (h : d.R e w B ok (.slice A n c) xs) : d.C w A xs.length xs := by
  obtain ⟨A', c', e, _, hC⟩ := Kd.R_reads h
  injection e with e1 e2 e3
  subst e1
  exact hC
/-- A note of a row of the call's own. -/
theorem note_own {P : Nat → Prop} {w : World} {B b n c : Nat} {ns : List NoteT} (h : kNote.R 31 w B P (.slice (some ⟨b, 0, none⟩) n c) ns) (i : Nat) (hi : i < ns.length) : ∃ A2 c2, w.cell? ⟨b, i * 4, none⟩ = some (.int .i64 ns[i].1) ∧ w.cell? ⟨b, i * 4 + 1, none⟩ = some (.int .i64 ns[i].2.1) ∧ w.cell? ⟨b, i * 4 + 2, none⟩ = some (.bool ns[i].2.2.1) ∧ w.cell? ⟨b, i * 4 + 3, none⟩ = some (.slice A2 ns[i].2.2.2.length c2) ∧ kPut.R 38 w B (fun k => P k ∧ k ≠ b) (.slice A2 ns[i].2.2.2.length c2) ns[i].2.2.2 := by
  have hn : n = ns.length := (Kd.R_reads' h).1
  obtain ⟨cs, hl, hM, hc⟩ := Kd.R_getA h ns[i] (i : Int) (by omega) (by omega)
  have e1 : ns.getD (i : Int).toNat ns[i] = ns[i] := by simp [List.getD_eq_getElem?_getD, hi]
  rw [e1] at hM
  rw [Int.toNat_natCast] at hc
  obtain ⟨c0, _, e2, e3, c1, _, rfl, e4, c2, c3, rfl, e5, v, e6, hR⟩ := hM
  have e3' : c0 = [.int .i64 ns[i].1] := e3
  have e4' : c1 = [.int .i64 ns[i].2.1] := e4
  have e5' : c2 = [.bool ns[i].2.2.1] := e5
  subst e3' e4' e5' e6 e2
  obtain ⟨A2, c2, rfl⟩ := Kd.R_slice hR
  have g0 := hc 0 _ rfl
  have g1 := hc 1 _ rfl
  have g2 := hc 2 _ rfl
  have g3 := hc 3 _ rfl
  rw [add_plain] at g0 g1 g2 g3
  exact ⟨A2, c2, g0, g1, g2, g3, Kd.R_mono hR (fun k hk => ⟨hk.1, fun e => hk.2 (by rw [e]; rfl)⟩)⟩
theorem four_far {w : World} {g h i : Nat} {u v0 v1 v2 v3 : Value} (hne : h ≠ g) (x : w.cell? ⟨h, 0, none⟩ = some v0 ∧ w.cell? ⟨h, 1, none⟩ = some v1 ∧ w.cell? ⟨h, 2, none⟩ = some v2 ∧ w.cell? ⟨h, 3, none⟩ = some v3) :
    (w.setCell ⟨g, i, none⟩ u).cell? ⟨h, 0, none⟩ = some v0 ∧ (w.setCell ⟨g, i, none⟩ u).cell? ⟨h, 1, none⟩ = some v1 ∧ (w.setCell ⟨g, i, none⟩ u).cell? ⟨h, 2, none⟩ = some v2 ∧ (w.setCell ⟨g, i, none⟩ u).cell? ⟨h, 3, none⟩ = some v3 :=
  ⟨(cell_far (a := ⟨h, 0, none⟩) (p := ⟨g, i, none⟩) hne u).trans x.1, (cell_far (a := ⟨h, 1, none⟩) (p := ⟨g, i, none⟩) hne u).trans x.2.1, (cell_far (a := ⟨h, 2, none⟩) (p := ⟨g, i, none⟩) hne u).trans x.2.2.1, (cell_far (a := ⟨h, 3, none⟩) (p := ⟨g, i, none⟩) hne u).trans x.2.2.2⟩
theorem Ch.far {P : Nat → Prop} {t : Nat} {w : World} {g : Nat} {A : Option Addr} {c : Nat} {ns : List NoteT} (h : Ch P t w g A c ns) (p : Addr) (hp : ∀ k, P k → k ≠ p.block) (hg : g ≠ p.block) (u : Value) : Ch P t (w.setCell p u) g A c ns := ⟨blk_far h.blk hg _, Kd.R_far h.row hp u⟩
theorem give_no (P : Nat → Prop) (w : World) (g : Nat) (A : Option Addr) (c : Nat) (ns : List NoteT) (i : Int) (h : Ch P 49 w g A c ns) (hi : ¬ (0 ≤ i ∧ i < ns.length)) :
    Calls Try.prog 20 #[.pointer (some ⟨g, 0, none⟩), .int .i64 i] w fun e w' => e = .returned (.tuple #[.agg #[.int .i64 0, .int .i64 0, .bool false, .slice none 0 0], .bool false]) ∧ Below w.heap.size w w' := by
  have H := Aside0.mk h
  clear h
  go_enter Try.func20, Try.ntmps20
  go_wp2_with fail
  refine (is_any P _ g A c ns i (H.out.below (below_alloc (Below.refl _ _) _))).mono ?_
  rintro e w' ⟨rfl, rfl⟩
  rw [decide_eq_false hi]
  go_wp2
  refine bodyPost_ret (results_ct rfl _ _ w.heap.size 31 #[.int .i64 0, .int .i64 0, .bool false, .slice none 0 0] _ (.bool false) rfl (blk_new _ _) rfl Try.underlying31 rfl info31s) rfl ?_
  exact ⟨rfl, below_alloc (Below.refl _ _) _⟩
set_option maxHeartbeats 4000000 in
theorem give_some0 (P : Nat → Prop) (w : World) (g : Nat) (A : Option Addr) (c : Nat) (ns : List NoteT) (i : Nat) (h : Ch P 49 w g A c ns) (hP : ∀ k, P k → k < w.heap.size) (hi : i < ns.length) (hl : ns.length ≤ 1000) :
    Calls Try.prog 20 #[.pointer (some ⟨g, 0, none⟩), .int .i64 (i : Int)] w fun e w' => (∃ A2 c2, e = .returned (.tuple #[.agg #[.int .i64 ns[i].1, .int .i64 ns[i].2.1, .bool ns[i].2.2.1, .slice A2 ns[i].2.2.2.length c2], .bool true]) ∧ kPut.R 38 w' (g + 1) P (.slice A2 ns[i].2.2.2.length c2) ns[i].2.2.2) ∧ Ch P 49 w' g A c (ns.eraseIdx i) ∧ Kept w w' (fun k => k = g ∨ some k = ob A) ∧ Below g w w' := by
  have H := Aside0.mk h
  have hlt := h.lt
  obtain ⟨b, rfl⟩ := R_pos h.row (by omega)
  have hob := h.ob b rfl
  obtain ⟨m, hm⟩ : ∃ m, ns.length = m + 1 := ⟨ns.length - 1, by omega⟩
  have hd : decide (0 ≤ (i : Int) ∧ (i : Int) < ns.length) = true := decide_eq_true ⟨by omega, by omega⟩
  have him : (i : Int) < (m : Int) + 1 := by omega
  have hml : (m : Int) ≤ 1000 := by omega
  obtain ⟨x, hx⟩ : ∃ x, x = ns[i] := ⟨_, rfl⟩
  have hW0 : Ch P 49 (w.alloc (.cells #[.int .i64 0, .int .i64 0, .bool false, .slice none 0 0] 31)) g (some ⟨b, 0, none⟩) c ns := h.below (below_alloc (Below.refl _ _) _)
  obtain ⟨A2, c2, e0, e1, e2, e3, hR⟩ := note_own hW0.row i hi
  have hc := hW0.cell
  rw [← hx] at e0 e1 e2 e3 hR ⊢
  rw [hm] at hc
  obtain ⟨L, hL⟩ : ∃ L, L = x.2.2.2.length := ⟨_, rfl⟩
  rw [← hL] at e3 hR ⊢
  have HH := Aside0.mk hW0
  have HR := Aside0.mk hR
  have HO := Aside0.mk hob
  have HI := Aside0.mk hi
  have HL := Aside0.mk hl
  have HC := Aside0.mk hd
  have HLT := Aside0.mk hlt
  have HPP := Aside0.mk hP
  clear h hW0 hR hob hi hl hd hL hx hlt hP
  go_enter Try.func20, Try.ntmps20
  go_wp2_with fail
  refine (is_any P _ g (some ⟨b, 0, none⟩) c ns i HH.out).mono ?_
  rintro e w' ⟨rfl, rfl⟩
  rw [HC.out]
  go_wp2_with fail
  refine with_world ?_
  intro W hW
  have hs : W.heap.size = w.heap.size + 2 := by rw [hW]; simp
  have hbW : Below w.heap.size w W := by rw [hW]; exact ((Below.refl _ _).alloc (Nat.le_refl _) _).alloc (by simp) _
  have b4 : W.heap[w.heap.size]? = some (.cells #[.int .i64 0, .int .i64 0, .bool false, .slice none 0 0] 31 (0, 0)) := by rw [hW]; exact blk_alloc (blk_new _ _) _
  have b6 : W.heap[w.heap.size + 1]? = some (.cells #[.int .i64 x.1, .int .i64 x.2.1, .bool x.2.2.1, .slice A2 L c2] 31 (0, 0)) := by rw [hW]; exact two_boxes w _ _ _ _ _ _ _ _
  have hCW : Ch P 49 W g (some ⟨b, 0, none⟩) c ns := by rw [hW]; exact HH.out.below (below_alloc (Below.refl _ _) _)
  have hRW : kPut.R 38 W (g + 1) (fun k => P k ∧ k ≠ b) (.slice A2 L c2) x.2.2.2 := by rw [hW]; exact Kd.R_below HR.out (below_alloc (Below.refl _ _) _)
  have hgs : w.heap.size + 1 ≠ w.heap.size := by omega
  have HN : Aside0 (∀ k, k = g ∨ some k = ob (some ⟨b, 0, none⟩) → k < w.heap.size) := ⟨fun k hk => by
    rcases hk with rfl | hk
    · exact HLT.out
    · exact (H.out.ob k hk).2.2⟩
  clear hW e0 e1 e2 e3 hc
  have HCW := Aside0.mk hCW
  have HBW := Aside0.mk hbW
  have HS := Aside0.mk hs
  have HB := Aside0.mk (And.intro b4 (And.intro b6 hRW))
  have hS0 := box4 b6
  have hS1 : W.drew.cell? ⟨w.heap.size + 1, 0, none⟩ = some (.int .i64 x.1) ∧ W.drew.cell? ⟨w.heap.size + 1, 1, none⟩ = some (.int .i64 x.2.1) ∧ W.drew.cell? ⟨w.heap.size + 1, 2, none⟩ = some (.bool x.2.2.1) ∧ W.drew.cell? ⟨w.heap.size + 1, 3, none⟩ = some (.slice A2 L c2) := hS0
  clear hbW b4 b6 hCW hRW hs
  go_region_held3 (fun w' => w'.cell? ⟨w.heap.size + 1, 0, none⟩ = some (.int .i64 x.1) ∧ w'.cell? ⟨w.heap.size + 1, 1, none⟩ = some (.int .i64 x.2.1) ∧ w'.cell? ⟨w.heap.size + 1, 2, none⟩ = some (.bool x.2.2.1) ∧ w'.cell? ⟨w.heap.size + 1, 3, none⟩ = some (.slice A2 L c2)) (first | assumption | exact hS0 | exact hS1 | exact four_far hgs (four_far hgs (four_far hgs (four_far hgs (by assumption)))))
    (first | (go_at_call 22; refine (lose_some P _ g (some ⟨b, 0, none⟩) c ns i (by first | exact HCW.out | exact HCW.out.below (below_drew (Below.refl _ _))) HI.out HL.out).mono ?_; rintro e w3 ⟨rfl, hC3, hk3, hb3⟩; have hk3' : Kept W w3 (fun k => k = g ∨ some k = ob (some ⟨b, 0, none⟩)) := (by first | exact hk3); have hb3' : Below g W w3 := (by first | exact hb3 | exact (below_drew (Below.refl _ _)).trans hb3); have hx4 := blk_kept HB.out.1 hk3' (fun h9 => by have := HN.out _ h9; omega); have hS' := box4 (blk_kept HB.out.2.1 hk3' (fun h9 => by have := HN.out _ h9; omega)); obtain ⟨z0, z1, z2, z3⟩ := box4 hx4; have y0 := blk_frozen hx4 0; have y1 := blk_frozen hx4 1; have y2 := blk_frozen hx4 2; have y3 := blk_frozen hx4 3; have H3 := Aside0.mk (And.intro hC3 (And.intro hk3' (And.intro hb3' hx4))); clear hC3 hk3 hk3' hb3 hb3' hx4))
  go_wp2
  obtain ⟨hC3, hk3, hb3, hx4⟩ := H3.out
  have hlt := HLT.out
  have hgn : g ≠ w.heap.size := by omega
  have hpn : ∀ k, P k → k ≠ w.heap.size := fun k hk => by have := HPP.out k hk; omega
  have hR3 : kPut.R 38 w3 (g + 1) P (.slice A2 L c2) x.2.2.2 := Kd.R_mono (Kd.R_kept (Kd.R_bound HB.out.2.2) hk3 (fun k hk h9 => by
    have h8 : g + 1 ≤ k := hk.2.1
    rcases h9 with h9 | h9
    · omega
    · exact hk.1.2 (Option.some.inj h9))) (fun k hk => hk.1.1)
  refine bodyPost_ret (results_ct rfl _ _ w.heap.size 31 #[.int .i64 x.1, .int .i64 x.2.1, .bool x.2.2.1, .slice A2 L c2] _ (.bool true) rfl (store4 hx4 _ _ _ _) rfl Try.underlying31 rfl info31s) rfl ?_
  refine ⟨⟨A2, c2, rfl, Kd.R_far (p := ⟨w.heap.size, 3, none⟩) (Kd.R_far (p := ⟨w.heap.size, 2, none⟩) (Kd.R_far (p := ⟨w.heap.size, 1, none⟩) (Kd.R_far (p := ⟨w.heap.size, 0, none⟩) hR3 hpn _) hpn _) hpn _) hpn _⟩, (((hC3.far ⟨w.heap.size, 0, none⟩ hpn hgn _).far ⟨w.heap.size, 1, none⟩ hpn hgn _).far ⟨w.heap.size, 2, none⟩ hpn hgn _).far ⟨w.heap.size, 3, none⟩ hpn hgn _, ?_, ?_⟩
  · have k0 : Kept w w3 (fun k => k = g ∨ some k = ob (some ⟨b, 0, none⟩)) := (Kept.of_below HBW.out _).then_ hk3 (fun k hk => .inl hk)
    have k1 := k0.setCell (p := ⟨w.heap.size, 0, none⟩) (.inr (Nat.le_refl _)) (.int .i64 x.1)
    have k2 := k1.setCell (p := ⟨w.heap.size, 1, none⟩) (.inr (Nat.le_refl _)) (.int .i64 x.2.1)
    have k3 := k2.setCell (p := ⟨w.heap.size, 2, none⟩) (.inr (Nat.le_refl _)) (.bool x.2.2.1)
    exact k3.setCell (p := ⟨w.heap.size, 3, none⟩) (.inr (Nat.le_refl _)) (.slice A2 L c2)
  · have hg1 : g ≤ w.heap.size := Nat.le_of_lt hlt
    exact (((((HBW.out.mono hg1).trans hb3).setCell (p := ⟨w.heap.size, 0, none⟩) hg1 _).setCell (p := ⟨w.heap.size, 1, none⟩) hg1 _).setCell (p := ⟨w.heap.size, 2, none⟩) hg1 _).setCell (p := ⟨w.heap.size, 3, none⟩) hg1 _
theorem give_some (P : Nat → Prop) (w : World) (g : Nat) (A : Option Addr) (c : Nat) (ns : List NoteT) (i : Nat) (h : Ch P 49 w g A c ns) (hi : i < ns.length) (hl : ns.length ≤ 1000) :
    Calls Try.prog 20 #[.pointer (some ⟨g, 0, none⟩), .int .i64 (i : Int)] w fun e w' => (∃ A2 c2, e = .returned (.tuple #[.agg #[.int .i64 ns[i].1, .int .i64 ns[i].2.1, .bool ns[i].2.2.1, .slice A2 ns[i].2.2.2.length c2], .bool true]) ∧ kPut.R 38 w' (g + 1) P (.slice A2 ns[i].2.2.2.length c2) ns[i].2.2.2) ∧ Ch P 49 w' g A c (ns.eraseIdx i) ∧ Kept w w' (fun k => k = g ∨ some k = ob A) ∧ Below g w w' := by
  refine (give_some0 (fun k => P k ∧ k < w.heap.size) w g A c ns i (h.imp (fun k h1 _ h2 => ⟨h1, h2⟩)) (fun k hk => hk.2) hi hl).mono ?_
  rintro e w' ⟨⟨A2, c2, rfl, hR⟩, hC, hk, hb⟩
  exact ⟨⟨A2, c2, rfl, Kd.R_mono hR (fun k hk => hk.1)⟩, hC.imp (fun k h1 _ _ => h1.1), hk, hb⟩
theorem double_no (P : Nat → Prop) (w : World) (g : Nat) (A : Option Addr) (c : Nat) (ns : List NoteT) (i : Int) (h : Ch P 49 w g A c ns) (hi : ¬ (0 ≤ i ∧ i < ns.length)) :
    Calls Try.prog 23 #[.pointer (some ⟨g, 0, none⟩), .int .i64 i] w fun e w' => e = .returned (.bool false) ∧ w = w' := by
  have H := Aside0.mk h
  clear h
  go_enter Try.func23, Try.ntmps23
  go_wp2_with fail
  refine (is_any P _ g A c ns i H.out).mono ?_
  rintro e w' ⟨rfl, rfl⟩
  rw [decide_eq_false hi]
  go_wp2
  go_ret
  exact ⟨rfl, rfl⟩
/-- What Send leaves. -/
def sendN (ns : List NoteT) (x : NoteT) : List NoteT := if ns.length < 1000 then ns ++ [x] else ns
theorem send_any (P : Nat → Prop) (w : World) (g : Nat) (A A' : Option Addr) (c c' n : Nat) (ns : List NoteT) (x : NoteT) (h : Ch P 49 w g A c ns) (hn : n = x.2.2.2.length) (hr : kPut.C w A' n x.2.2.2) (hl : n * 64 ≤ 140737488355328) (hf : Fits x.2.2.2) :
    Calls Try.prog 18 #[.pointer (some ⟨g, 0, none⟩), .agg #[.int .i64 x.1, .int .i64 x.2.1, .bool x.2.2.1, .slice A' n c']] w fun e w' => e = .returned (.tuple #[]) ∧ (∃ A1 c1, Ch (fun k => P k ∨ w.heap.size ≤ k) 49 w' g A1 c1 (sendN ns x)) ∧ Kept w w' (fun k => k = g ∨ some k = ob A) ∧ Below g w w' := by
  subst hn
  unfold sendN
  by_cases h1 : ns.length < 1000
  · rw [if_pos h1]
    exact send_some P w g A A' c c' ns x h hr hl hf h1
  · rw [if_neg h1]
    refine (send_full P w g A A' c _ c' ns x.1 x.2.1 x.2.2.1 h h1).mono ?_
    rintro e w' ⟨rfl, hb⟩
    exact ⟨rfl, ⟨A, c, (h.below hb).imp (fun k h1 _ _ => .inl h1)⟩, Kept.of_below hb _, hb.mono (Nat.le_of_lt h.lt)⟩
set_option maxHeartbeats 2000000 in
theorem double_some (P : Nat → Prop) (w : World) (g : Nat) (A : Option Addr) (c : Nat) (ns : List NoteT) (i : Nat) (h : Ch P 49 w g A c ns) (hi : i < ns.length) (hl : ns.length ≤ 1000) (hx : ns[i].2.2.2.length ≤ 10 ∧ Fits ns[i].2.2.2) :
    Calls Try.prog 23 #[.pointer (some ⟨g, 0, none⟩), .int .i64 (i : Int)] w fun e w' => e = .returned (.bool true) ∧ (∃ A1 c1, Ch (fun k => P k ∨ w.heap.size ≤ k) 49 w' g A1 c1 (sendN ns ns[i])) ∧ Kept w w' (fun k => k = g ∨ some k = ob A) ∧ Below g w w' := by
  have H := Aside0.mk h
  obtain ⟨b, rfl⟩ := R_pos h.row (by omega)
  obtain ⟨m, hm⟩ : ∃ m, ns.length = m + 1 := ⟨ns.length - 1, by omega⟩
  have hd : decide (0 ≤ (i : Int) ∧ (i : Int) < ns.length) = true := decide_eq_true ⟨by omega, by omega⟩
  have him : (i : Int) < (m : Int) + 1 := by omega
  have hml : (m : Int) ≤ 1000 := by omega
  obtain ⟨x, hxe⟩ : ∃ x, x = ns[i] := ⟨_, rfl⟩
  obtain ⟨A2, c2, e0, e1, e2, e3, hR⟩ := note_own h.row i hi
  have hc := h.cell
  rw [← hxe] at e0 e1 e2 e3 hR hx ⊢
  rw [hm] at hc
  obtain ⟨L, hL⟩ : ∃ L, L = x.2.2.2.length := ⟨_, rfl⟩
  have hC := R_readsC hR
  rw [← hL] at e3 hx hC
  have HH := Aside0.mk hC
  have HL := Aside0.mk hL
  have HC := Aside0.mk hd
  have HX := Aside0.mk hx
  clear h hR hC hi hl hd hL hx hxe
  go_enter Try.func23, Try.ntmps23
  go_wp2_with fail
  refine (is_any P _ g (some ⟨b, 0, none⟩) c ns i H.out).mono ?_
  rintro e w' ⟨rfl, rfl⟩
  rw [HC.out]
  go_wp2_with fail
  refine (send_any P w g (some ⟨b, 0, none⟩) A2 c c2 L ns x H.out HL.out HH.out (by have := HX.out.1; omega) HX.out.2).mono ?_
  rintro e w' ⟨rfl, hs, hk, hb⟩
  have HS := Aside0.mk (And.intro hs (And.intro hk hb))
  clear hs hk hb
  go_wp2
  go_ret
  exact ⟨rfl, HS.out⟩
end Go.Proofs.Ytfohlaeahageaaa.Edge
