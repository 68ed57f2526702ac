/- ChannelPlays: whole. -/
import Derived.Test.YtfohlaeahageaaaOps
import Derived.Test.YtfohlaeahageaaaChanAlive
import Derived.Test.YtfohlaeahageaaaAPlays
namespace Go.Proofs.Ytfohlaeahageaaa.Edge
open Go.RowKit Go.Proofs.YtfohlaeahageaaaW.PrintWords Go.Proofs.YtfohlaeahageaaaW.PrintMore Go.Proofs.YtfohlaeahageaaaW.PrintLast

abbrev ActT := Int × Int × NoteT
abbrev kAct : Kd ActT := Kd.pair (Kd.int .i64) (Kd.pair (Kd.int .i64) kNote)
/-- A call of a row that is read. -/
theorem act_at {w : World} {A : Option Addr} {n : Nat} {xs : List ActT} (h : kAct.C w A n xs) (i : Nat) (hi : i < xs.length) : ∃ ad B c, A = some ad ∧ w.cell? (ad.add (i * 6)) = some (.int .i64 xs[i].1) ∧ w.cell? ⟨(ad.add (i * 6)).block, (ad.add (i * 6)).off + 1, none⟩ = some (.int .i64 xs[i].2.1) ∧ w.cell? ⟨(ad.add (i * 6)).block, (ad.add (i * 6)).off + 2, none⟩ = some (.int .i64 xs[i].2.2.1) ∧ w.cell? ⟨(ad.add (i * 6)).block, (ad.add (i * 6)).off + 3, none⟩ = some (.int .i64 xs[i].2.2.2.1) ∧ w.cell? ⟨(ad.add (i * 6)).block, (ad.add (i * 6)).off + 4, none⟩ = some (.bool xs[i].2.2.2.2.1) ∧ w.cell? ⟨(ad.add (i * 6)).block, (ad.add (i * 6)).off + 5, none⟩ = some (.slice B xs[i].2.2.2.2.2.length c) ∧ kPut.C w B xs[i].2.2.2.2.2.length xs[i].2.2.2.2.2 := by
  have hn : xs.length = n := h.1
  obtain ⟨ad, cs, e, hl, hK, hc⟩ := Kd.C_get h xs[i] (i : Int) (by omega) (by omega)
  rw [Int.toNat_natCast] at hK hc
  have e1 : xs.getD i xs[i] = xs[i] := by simp [List.getD_eq_getElem?_getD, hi]
  rw [e1] at hK
  obtain ⟨b0, _, e2, e3, b1, _, rfl, e4, c0, _, rfl, e5, c1, _, rfl, e6, c2, c3, rfl, e7, B, c, e8, _, hC⟩ := hK
  have e3' : b0 = [.int .i64 xs[i].1] := e3
  have e4' : b1 = [.int .i64 xs[i].2.1] := e4
  have e5' : c0 = [.int .i64 xs[i].2.2.1] := e5
  have e6' : c1 = [.int .i64 xs[i].2.2.2.1] := e6
  have e7' : c2 = [.bool xs[i].2.2.2.2.1] := e7
  subst e3' e4' e5' e6' e7' e8 e2
  refine ⟨ad, B, c, e, hc 0 _ rfl, ?_, ?_, ?_, ?_, ?_, hC⟩
  · rw [← add_field ad (i * 6) 1 (by decide)]; exact hc 1 _ rfl
  · rw [← add_field ad (i * 6) 2 (by decide)]; exact hc 2 _ rfl
  · rw [← add_field ad (i * 6) 3 (by decide)]; exact hc 3 _ rfl
  · rw [← add_field ad (i * 6) 4 (by decide)]; exact hc 4 _ rfl
  · rw [← add_field ad (i * 6) 5 (by decide)]; exact hc 5 _ rfl
/-- A box of six. -/
theorem box6 {w : World} {g t : Nat} {a b c d e f : Value} (h : w.heap[g]? = some (.cells #[a, b, c, d, e, f] t (0, 0))) : w.cell? ⟨g, 0, none⟩ = some a ∧ w.cell? ⟨g, 1, none⟩ = some b ∧ w.cell? ⟨g, 2, none⟩ = some c ∧ w.cell? ⟨g, 3, none⟩ = some d ∧ w.cell? ⟨g, 4, none⟩ = some e ∧ w.cell? ⟨g, 5, none⟩ = some f :=
  ⟨(blk_cell h 0).trans rfl, (blk_cell h 1).trans rfl, (blk_cell h 2).trans rfl, (blk_cell h 3).trans rfl, (blk_cell h 4).trans rfl, (blk_cell h 5).trans rfl⟩
/-- Notes that are small. -/
def Small (k : Nat) (l : List NoteT) : Prop := l.length ≤ k ∧ ∀ x, x ∈ l → x.2.2.2.length ≤ 10 ∧ Fits x.2.2.2
theorem small_send {k : Nat} {l : List NoteT} {x : NoteT} (h : Small k l) (hx : x.2.2.2.length ≤ 10 ∧ Fits x.2.2.2) : Small (k + 1) (sendN l x) := by
  unfold sendN
  split
  · refine ⟨by rw [List.length_append, List.length_singleton]; have := h.1; omega, fun y hy => ?_⟩
    rcases List.mem_append.1 hy with hy | hy
    · exact h.2 y hy
    · rw [List.mem_singleton.1 hy]; exact hx
  · exact ⟨Nat.le_succ_of_le h.1, h.2⟩
theorem small_erase {k i : Nat} {l : List NoteT} (h : Small k l) : Small (k + 1) (l.eraseIdx i) :=
  ⟨by have := h.1; have := List.length_eraseIdx_le l i; omega, fun y hy => h.2 y (List.mem_of_mem_eraseIdx hy)⟩
theorem small_gL {k : Nat} {i : Int} {l : List NoteT} (h : Small k l) : Small (k + 1) (gL l i) := by
  unfold gL
  split
  · exact small_erase h
  · exact ⟨Nat.le_succ_of_le h.1, h.2⟩
theorem small_gD {k : Nat} {i : Int} {l : List NoteT} (h : Small k l) : Small (k + 1) (gD l i) := by
  unfold gD
  split
  · rename_i hi
    refine small_send h (h.2 _ ?_)
    have hn : i.toNat < l.length := by omega
    rw [List.getD_eq_getElem?_getD, List.getElem?_eq_getElem hn]
    exact List.getElem_mem hn
  · exact ⟨Nat.le_succ_of_le h.1, h.2⟩
theorem small_more {k : Nat} {l : List NoteT} (h : Small k l) : Small (k + 1) l := ⟨Nat.le_succ_of_le h.1, h.2⟩
theorem len_quiet {P : Nat → Prop} {w : World} {g : Nat} {A : Option Addr} {c : Nat} {ns : List NoteT} (h : Ch P 49 w g A c ns) : Calls Try.prog 25 #[.pointer (some ⟨g, 0, none⟩)] w fun e w' => e = .returned (.int .i64 ns.length) ∧ w' = w := (len_any P w g A c ns h).mono (fun _ _ h => ⟨h.1, h.2.symm⟩)
/-- What holds at each round. -/
def Rnd (w0 w : World) (gc go gr k : Nat) (l lo : List NoteT) : Prop := (∃ col A1 c1 A2 c2 A3 c3, T3 col w gc go gr A1 c1 l A2 c2 lo A3 c3 l) ∧ Below w0.heap.size w0 w ∧ Small k l ∧ Small k lo
/-- A box of the law's own. -/
structure Bx (col : Nat → Nat) (w : World) (gc go gr gb : Nat) (o : Obj) : Prop where
  z : col gb = 0
  nc : gb ≠ gc
  no : gb ≠ go
  nr : gb ≠ gr
  blk : w.heap[gb]? = some o
theorem Aft.box {col : Nat → Nat} {j : Nat} {w w' : World} {gc go gr gb : Nat} {l1 l2 l3 : List NoteT} {o : Obj} (a : Aft col j w w' gc go gr l1 l2 l3) (b : Bx col w gc go gr gb o) : Bx (recol col w.heap.size j) w' gc go gr gb o :=
  ⟨(recol_old (blk_lt b.blk)).trans b.z, b.nc, b.no, b.nr, a.k gb o b.z b.nc b.no b.nr b.blk⟩
theorem Bx.below {col : Nat → Nat} {w w' : World} {gc go gr gb : Nat} {o : Obj} (b : Bx col w gc go gr gb o) (hb : Below w.heap.size w w') : Bx col w' gc go gr gb o := ⟨b.z, b.nc, b.no, b.nr, blk_below b.blk hb⟩
/-- A new box, and the channels beside it. -/
theorem t3_box {col : Nat → Nat} {w : World} {gc go gr : Nat} {A1 A2 A3 : Option Addr} {c1 c2 c3 : Nat} {l1 l2 l3 : List NoteT} (h : T3 col w gc go gr A1 c1 l1 A2 c2 l2 A3 c3 l3) (o : Obj) : T3 (recol col w.heap.size 0) (w.alloc o) gc go gr A1 c1 l1 A2 c2 l2 A3 c3 l3 ∧ Bx (recol col w.heap.size 0) (w.alloc o) gc go gr w.heap.size o :=
  ⟨(h.recol 0).below (below_alloc (Below.refl _ _) _), recol_new (Nat.le_refl _), by have := h.c.lt; omega, by have := h.o.lt; omega, by have := h.r.lt; omega, blk_new _ _⟩
set_option maxRecDepth 100000 in
set_option maxHeartbeats 1000000 in
theorem cplays_long (w : World) (A : Option Addr) (n c : Nat) (hn : 200 < n) (hm : n ≤ 9223372036854775807) :
    Calls Try.prog 5 #[.slice A n c] w fun e w' => e = .returned (.bool true) ∧ Below w.heap.size w w' := by
  have h1 : (200 : Int) < (n : Int) := by omega
  go_enter Try.func5, Try.ntmps5
  go_wp2_with fail
  refine (chan_alive _).mono ?_
  rintro e w1 ⟨rfl, hb⟩
  have HB := Aside0.mk hb
  clear hb
  go_wp2
  go_ret
  exact ⟨rfl, HB.out⟩
set_option maxRecDepth 100000 in
set_option maxHeartbeats 16000000 in
theorem cplays_short (w : World) (A : Option Addr) (n c : Nat) (xs : List ActT) (hr : kAct.C w A n xs) (hn : n ≤ 200) (hf : ∀ x, x ∈ xs → Fits x.2.2.2.2.2) :
    Calls Try.prog 5 #[.slice A n c] w fun e w' => e = .returned (.bool true) ∧ Below w.heap.size w w' := by
  have h1 : ¬ (200 : Int) < (n : Int) := by omega
  have hxn : xs.length = n := hr.1
  have HR := Aside0.mk hr
  have HN := Aside0.mk hn
  have HX := Aside0.mk hxn
  have HF := Aside0.mk hf
  clear hr hn hxn hf
  go_enter Try.func5, Try.ntmps5
  go_wp2_with fail
  refine (chan_alive _).mono ?_
  rintro e w1 ⟨rfl, hb⟩
  obtain ⟨gc, hgc⟩ : ∃ g, g = w1.heap.size := ⟨_, rfl⟩
  have HT : Aside0 (Rnd w (((w1.alloc (.cells #[.slice none 0 0] 49)).alloc (.cells #[.slice none 0 0] 49)).alloc (.cells #[.slice none 0 0] 52)) gc (gc + 1) (gc + 2) 0 [] []) := ⟨by
    have s1 : (w1.alloc (.cells #[.slice none 0 0] 49)).heap.size = gc + 1 := by rw [hgc]; simp
    have s2 : ((w1.alloc (.cells #[.slice none 0 0] 49)).alloc (.cells #[.slice none 0 0] 49)).heap.size = gc + 2 := by rw [hgc]; simp
    have t1 := new_chan w1 (fun k => (fun _ : Nat => 0) k = 1) 49
    have t2 := new_chan (w1.alloc (.cells #[.slice none 0 0] 49)) (fun k => (fun _ : Nat => 0) k = 2) 49
    have t3 := new_chan ((w1.alloc (.cells #[.slice none 0 0] 49)).alloc (.cells #[.slice none 0 0] 49)) (fun k => (fun _ : Nat => 0) k = 3) 52
    rw [← hgc] at t1
    rw [s1] at t2
    rw [s2] at t3
    refine ⟨⟨fun _ => 0, none, 0, none, 0, none, 0, (t1.below (below_alloc (Below.refl _ _) _)).below (below_alloc (Below.refl _ _) _), t2.below (below_alloc (Below.refl _ _) _), t3, rfl, rfl, rfl, by omega, by omega⟩, ((hb.alloc hb.size _).alloc (by rw [s1]; have := hb.size; omega) _).alloc (by rw [s2]; have := hb.size; omega) _, ⟨by decide, fun x hx => by cases hx⟩, ⟨by decide, fun x hx => by cases hx⟩⟩⟩
  have HG := Aside0.mk (show w.heap.size ≤ gc by have := hb.size; omega)
  clear hb
  go_wp2
  rw [← hgc]
  clear hgc
  go_loopg [7, 8, 9, 10, 11, 12, 13, 14, 15, 16] (n + 1) (fun kq v7 v8 v9 v10 v11 v12 v13 v14 v15 v16 w' => ∃ (k : Nat) (l lo : List NoteT), v7 = .int .i64 (k : Int) ∧ Aside0 (Rnd w w' gc (gc + 1) (gc + 2) k l lo) ∧ Aside0 (k ≤ n) ∧ Aside0 (n < kq + k))
  case atStart => exact ⟨0, [], [], rfl, HT, ⟨by omega⟩, ⟨by omega⟩⟩
  case round =>
    obtain ⟨k, l, lo, rfl, hRn, hkn, hkq⟩ := hrel
    by_cases h : k < n
    · have hb1 : (k : Int) < (n : Int) := by omega
      have hnb : (n : Int) ≤ 200 := by have := HN.out; omega
      have hk : k < xs.length := by have := HX.out; omega
      obtain ⟨⟨col, A1, c1, A2, c2, A3, c3, hT⟩, hB, hs1, hs2⟩ := hRn.out
      obtain ⟨ad, A5, c5, rfl, o0, o1, o2, o3, o4, o5, hC⟩ := act_at HR.out k hk
      have hfx := HF.out _ (List.getElem_mem hk)
      obtain ⟨x, hx⟩ : ∃ x, x = xs[k] := ⟨_, rfl⟩
      obtain ⟨way, N, x⟩ := x
      rw [← hx] at o0 o1 o2 o3 o4 o5 hC hfx
      dsimp only at o0 o1 o2 o3 o4 o5 hC hfx
      obtain ⟨L, hL⟩ : ∃ L, L = x.2.2.2.length := ⟨_, rfl⟩
      have HL := Aside0.mk hL
      rw [← hL] at o5 hC
      have HC0 := Aside0.mk (fun (W : World) (hW : Below w.heap.size w W) => Kd.C_below hC hW)
      have p0 := pw_cell_below hB o0
      have p1 := pw_cell_below hB o1
      have p2 := pw_cell_below hB o2
      have p3 := pw_cell_below hB o3
      have p4 := pw_cell_below hB o4
      have p5 := pw_cell_below hB o5
      have HFX := Aside0.mk hfx
      have HT := Aside0.mk hT
      have HB := Aside0.mk hB
      have HS := Aside0.mk (And.intro hs1 hs2)
      clear hC hfx hx hL hk o0 o1 o2 o3 o4 o5 hT hB hs1 hs2 hRn
      by_cases h10 : 10 < L
      · have h10' : (10 : Int) < (L : Int) := by omega
        go_wp2
        go_ret
        exact ⟨rfl, HB.out.alloc HB.out.size _⟩
      · have h10' : ¬ (10 : Int) < (L : Int) := by omega
        go_wp2_with fail
        have hbx := t3_box HT.out (.cells #[.int .i64 way, .int .i64 N, .int .i64 x.1, .int .i64 x.2.1, .bool x.2.2.1, .slice A5 L c5] 54)
        obtain ⟨gb, hgb⟩ : ∃ g, g = wr.heap.size := ⟨_, rfl⟩
        obtain ⟨W1, hW1⟩ : ∃ W, W = wr.alloc (.cells #[.int .i64 way, .int .i64 N, .int .i64 x.1, .int .i64 x.2.1, .bool x.2.2.1, .slice A5 L c5] 54) := ⟨_, rfl⟩
        have hB1 : Below w.heap.size w W1 := by rw [hW1]; exact HB.out.alloc HB.out.size _
        rw [← hW1, ← hgb] at hbx
        obtain ⟨col1, hcol1⟩ : ∃ q, q = recol col gb 0 := ⟨_, rfl⟩
        rw [← hcol1] at hbx
        rw [← hW1]
        rw [← hgb]
        have hL10 : L ≤ 10 := by omega
        refine (op_send_o col1 W1 gc (gc + 1) (gc + 2) A1 A2 A3 c1 c2 c3 l lo l hbx.1 A5 c5 L x HL.out (HC0.out W1 hB1) hL10 HFX.out).mono ?_
        rintro e w2 ⟨rfl, ha⟩
        have hbx2 := ha.box hbx.2
        obtain ⟨col2, hcol2⟩ : ∃ q, q = recol col1 W1.heap.size 2 := ⟨_, rfl⟩
        obtain ⟨A1', c1', A2', c2', A3', c3', hT2⟩ := ha.t
        rw [← hcol2] at hbx2 hT2
        have HT2 := Aside0.mk hT2
        have HX2 := Aside0.mk hbx2
        have HB2 := Aside0.mk (hB1.trans (ha.b.mono HG.out))
        have HSL := Aside0.mk (small_send HS.out.2 (show x.2.2.2.length ≤ 10 ∧ Fits x.2.2.2 from ⟨by rw [← HL.out]; exact hL10, HFX.out⟩))
        have HL10 := Aside0.mk hL10
        obtain ⟨mk, hmk⟩ : ∃ mk, gk = mk + 1 := ⟨gk - 1, by have := hkq.out; omega⟩
        have HKQ := Aside0.mk (show n < mk + (k + 1) by have := hkq.out; omega)
        obtain ⟨z0, z1, z2, z3, z4, z5⟩ := box6 hbx2.blk
        clear hW1 hgb hcol1 hcol2 hbx hbx2 ha hT2 hB1 hL10 p0 p1 p2 p3 p4 p5 hkq
        by_cases way0 : way = 0
        · subst way0
          have HLB := Aside0.mk (show L * 64 ≤ 140737488355328 by have := HL10.out; omega)
          go_wp2_with fail
          have hcn := copynote_any w2 A5 c5 x (by rw [← HL.out]; exact HC0.out w2 HB2.out) (by rw [← HL.out]; exact HLB.out) HFX.out
          rw [← HL.out] at hcn
          unfold noteV at hcn
          refine hcn.mono ?_
          rintro e w3 ⟨A6, c6, rfl, h6, hb6⟩
          obtain ⟨g9, hg9⟩ : ∃ q, q = w3.heap.size := ⟨_, rfl⟩
          obtain ⟨W3, hW3⟩ : ∃ W, W = w3.alloc (.cells #[.int .i64 x.1, .int .i64 x.2.1, .bool x.2.2.1, .slice A6 L c6] 31) := ⟨_, rfl⟩
          have hbW3 : Below w3.heap.size w3 W3 := by rw [hW3]; exact below_alloc (Below.refl _ _) _
          have hb23 : Below w2.heap.size w2 W3 := hb6.trans (hbW3.mono hb6.size)
          obtain ⟨col3, hcol3⟩ : ∃ q, q = recol col2 w2.heap.size 0 := ⟨_, rfl⟩
          have hT3 : T3 col3 W3 gc (gc + 1) (gc + 2) A1' c1' l A2' c2' (sendN lo x) A3' c3' l := by rw [hcol3]; exact (HT2.out.recol 0).below hb23
          have hX3 : Bx col3 W3 gc (gc + 1) (gc + 2) gb (.cells #[.int .i64 0, .int .i64 N, .int .i64 x.1, .int .i64 x.2.1, .bool x.2.2.1, .slice A5 L c5] 54) := ⟨by rw [hcol3]; exact (recol_old (blk_lt HX2.out.blk)).trans HX2.out.z, HX2.out.nc, HX2.out.no, HX2.out.nr, blk_below HX2.out.blk hb23⟩
          have hlt := HT2.out.r.lt
          have hN9 : Bx col3 W3 gc (gc + 1) (gc + 2) g9 (.cells #[.int .i64 x.1, .int .i64 x.2.1, .bool x.2.2.1, .slice A6 L c6] 31) := by
            have := hb6.size
            refine ⟨by rw [hcol3]; exact recol_new (by omega), by omega, by omega, by omega, ?_⟩
            rw [hW3, hg9]
            exact blk_new _ _
          have HR6 := Aside0.mk (Kd.R_below h6 hbW3)
          have HNB : Aside0 (∀ b, A6 = some ⟨b, 0, none⟩ → ∃ cs : Array Value, Bx col3 W3 gc (gc + 1) (gc + 2) b (.cells cs 38 (0, 0)) ∧ L * 5 ≤ cs.size) := ⟨fun b e => by
            subst e
            obtain ⟨cs, hb, hs⟩ := row_cells HR6.out
            have hbb : w2.heap.size ≤ b := Kd.R_base h6 b rfl
            exact ⟨cs, ⟨by rw [hcol3]; exact recol_new hbb, by omega, by omega, by omega, hb⟩, hs⟩⟩
          have HC6 : Aside0 (kPut.C W3 A6 L x.2.2.2) := ⟨by
            have h9 := R_readsC HR6.out
            rw [← HL.out] at h9
            exact h9⟩
          have HT3 := Aside0.mk hT3
          have HX3 := Aside0.mk hX3
          have HN9 := Aside0.mk hN9
          have HB3 := Aside0.mk (HB2.out.trans (hb23.mono HB2.out.size))
          clear hcn h6 hb6 hbW3 hb23 hcol3 hT3 hX3 hlt hN9 z0 z1 z2 z3 z4 z5
          go_wp2_with fail
          rw [← hW3, ← hg9]
          refine (op_send_c col3 W3 gc (gc + 1) (gc + 2) A1' A2' A3' c1' c2' c3' l (sendN lo x) l HT3.out A6 c6 L x HL.out HC6.out HL10.out HFX.out).mono ?_
          rintro e w4 ⟨rfl, ha4⟩
          have hX4 := ha4.box HX3.out
          have hN4 := ha4.box HN9.out
          obtain ⟨A1a, c1a, A2a, c2a, A3a, c3a, hT4⟩ := ha4.t
          have HNB4 : Aside0 (∀ b, A6 = some ⟨b, 0, none⟩ → ∃ cs : Array Value, Bx (recol col3 W3.heap.size 1) w4 gc (gc + 1) (gc + 2) b (.cells cs 38 (0, 0)) ∧ L * 5 ≤ cs.size) := ⟨fun b e => by
            obtain ⟨cs, h1, h2⟩ := HNB.out b e
            exact ⟨cs, ha4.box h1, h2⟩⟩
          have HT4 := Aside0.mk hT4
          have HX4 := Aside0.mk hX4
          have HN4 := Aside0.mk hN4
          have HB4 := Aside0.mk (HB3.out.trans (ha4.b.mono HG.out))
          obtain ⟨z0, z1, z2, z3, z4, z5⟩ := box6 hX4.blk
          clear ha4 hT4 hX4 hN4 hW3
          go_wp2_with fail
          refine (op_send_r _ w4 gc (gc + 1) (gc + 2) A1a A2a A3a c1a c2a c3a (sendN l x) (sendN lo x) l HT4.out A5 c5 L x HL.out (HC0.out w4 HB4.out) HL10.out HFX.out).mono ?_
          rintro e w5 ⟨rfl, ha5⟩
          have hN5 := ha5.box HN4.out
          obtain ⟨A1b, c1b, A2b, c2b, A3b, c3b, hT5⟩ := ha5.t
          have HNB5 : Aside0 (∀ b, A6 = some ⟨b, 0, none⟩ → ∃ cs : Array Value, Bx (recol (recol col3 W3.heap.size 1) w4.heap.size 3) w5 gc (gc + 1) (gc + 2) b (.cells cs 38 (0, 0)) ∧ L * 5 ≤ cs.size) := ⟨fun b e => by
            obtain ⟨cs, h1, h2⟩ := HNB4.out b e
            exact ⟨cs, ha5.box h1, h2⟩⟩
          obtain ⟨col5, hcol5⟩ : ∃ q, q = recol (recol col3 W3.heap.size 1) w4.heap.size 3 := ⟨_, rfl⟩
          rw [← hcol5] at HNB5 hT5 hN5
          have HT5 := Aside0.mk hT5
          have HN5 := Aside0.mk hN5
          have HB5 := Aside0.mk (HB4.out.trans (ha5.b.mono HG.out))
          have HSC := Aside0.mk (small_send HS.out.1 (show x.2.2.2.length ≤ 10 ∧ Fits x.2.2.2 from ⟨by rw [← HL.out]; exact HL10.out, HFX.out⟩))
          have hne9 : ∀ b, A6 = some ⟨b, 0, none⟩ → b ≠ g9 := fun b e h9 => by
            obtain ⟨cs, h1, h2⟩ := HNB5.out b e
            have h3 := h1.blk
            rw [h9, HN5.out.blk] at h3
            injection h3 with h3
            injection h3 with _ h3
            exact absurd h3 (by decide)
          clear ha5 hT5 hN5 hcol5 z0 z1 z2 z3 z4 z5
          go_wp2_with fail
          rw [← hg9]
          have HNE := Aside0.mk hne9
          have hS2 : ∀ j, A6 = some ⟨j, 0, none⟩ → col5 j = 0 ∧ j ≠ gc ∧ j ≠ gc + 1 ∧ j ≠ gc + 2 := fun j hj => by
            obtain ⟨cs, h1, h2⟩ := HNB5.out j hj
            exact ⟨h1.z, h1.nc, h1.no, h1.nr⟩
          have HS2 := Aside0.mk hS2
          have HGE : Aside0 (∀ j, A6 = some ⟨j, 0, none⟩ → w.heap.size ≤ j) := ⟨fun j hj => by
            subst hj
            have h1 : w2.heap.size ≤ j := Kd.R_base HR6.out j rfl
            have := HB2.out.size
            omega⟩
          have HCS : Aside0 (∀ b, A6 = some ⟨b, 0, none⟩ → ∃ cs : Array Value, w5.heap[b]? = some (.cells cs 38 (0, 0)) ∧ L * 5 ≤ cs.size) := ⟨fun b hb => by
            obtain ⟨cs, h1, h2⟩ := HNB5.out b hb
            exact ⟨cs, h1.blk, h2⟩⟩
          have HL10' := HL10.out
          clear hg9 hne9 hS2
          go_loopg [10] (L + 1) (fun kq v10 w' => ∃ (j : Nat), v10 = .int .i64 (j : Int) ∧ Aside0 (Kept w5 w' (fun b => A6 = some ⟨b, 0, none⟩)) ∧ Aside0 (Below w.heap.size w w') ∧ Aside0 (j ≤ L) ∧ Aside0 (L < kq + j) ∧ Aside0 (∀ b, A6 = some ⟨b, 0, none⟩ → ∃ cs : Array Value, w'.heap[b]? = some (.cells cs 38 (0, 0)) ∧ L * 5 ≤ cs.size))
          case atStart => exact ⟨0, rfl, ⟨Kept.refl _ _⟩, HB5, ⟨by omega⟩, ⟨by omega⟩, HCS⟩
          case round =>
            obtain ⟨j, rfl, hK, hB, hjl, hjq, hcs⟩ := hrel
            have hx9 := blk_kept HN5.out.blk hK.out (fun h9 => HNE.out _ h9 rfl)
            obtain ⟨_, _, _, q3⟩ := box4 hx9
            by_cases hjL : j < L
            · have hb2 : (j : Int) < (L : Int) := by omega
              have hbl : (L : Int) ≤ 10 := by omega
              obtain ⟨b, rfl⟩ := R_pos HR6.out (by rw [← HL.out]; omega)
              obtain ⟨cs, hbk, hsz⟩ := hcs.out b rfl
              have hb : wr.cell? ⟨b, j * 5, none⟩ = some (cs[j * 5]'(by omega)) := by rw [blk_cell hbk, Array.getElem?_eq_getElem (by omega)]
              have hbf := blk_frozen hbk (j * 5)
              have HBK := Aside0.mk hbk
              have HSB := Aside0.mk hsz
              obtain ⟨cu, hcu⟩ : ∃ u, u = cs[j * 5]'(by omega) := ⟨_, rfl⟩
              rw [← hcu] at hb
              clear hbk hx9 hsz hcu
              go_wp2
              obtain ⟨mj, hmj⟩ : ∃ mj, gk = mj + 1 := ⟨gk - 1, by have := hjq.out; omega⟩
              go_roundg mj
              case measure => omega
              case rel =>
                refine ⟨j + 1, by go_num, ⟨hK.out.setCell (p := ⟨b, j * 5, none⟩) (.inl rfl) _⟩, ⟨hB.out.setCell (p := ⟨b, j * 5, none⟩) (HGE.out b rfl) _⟩, ⟨by omega⟩, ⟨by have := hjq.out; omega⟩, ⟨fun b' e => ?_⟩⟩
                injection e with e
                injection e with e _ _
                subst e
                exact ⟨_, blk_put HBK.out (j * 5) _ rfl, by have := HSB.out; simpa using this⟩
            · have hb2 : ¬ (j : Int) < (L : Int) := by omega
              have HT6 := Aside0.mk (HT5.out.kept hK.out HS2.out)
              clear hx9 hcs hK
              go_wp2_with fail
              have hcg : wr.cell? ⟨gc + 1 + 1, 0, none⟩ = some (.slice A3b ((sendN l x)).length c3b) := HT6.out.r.cell
              go_quiet ((go_at_call 25; exact Calls.quiet_of_same (len_quiet (HT6.out.c.below ((Drawn0.refl _).step _).below))))
              go_wp2
              go_roundg mk
              case measure => omega
              case rel => exact ⟨k + 1, (sendN l x), (sendN lo x), by go_num, ⟨⟨_, _, _, _, _, _, _, HT6.out.below ((Drawn0.refl _).step _).below⟩, pw_below_drewN hB.out _, HSC.out, HSL.out⟩, ⟨by omega⟩, HKQ⟩
        · by_cases way1 : way = 1
          · subst way1
            have HL1 := Aside0.mk (show l.length ≤ 1000 by have := HS.out.1.1; omega)
            go_wp2_with fail
            refine (op_give_c col2 w2 gc (gc + 1) (gc + 2) A1' A2' A3' c1' c2' c3' l (sendN lo x) l HT2.out N HL1.out).mono ?_
            rintro e w3 ⟨A6, c6, rfl, hR6, ha3⟩
            have hbx3 := ha3.box HX2.out
            obtain ⟨A1a, c1a, A2a, c2a, A3a, c3a, hT3⟩ := ha3.t
            obtain ⟨y, hy⟩ : ∃ y, y = gX l N := ⟨_, rfl⟩
            rw [← hy] at hR6 ⊢
            obtain ⟨yl, hyl⟩ : ∃ q, q = y.2.2.2.length := ⟨_, rfl⟩
            rw [← hyl] at hR6 ⊢
            have HB3 := Aside0.mk (HB2.out.trans (ha3.b.mono HG.out))
            obtain ⟨gq, hgq⟩ : ∃ q, q = w3.heap.size := ⟨_, rfl⟩
            obtain ⟨W3, hW3⟩ : ∃ W, W = w3.alloc (.cells #[.int .i64 y.1, .int .i64 y.2.1, .bool y.2.2.1, .slice A6 yl c6] 31) := ⟨_, rfl⟩
            have hbW3 : Below w3.heap.size w3 W3 := by rw [hW3]; exact below_alloc (Below.refl _ _) _
            have hq := t3_box hT3 (.cells #[.int .i64 y.1, .int .i64 y.2.1, .bool y.2.2.1, .slice A6 yl c6] 31)
            rw [← hW3, ← hgq] at hq
            have HT3 := Aside0.mk hq.1
            have HQ3 := Aside0.mk hq.2
            have HR6 := Aside0.mk (Kd.R_below hR6 hbW3)
            have HB4 := Aside0.mk (HB3.out.trans (hbW3.mono HB3.out.size))
            have HY := Aside0.mk (And.intro hy hyl)
            have z1a : (w3.alloc (.cells #[.int .i64 y.1, .int .i64 y.2.1, .bool y.2.2.1, .slice A6 yl c6] 31)).cell? ⟨gb, 1, none⟩ = some (.int .i64 N) := by rw [← hW3]; exact (box6 (blk_below hbx3.blk hbW3)).2.1
            clear ha3 hbx3 hT3 hR6 hbW3 hq hy hyl z0 z1 z2 z3 z4 z5
            go_wp2_with fail
            rw [← hW3, ← hgq]
            refine (op_give_r _ W3 gc (gc + 1) (gc + 2) A1a A2a A3a c1a c2a c3a (gL l N) (sendN lo x) l HT3.out N HL1.out).mono ?_
            rintro e w5 ⟨A7, c7, rfl, hC7, ha5, hk5⟩
            rw [← HY.out.1] at hC7 ⊢
            rw [← HY.out.2] at hC7 ⊢
            have hC6 : kPut.C w5 A6 yl y.2.2.2 := by
              have h9 := R_readsC (Kd.R_kept HR6.out hk5 (fun k hk h9 => by have h8 : k = gc + 2 := h9; have h7 : col2 k = 1 := hk; have h6 := HT2.out.zr; rw [h8] at h7; omega))
              rw [← HY.out.2] at h9
              exact h9
            have hbq := ha5.box HQ3.out
            obtain ⟨A1b, c1b, A2b, c2b, A3b, c3b, hT5⟩ := ha5.t
            have HB5 := Aside0.mk (HB4.out.trans (ha5.b.mono HG.out))
            have HCC := Aside0.mk (And.intro hC6 hC7)
            have HT5 := Aside0.mk hT5
            obtain ⟨b0, b1, b2, b3⟩ := box4 hbq.blk
            have a0 : ∀ o, (w5.alloc o).cell? ⟨w3.heap.size, 0, none⟩ = some (.int .i64 y.1) := fun o => by rw [← hgq]; exact Lib.cell?_alloc_some o b0
            have a1 : ∀ o, (w5.alloc o).cell? ⟨w3.heap.size, 1, none⟩ = some (.int .i64 y.2.1) := fun o => by rw [← hgq]; exact Lib.cell?_alloc_some o b1
            have a2 : ∀ o, (w5.alloc o).cell? ⟨w3.heap.size, 2, none⟩ = some (.bool y.2.2.1) := fun o => by rw [← hgq]; exact Lib.cell?_alloc_some o b2
            have a3 : ∀ o, (w5.alloc o).cell? ⟨w3.heap.size, 3, none⟩ = some (.slice A6 yl c6) := fun o => by rw [← hgq]; exact Lib.cell?_alloc_some o b3
            have HSG := Aside0.mk (small_gL (i := N) HS.out.1)
            clear hW3 z1a hC7 ha5 hk5 hC6 hbq hT5 b0 b1 b2 b3
            go_wp2_with fail
            refine (samenote_any _ A6 A7 yl c6 c7 y.1 y.2.1 y.2.2.1 y.2.2.2 (Kd.C_alloc HCC.out.1 _) (Kd.C_alloc HCC.out.2 _)).mono ?_
            rintro e w6 ⟨rfl, hb6⟩
            have HT6 := Aside0.mk ((HT5.out.below (below_alloc (Below.refl _ _) _)).below hb6)
            have HB6 := Aside0.mk ((HB5.out.alloc HB5.out.size _).trans (hb6.mono (Nat.le_trans HB5.out.size (by simp))))
            clear hb6 a0 a1 a2 a3
            go_wp2_with fail
            have hcg : w6.cell? ⟨gc + 1 + 1, 0, none⟩ = some (.slice A3b (gL l N).length c3b) := HT6.out.r.cell
            go_quiet ((go_at_call 25; exact Calls.quiet_of_same (len_quiet (HT6.out.c.below ((Drawn0.refl _).step _).below))))
            go_wp2
            go_roundg mk
            case measure => omega
            case rel => exact ⟨k + 1, gL l N, (sendN lo x), by go_num, ⟨⟨_, _, _, _, _, _, _, HT6.out.below ((Drawn0.refl _).step _).below⟩, pw_below_drewN HB6.out _, HSG.out, HSL.out⟩, ⟨by omega⟩, HKQ⟩
          · by_cases way2 : way = 2
            · subst way2
              go_wp2_with fail
              refine (op_give_r col2 w2 gc (gc + 1) (gc + 2) A1' A2' A3' c1' c2' c3' l (sendN lo x) l HT2.out N (by have := HS.out.1.1; omega)).mono ?_
              rintro e w3 ⟨A6, c6, rfl, hC6, ha, hk6⟩
              have hbx3 := ha.box HX2.out
              obtain ⟨col3, hcol3⟩ : ∃ q, q = recol col2 w2.heap.size 3 := ⟨_, rfl⟩
              obtain ⟨A1a, c1a, A2a, c2a, A3a, c3a, hT3⟩ := ha.t
              rw [← hcol3] at hbx3 hT3
              have HB3 := Aside0.mk (HB2.out.trans (ha.b.mono HG.out))
              obtain ⟨y, hy⟩ : ∃ y, y = gX l N := ⟨_, rfl⟩
              rw [← hy]
              obtain ⟨yl, hyl⟩ : ∃ q, q = y.2.2.2.length := ⟨_, rfl⟩
              rw [← hyl]
              obtain ⟨W3, hW3⟩ : ∃ W, W = w3.alloc (.cells #[.int .i64 y.1, .int .i64 y.2.1, .bool y.2.2.1, .slice A6 yl c6] 31) := ⟨_, rfl⟩
              have hbW3 : Below w3.heap.size w3 W3 := by rw [hW3]; exact below_alloc (Below.refl _ _) _
              have HT3 := Aside0.mk (hT3.below hbW3)
              have HX3 := Aside0.mk (hbx3.below hbW3)
              have HB4 := Aside0.mk (HB3.out.trans (hbW3.mono HB3.out.size))
              have z1a : (w3.alloc (.cells #[.int .i64 y.1, .int .i64 y.2.1, .bool y.2.2.1, .slice A6 yl c6] 31)).cell? ⟨gb, 1, none⟩ = some (.int .i64 N) := by rw [← hW3]; exact (box6 HX3.out.blk).2.1
              clear hk6 hC6 ha hbx3 hcol3 hT3 hy hyl hbW3 z0 z1 z2 z3 z4 z5
              go_wp2_with fail
              rw [← hW3]
              refine (op_lose_c col3 W3 gc (gc + 1) (gc + 2) A1a A2a A3a c1a c2a c3a l (sendN lo x) (gL l N) HT3.out N (by have := HS.out.1.1; omega)).mono ?_
              rintro e w5 ⟨rfl, ha⟩
              obtain ⟨A1b, c1b, A2b, c2b, A3b, c3b, hT5⟩ := ha.t
              have HT5 := Aside0.mk hT5
              have HB5 := Aside0.mk (HB4.out.trans (ha.b.mono HG.out))
              have HSG := Aside0.mk (small_gL (i := N) HS.out.1)
              clear ha hT5 hW3 z1a
              go_wp2_with fail
              have hcg : w5.cell? ⟨gc + 1 + 1, 0, none⟩ = some (.slice A3b (gL l N).length c3b) := HT5.out.r.cell
              go_quiet ((go_at_call 25; exact Calls.quiet_of_same (len_quiet (HT5.out.c.below ((Drawn0.refl _).step _).below))))
              go_wp2
              go_roundg mk
              case measure => omega
              case rel => exact ⟨k + 1, gL l N, (sendN lo x), by go_num, ⟨⟨_, _, _, _, _, _, _, HT5.out.below ((Drawn0.refl _).step _).below⟩, pw_below_drewN HB5.out _, HSG.out, HSL.out⟩, ⟨by omega⟩, HKQ⟩
            · by_cases way3 : way = 3
              · subst way3
                go_wp2_with fail
                have hN1 : w2.cell? ⟨gb, 1, none⟩ = some (.int .i64 N) := z1
                have hN2 : w2.drew.cell? ⟨gb, 1, none⟩ = some (.int .i64 N) := z1
                have HL1 := Aside0.mk (show l.length ≤ 1000 by have := HS.out.1.1; omega)
                clear z0 z1 z2 z3 z4 z5
                go_region_held3 (fun w' => w'.cell? ⟨gb, 1, none⟩ = some (.int .i64 N)) (first | assumption | exact hN1 | exact hN2) (first | (go_at_call 23; refine (op_double_c col2 _ gc (gc + 1) (gc + 2) A1' A2' A3' c1' c2' c3' l (sendN lo x) l (by first | exact HT2.out | exact HT2.out.below (below_drew (Below.refl _ _))) N HL1.out HS.out.1.2).mono ?_; rintro e w3 ⟨rfl, ha3⟩; have hbx3 := ha3.box (by first | exact HX2.out | exact HX2.out.below (below_drew (Below.refl _ _))); have hS' := (box6 hbx3.blk).2.1; obtain ⟨A1a, c1a, A2a, c2a, A3a, c3a, hT3⟩ := ha3.t; have HT3 := Aside0.mk hT3; have HX3 := Aside0.mk hbx3; have HB3 := Aside0.mk (HB2.out.trans ((below_drew (Below.refl gc w2)).trans (ha3.b.mono (Nat.le_refl gc)) |>.mono HG.out)); clear ha3 hT3 hbx3) | (go_at_call 24; refine (op_double_r _ w3 gc (gc + 1) (gc + 2) A1a A2a A3a c1a c2a c3a (gD l N) (sendN lo x) l HT3.out N HL1.out HS.out.1.2).mono ?_; rintro e w4 ⟨rfl, ha4⟩; have hbx4 := ha4.box HX3.out; have hS'' := (box6 hbx4.blk).2.1; obtain ⟨A1b, c1b, A2b, c2b, A3b, c3b, hT4⟩ := ha4.t; have HT4 := Aside0.mk hT4; have HB4 := Aside0.mk (HB3.out.trans (ha4.b.mono HG.out)); clear ha4 hT4 hbx4))
                have HSD := Aside0.mk (small_gD (i := N) HS.out.1)
                clear hN1 hN2 hS' hS''
                go_wp2_with fail
                have hcg : w4.cell? ⟨gc + 1 + 1, 0, none⟩ = some (.slice A3b (gD l N).length c3b) := HT4.out.r.cell
                go_quiet ((go_at_call 25; exact Calls.quiet_of_same (len_quiet (HT4.out.c.below ((Drawn0.refl _).step _).below))))
                go_wp2
                go_roundg mk
                case measure => omega
                case rel => exact ⟨k + 1, gD l N, (sendN lo x), by go_num, ⟨⟨_, _, _, _, _, _, _, HT4.out.below ((Drawn0.refl _).step _).below⟩, pw_below_drewN HB4.out _, HSD.out, HSL.out⟩, ⟨by omega⟩, HKQ⟩
              · have d0 : (way == 0) = false := by simpa using way0
                have d1 : (way == 1) = false := by simpa using way1
                have d2 : (way == 2) = false := by simpa using way2
                have d3 : (way == 3) = false := by simpa using way3
                go_wp2_with fail
                have hcg : w2.cell? ⟨gc + 1 + 1, 0, none⟩ = some (.slice A3' (l).length c3') := HT2.out.r.cell
                go_quiet ((go_at_call 25; exact Calls.quiet_of_same (len_quiet (HT2.out.c.below ((Drawn0.refl _).step _).below))))
                go_wp2
                go_roundg mk
                case measure => omega
                case rel => exact ⟨k + 1, l, (sendN lo x), by go_num, ⟨⟨_, _, _, _, _, _, _, HT2.out.below ((Drawn0.refl _).step _).below⟩, pw_below_drewN HB2.out _, small_more HS.out.1, HSL.out⟩, ⟨by omega⟩, HKQ⟩
    · have hb1 : ¬ (k : Int) < (n : Int) := by omega
      go_wp2
      go_ret
      exact ⟨rfl, hRn.out.2.1⟩
end Go.Proofs.Ytfohlaeahageaaa.Edge
