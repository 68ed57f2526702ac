/- AgentPlays: whole. -/
import Derived.Test.YtfohlaeahageaaaAgentP
import Derived.Test.YtfohlaeahageaaaAgentAlive
import Derived.Test.YtfohlaeahageaaaSame
namespace Go.Proofs.Ytfohlaeahageaaa.Edge
open Go.RowKit Go.Proofs.YtfohlaeahageaaaW.PrintWords Go.Proofs.YtfohlaeahageaaaW.PrintMore Go.Proofs.YtfohlaeahageaaaW.PrintLast

/-- A note of a row that is read. -/
theorem note_at {w : World} {A : Option Addr} {n : Nat} {xs : List NoteT} (h : kNote.C w A n xs) (i : Nat) (hi : i < xs.length) : ∃ ad B c, A = some ad ∧ w.cell? (ad.add (i * 4)) = some (.int .i64 xs[i].1) ∧ w.cell? ⟨(ad.add (i * 4)).block, (ad.add (i * 4)).off + 1, none⟩ = some (.int .i64 xs[i].2.1) ∧ w.cell? ⟨(ad.add (i * 4)).block, (ad.add (i * 4)).off + 2, none⟩ = some (.bool xs[i].2.2.1) ∧ w.cell? ⟨(ad.add (i * 4)).block, (ad.add (i * 4)).off + 3, none⟩ = some (.slice B xs[i].2.2.2.length c) ∧ kPut.C w B xs[i].2.2.2.length xs[i].2.2.2 := by
  have hn : xs.length = n := h.1
  obtain ⟨ad, cs, e, hl, hK, hc⟩ := Kd.C_get h xs[i] (i : Int) (by omega) (by omega)
  rw [Int.toNat_natCast] at hK hc
  have e1 : xs.getD i xs[i] = xs[i] := by simp [List.getD_eq_getElem?_getD, hi]
  rw [e1] at hK
  obtain ⟨c0, _, e2, e3, c1, _, rfl, e4, c2, c3, rfl, e5, B, c, e6, _, hC⟩ := hK
  have e3' : c0 = [.int .i64 xs[i].1] := e3
  have e4' : c1 = [.int .i64 xs[i].2.1] := e4
  have e5' : c2 = [.bool xs[i].2.2.1] := e5
  subst e3' e4' e5' e6 e2
  refine ⟨ad, B, c, e, hc 0 _ rfl, ?_, ?_, ?_, hC⟩
  · rw [← add_field ad (i * 4) 1 (by decide)]; exact hc 1 _ rfl
  · rw [← add_field ad (i * 4) 2 (by decide)]; exact hc 2 _ rfl
  · rw [← add_field ad (i * 4) 3 (by decide)]; exact hc 3 _ rfl
theorem R_C {α : Type} {d : Kd α} {e B n c : Nat} {ok : Nat → Prop} {w : World} {A : Option Addr} {xs : List α} (h : d.R e w B ok (.slice A n c) xs) : d.C w A xs.length xs := by
  obtain ⟨A', c', e, _, hC⟩ := Kd.R_reads h
  injection e with e1 e2 e3
  subst e1
  exact hC
theorem keep_ten {wr w w' : World} {p0 p1 p2 p3 p4 p5 p6 p7 p8 p9 : Addr} {v0 v1 v2 v3 v4 v5 v6 v7 v8 v9 : Value} (hb : Below w.heap.size w w') (x : Below wr.heap.size wr w ∧ w.cell? p0 = some v0 ∧ w.cell? p1 = some v1 ∧ w.cell? p2 = some v2 ∧ w.cell? p3 = some v3 ∧ w.cell? p4 = some v4 ∧ w.cell? p5 = some v5 ∧ w.cell? p6 = some v6 ∧ w.cell? p7 = some v7 ∧ w.cell? p8 = some v8 ∧ w.cell? p9 = some v9) : Below wr.heap.size wr w' ∧ w'.cell? p0 = some v0 ∧ w'.cell? p1 = some v1 ∧ w'.cell? p2 = some v2 ∧ w'.cell? p3 = some v3 ∧ w'.cell? p4 = some v4 ∧ w'.cell? p5 = some v5 ∧ w'.cell? p6 = some v6 ∧ w'.cell? p7 = some v7 ∧ w'.cell? p8 = some v8 ∧ w'.cell? p9 = some v9 := by
  obtain ⟨h, x0, x1, x2, x3, x4, x5, x6, x7, x8, x9⟩ := x
  exact ⟨below_step h hb, pw_cell_below hb x0, pw_cell_below hb x1, pw_cell_below hb x2, pw_cell_below hb x3, pw_cell_below hb x4, pw_cell_below hb x5, pw_cell_below hb x6, pw_cell_below hb x7, pw_cell_below hb x8, pw_cell_below hb x9⟩
/-- What is kept stays within what was given. -/
theorem step_small {nd ver : Int} {ps : List PutT} {x : NoteT} (h : ps.length ≤ 10 ∧ Fits ps) (hx : x.2.2.2.length ≤ 10 ∧ Fits x.2.2.2) : (stepA nd ver ps x).2.2.2.2.2.length ≤ 10 ∧ Fits (stepA nd ver ps x).2.2.2.2.2 := by
  unfold stepA
  split
  · exact h
  · split
    · exact hx
    · exact h
/-- A row's cells, as many as its length wants. -/
theorem row_cells {w : World} {B n c b : Nat} {xs : List PutT} (h : kPut.R 38 w B (fun _ => True) (.slice (some ⟨b, 0, none⟩) n c) xs) : ∃ cs : Array Value, w.heap[b]? = some (.cells cs 38 (0, 0)) ∧ n * 5 ≤ cs.size := by
  obtain ⟨cs, hb⟩ := Kd.R_typed h b rfl
  refine ⟨cs, hb, ?_⟩
  rcases Nat.eq_zero_or_pos n with h0 | h0
  · omega
  · obtain ⟨c5, hl, hM, hc⟩ := Kd.R_getA h (xs.getD 0 (⟨#[]⟩, 0, 0, [], false)) ((n - 1 : Nat) : Int) (by omega) (by omega)
    obtain ⟨A2, m, e, _, hC⟩ := put_K (kPut.K_of_M hM)
    subst e
    have h4 := hc 4 _ rfl
    rw [add_plain, blk_cell hb] at h4
    have := (Array.getElem?_eq_some_iff.1 h4).1
    have e9 : ((n - 1 : Nat) : Int).toNat * kPut.sz + 4 = (n - 1) * 5 + 4 := rfl
    omega
set_option maxRecDepth 100000 in
set_option maxHeartbeats 1000000 in
theorem aplays_long (w : World) (A : Option Addr) (n c : Nat) (nd : Int) (hn : 100 < n) (hm : n ≤ 9223372036854775807) :
    Calls Try.prog 3 #[.int .i64 nd, .slice A n c] w fun e w' => e = .returned (.bool true) ∧ Below w.heap.size w w' := by
  have h1 : (100 : Int) < (n : Int) := by omega
  go_enter Try.func3, Try.ntmps3
  go_wp2_with fail
  refine (agent_alive _).mono ?_
  rintro e w1 ⟨rfl, hb⟩
  have HB := Aside0.mk hb
  clear hb
  go_wp2
  go_ret
  exact ⟨rfl, HB.out⟩
set_option maxRecDepth 100000 in
set_option maxHeartbeats 16000000 in
theorem aplays_short (w : World) (A : Option Addr) (n c : Nat) (nd : Int) (xs : List NoteT) (hr : kNote.C w A n xs) (hn : n ≤ 100) (hf : ∀ x, x ∈ xs → Fits x.2.2.2) :
    Calls Try.prog 3 #[.int .i64 nd, .slice A n c] w fun e w' => e = .returned (.bool true) ∧ Below w.heap.size w w' := by
  have h1 : ¬ (100 : Int) < (n : Int) := by omega
  have hxn : xs.length = n := hr.1
  have HR := Aside0.mk hr
  have HN := Aside0.mk hn
  have HX := Aside0.mk hxn
  have HF := Aside0.mk hf
  clear hr hn hxn hf
  go_enter Try.func3, Try.ntmps3
  go_wp2_with fail
  refine (agent_alive _).mono ?_
  rintro e w1 ⟨rfl, hb⟩
  have HB := Aside0.mk hb
  clear hb
  go_wp2_with fail
  refine (new_any _ nd).mono ?_
  rintro e w2 ⟨rfl, ha, hb⟩
  have hsz := HB.out.size
  have hlt := blk_lt ha.blk
  obtain ⟨ga, hga⟩ : ∃ g, g = w1.heap.size := ⟨_, rfl⟩
  obtain ⟨gr, hgr⟩ : ∃ g, g = w2.heap.size := ⟨_, rfl⟩
  have HA : Aside0 (AgP (fun k => gr < k) 62 (w2.alloc (.cells #[.int .i64 nd, .int .i64 0, .slice none 0 0] 29)) ga nd 0 none 0 []) := ⟨by
    rw [hga]
    exact ⟨blk_alloc ha.blk _, Kd.R_nil _ _ _ _ _⟩⟩
  have HQ : Aside0 (AgP (fun k => gr < k) 29 (w2.alloc (.cells #[.int .i64 nd, .int .i64 0, .slice none 0 0] 29)) gr nd 0 none 0 []) := ⟨by
    rw [hgr]
    exact ⟨blk_new _ _, Kd.R_nil _ _ _ _ _⟩⟩
  have HB2 := Aside0.mk ((HB.out.trans (hb.mono hsz)).alloc (by omega) (.cells #[.int .i64 nd, .int .i64 0, .slice none 0 0] 29))
  have HG := Aside0.mk (show w.heap.size ≤ ga ∧ ga < gr by omega)
  rw [← hga]
  clear ha hb hsz hlt hga HB
  go_wp2
  rw [← hgr]
  clear hgr
  go_loopg [8, 9, 10, 11, 12, 13, 14] (n + 1) (fun kq v8 v9 v10 v11 v12 v13 v14 w' => ∃ (k : Nat) (ver : Int) (A1 : Option Addr) (c1 : Nat) (A2 : Option Addr) (c2 : Nat) (ps : List PutT), v8 = .int .i64 (k : Int) ∧ Aside0 (AgP (fun k => gr < k) 62 w' ga nd ver A1 c1 ps) ∧ Aside0 (AgP (fun k => gr < k) 29 w' gr nd ver A2 c2 ps) ∧ Aside0 (Below w.heap.size w w') ∧ Aside0 (ps.length ≤ 10 ∧ Fits ps) ∧ Aside0 (k ≤ n) ∧ Aside0 (n < kq + k))
  case atStart => exact ⟨0, 0, _, _, _, _, _, rfl, HA, HQ, HB2, ⟨by decide, nil_fits⟩, ⟨by omega⟩, ⟨by omega⟩⟩
  case round =>
    obtain ⟨k, ver, A1, c1, A2, c2, ps, rfl, hA, hQ, hB, hp, hkn, hkq⟩ := hrel
    by_cases h : k < n
    · have hb1 : (k : Int) < (n : Int) := by omega
      have hnb : (n : Int) ≤ 100 := by have := HN.out; omega
      have hk : k < xs.length := by have := HX.out; omega
      obtain ⟨ad, A3, c3, rfl, o0, o1, o2, o3, hC⟩ := note_at HR.out k hk
      have hfx := HF.out _ (List.getElem_mem hk)
      obtain ⟨x, hx⟩ : ∃ x, x = xs[k] := ⟨_, rfl⟩
      rw [← hx] at o0 o1 o2 o3 hC hfx
      obtain ⟨L, hL⟩ : ∃ L, L = x.2.2.2.length := ⟨_, rfl⟩
      have HL := Aside0.mk hL
      rw [← hL] at o3 hC
      have HC0 := Aside0.mk (fun (W : World) (hW : Below w.heap.size w W) => Kd.C_below hC hW)
      have HC := Aside0.mk (Kd.C_below hC hB.out)
      have p0 := pw_cell_below hB.out o0
      have p1 := pw_cell_below hB.out o1
      have p2 := pw_cell_below hB.out o2
      have p3 := pw_cell_below hB.out o3
      have HO := Aside0.mk (And.intro o0 (And.intro o1 (And.intro o2 o3)))
      have HFX := Aside0.mk hfx
      clear hC hfx hx hL hk o0 o1 o2 o3
      by_cases h10 : 10 < L
      · have h10' : (10 : Int) < (L : Int) := by omega
        go_wp2
        go_ret
        exact ⟨rfl, hB.out⟩
      · have h10' : ¬ (10 : Int) < (L : Int) := by omega
        have HLB := Aside0.mk (show L * 64 ≤ 140737488355328 by omega)
        go_wp2_with fail
        have hcn := copynote_any wr A3 c3 x (by rw [← HL.out]; exact HC.out) (by rw [← HL.out]; exact HLB.out) HFX.out
        rw [← HL.out] at hcn
        unfold noteV at hcn
        refine hcn.mono ?_
        rintro e w1' ⟨A4, c4, rfl, h4, hb4⟩
        clear hcn
        -- the copy's block
        have hS : ∀ j, A4 = some ⟨j, 0, none⟩ → wr.heap.size ≤ j ∧ j < w1'.heap.size := by
          rintro j rfl
          exact ⟨Kd.R_base h4 j rfl, by obtain ⟨cs, hc⟩ := Kd.R_typed h4 j rfl; exact blk_lt hc⟩
        obtain ⟨S, hSd⟩ : ∃ S : Nat → Prop, S = fun j => A4 = some ⟨j, 0, none⟩ := ⟨_, rfl⟩
        have hS2 : ∀ j, S j → wr.heap.size ≤ j ∧ j < w1'.heap.size := by rw [hSd]; exact hS
        obtain ⟨W1, hW1⟩ : ∃ W, W = w1'.alloc (.cells #[.int .i64 x.1, .int .i64 x.2.1, .bool x.2.2.1, .slice A4 L c4] 31) := ⟨_, rfl⟩
        have hbW : Below w1'.heap.size w1' W1 := by rw [hW1]; exact below_alloc (Below.refl _ _) _
        have hsz1 : W1.heap.size = w1'.heap.size + 1 := by rw [hW1]; simp
        have hbox : W1.heap[w1'.heap.size]? = some (.cells #[.int .i64 x.1, .int .i64 x.2.1, .bool x.2.2.1, .slice A4 L c4] 31 (0, 0)) := by rw [hW1]; exact blk_new _ _
        have hwr1 : Below wr.heap.size wr W1 := hb4.trans (hbW.mono hb4.size)
        have hA1 : AgP (fun j => gr < j ∧ ¬ S j) 62 W1 ga nd ver A1 c1 ps := (hA.out.imp (fun j h1 h2 => ⟨h1, fun h3 => by have := (hS2 j h3).1; omega⟩)).below hwr1
        have hQ1 : AgP (fun j => gr < j ∧ ¬ S j) 29 W1 gr nd ver A2 c2 ps := (hQ.out.imp (fun j h1 h2 => ⟨h1, fun h3 => by have := (hS2 j h3).1; omega⟩)).below hwr1
        have hlg : gr < wr.heap.size := blk_lt hQ.out.blk
        have HB1 := Aside0.mk (hB.out.trans (hwr1.mono hB.out.size))
        have HA1 := Aside0.mk hA1
        have HQ1 := Aside0.mk hQ1
        have HBOX := Aside0.mk hbox
        have HS := Aside0.mk (And.intro hSd hS2)
        have HSZ := Aside0.mk (And.intro hsz1 (And.intro hlg hb4.size))
        have H4 := Aside0.mk (Kd.R_below h4 hbW)
        clear hS hSd hS2 hbW hsz1 hbox hwr1 hA1 hQ1 hlg h4 hb4
        go_wp2_with fail
        rw [← hW1]
        have hC4 : kPut.C W1 A4 x.2.2.2.length x.2.2.2 := by
          obtain ⟨A', c', e, _, hC⟩ := Kd.R_reads H4.out
          injection e with e1 e2 e3
          subst e1
          exact hC
        have ht := take_any (fun j => gr < j ∧ ¬ S j) W1 ga nd ver A1 A4 c1 c4 ps x HA1.out (fun j hj => ⟨by have := HSZ.out; omega, fun h3 => by have := (HS.out.2 j h3).2; have := HSZ.out; omega⟩) hC4 (by rw [← HL.out]; exact HLB.out) HFX.out
        rw [← HL.out] at ht
        have hsm := step_small (nd := nd) (ver := ver) hp.out (show x.2.2.2.length ≤ 10 ∧ Fits x.2.2.2 from ⟨by rw [← HL.out]; omega, HFX.out⟩)
        obtain ⟨y, hy⟩ : ∃ y, y = stepA nd ver ps x := ⟨_, rfl⟩
        rw [← hy] at ht hsm
        have HY := Aside0.mk hy
        obtain ⟨y0, y1, y2, yo, yv, yp⟩ := y
        dsimp only at ht hsm
        refine ht.mono ?_
        rintro e w3 ⟨rfl, ⟨A5, c5, hA5⟩, hk5, hb5⟩
        have HSM := Aside0.mk hsm
        have hQ3 := HQ1.out.kept hk5 (fun j hj he => by have := HG.out.2; have h9 : gr < j := hj.1; have h8 : j = ga := he; omega) (fun he => by have := HG.out.2; have h8 : gr = ga := he; omega)
        have hB3 := HB1.out.trans (hb5.mono HG.out.1)
        have hbx3 := blk_kept HBOX.out hk5 (fun he => by have h8 : w1'.heap.size = ga := he; have := HG.out.2; have := HSZ.out; omega)
        have hs3 : W1.heap.size ≤ w3.heap.size := hk5.1
        obtain ⟨W3, hW3⟩ : ∃ W, W = w3.alloc (.cells #[.int .i64 y0, .int .i64 y1, .bool y2, .slice none 0 0] 31) := ⟨_, rfl⟩
        have hbW : Below w3.heap.size w3 W3 := by rw [hW3]; exact below_alloc (Below.refl _ _) _
        have hBW3 := hB3.trans (hbW.mono hB3.size)
        have r0 : (w3.alloc (.cells #[.int .i64 y0, .int .i64 y1, .bool y2, .slice none 0 0] 31)).cell? (ad.add (k * 4)) = some (.int .i64 x.1) := by rw [← hW3]; exact pw_cell_below hBW3 HO.out.1
        have r1 : (w3.alloc (.cells #[.int .i64 y0, .int .i64 y1, .bool y2, .slice none 0 0] 31)).cell? ⟨(ad.add (k * 4)).block, (ad.add (k * 4)).off + 1, none⟩ = some (.int .i64 x.2.1) := by rw [← hW3]; exact pw_cell_below hBW3 HO.out.2.1
        have r2 : (w3.alloc (.cells #[.int .i64 y0, .int .i64 y1, .bool y2, .slice none 0 0] 31)).cell? ⟨(ad.add (k * 4)).block, (ad.add (k * 4)).off + 2, none⟩ = some (.bool x.2.2.1) := by rw [← hW3]; exact pw_cell_below hBW3 HO.out.2.2.1
        have r3 : (w3.alloc (.cells #[.int .i64 y0, .int .i64 y1, .bool y2, .slice none 0 0] 31)).cell? ⟨(ad.add (k * 4)).block, (ad.add (k * 4)).off + 3, none⟩ = some (.slice A3 L c3) := by rw [← hW3]; exact pw_cell_below hBW3 HO.out.2.2.2
        have HA3 := Aside0.mk (hA5.below hbW)
        have HQ3 := Aside0.mk (hQ3.below hbW)
        have HB3 := Aside0.mk hBW3
        have HBX9 := Aside0.mk (blk_below hbx3 hbW)
        have HBX10 : Aside0 (W3.heap[w3.heap.size]? = some (.cells #[.int .i64 y0, .int .i64 y1, .bool y2, .slice none 0 0] 31 (0, 0))) := ⟨by rw [hW3]; exact blk_new _ _⟩
        have HSZ3 := Aside0.mk (And.intro hs3 (show W3.heap.size = w3.heap.size + 1 by rw [hW3]; simp))
        have H43 : Aside0 (kPut.R 38 W3 wr.heap.size (fun _ => True) (.slice A4 L c4) x.2.2.2) := ⟨by
          have h44 := H4.out
          exact Kd.R_below (Kd.R_mono (Kd.R_kept (Kd.R_bound h44) hk5 (fun j hj he => by have h8 : j = ga := he; have h9 : wr.heap.size ≤ j := hj.2.1; have := HSZ.out; have := HG.out; omega)) (fun _ _ => trivial)) hbW⟩
        clear ht hsm hy hQ3 hB3 hbx3 hs3 hbW hBW3 hA5 hk5 hb5 hC4 p0 p1 p2 p3
        go_wp2_with fail
        rw [← hW3]
        have ht := rtake_any (fun j => gr < j ∧ ¬ S j) W3 gr nd ver A2 A3 c2 c3 ps x HQ3.out (fun j hj => ⟨by have := HSZ.out; have := HSZ3.out; omega, fun h3 => by have := (HS.out.2 j h3).2; have := HSZ.out; have := HSZ3.out; omega⟩) (fun W' hW' => by rw [← HL.out]; exact HC0.out W' (HB3.out.trans (hW'.mono (by have := HG.out; omega)))) (by rw [← HL.out]; exact HLB.out) HFX.out
        rw [← HL.out, ← HY.out] at ht
        dsimp only at ht
        refine ht.mono ?_
        rintro e w4 ⟨rfl, ⟨A6, c6, hQ5⟩, hk5, hb5⟩
        have hA4 := HA3.out.kept hk5 (fun j hj he => by have h9 : gr < j := hj.1; have h8 : j = gr := he; omega) (fun he => by have := HG.out.2; have h8 : ga = gr := he; omega)
        have hB4 := HB3.out.trans (hb5.mono (by have := HG.out; omega))
        have hx9 := blk_kept HBX9.out hk5 (fun he => by have h8 : w1'.heap.size = gr := he; have := HSZ.out; omega)
        have hx10 := blk_kept HBX10.out hk5 (fun he => by have h8 : w3.heap.size = gr := he; have := HSZ.out; have := HSZ3.out; omega)
        have hs4 : W3.heap.size ≤ w4.heap.size := hk5.1
        obtain ⟨W4, hW4⟩ : ∃ W, W = w4.alloc (.cells #[.int .i64 y0, .int .i64 y1, .bool y2, .slice none 0 0] 31) := ⟨_, rfl⟩
        have hbW : Below w4.heap.size w4 W4 := by rw [hW4]; exact below_alloc (Below.refl _ _) _
        have HA4 := Aside0.mk (hA4.below hbW)
        have HQ4 := Aside0.mk (hQ5.below hbW)
        have HB4 := Aside0.mk (hB4.trans (hbW.mono hB4.size))
        have HX9 := Aside0.mk (blk_below hx9 hbW)
        have HX10 := Aside0.mk (blk_below hx10 hbW)
        have HX12 : Aside0 (W4.heap[w4.heap.size]? = some (.cells #[.int .i64 y0, .int .i64 y1, .bool y2, .slice none 0 0] 31 (0, 0))) := ⟨by rw [hW4]; exact blk_new _ _⟩
        have HSZ4 := Aside0.mk (And.intro hs4 (show W4.heap.size = w4.heap.size + 1 by rw [hW4]; simp))
        have H44 : Aside0 (kPut.R 38 W4 wr.heap.size (fun _ => True) (.slice A4 L c4) x.2.2.2) := ⟨
          Kd.R_below (Kd.R_mono (Kd.R_kept (Kd.R_bound H43.out) hk5 (fun j hj he => by have h8 : j = gr := he; have h9 : wr.heap.size ≤ j := hj.2.1; have := HSZ.out; omega)) (fun _ _ => trivial)) hbW⟩
        clear ht hA4 hB4 hx9 hx10 hs4 hbW hQ5 hk5 hb5 r0 r1 r2 r3
        go_wp2_with fail
        rw [← hW4]
        obtain ⟨mk, hmk⟩ : ∃ mk, gk = mk + 1 := ⟨gk - 1, by have := hkq.out; omega⟩
        have HKQ := Aside0.mk (show n < mk + (k + 1) by have := hkq.out; omega)
        have HS5 : Aside0 ((∀ j, S j → gr < j ∧ j < w1'.heap.size) ∧ gr < w1'.heap.size) := ⟨fun j hj => by have := HS.out.2 j hj; have := HSZ.out; omega, by have := HSZ.out; omega⟩
        have hS0 : ∀ j, A4 = some ⟨j, 0, none⟩ → S j := by rw [HS.out.1]; exact fun j hj => hj
        have HSD := Aside0.mk hS0
        have HW4 : Aside0 (w1'.heap.size < W4.heap.size ∧ w3.heap.size < W4.heap.size ∧ w4.heap.size < W4.heap.size ∧ w1'.heap.size ≤ w3.heap.size ∧ w1'.heap.size ≤ w4.heap.size ∧ L ≤ 10) := ⟨by have := HSZ.out; have := HSZ3.out; have := HSZ4.out; omega⟩
        clear hW1 hW3 hW4 hp hkq hA hQ hB hS0
        go_loopg [14] (L + 1) (fun kq v14 w' => ∃ (j : Nat), v14 = .int .i64 (j : Int) ∧ Aside0 (Kept W4 w' S) ∧ Aside0 (Below w.heap.size w w') ∧ Aside0 (j ≤ L) ∧ Aside0 (L < kq + j) ∧ Aside0 (∀ b, A4 = some ⟨b, 0, none⟩ → ∃ cs : Array Value, w'.heap[b]? = some (.cells cs 38 (0, 0)) ∧ L * 5 ≤ cs.size))
        case atStart => exact ⟨0, rfl, ⟨Kept.refl _ _⟩, HB4, ⟨by omega⟩, ⟨by omega⟩, ⟨fun b e => by subst e; exact row_cells H44.out⟩⟩
        case round =>
          obtain ⟨j, rfl, hK, hB, hjl, hjq, hcs⟩ := hrel
          have hx9 := blk_kept HX9.out hK.out (fun h9 => by have := (HS5.out.1 _ h9).2; omega)
          obtain ⟨_, _, _, p3⟩ := box4 hx9
          by_cases hjL : j < L
          · have hb2 : (j : Int) < (L : Int) := by omega
            have hbl : (L : Int) ≤ 10 := by have := HW4.out; omega
            obtain ⟨b, rfl⟩ := R_pos H44.out (by rw [← HL.out]; omega)
            obtain ⟨cs, hbk, hsz⟩ := hcs.out b rfl
            have hb : wr.cell? ⟨b, j * 5, none⟩ = some (cs[j * 5]'(by omega)) := by rw [blk_cell hbk, Array.getElem?_eq_getElem (by omega)]
            have hbf := blk_frozen hbk (j * 5)
            have HBK := Aside0.mk hbk
            have HSB := Aside0.mk hsz
            obtain ⟨cu, hcu⟩ : ∃ u, u = cs[j * 5]'(by omega) := ⟨_, rfl⟩
            rw [← hcu] at hb
            clear hbk hx9 hsz hcu
            go_wp2
            obtain ⟨mj, hmj⟩ : ∃ mj, gk = mj + 1 := ⟨gk - 1, by have := hjq.out; omega⟩
            go_roundg mj
            case measure => omega
            case rel =>
              refine ⟨j + 1, by go_num, ⟨hK.out.setCell (p := ⟨b, j * 5, none⟩) (.inl (HSD.out b rfl)) _⟩, ⟨hB.out.setCell (p := ⟨b, j * 5, none⟩) (by have := (HS5.out.1 b (HSD.out b rfl)).1; have := HG.out; show w.heap.size ≤ b; omega) _⟩, ⟨by omega⟩, ⟨by have := hjq.out; omega⟩, ⟨fun b' e => ?_⟩⟩
              injection e with e
              injection e with e _ _
              subst e
              exact ⟨_, blk_put HBK.out (j * 5) _ rfl, by have := HSB.out; simpa using this⟩
          · have hb2 : ¬ (j : Int) < (L : Int) := by omega
            have hA := HA4.out.kept hK.out (fun j hj => hj.2) (fun h9 => by have := (HS5.out.1 _ h9).1; have := HG.out; omega)
            have hQ := HQ4.out.kept hK.out (fun j hj => hj.2) (fun h9 => by have := (HS5.out.1 _ h9).1; omega)
            have hx10 := blk_kept HX10.out hK.out (fun h9 => by have := (HS5.out.1 _ h9).2; have := HW4.out; omega)
            have hx12 := blk_kept HX12.out hK.out (fun h9 => by have := (HS5.out.1 _ h9).2; have := HW4.out; omega)
            have HA := Aside0.mk hA
            have HQ := Aside0.mk hQ
            obtain ⟨a0, a1, a2, a3⟩ := box4 hx10
            obtain ⟨d0, d1, d2, d3⟩ := box4 hx12
            obtain ⟨_, g1, g2⟩ := box3 hQ.blk
            clear hA hQ hx10 hx12 hx9
            go_wp2_with fail
            have hS0 : Below wr.heap.size wr wr ∧ wr.cell? ⟨w3.heap.size, 0, none⟩ = some (.int .i64 y0) ∧ wr.cell? ⟨w3.heap.size, 1, none⟩ = some (.int .i64 y1) ∧ wr.cell? ⟨w3.heap.size, 2, none⟩ = some (.bool y2) ∧ wr.cell? ⟨w3.heap.size, 3, none⟩ = some (.slice none 0 0) ∧ wr.cell? ⟨w4.heap.size, 0, none⟩ = some (.int .i64 y0) ∧ wr.cell? ⟨w4.heap.size, 1, none⟩ = some (.int .i64 y1) ∧ wr.cell? ⟨w4.heap.size, 2, none⟩ = some (.bool y2) ∧ wr.cell? ⟨w4.heap.size, 3, none⟩ = some (.slice none 0 0) ∧ wr.cell? ⟨gr, 1, none⟩ = some (.int .i64 yv) ∧ wr.cell? ⟨gr, 2, none⟩ = some (.slice A6 yp.length c6) := ⟨Below.refl _ _, a0, a1, a2, a3, d0, d1, d2, d3, g1, g2⟩
            have hS1 : Below wr.heap.size wr wr.drew ∧ wr.drew.cell? ⟨w3.heap.size, 0, none⟩ = some (.int .i64 y0) ∧ wr.drew.cell? ⟨w3.heap.size, 1, none⟩ = some (.int .i64 y1) ∧ wr.drew.cell? ⟨w3.heap.size, 2, none⟩ = some (.bool y2) ∧ wr.drew.cell? ⟨w3.heap.size, 3, none⟩ = some (.slice none 0 0) ∧ wr.drew.cell? ⟨w4.heap.size, 0, none⟩ = some (.int .i64 y0) ∧ wr.drew.cell? ⟨w4.heap.size, 1, none⟩ = some (.int .i64 y1) ∧ wr.drew.cell? ⟨w4.heap.size, 2, none⟩ = some (.bool y2) ∧ wr.drew.cell? ⟨w4.heap.size, 3, none⟩ = some (.slice none 0 0) ∧ wr.drew.cell? ⟨gr, 1, none⟩ = some (.int .i64 yv) ∧ wr.drew.cell? ⟨gr, 2, none⟩ = some (.slice A6 yp.length c6) := ⟨(Below.refl _ _).drew, a0, a1, a2, a3, d0, d1, d2, d3, g1, g2⟩
            have HYL := Aside0.mk (show yp.length * 64 ≤ 140737488355328 by have := HSM.out.1; omega)
            clear a0 a1 a2 a3 d0 d1 d2 d3 g1 g2 hcs
            go_region_held3 (fun w' => Below wr.heap.size wr w' ∧ w'.cell? ⟨w3.heap.size, 0, none⟩ = some (.int .i64 y0) ∧ w'.cell? ⟨w3.heap.size, 1, none⟩ = some (.int .i64 y1) ∧ w'.cell? ⟨w3.heap.size, 2, none⟩ = some (.bool y2) ∧ w'.cell? ⟨w3.heap.size, 3, none⟩ = some (.slice none 0 0) ∧ w'.cell? ⟨w4.heap.size, 0, none⟩ = some (.int .i64 y0) ∧ w'.cell? ⟨w4.heap.size, 1, none⟩ = some (.int .i64 y1) ∧ w'.cell? ⟨w4.heap.size, 2, none⟩ = some (.bool y2) ∧ w'.cell? ⟨w4.heap.size, 3, none⟩ = some (.slice none 0 0) ∧ w'.cell? ⟨gr, 1, none⟩ = some (.int .i64 yv) ∧ w'.cell? ⟨gr, 2, none⟩ = some (.slice A6 yp.length c6)) (first | assumption | exact hS0 | exact hS1)
              (first | (go_at_call 13; refine (samenote_any _ none none 0 0 0 y0 y1 y2 [] (nil_C _) (nil_C _)).mono ?_; rintro e w5 ⟨rfl, hb⟩; have hS' := keep_ten (wr := wr) hb (by first | exact hS0 | exact hS1); clear hb) | (go_at_call 14; refine (version_any _ ga nd yv A5 c5 yp (HA.out.ag.below hS'.1)).mono ?_; rintro e w6 ⟨rfl, rfl⟩) | (go_at_call 16; refine (aputs_any _ ga nd yv A5 c5 yp (HA.out.ag.below hS'.1) HYL.out HSM.out.2).mono ?_; rintro e w7 ⟨v7, rfl, hv7, hb7⟩; obtain ⟨A7, c7, rfl⟩ := Kd.R_slice hv7; have hS'' := keep_ten (wr := wr) hb7 hS'; have HV7 := Aside0.mk (R_C hv7); clear hb7 hv7) | (go_at_call 15; refine (sameputs_any _ A7 A6 yp.length c7 c6 yp HV7.out (HQ.out.ag.below hS''.1).C).mono ?_; rintro e w8 ⟨rfl, m8, rfl⟩; have hS3 := keep_ten (wr := wr) ((Drawn0.refl _).step m8).below hS''))
            have hb8 := hS3.1
            have HA9 := Aside0.mk ((HA.out.below hb8).imp (P' := fun j => gr < j) (fun j h9 _ => h9.1))
            have HQ9 := Aside0.mk ((HQ.out.below hb8).imp (P' := fun j => gr < j) (fun j h9 _ => h9.1))
            have HB9 := Aside0.mk (hB.out.trans (hb8.mono hB.out.size))
            clear hS0 hS1 hS' hS'' hS3 hb8
            go_wp2
            go_roundg mk
            case measure => omega
            case rel => exact ⟨k + 1, yv, A5, c5, A6, c6, yp, by go_num, HA9, HQ9, HB9, HSM, ⟨by omega⟩, HKQ⟩
    · have hb1 : ¬ (k : Int) < (n : Int) := by omega
      go_wp2
      go_ret
      exact ⟨rfl, hB.out⟩
end Go.Proofs.Ytfohlaeahageaaa.Edge
