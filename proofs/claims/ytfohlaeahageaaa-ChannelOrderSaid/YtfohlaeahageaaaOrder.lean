/- ChannelOrder: whole. -/
import Derived.Test.YtfohlaeahageaaaChanAlive
namespace Go.Proofs.Ytfohlaeahageaaa.Edge
open Go.RowKit Go.Proofs.YtfohlaeahageaaaW.PrintWords Go.Proofs.YtfohlaeahageaaaW.PrintMore Go.Proofs.YtfohlaeahageaaaW.PrintLast

abbrev kW : Kd Int := Kd.int .i64
theorem info3 : (Try.prog.info? 3).map (fun i => (i.zero, i.size, i.bytes)) = some (some (.int .i64 0), 1, 8) := by kernel_rfl
/-- The note to i. -/
def ntI (i : Int) : NoteT := (i, 0, false, [])
/-- A row of numbers has grown: the channel stays. -/
theorem Ch.grown {P ok : Nat → Prop} {t B : Nat} {w w1 : World} {g : Nat} {A : Option Addr} {c : Nat} {ns : List NoteT} {v : Value} {xs : List Int} (h : Ch P t w g A c ns) (hw : kW.R 3 w B ok v xs) (hg : w.grownBy w1 v.ownBlock) (ht : t ≠ 3) : Ch P t w1 g A c ns := by
  cases hv : v.ownBlock with
  | none =>
    rw [hv] at hg
    exact h.below (below_none hg)
  | some b =>
    obtain ⟨cells, hb⟩ := Kd.R_typed hw b hv
    rw [hv] at hg
    refine ⟨blk_grown h.blk hg (fun e => ?_), Kd.R_mono (Kd.R_grown (Kd.R_types h.row hb (by decide)) hg (fun k hk e => hk.2 (Option.some.inj e))) (fun k hk => hk.1)⟩
    obtain rfl := Option.some.inj e
    have := h.blk
    rw [hb] at this
    injection this with this
    injection this with _ this
    exact ht this.symm
/-- The channel has been written: a row of numbers stays. -/
theorem want_kept {P ok : Nat → Prop} {B : Nat} {w w1 : World} {g : Nat} {A : Option Addr} {c : Nat} {ns : List NoteT} {v : Value} {xs : List Int} (h : Ch P 49 w g A c ns) (hw : kW.R 3 w B ok v xs) (hk : Kept w w1 (fun k => k = g ∨ some k = ob A)) : kW.R 3 w1 B ok v xs := by
  refine Kd.R_mono (Kd.R_kept (Kd.R_bound hw) hk (fun k hk9 h9 => ?_)) (fun k hk9 => hk9.1)
  obtain ⟨_, _, _, q, hq, cells, hc⟩ := hk9
  have hq3 : q = 3 := by
    rcases List.mem_cons.1 hq with h | h
    · exact h
    · exact absurd (show q ∈ ([] : List Nat) from h) (List.not_mem_nil)
  subst hq3
  rcases h9 with h9 | h9
  · subst h9
    have := h.blk
    rw [hc] at this
    injection this with this
    injection this with _ this
    exact absurd this (by decide)
  · obtain ⟨cells', hc'⟩ := Kd.R_typed h.row k (by rw [ob_eq]; exact h9.symm)
    rw [hc] at hc'
    injection hc' with hc'
    injection hc' with _ hc'
    exact absurd hc' (by decide)
theorem order_out (w : World) (n : Int) (A : Option Addr) (m c : Nat) (h : n < 0 ∨ 100 < n ∨ 20 < m) (hm : m ≤ 9223372036854775807) : Calls Try.prog 7 #[.int .i64 n, .slice A m c] w fun e w' => e = .returned (.bool true) ∧ Below w.heap.size w w' := by
  by_cases h1 : n < 0
  · go_enter Try.func7, Try.ntmps7
    go_wp2_with fail
    refine (chan_alive _).mono ?_
    rintro e w1 ⟨rfl, hb⟩
    have HB := Aside0.mk hb
    clear hb
    go_wp2
    go_ret
    exact ⟨rfl, HB.out⟩
  · by_cases h2 : 100 < n
    · go_enter Try.func7, Try.ntmps7
      go_wp2_with fail
      refine (chan_alive _).mono ?_
      rintro e w1 ⟨rfl, hb⟩
      have HB := Aside0.mk hb
      clear hb
      go_wp2
      go_ret
      exact ⟨rfl, HB.out⟩
    · have h3 : (20 : Int) < (m : Int) := by omega
      go_enter Try.func7, Try.ntmps7
      go_wp2_with fail
      refine (chan_alive _).mono ?_
      rintro e w1 ⟨rfl, hb⟩
      have HB := Aside0.mk hb
      clear hb
      go_wp2
      go_ret
      exact ⟨rfl, HB.out⟩
/-- What holds throughout: the channel's notes are l, the numbers too. -/
structure Od (w w' : World) (g : Nat) (A1 : Option Addr) (c1 : Nat) (A2 : Option Addr) (c2 : Nat) (ns l : List Int) : Prop where
  ch : Ch (fun _ => True) 49 w' g A1 c1 (ns.map ntI)
  row : kW.R 3 w' w.heap.size (fun _ => True) (.slice A2 l.length c2) l
  bel : Below w.heap.size w w'
/-- A number more. -/
theorem Od.append {w w1 w4 : World} {g : Nat} {A1 A2 A4 : Option Addr} {c1 c2 c4 : Nat} {ns l l' : List Int} (h : Od w w1 g A1 c1 A2 c2 ns l) (hr : kW.R 3 w4 w.heap.size (fun _ => True) (.slice A4 l'.length c4) l') (hb : Below w.heap.size w w4) (hg : w1.grownBy w4 (Value.slice A2 l.length c2).ownBlock) : Od w w4 g A1 c1 A4 c4 ns l' :=
  ⟨h.ch.grown h.row hg (by decide), hr, hb⟩
/-- A number of the row. -/
theorem Od.num {w w1 : World} {g : Nat} {A1 A2 : Option Addr} {c1 c2 : Nat} {ns l : List Int} (h : Od w w1 g A1 c1 A2 c2 ns l) (i : Nat) (hi : i < l.length) : ∃ b, A2 = some ⟨b, 0, none⟩ ∧ w1.cell? ⟨b, i, none⟩ = some (.int .i64 l[i]) := by
  obtain ⟨b, rfl⟩ := R_pos h.row (by omega)
  obtain ⟨cs, hl, hM, hc⟩ := Kd.R_getA h.row 0 (i : Int) (by omega) (by omega)
  have e : cs = [.int .i64 (l.getD (i : Int).toNat 0)] := hM
  subst e
  have h0 := hc 0 _ rfl
  rw [add_plain, Int.toNat_natCast] at h0
  refine ⟨b, rfl, ?_⟩
  have e1 : i * kW.sz + 0 = i := by show i * 1 + 0 = i; omega
  have e2 : l.getD i 0 = l[i] := by simp [List.getD_eq_getElem?_getD, hi]
  rw [e1, e2] at h0
  exact h0
theorem map_at (l : List Int) (z : Nat) (hz : z < l.length) (h : z < (l.map ntI).length) : (l.map ntI)[z] = ntI l[z] := by simp
set_option maxRecDepth 100000 in
set_option maxHeartbeats 8000000 in
theorem order_in (w : World) (n : Nat) (A : Option Addr) (m c : Nat) (tw : List Int) (h1 : n ≤ 100) (h2 : m ≤ 20) (hr : kW.C w A m tw) : Calls Try.prog 7 #[.int .i64 (n : Int), .slice A m c] w fun e w' => e = .returned (.bool true) ∧ Below w.heap.size w w' := by
  have h1' : ¬ (100 : Int) < (n : Int) := by omega
  have h2' : ¬ (20 : Int) < (m : Int) := by omega
  have h0' : ¬ (n : Int) < 0 := by omega
  have HN := Aside0.mk (And.intro h1 h2)
  have HR := Aside0.mk hr
  clear h1 h2 hr
  go_enter Try.func7, Try.ntmps7
  go_wp2_with fail
  refine (chan_alive _).mono ?_
  rintro e w1 ⟨rfl, hb⟩
  have hB := hb.alloc hb.size (.cells #[.slice none 0 0] 49)
  obtain ⟨g, hg⟩ : ∃ g, g = w1.heap.size := ⟨_, rfl⟩
  have HG := Aside0.mk (show w.heap.size ≤ g by have := hb.size; omega)
  have HO : Aside0 (Od w (w1.alloc (.cells #[.slice none 0 0] 49)) g none 0 none 0 [] []) := ⟨by rw [hg]; exact new_chan _ _ _, Kd.R_nil _ _ _ _ _, hB⟩
  clear hb hB
  go_wp2
  rw [← hg]
  clear hg
  go_loopg [7, 8] (n + 1) (fun kq v7 v8 w' => ∃ (k : Nat) (A1 : Option Addr) (c1 : Nat) (A2 : Option Addr) (c2 : Nat) (l : List Int), v8 = .int .i64 (k : Int) ∧ v7 = .slice A2 k c2 ∧ Aside0 (l.length = k) ∧ Aside0 (Od w w' g A1 c1 A2 c2 l l) ∧ Aside0 (k ≤ n) ∧ Aside0 (n < kq + k))
  case atStart => exact ⟨0, _, _, _, _, [], rfl, rfl, ⟨rfl⟩, HO, ⟨by omega⟩, ⟨by omega⟩⟩
  case round =>
    obtain ⟨k, A1, c1, A2, c2, l, rfl, rfl, hl, hO, hkN, hkq⟩ := hrel
    by_cases h : k < n
    · have hb1 : (k : Int) < (n : Int) := by omega
      have hnb : (n : Int) ≤ 100 := by have := HN.out; omega
      obtain ⟨mk, hmk⟩ : ∃ mk, gk = mk + 1 := ⟨gk - 1, by have := hkq.out; omega⟩
      go_wp2_with fail
      refine (send_any _ wr g A1 none c1 0 0 (l.map ntI) (ntI (k : Int)) hO.out.ch rfl (nil_C2 _) (by decide) nil_fits2).mono ?_
      rintro e w2 ⟨rfl, ⟨A3, c3, hC2⟩, hk2, hb2⟩
      have hsn : sendN (l.map ntI) (ntI (k : Int)) = (l ++ [(k : Int)]).map ntI := by
        unfold sendN
        rw [if_pos (by rw [List.length_map, hl.out]; omega), List.map_append]
        rfl
      rw [hsn] at hC2
      have HO2 : Aside0 (Od w w2 g A3 c3 A2 c2 (l ++ [(k : Int)]) l) := ⟨hC2.imp (fun _ _ _ _ => trivial), want_kept hO.out.ch hO.out.row hk2, hO.out.bel.trans (hb2.mono HG.out)⟩
      have HL := Aside0.mk hl.out
      clear hC2 hk2 hb2 hsn
      go_wp2_with (((with_reducible refine gate_builtin (b := .append) (xs := #[.tmp 42, .tmp 44]) rfl ?_); at_builtin; refine Kd.R_append kW (w0 := w) w.heap.size rfl (.tmp 42) (.tmp 44) 44 3 (.int .i64 0) 8 rfl Try.underlying44 info3 rfl (by decide) (by omega) (.slice A2 k c2) l (k : Int) [.int .i64 (k : Int)] (fun _ => True) (fun _ => False) rfl rfl ?aP ?aK ?aF ?aO ?aB ?aS ?aL ?_; (case aP => rfl); (case aK => exact fun _ hk => hk.elim); (case aF => exact fun _ _ => trivial); (case aO => (have h9 := HO2.out.row; rw [HL.out] at h9; exact h9)); (case aB => exact HO2.out.bel); (case aS => exact HO2.out.bel.size); (case aL => rw [HL.out]; omega); intro v4 w4 h4 hb4 hg4 hat; go_must (have H4 := Aside0.mk (And.intro h4 (And.intro hb4 hg4)); clear h4 hb4 hg4 hat)))
      obtain ⟨A4, c4, rfl⟩ := Kd.R_slice H4.out.1
      have e4 : (l ++ [(k : Int)]).length = k + 1 := by simp [hl.out]
      have HO4 : Aside0 (Od w w4 g A3 c3 A4 c4 (l ++ [(k : Int)]) (l ++ [(k : Int)])) := ⟨HO2.out.append H4.out.1 H4.out.2.1 (by rw [HL.out]; exact H4.out.2.2)⟩
      go_roundg mk
      case measure => omega
      case rel => exact ⟨k + 1, A3, c3, A4, c4, l ++ [(k : Int)], by go_num, by rw [e4], ⟨e4⟩, HO4, ⟨by omega⟩, ⟨by have := hkq.out; omega⟩⟩
    · have hb1 : ¬ (k : Int) < (n : Int) := by omega
      obtain rfl : k = n := by have := hkN.out; omega
      go_wp2
      clear hkN hkq h hb1
      go_loopg [7, 9, 10] (m + 1) (fun kq v7 v9 v10 w' => ∃ (i L : Nat) (A1 : Option Addr) (c1 : Nat) (A2 : Option Addr) (c2 : Nat) (l : List Int), v9 = .int .i64 (i : Int) ∧ v7 = .slice A2 L c2 ∧ Aside0 (l.length = L) ∧ Aside0 (Od w w' g A1 c1 A2 c2 l l) ∧ Aside0 (i ≤ m) ∧ Aside0 (m < kq + i) ∧ Aside0 (L ≤ 100 + i ∧ (0 < k → 0 < L)))
      case atStart => exact ⟨0, k, A1, c1, A2, c2, l, rfl, rfl, hl, hO, ⟨by omega⟩, ⟨by omega⟩, ⟨by have := HN.out; omega⟩⟩
      case round =>
        clear hl hO
        obtain ⟨i, L, A1, c1, A2, c2, l, rfl, rfl, hl, hO, him, hiq, hLL⟩ := hrel
        have hL20 : (L : Int) ≤ 120 := by have := hLL.out; have := him.out; have := HN.out; omega
        by_cases hgo : i < m ∧ 0 < k
        · obtain ⟨hi, hk0⟩ := hgo
          have hi1 : (i : Int) < (m : Int) := by omega
          have hk1 : (0 : Int) < (k : Int) := by omega
          have hL0 : (0 : Int) < (L : Int) := by have := hLL.out.2 hk0; omega
          obtain ⟨mk, hmk⟩ : ∃ mk, gk = mk + 1 := ⟨gk - 1, by have := hiq.out; omega⟩
          obtain ⟨ad, rfl, hc⟩ := Kd.at_int (Kd.C_below HR.out hO.out.bel) (i : Int) (by omega) hi1
          rw [Int.toNat_natCast] at hc
          obtain ⟨x, hx⟩ : ∃ x, x = rd tw (i : Int) := ⟨_, rfl⟩
          rw [← hx] at hc
          clear hx
          have hmask := Go.Proofs.Ytfohlaeahageaaa.Bits.mask_1023 x
          obtain ⟨y, hy⟩ : ∃ y, y = x % 1024 := ⟨_, rfl⟩
          rw [← hy] at hmask
          have hy0 : 0 ≤ y := by omega
          have hy1 : y < 1024 := by omega
          clear hy
          obtain ⟨z, hz⟩ : ∃ z : Nat, y % (L : Int) = (z : Int) := ⟨(y % (L : Int)).toNat, by rw [Int.toNat_of_nonneg (Int.emod_nonneg y (by omega))]⟩
          have hzt : y.tmod (L : Int) = (z : Int) := by rw [Int.tmod_eq_emod_of_nonneg hy0]; exact hz
          have hzL : z < L := by have := Int.emod_lt_of_pos y hL0; omega
          have hzl : z < l.length := by rw [hl.out]; exact hzL
          have hzi : (z : Int) < (L : Int) := by omega
          have hzm : z < (l.map ntI).length := by rw [List.length_map]; exact hzl
          obtain ⟨u, hu⟩ : ∃ u, u = l[z] := ⟨_, rfl⟩
          have hat : (l.map ntI)[z] = ntI u := by rw [map_at l z hzl, ← hu]
          have hds := double_some _ wr g A1 c1 (l.map ntI) z hO.out.ch hzm (by rw [List.length_map, hl.out]; omega) (by rw [hat]; exact ⟨Nat.zero_le _, nil_fits2⟩)
          have hsn : sendN (l.map ntI) (l.map ntI)[z] = (l ++ [u]).map ntI := by
            rw [hat]
            unfold sendN
            rw [if_pos (by rw [List.length_map, hl.out]; omega), List.map_append]
            rfl
          rw [hsn] at hds
          have HDS := Aside0.mk hds
          have HU := Aside0.mk hu
          have HZ := Aside0.mk hzl
          clear hds hsn hat hzm hu
          go_wp2_with fail
          refine HDS.out.mono ?_
          rintro e w2 ⟨rfl, ⟨A3, c3, hC2⟩, hk2, hb2⟩
          have HO2 : Aside0 (Od w w2 g A3 c3 A2 c2 (l ++ [u]) l) := ⟨hC2.imp (fun _ _ _ _ => trivial), want_kept hO.out.ch hO.out.row hk2, hO.out.bel.trans (hb2.mono HG.out)⟩
          have HL := Aside0.mk hl.out
          obtain ⟨b, rfl, hcz⟩ := HO2.out.num z HZ.out
          rw [← HU.out] at hcz
          clear hC2 hk2 hb2
          go_wp2_with (((with_reducible refine gate_builtin (b := .append) (xs := #[.tmp 68, .tmp 73]) rfl ?_); at_builtin; refine Kd.R_append kW (w0 := w) w.heap.size rfl (.tmp 68) (.tmp 73) 44 3 (.int .i64 0) 8 rfl Try.underlying44 info3 rfl (by decide) (by omega) (.slice (some ⟨b, 0, none⟩) L c2) l u [.int .i64 u] (fun _ => True) (fun _ => False) rfl rfl ?aP ?aK ?aF ?aO ?aB ?aS ?aL ?_; (case aP => rfl); (case aK => exact fun _ hk => hk.elim); (case aF => exact fun _ _ => trivial); (case aO => (have h9 := HO2.out.row; rw [HL.out] at h9; exact h9)); (case aB => exact HO2.out.bel); (case aS => exact HO2.out.bel.size); (case aL => rw [HL.out]; omega); intro v4 w4 h4 hb4 hg4 hat; go_must (have H4 := Aside0.mk (And.intro h4 (And.intro hb4 hg4)); clear h4 hb4 hg4 hat)))
          obtain ⟨A4, c4, rfl⟩ := Kd.R_slice H4.out.1
          have e4 : (l ++ [u]).length = L + 1 := by simp [hl.out]
          have HO4 : Aside0 (Od w w4 g A3 c3 A4 c4 (l ++ [u]) (l ++ [u])) := ⟨HO2.out.append H4.out.1 H4.out.2.1 (by rw [HL.out]; exact H4.out.2.2)⟩
          go_roundg mk
          case measure => omega
          case rel => exact ⟨i + 1, L + 1, A3, c3, A4, c4, l ++ [u], by go_num, by rw [e4], ⟨e4⟩, HO4, ⟨by omega⟩, ⟨by have := hiq.out; omega⟩, ⟨by have := hLL.out; omega⟩⟩
        · have hdec : ((decide ((i : Int) < (m : Int))) && (decide ((0 : Int) < (k : Int)))) = false := by
            rw [Bool.and_eq_false_iff]
            by_cases hi : i < m
            · exact .inr (decide_eq_false (by omega))
            · exact .inl (decide_eq_false (by omega))
          have hgo2 : ¬ (i : Int) < (m : Int) ∨ ((i : Int) < (m : Int) ∧ ¬ (0 : Int) < (k : Int)) := by omega
          clear hdec hgo him hiq hLL
          rcases hgo2 with hi1 | ⟨hi1, hk1⟩
          all_goals go_wp2_with fail
          · skip
            go_loopg [11, 12, 13] (L + 1) (fun kq v11 v12 v13 w' => ∃ (q : Nat) (A3 : Option Addr) (c3 : Nat), v11 = .int .i64 (q : Int) ∧ Aside0 (Od w w' g A3 c3 A2 c2 (l.drop q) l) ∧ Aside0 (q ≤ L) ∧ Aside0 (L < kq + q))
            case atStart => exact ⟨0, A1, c1, rfl, hO, ⟨by omega⟩, ⟨by omega⟩⟩
            case round =>
              clear hO
              obtain ⟨q, A3, c3, rfl, hO, hqL, hqq⟩ := hrel
              by_cases hq : q < L
              · have hq1 : (q : Int) < (L : Int) := by omega
                obtain ⟨mq, hmq⟩ : ∃ mq, gk = mq + 1 := ⟨gk - 1, by have := hqq.out; omega⟩
                have hql : q < l.length := by rw [hl.out]; exact hq
                obtain ⟨u, hu⟩ : ∃ u, u = l[q] := ⟨_, rfl⟩
                have hdr : (l.drop q).map ntI = ntI u :: (l.drop (q + 1)).map ntI := by rw [List.drop_eq_getElem_cons hql, ← hu, List.map_cons]
                have hC := hO.out.ch
                rw [hdr] at hC
                have hgv := give_some _ wr g A3 c3 (ntI u :: (l.drop (q + 1)).map ntI) 0 hC (Nat.succ_pos _) (by rw [List.length_cons, List.length_map, List.length_drop, hl.out]; omega)
                have HGV := Aside0.mk hgv
                have HQL := Aside0.mk hql
                have HU := Aside0.mk hu
                have HCC := Aside0.mk hC
                clear hgv hdr hC hu
                go_wp2_with fail
                refine HGV.out.mono ?_
                rintro e w2 ⟨⟨A5, c5, rfl, hR2⟩, hC2, hk2, hb2⟩
                have hO2 : Od w w2 g A3 c3 A2 c2 (l.drop (q + 1)) l := ⟨hC2, want_kept HCC.out hO.out.row hk2, hO.out.bel.trans (hb2.mono HG.out)⟩
                have HB2 := Aside0.mk hO2.bel
                have hO3 : Od w (w2.alloc (.cells #[.int .i64 u, .int .i64 0, .bool false, .slice A5 0 c5] 31)) g A3 c3 A2 c2 (l.drop (q + 1)) l := ⟨hO2.ch.below (below_alloc (Below.refl _ _) _), Kd.R_below hO2.row (below_alloc (Below.refl _ _) _), hO2.bel.alloc hO2.bel.size _⟩
                obtain ⟨b, rfl, hcz⟩ := hO3.num q HQL.out
                rw [← HU.out] at hcz
                have HO3 := Aside0.mk hO3
                clear hR2 hC2 hk2 hb2 hO2 hO3
                dsimp only [List.getElem_cons_zero, ntI, List.length_nil]
                go_wp2_with fail
                go_region
                go_wp2
                go_roundg mq
                case measure => omega
                case rel => exact ⟨q + 1, A3, c3, by go_num, ⟨HO3.out.ch.below (below_drew (Below.refl _ _)), Kd.R_drew HO3.out.row, HO3.out.bel.drew⟩, ⟨by omega⟩, ⟨by have := hqq.out; omega⟩⟩
              · have hq1 : ¬ (q : Int) < (L : Int) := by omega
                obtain rfl : q = L := by have := hqL.out; omega
                have hnil : (l.drop q).map ntI = [] := by rw [List.drop_eq_nil_of_le (by rw [hl.out]; exact Nat.le_refl _)]; rfl
                have hC := hO.out.ch
                rw [hnil] at hC
                have HCC := Aside0.mk hC
                clear hC hnil
                go_wp2_with fail
                refine (len_any _ wr g A3 c3 [] HCC.out).mono ?_
                rintro e w2 ⟨rfl, rfl⟩
                go_wp2
                go_ret
                exact ⟨rfl, hO.out.bel⟩
          · skip
            go_loopg [11, 12, 13] (L + 1) (fun kq v11 v12 v13 w' => ∃ (q : Nat) (A3 : Option Addr) (c3 : Nat), v11 = .int .i64 (q : Int) ∧ Aside0 (Od w w' g A3 c3 A2 c2 (l.drop q) l) ∧ Aside0 (q ≤ L) ∧ Aside0 (L < kq + q))
            case atStart => exact ⟨0, A1, c1, rfl, hO, ⟨by omega⟩, ⟨by omega⟩⟩
            case round =>
              clear hO
              obtain ⟨q, A3, c3, rfl, hO, hqL, hqq⟩ := hrel
              by_cases hq : q < L
              · have hq1 : (q : Int) < (L : Int) := by omega
                obtain ⟨mq, hmq⟩ : ∃ mq, gk = mq + 1 := ⟨gk - 1, by have := hqq.out; omega⟩
                have hql : q < l.length := by rw [hl.out]; exact hq
                obtain ⟨u, hu⟩ : ∃ u, u = l[q] := ⟨_, rfl⟩
                have hdr : (l.drop q).map ntI = ntI u :: (l.drop (q + 1)).map ntI := by rw [List.drop_eq_getElem_cons hql, ← hu, List.map_cons]
                have hC := hO.out.ch
                rw [hdr] at hC
                have hgv := give_some _ wr g A3 c3 (ntI u :: (l.drop (q + 1)).map ntI) 0 hC (Nat.succ_pos _) (by rw [List.length_cons, List.length_map, List.length_drop, hl.out]; omega)
                have HGV := Aside0.mk hgv
                have HQL := Aside0.mk hql
                have HU := Aside0.mk hu
                have HCC := Aside0.mk hC
                clear hgv hdr hC hu
                go_wp2_with fail
                refine HGV.out.mono ?_
                rintro e w2 ⟨⟨A5, c5, rfl, hR2⟩, hC2, hk2, hb2⟩
                have hO2 : Od w w2 g A3 c3 A2 c2 (l.drop (q + 1)) l := ⟨hC2, want_kept HCC.out hO.out.row hk2, hO.out.bel.trans (hb2.mono HG.out)⟩
                have HB2 := Aside0.mk hO2.bel
                have hO3 : Od w (w2.alloc (.cells #[.int .i64 u, .int .i64 0, .bool false, .slice A5 0 c5] 31)) g A3 c3 A2 c2 (l.drop (q + 1)) l := ⟨hO2.ch.below (below_alloc (Below.refl _ _) _), Kd.R_below hO2.row (below_alloc (Below.refl _ _) _), hO2.bel.alloc hO2.bel.size _⟩
                obtain ⟨b, rfl, hcz⟩ := hO3.num q HQL.out
                rw [← HU.out] at hcz
                have HO3 := Aside0.mk hO3
                clear hR2 hC2 hk2 hb2 hO2 hO3
                dsimp only [List.getElem_cons_zero, ntI, List.length_nil]
                go_wp2_with fail
                go_region
                go_wp2
                go_roundg mq
                case measure => omega
                case rel => exact ⟨q + 1, A3, c3, by go_num, ⟨HO3.out.ch.below (below_drew (Below.refl _ _)), Kd.R_drew HO3.out.row, HO3.out.bel.drew⟩, ⟨by omega⟩, ⟨by have := hqq.out; omega⟩⟩
              · have hq1 : ¬ (q : Int) < (L : Int) := by omega
                obtain rfl : q = L := by have := hqL.out; omega
                have hnil : (l.drop q).map ntI = [] := by rw [List.drop_eq_nil_of_le (by rw [hl.out]; exact Nat.le_refl _)]; rfl
                have hC := hO.out.ch
                rw [hnil] at hC
                have HCC := Aside0.mk hC
                clear hC hnil
                go_wp2_with fail
                refine (len_any _ wr g A3 c3 [] HCC.out).mono ?_
                rintro e w2 ⟨rfl, rfl⟩
                go_wp2
                go_ret
                exact ⟨rfl, hO.out.bel⟩
end Go.Proofs.Ytfohlaeahageaaa.Edge
