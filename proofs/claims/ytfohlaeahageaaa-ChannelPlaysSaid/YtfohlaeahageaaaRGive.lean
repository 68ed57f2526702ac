/- The document's own channel: Give, Double. -/
import Derived.Test.YtfohlaeahageaaaGive
import Derived.IntWalk
namespace Go.Proofs.Ytfohlaeahageaaa.Edge
open Go.RowKit Go.Proofs.YtfohlaeahageaaaW.PrintWords Go.Proofs.YtfohlaeahageaaaW.PrintMore Go.Proofs.YtfohlaeahageaaaW.PrintLast

theorem reads_take {α : Type} {R : α → List Value → Prop} {size m n : Nat} {w : World} {A : Option Addr} {xs : List α} (h : ReadsRow R size w A n xs) (hm : m ≤ n) : ReadsRow R size w A m (xs.take m) := by
  have hn := h.1
  refine ⟨by rw [List.length_take]; omega, by have := h.2.1; omega, fun hp => ?_⟩
  obtain ⟨ad, e, hc⟩ := h.2.2 (by omega)
  refine ⟨ad, e, fun j p hj => hc j p ?_⟩
  rw [List.getElem?_take] at hj
  split at hj
  · exact hj
  · cases hj
/-- The rest of a row from m on; its address as Go has it. -/
theorem reads_drop {α : Type} {R : α → List Value → Prop} {size m n c b : Nat} {w : World} {A : Addr} {xs : List α} (h : ReadsRow R size w (some ⟨b, 0, none⟩) n xs) (hm : m ≤ n) (hc : n ≤ c) (hA : (if c = m then some (⟨b, 0, none⟩ : Addr) else some ⟨b, m * size, none⟩) = some A) : ReadsRow R size w (some A) (n - m) (xs.drop m) := by
  have hn := h.1
  refine ⟨by rw [List.length_drop]; omega, by have := h.2.1; omega, fun hp => ?_⟩
  rw [if_neg (by omega)] at hA
  obtain rfl := Option.some.inj hA
  obtain ⟨ad, e, hcell⟩ := h.2.2 (by omega)
  obtain rfl := Option.some.inj e
  refine ⟨_, rfl, fun j p hj => ?_⟩
  rw [List.getElem?_drop] at hj
  obtain ⟨cs, h1, h2, h3⟩ := hcell (m + j) p hj
  refine ⟨cs, h1, h2, fun i u hu => ?_⟩
  have h4 := h3 i u hu
  have e1 : (⟨b, m * size, none⟩ : Addr).add (j * size + i) = ⟨b, m * size + (j * size + i), none⟩ := by unfold Addr.add; split <;> simp_all
  rw [add_plain] at h4
  rw [e1, ← Nat.add_assoc, ← Nat.add_mul]
  exact h4
/-- The notes of the channel's row, as what may be copied. -/
theorem own_notes {P : Nat → Prop} {w : World} {B b n c : Nat} {ns : List NoteT} (h : kNote.R 31 w B P (.slice (some ⟨b, 0, none⟩) n c) ns) : ReadsRow (fun x cs => kNote.M w B (fun k => P k ∧ k ≠ b ∧ k < w.heap.size) x cs) 4 w (some ⟨b, 0, none⟩) n ns := by
  have hn : n = ns.length := (Kd.R_reads' h).1
  obtain ⟨A, c', e, _, hr⟩ := OwnRow.reads (Kd.R_bound h).2
  injection e with e1 e2 e3
  subst e1
  rw [hn]
  exact hr.imp_ (Below.refl _ _) (fun _ _ hp => kNote.M_mono (fun k hk => ⟨hk.1.1, fun e => hk.2 (by rw [e]; rfl), hk.1.2.2.1⟩) hp)
theorem notes_below {okp : Nat → Prop} {w w1 : World} {B n : Nat} {A : Option Addr} {ns : List NoteT} (h : ReadsRow (fun x cs => kNote.M w B okp x cs) 4 w A n ns) (hb : Below w.heap.size w w1) : ReadsRow (fun x cs => kNote.M w1 B okp x cs) 4 w1 A n ns := h.imp_ hb (fun _ _ hp => Kd.M_below hp hb)
set_option maxHeartbeats 8000000 in
theorem rgive_some0 (P : Nat → Prop) (w : World) (g : Nat) (A0 : Option Addr) (c : Nat) (ns : List NoteT) (i : Nat) (h : Ch P 52 w g A0 c ns) (hi : i < ns.length) (hl : ns.length ≤ 1000) :
    Calls Try.prog 21 #[.pointer (some ⟨g, 0, none⟩), .int .i64 (i : Int)] w fun e w' => (∃ A2 c2, e = .returned (.tuple #[.agg #[.int .i64 ns[i].1, .int .i64 ns[i].2.1, .bool ns[i].2.2.1, .slice A2 ns[i].2.2.2.length c2], .bool true]) ∧ kPut.C w' A2 ns[i].2.2.2.length ns[i].2.2.2) ∧ (∃ A1 c1, Ch (fun k => P k ∨ w.heap.size ≤ k) 52 w' g A1 c1 (ns.take i ++ ns.drop (i + 1))) ∧ Kept w w' (fun k => k = g) ∧ Below g w w' := by
  have H := Aside0.mk h
  have hlt := h.lt
  obtain ⟨b, rfl⟩ := R_pos h.row (by omega)
  have hob := h.ob b rfl
  obtain ⟨m, hm⟩ : ∃ m, ns.length = m + 1 := ⟨ns.length - 1, by omega⟩
  have hcap : m + 1 ≤ c := by
    have := (Kd.R_reads' h.row).2.1
    omega
  have him : (i : Int) < (m : Int) + 1 := by omega
  have hml : (m : Int) ≤ 1000 := by omega
  have hi0 : ¬ (i : Int) < 0 := by omega
  have hi1 : (0 : Int) ≤ (i : Int) + 1 := by omega
  have hi2 : (i : Int) + 1 ≤ (m : Int) + 1 := by omega
  have hic : (i : Int) ≤ (c : Int) := by omega
  have hnc : (m : Int) + 1 ≤ (c : Int) := by omega
  obtain ⟨x, hx⟩ : ∃ x, x = ns[i] := ⟨_, rfl⟩
  have hW0 : Ch P 52 (w.alloc (.cells #[.int .i64 0, .int .i64 0, .bool false, .slice none 0 0] 31)) g (some ⟨b, 0, none⟩) c ns := h.below (below_alloc (Below.refl _ _) _)
  obtain ⟨A2, c2, o0, o1, o2, o3, hR⟩ := note_own h.row i hi
  have hb0 : Below w.heap.size w (w.alloc (.cells #[.int .i64 0, .int .i64 0, .bool false, .slice none 0 0] 31)) := below_alloc (Below.refl _ _) _
  have e0 := pw_cell_below hb0 o0
  have e1 := pw_cell_below hb0 o1
  have e2 := pw_cell_below hb0 o2
  have e3 := pw_cell_below hb0 o3
  have hC2 : kPut.R 38 w (g + 1) (fun k => k ≠ w.heap.size) (.slice A2 ns[i].2.2.2.length c2) ns[i].2.2.2 := Kd.R_mono (Kd.R_bound hR) (fun k hk => by have h9 : k < w.heap.size := hk.2.2.1; omega)
  have hc := hW0.cell
  rw [← hx] at e0 e1 e2 e3 hC2 ⊢
  rw [hm] at hc
  obtain ⟨L, hL⟩ : ∃ L, L = x.2.2.2.length := ⟨_, rfl⟩
  rw [← hL] at e3 hC2 ⊢
  have hns := own_notes h.row
  have HNS := Aside0.mk hns
  have HH := Aside0.mk hW0
  have HR := Aside0.mk hC2
  have HO := Aside0.mk hob
  have HL := Aside0.mk (And.intro hi hl)
  have HLT := Aside0.mk hlt
  have HLE := Aside0.mk hL
  have HM := Aside0.mk hm
  clear o0 o1 o2 o3 hb0
  clear h hW0 hR hC2 hob hi hl hL hx hlt hns
  go_enter Try.func21, Try.ntmps21
  go_wp2_with fail
  refine with_world ?_
  intro W hW
  have hs : W.heap.size = w.heap.size + 2 := by rw [hW]; simp
  have hbW : Below w.heap.size w W := by rw [hW]; exact ((Below.refl _ _).alloc (Nat.le_refl _) _).alloc (by simp) _
  have b4 : W.heap[w.heap.size]? = some (.cells #[.int .i64 0, .int .i64 0, .bool false, .slice none 0 0] 31 (0, 0)) := by rw [hW]; exact blk_alloc (blk_new _ _) _
  have b6 : W.heap[w.heap.size + 1]? = some (.cells #[.int .i64 x.1, .int .i64 x.2.1, .bool x.2.2.1, .slice A2 L c2] 31 (0, 0)) := by rw [hW]; exact two_boxes w _ _ _ _ _ _ _ _
  clear hW e0 e1 e2 e3 hc
  have bg := (H.out.below hbW).blk
  rw [hm] at bg
  have HBW := Aside0.mk hbW
  have HS := Aside0.mk hs
  have HB := Aside0.mk (And.intro b4 (And.intro b6 bg))
  -- the cells that the statement reads, in whatever world behind
  have HP : Aside0 (∀ w', Below W.heap.size W w' → w'.cell? ⟨g, 0, none⟩ = some (.slice (some ⟨b, 0, none⟩) (m + 1) c) ∧ w'.frozen? ⟨g, 0, none⟩ = false) := ⟨fun w' hb => ⟨(blk_cell (blk_below bg hb) 0).trans rfl, blk_frozen (blk_below bg hb) 0⟩⟩
  have HNW : Aside0 (∀ w', Below W.heap.size W w' → ReadsRow (fun x cs => kNote.M w' (g + 1) (fun k => P k ∧ k ≠ b ∧ k < w.heap.size) x cs) 4 w' (some ⟨b, 0, none⟩) (m + 1) ns) := ⟨fun w' hb => by
    have h9 := notes_below HNS.out (HBW.out.trans (hb.mono HBW.out.size))
    rw [HM.out] at h9
    exact h9⟩
  obtain ⟨A, hA⟩ : ∃ A : Addr, (if c = i + 1 then some (⟨b, 0, none⟩ : Addr) else some ⟨b, (i + 1) * 4, none⟩) = some A := by
    split
    · exact ⟨_, rfl⟩
    · exact ⟨_, rfl⟩
  have HA := Aside0.mk hA
  have HD : Aside0 (i < m + 1 ∧ m + 1 ≤ c ∧ m ≤ 1000 ∧ g + 1 ≤ W.heap.size) := ⟨by have := HLT.out; omega⟩
  obtain ⟨f0, f1⟩ := HP.out W (Below.refl _ _)
  obtain ⟨k0, k1⟩ := HP.out W.drew (Below.refl _ _).drew
  clear hbW b4 b6 bg hs hcap hm
  have hwr : IntKind.i64.wrap ((i : Int) + 1) = (i : Int) + 1 := IntWalk.i64_in _ (by omega)
  have hwn : ((i : Int) + 1).toNat = i + 1 := by omega
  go_region_law (first | (refine Kd.R_append_rows_step kNote (Rr := fun x cs => kNote.M W.drew (g + 1) (fun k => P k ∧ k ≠ b ∧ k < w.heap.size) x cs) (w0 := W.drew) (W := W.drew) (g + 1) (by simp [Region.wanted]) (.const (.slice none 0 0)) (.tmp 32) 22 31 (.agg #[.int .i64 0, .int .i64 0, .bool false, .slice none 0 0]) 48 rfl Try.underlying22 info31 rfl (by decide) (by (clear hwr hwn; omega)) (.slice none 0 0) [] (ns.take i) (some ⟨b, 0, none⟩) i c (fun k => (P k ∧ k < w.heap.size) ∨ w.heap.size + 2 ≤ k) (fun k => P k ∧ k ≠ b ∧ k < w.heap.size) rfl rfl ?bO ?bR (fun _ _ h => h) ?bK ?bF ?bB ?bS ?bL ?_; (case bO => exact Kd.R_nil _ _ _ _ _); (case bR => exact reads_take (HNW.out W.drew (Below.refl _ _).drew) (by have := HD.out; (clear hwr hwn; omega))); (case bK => exact fun k hk => ⟨.inl ⟨hk.1, hk.2.2⟩, by simp [Value.ownBlock]⟩); (case bF => exact fun k hk => .inr (by have h9 : W.heap.size ≤ k := hk; have := HS.out; (clear hwr hwn; omega))); (case bB => exact Below.refl _ _); (case bS => exact HD.out.2.2.2); (case bL => have := HD.out; simp; (clear hwr hwn; omega)); intro v5 w5 ho5 hb5 hg5 hat5; obtain ⟨A5, c5, rfl⟩ := Kd.R_slice ho5; have e5 : ([] ++ ns.take i : List NoteT).length = i := (by have := HD.out; have := HM.out; simp; (clear hwr hwn; omega)); rw [e5] at ho5 hat5 ⊢; have hb5' : Below W.heap.size W w5 := (below_drew (Below.refl _ _)).trans (below_none hg5); have hat5' : ∀ k, (Value.slice A5 i c5).ownBlock = some k → W.heap.size ≤ k := (fun k hk => by rcases hat5 with h9 | ⟨b9, h9, h8⟩; (rw [h9] at hk; cases hk); (rw [h9] at hk; obtain rfl := Option.some.inj hk; exact h8)); obtain ⟨q0, q1⟩ := HP.out w5 hb5'; have H5 := Aside0.mk (And.intro ho5 (And.intro hb5' hat5')); clear ho5 hb5 hg5 hat5 e5 hb5' hat5') | (refine Kd.R_append_rows_step kNote (Rr := fun x cs => kNote.M w5 (g + 1) (fun k => P k ∧ k ≠ b ∧ k < w.heap.size) x cs) (w0 := W) (W := w5) (g + 1) (by simp [Region.wanted]) (.tmp 33) (.tmp 40) 22 31 (.agg #[.int .i64 0, .int .i64 0, .bool false, .slice none 0 0]) 48 rfl Try.underlying22 info31 rfl (by decide) (by (clear hwr hwn; omega)) (.slice A5 i c5) (ns.take i) (ns.drop (i + 1)) (some A) (m - i) (c - (i + 1)) (fun k => (P k ∧ k < w.heap.size) ∨ w.heap.size + 2 ≤ k) (fun k => P k ∧ k ≠ b ∧ k < w.heap.size) rfl rfl ?cO ?cR (fun _ _ h => h) ?cK ?cF ?cB ?cS ?cL ?_; (case cO => exact H5.out.1); (case cR => (have h9 := reads_drop (m := i + 1) (HNW.out w5 H5.out.2.1) (by have := HD.out; (clear hwr hwn; omega)) (by have := HD.out; (clear hwr hwn; omega)) HA.out; rw [Nat.add_sub_add_right] at h9; exact h9)); (case cK => exact fun k hk => ⟨.inl ⟨hk.1, hk.2.2⟩, fun e => by have h9 := H5.out.2.2 k e.symm; have := HS.out; have := hk.2.2; (clear hwr hwn; omega)⟩); (case cF => exact fun k hk => .inr (by have := H5.out.2.1.size; have := HS.out; (clear hwr hwn; omega))); (case cB => exact H5.out.2.1.mono HD.out.2.2.2); (case cS => exact Nat.le_trans HD.out.2.2.2 H5.out.2.1.size); (case cL => (have := HD.out; have := HM.out; rw [List.length_take]; (clear hwr hwn; omega))); intro v6 w6 ho6 hb6 hg6 hat6; obtain ⟨A6, c6, rfl⟩ := Kd.R_slice ho6; have e6 : (ns.take i ++ ns.drop (i + 1)).length = m := (by have := HD.out; have := HM.out; rw [List.length_append, List.length_take, List.length_drop]; (clear hwr hwn; omega)); rw [e6] at ho6 ⊢; have hb6' : Below W.heap.size W w6 := pw_below_grown H5.out.2.1 _ H5.out.2.1.size hg6 H5.out.2.2; obtain ⟨s0, s1⟩ := HP.out w6 hb6'; have H6 := Aside0.mk (And.intro ho6 hb6'); clear ho6 hb6 hg6 hat6 hb6' e6))
  all_goals
    generalize hw7 : w6.setCell ⟨g, 0, none⟩ (.slice A6 m c6) = w7
    have hgs : g ≠ w.heap.size := by have := HLT.out; clear hwr hwn; omega
    have hgs2 : g ≠ w.heap.size + 1 := by have := HLT.out; clear hwr hwn; omega
    have b47 : w7.heap[w.heap.size]? = some (.cells #[.int .i64 0, .int .i64 0, .bool false, .slice none 0 0] 31 (0, 0)) := by rw [← hw7]; exact blk_far (p := ⟨g, 0, none⟩) (blk_below HB.out.1 H6.out.2) (Ne.symm hgs) _
    have b67 : w7.heap[w.heap.size + 1]? = some (.cells #[.int .i64 x.1, .int .i64 x.2.1, .bool x.2.2.1, .slice A2 L c2] 31 (0, 0)) := by rw [← hw7]; exact blk_far (p := ⟨g, 0, none⟩) (blk_below HB.out.2.1 H6.out.2) (Ne.symm hgs2) _
    have bg7 : w7.heap[g]? = some (.cells #[.slice A6 m c6] 52 (0, 0)) := by rw [← hw7]; exact blk_put (blk_below HB.out.2.2 H6.out.2) 0 _ rfl
    have hB6 : Below w.heap.size w w6 := HBW.out.trans (H6.out.2.mono HBW.out.size)
    have hR7 : kPut.R 38 w7 (g + 1) (fun k => k ≠ w.heap.size) (.slice A2 L c2) x.2.2.2 := by rw [← hw7]; exact R_setLow (Kd.R_below HR.out hB6) ⟨g, 0, none⟩ (Nat.lt_succ_self g) _
    have hn7 : kNote.R 31 w7 (g + 1) (fun k => (P k ∧ k < w.heap.size) ∨ w.heap.size + 2 ≤ k) (.slice A6 m c6) (ns.take i ++ ns.drop (i + 1)) := by rw [← hw7]; exact R_setLow H6.out.1 ⟨g, 0, none⟩ (Nat.lt_succ_self g) _
    have hk7 : Kept w w7 (fun k => k = g) := by
      rw [← hw7]
      have k6 : Kept w w6 (fun k => k = g) := Kept.of_below hB6 _
      exact k6.setCell (p := ⟨g, 0, none⟩) (.inl rfl) _
    have hb7 : Below g w w7 := by rw [← hw7]; exact (hB6.mono (Nat.le_of_lt HLT.out)).setCell (p := ⟨g, 0, none⟩) (Nat.le_refl g) _
    obtain ⟨p0, p1, p2, p3⟩ := box4 b67
    obtain ⟨z0, z1, z2, z3⟩ := box4 b47
    have y0 := blk_frozen b47 0
    have y1 := blk_frozen b47 1
    have y2 := blk_frozen b47 2
    have y3 := blk_frozen b47 3
    have H7 := Aside0.mk (And.intro b47 (And.intro bg7 (And.intro hR7 (And.intro hn7 (And.intro hk7 hb7)))))
    clear hw7 b47 b67 bg7 hR7 hn7 hk7 hb7 hB6 q0 q1 s0 s1 f0 f1 k0 k1 hwr hwn
    go_wp2
  all_goals
    obtain ⟨hb4, hbg, hR7, hn7, hk7, hb7⟩ := H7.out
    have hgs : g ≠ w.heap.size := by have := HLT.out; omega
    have hpn : ∀ k, k ≠ w.heap.size → k ≠ w.heap.size := fun _ hk => hk
    have hpo : ∀ k, ((P k ∧ k < w.heap.size) ∨ w.heap.size + 2 ≤ k) → k ≠ w.heap.size := fun k hk => by omega
    have e6 : (ns.take i ++ ns.drop (i + 1)).length = m := by
      have := HD.out
      have := HM.out
      rw [List.length_append, List.length_take, List.length_drop]
      omega
    have hC7 : Ch (fun k => (P k ∧ k < w.heap.size) ∨ w.heap.size + 2 ≤ k) 52 w7 g A6 c6 (ns.take i ++ ns.drop (i + 1)) := ⟨by rw [e6]; exact hbg, by rw [e6]; exact hn7⟩
    refine bodyPost_ret (results_ct rfl _ _ w.heap.size 31 #[.int .i64 x.1, .int .i64 x.2.1, .bool x.2.2.1, .slice A2 L c2] _ (.bool true) rfl (store4 hb4 _ _ _ _) rfl Try.underlying31 rfl info31s) rfl ?_
    refine ⟨⟨A2, c2, rfl, ?_⟩, ⟨A6, c6, ((((hC7.far ⟨w.heap.size, 0, none⟩ hpo hgs _).far ⟨w.heap.size, 1, none⟩ hpo hgs _).far ⟨w.heap.size, 2, none⟩ hpo hgs _).far ⟨w.heap.size, 3, none⟩ hpo hgs _).imp (fun k hk _ _ => ?_)⟩, ?_, ?_⟩
    · have h9 := R_readsC (Kd.R_far (p := ⟨w.heap.size, 3, none⟩) (Kd.R_far (p := ⟨w.heap.size, 2, none⟩) (Kd.R_far (p := ⟨w.heap.size, 1, none⟩) (Kd.R_far (p := ⟨w.heap.size, 0, none⟩) hR7 hpn (.int .i64 x.1)) hpn (.int .i64 x.2.1)) hpn (.bool x.2.2.1)) hpn (.slice A2 L c2))
      rw [← HLE.out] at h9
      exact h9
    · rcases hk with hk | hk
      · exact .inl hk.1
      · exact .inr (by omega)
    · have j1 := hk7.setCell (p := ⟨w.heap.size, 0, none⟩) (.inr (Nat.le_refl _)) (.int .i64 x.1)
      have j2 := j1.setCell (p := ⟨w.heap.size, 1, none⟩) (.inr (Nat.le_refl _)) (.int .i64 x.2.1)
      have j3 := j2.setCell (p := ⟨w.heap.size, 2, none⟩) (.inr (Nat.le_refl _)) (.bool x.2.2.1)
      exact j3.setCell (p := ⟨w.heap.size, 3, none⟩) (.inr (Nat.le_refl _)) (.slice A2 L c2)
    · have hg1 : g ≤ w.heap.size := Nat.le_of_lt HLT.out
      exact (((hb7.setCell (p := ⟨w.heap.size, 0, none⟩) hg1 _).setCell (p := ⟨w.heap.size, 1, none⟩) hg1 _).setCell (p := ⟨w.heap.size, 2, none⟩) hg1 _).setCell (p := ⟨w.heap.size, 3, none⟩) hg1 _
end Go.Proofs.Ytfohlaeahageaaa.Edge
