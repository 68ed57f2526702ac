/- The walk of Get. -/
import Derived.Test.YtgpeogbifpbcdaaTlvBase
import Derived.Test.YtgpeogbifpbcdaaTlvPlain
import Derived.Deep.QuietTactic
import Derived.BigQuiet
import Derived.IntWalk
namespace Go.Proofs.Ytgpeogbifpbcdaa.Tlv
open Go.RowKit Go.Proofs.YtgpeogbifpbcdaaW.PrintWords Go.Proofs.YtgpeogbifpbcdaaW.PrintMore Go.Proofs.YtgpeogbifpbcdaaW.PrintLast Go.Proofs.Ytgpeogbifpbcdaa.PTlvTells

theorem rd_byte {b : List Int} (h : ∀ x, x ∈ b → 0 ≤ x ∧ x < 256) (i : Nat) (hi : i < b.length) : 0 ≤ rd b (i : Int) ∧ rd b (i : Int) < 256 := by
  have e : rd b (i : Int) = b[i] := by simp [rd, hi]
  rw [e]
  exact h _ (List.getElem_mem hi)
theorem add_zero_ (ad : Addr) : ad.add 0 = ad := by simp [Addr.add]
theorem add_pos (ad : Addr) (n : Nat) (h : 0 < n) : ad.add n = ⟨ad.block, ad.off + n, none⟩ := by
  unfold Addr.add
  rw [if_neg (by omega)]
theorem info26 : (Try.prog.info? 26).map (fun i => (i.zero, i.size, i.bytes)) = some (some (.agg #[.int .i64 0, .slice none 0 0]), 2, 32) := by kernel_rfl
/-- At label 0 of Get. -/
structure AtBegin (w w' : World) (r : List S26 × Int) (A' : Option Addr) (c' : Nat) (bb : List Int) (acc : List S26) (v4 : Value) (gi : Nat) : Prop where
  read : ∀ W, Below w.heap.size w W → kB.C W A' bb.length bb
  cap : bb.length ≤ c'
  len : bb.length ≤ 1000000
  byte : ∀ x, x ∈ bb → 0 ≤ x ∧ x < 256
  out : Kd.R k26 26 w' w.heap.size (fun k => k ≠ gi) v4 acc
  accl : acc.length + bb.length ≤ 1000000
  item : ∃ x0 x1, w'.heap[gi]? = some (.cells #[x0, x1] 26 (0, 0))
  gle : w.heap.size ≤ gi
  bel : Below w.heap.size w w'
  is_ : getL bb acc = r
/-- At a jump of Get. -/
def Jg (w : World) (r : List S26 × Int) (l m : Nat) (a' : Act) (w' : World) : Prop :=
  (l = 1 ∧ Aside0 (r = ([], 2) ∧ Below w.heap.size w w') ∧ ∃ u0 u2 u3 u4 u5 u6 u7 u8 u9 u10 u11 u12 u13 u14 u15 u16 u17 u18 u19 u20 u21 u22 u23 u24 u25 u26 u27 u28 u29 u30 u31 u32 u33 u34 u35 u36 u37 u38 u39 u40 u41 u42 u43 u44 u45 u46, a' = { tmps := #[u0, undef, u2, u3, u4, u5, u6, u7, u8, u9, u10, u11, u12, u13, u14, u15, u16, u17, u18, u19, u20, u21, u22, u23, u24, u25, u26, u27, u28, u29, u30, u31, u32, u33, u34, u35, u36, u37, u38, u39, u40, u41, u42, u43, u44, u45, u46], defers := [] }) ∨
  (l = 0 ∧ ∃ (A' : Option Addr) (c' : Nat) (bb : List Int) (acc : List S26) (v4 : Value) (gi : Nat), m = bb.length + 1 ∧ Aside0 (AtBegin w w' r A' c' bb acc v4 gi) ∧ ∃ u6 u7 u8 u9 u10 u11 u12 u13 u14 u15 u16 u17 u18 u19 u20 u21 u22 u23 u24 u25 u26 u27 u28 u29 u30 u31 u32 u33 u34 u35 u36 u37 u38 u39 u40 u41 u42 u43 u44 u45 u46, a' = { tmps := #[.slice A' bb.length c', undef, .slice none 0 0, .int .i64 0, v4, .pointer (some ⟨gi, 0, none⟩), u6, u7, u8, u9, u10, u11, u12, u13, u14, u15, u16, u17, u18, u19, u20, u21, u22, u23, u24, u25, u26, u27, u28, u29, u30, u31, u32, u33, u34, u35, u36, u37, u38, u39, u40, u41, u42, u43, u44, u45, u46], defers := [] })
set_option maxHeartbeats 1000000 in
theorem get_any (w : World) (A : Option Addr) (c : Nat) (b : List Int) (hr : kB.C w A b.length b) (hc : b.length ≤ c) (hl : b.length ≤ 1000000) (hb : ∀ x, x ∈ b → 0 ≤ x ∧ x < 256) :
    Calls Try.prog 10 #[.slice A b.length c] w fun e w' => ∃ v, e = .returned (.tuple #[v, .int .i64 (getL b []).2]) ∧ Kd.R k26 26 w' w.heap.size (fun _ => True) v (getL b []).1 ∧ Below w.heap.size w w' := by
  have HR := Aside0.mk hr
  obtain ⟨n, hn⟩ : ∃ n, n = b.length := ⟨_, rfl⟩
  have Hn := Aside0.mk hn
  have HB := Aside0.mk hb
  obtain ⟨r, hrr⟩ : ∃ r, r = getL b [] := ⟨_, rfl⟩
  have Hr := Aside0.mk hrr
  rw [← hrr]
  rw [← hn] at hl hc ⊢
  clear hr hn hb hrr
  have hu26 := Try.underlying26
  go_enter Try.func10, Try.ntmps10
  go_wp2
  refine wp_scope_gotos2 (Jg w r) ?_ ?_
  · rintro l m a' w' (⟨rfl, hj, u0, u2, u3, u4, u5, u6, u7, u8, u9, u10, u11, u12, u13, u14, u15, u16, u17, u18, u19, u20, u21, u22, u23, u24, u25, u26, u27, u28, u29, u30, u31, u32, u33, u34, u35, u36, u37, u38, u39, u40, u41, u42, u43, u44, u45, u46, rfl⟩ | ⟨rfl, A', c', bb, acc, v4, gi, rfl, hj, u6, u7, u8, u9, u10, u11, u12, u13, u14, u15, u16, u17, u18, u19, u20, u21, u22, u23, u24, u25, u26, u27, u28, u29, u30, u31, u32, u33, u34, u35, u36, u37, u38, u39, u40, u41, u42, u43, u44, u45, u46, rfl⟩)
    · refine ⟨_, rfl, ?_⟩
      go_wp2
      rw [jumps_ret]
      go_ret2
      obtain ⟨hr, hb⟩ := hj.out
      rw [hr]
      exact ⟨_, rfl, Kd.R_nil _ _ _ _ _, hb⟩
    · refine ⟨_, rfl, ?_⟩
      obtain ⟨L, hL⟩ : ∃ L, L = bb.length := ⟨_, rfl⟩
      have HL := Aside0.mk hL
      have hJ := hj.out
      have hL5 : (L : Int) ≤ 1000000 := by have := hJ.len; omega
      rw [← hL]
      clear hc hl hL hj
      have hj := Aside0.mk hJ
      clear hJ
      by_cases h0 : L = 0
      · subst h0
        go_wp2
        rw [jumps_ret]
        go_ret2
        have hJ := hj.out
        have hb0 : bb = [] := List.eq_nil_of_length_eq_zero HL.out.symm
        have e := hJ.is_
        rw [hb0, getL_nil] at e
        rw [← e]
        exact ⟨_, rfl, Kd.R_mono hJ.out (fun _ _ => trivial), hJ.bel⟩
      · have h0' : (0 : Int) < (L : Int) := by omega
        by_cases h3 : L < 3
        · have h3' : (L : Int) < 3 := by omega
          go_wp2
          go_step3
          simp only [go_sem]
          show ∃ n', n' < L + 1 ∧ Jg w r 1 n' _ _
          refine ⟨0, by omega, .inl ⟨rfl, ⟨?_, hj.out.bel⟩, _, _, _, _, _, _, _, _, _, _, _, _, _, _, _, _, _, _, _, _, _, _, _, _, _, _, _, _, _, _, _, _, _, _, _, _, _, _, _, _, _, _, _, _, _, _, rfl⟩⟩
          have e := hj.out.is_
          rw [getL_short _ _ (by have := HL.out; omega) (by have := HL.out; omega)] at e
          exact e.symm
        · have h3' : (3 : Int) ≤ (L : Int) := by omega
          have hC := hj.out.read _ hj.out.bel
          have hB0 := hj.out.byte
          obtain ⟨ad, rfl, a0⟩ := Kd.at_int hC 0 (by omega) (by have := HL.out; omega)
          obtain ⟨_, e1, a1⟩ := Kd.at_int hC 1 (by omega) (by have := HL.out; omega)
          cases e1
          obtain ⟨_, e1, a2⟩ := Kd.at_int hC 2 (by omega) (by have := HL.out; omega)
          cases e1
          obtain ⟨x0, hx0⟩ : ∃ x, x = rd bb 0 := ⟨_, rfl⟩
          obtain ⟨x1, hx1⟩ : ∃ x, x = rd bb 1 := ⟨_, rfl⟩
          obtain ⟨x2, hx2⟩ : ∃ x, x = rd bb 2 := ⟨_, rfl⟩
          have b0 : 0 ≤ x0 ∧ x0 < 256 := by rw [hx0]; exact rd_byte hB0 0 (by have := HL.out; omega)
          have b1 : 0 ≤ x1 ∧ x1 < 256 := by rw [hx1]; exact rd_byte hB0 1 (by have := HL.out; omega)
          have b2 : 0 ≤ x2 ∧ x2 < 256 := by rw [hx2]; exact rd_byte hB0 2 (by have := HL.out; omega)
          have HX := Aside0.mk (And.intro hx0 (And.intro hx1 hx2))
          rw [← hx0] at a0
          rw [show (0 : Int).toNat = 0 from rfl, add_zero_] at a0
          rw [show (1 : Int).toNat = 1 from rfl] at a1
          rw [show (2 : Int).toNat = 2 from rfl] at a2
          rw [← hx1] at a1
          rw [← hx2] at a2
          obtain ⟨y0, y1, hit⟩ := hj.out.item
          have hi0 : w'.cell? ⟨gi, 0, none⟩ = some y0 := (blk_cell hit 0).trans rfl
          have hi1 : w'.cell? ⟨gi, 1, none⟩ = some y1 := (blk_cell hit 1).trans rfl
          have hf0 : w'.frozen? ⟨gi, 0, none⟩ = false := blk_frozen hit 0
          have hf1 : w'.frozen? ⟨gi, 1, none⟩ = false := blk_frozen hit 1
          have HIT := Aside0.mk hit
          obtain ⟨b00, b01⟩ := b0
          obtain ⟨b10, b11⟩ := b1
          obtain ⟨b20, b21⟩ := b2
          clear hx0 hx1 hx2 hC hB0 hit
          go_wp2
          obtain ⟨w2, hw2⟩ : ∃ w2, w2 = w'.setCell ⟨gi, 0, none⟩ (.int .i64 x0) := ⟨_, rfl⟩
          have hB2 : Below w.heap.size w w2 := by rw [hw2]; exact hj.out.bel.setCell hj.out.gle _
          have hI2 : w2.heap[gi]? = some (.cells #[.int .i64 x0, y1] 26 (0, 0)) := by rw [hw2]; exact blk_put HIT.out 0 _ rfl
          have hO2 : Kd.R k26 26 w2 w.heap.size (fun k => k ≠ gi) v4 acc := by rw [hw2]; exact Kd.R_far (p := ⟨gi, 0, none⟩) hj.out.out (fun k hk => hk) _
          have hC2 := hj.out.read _ hB2
          obtain ⟨_, e1, c1⟩ := Kd.at_int hC2 1 (by omega) (by have := HL.out; omega)
          cases e1
          obtain ⟨_, e1, c2⟩ := Kd.at_int hC2 2 (by omega) (by have := HL.out; omega)
          cases e1
          rw [show (1 : Int).toNat = 1 from rfl, ← HX.out.2.1, add_pos ad 1 (by decide)] at c1
          rw [show (2 : Int).toNat = 2 from rfl, ← HX.out.2.2, add_pos ad 2 (by decide)] at c2
          have HB2 := Aside0.mk hB2
          have HI2 := Aside0.mk hI2
          have HO2 := Aside0.mk hO2
          rw [← hw2]
          obtain ⟨y, hy⟩ : ∃ y : Nat, y = (x1 * 256 + x2).toNat := ⟨_, rfl⟩
          have hor : Go.bits .or .i64 (x1 * 256) x2 = (y : Int) := by
            rw [Bits.or64 8 (x1 * 256) x2 (by omega) (by omega) (by omega) (by omega) (by omega) (by omega)]
            omega
          have HY := Aside0.mk hy
          clear hw2 hB2 hI2 hO2 hC2 a0 a1 a2 hi0 hi1 hf0 hf1 hy
          have hL1 : (1 : Int) < (L : Int) := by omega
          have hL2 : (2 : Int) < (L : Int) := by omega
          go_quiet (fail)
          have HB3 : Aside0 (Below w.heap.size w (w2.drewN nq)) := ⟨pw_below_drewN HB2.out nq⟩
          have HI3 : Aside0 ((w2.drewN nq).heap[gi]? = some (.cells #[.int .i64 x0, y1] 26 (0, 0))) := ⟨blk_drewN HI2.out nq⟩
          have HO3 : Aside0 (Kd.R k26 26 (w2.drewN nq) w.heap.size (fun k => k ≠ gi) v4 acc) := ⟨Kd.R_drewN HO2.out nq⟩
          clear HB2 HI2 HO2 hL1 hL2 c1 c2 hor
          generalize w2.drewN nq = w3 at HB3 HI3 HO3 ⊢
          have hJ := hj.out
          have hlen2 : len2 bb = y := by
            have h1 := HX.out
            have h2 := HY.out
            unfold len2
            rw [← h1.2.1, ← h1.2.2, ← h2]
          obtain ⟨i5, hi5, hi5'⟩ := Option.map_eq_some_iff.1 info5
          have hsz5 : i5.size = 1 := by simp at hi5'; exact hi5'.2.1
          have hcut3 := cut_from (P := Try.prog) 23 5 .i64 Try.underlying23 hi5 1 hsz5 (some ad) L c' 3 (by omega) (by omega)
          rw [show (3 : Int).toNat = 3 from rfl] at hcut3
          obtain ⟨A3, hA3⟩ : ∃ A3, A3 = (if c' = 3 then (some ad : Option Addr) else (some ad).map (·.add (3 * 1))) := ⟨_, rfl⟩
          rw [← hA3] at hcut3
          obtain ⟨L3, hL3⟩ : ∃ L3, L3 = L - 3 := ⟨_, rfl⟩
          obtain ⟨c3, hc3⟩ : ∃ c3, c3 = c' - 3 := ⟨_, rfl⟩
          rw [← hL3, ← hc3] at hcut3
          have hl3 : (bb.drop 3).length = L3 := by rw [List.length_drop, hL3, HL.out]
          have hR3 : ∀ W, Below w.heap.size w W → kB.C W A3 (bb.drop 3).length (bb.drop 3) := fun W hW => by
            rw [hA3]
            exact Kd.C_drop (hJ.read W hW) (by have := HL.out; omega) hJ.cap
          have hcap3 : L3 ≤ c3 := by have := hJ.cap; have := HL.out; omega
          have hL35 : (L3 : Int) ≤ 1000000 := by omega
          have HR3 := Aside0.mk hR3
          have HL3 := Aside0.mk hl3
          have HLL := Aside0.mk hL3
          have HN2 := Aside0.mk hlen2
          have HCC := Aside0.mk hcap3
          clear hA3 hL3 hc3 hl3 hR3 hlen2 hcap3 hi5'
          clear hJ
          by_cases hly : L3 < y
          · have hly' : (L3 : Int) < (y : Int) := by omega
            go_wp2
            go_step3
            simp only [go_sem]
            show ∃ n', n' < L + 1 ∧ Jg w r 1 n' _ _
            refine ⟨0, by omega, .inl ⟨rfl, ⟨?_, HB3.out⟩, _, _, _, _, _, _, _, _, _, _, _, _, _, _, _, _, _, _, _, _, _, _, _, _, _, _, _, _, _, _, _, _, _, _, _, _, _, _, _, _, _, _, _, _, _, _, rfl⟩⟩
            have e := hj.out.is_
            rw [getL_torn _ _ (by have := HL.out; omega) (by rw [HL3.out, HN2.out]; exact hly)] at e
            exact e.symm
          · have hly' : (y : Int) ≤ (L3 : Int) := by omega
            have hcuty := cut_to (P := Try.prog) 23 5 .i64 Try.underlying23 hi5 A3 L3 c3 (y : Int) (by omega) (by omega) HCC.out
            rw [Int.toNat_natCast] at hcuty
            have htk : ((bb.drop 3).take y).length = y := by rw [List.length_take, HL3.out]; omega
            have hCt : kB.C w3 A3 y ((bb.drop 3).take y) := by
              have h := Kd.C_take (HR3.out w3 HB3.out) (m := y) (by rw [HL3.out]; omega)
              rw [htk] at h
              exact h
            obtain ⟨dat, hdat⟩ : ∃ d, d = (bb.drop 3).take y := ⟨_, rfl⟩
            rw [← hdat] at hCt
            have HD := Aside0.mk hdat
            have HCt := Aside0.mk hCt
            have hly2 : y ≤ L3 := by omega
            clear hdat hCt htk hly
            go_wp2_with fail
            refine (clone_any w3 A3 y c3 dat HCt.out (by omega)).mono ?_
            rintro e w4 ⟨v9, rfl, hR9, hB4⟩
            obtain ⟨A9, c9, rfl⟩ := Kd.R_slice hR9
            have hI4 : w4.heap[gi]? = some (.cells #[.int .i64 x0, y1] 26 (0, 0)) := blk_below HI3.out hB4
            have hglt := blk_lt HI3.out
            have hf14 : w4.frozen? ⟨gi, 1, none⟩ = false := blk_frozen hI4 1
            have hi14 : w4.cell? ⟨gi, 1, none⟩ = some y1 := (blk_cell hI4 1).trans rfl
            have HB4 : Aside0 (Below w.heap.size w w4) := ⟨below_step HB3.out hB4⟩
            have HO4 := Aside0.mk (Kd.R_below HO3.out hB4)
            have h9 : Aside0 (kB.R 5 w4 w.heap.size (fun k => k ≠ gi ∧ some k ≠ v4.ownBlock) (.slice A9 dat.length c9) dat) := ⟨Kd.R_mono (Kd.R_lower (Kd.R_bound (Kd.R_newR hR9 HO3.out)) HB3.out.size) (fun k hk => ⟨by have := hk.2.1; omega, hk.1.2⟩)⟩
            obtain ⟨m9, hm9⟩ : ∃ m9, m9 = dat.length := ⟨_, rfl⟩
            rw [← hm9] at h9 ⊢
            have HM9 := Aside0.mk hm9
            have HI4 := Aside0.mk hI4
            have hi40 : w4.cell? ⟨gi, 0, none⟩ = some (.int .i64 x0) := (blk_cell hI4 0).trans rfl
            obtain ⟨w5, hw5⟩ : ∃ w5, w5 = w4.setCell ⟨gi, 1, none⟩ (.slice A9 m9 c9) := ⟨_, rfl⟩
            have HB5 : Aside0 (Below w.heap.size w w5) := ⟨by rw [hw5]; exact HB4.out.setCell hj.out.gle _⟩
            have hI5 : w5.heap[gi]? = some (.cells #[.int .i64 x0, .slice A9 m9 c9] 26 (0, 0)) := by rw [hw5]; exact blk_put HI4.out 1 _ rfl
            have HO5 : Aside0 (Kd.R k26 26 w5 w.heap.size (fun k => k ≠ gi) v4 acc) := ⟨by rw [hw5]; exact Kd.R_far (p := ⟨gi, 1, none⟩) HO4.out (fun k hk => hk) _⟩
            have H95 : Aside0 (kB.R 5 w5 w.heap.size (fun k => k ≠ gi ∧ some k ≠ v4.ownBlock) (.slice A9 m9 c9) dat) := ⟨by rw [hw5]; exact Kd.R_far (p := ⟨gi, 1, none⟩) h9.out (fun k hk => hk.1) _⟩
            have hi50 : w5.cell? ⟨gi, 0, none⟩ = some (.int .i64 x0) := (blk_cell hI5 0).trans rfl
            have hi51 : w5.cell? ⟨gi, 1, none⟩ = some (.slice A9 m9 c9) := (blk_cell hI5 1).trans rfl
            have HI5 := Aside0.mk hI5
            have HW5 := Aside0.mk hw5
            have hcutr := cut_from (P := Try.prog) 23 5 .i64 Try.underlying23 hi5 1 hsz5 A3 L3 c3 (y : Int) (by omega) (by omega)
            rw [Int.toNat_natCast] at hcutr
            obtain ⟨A4, hA4⟩ : ∃ A4, A4 = (if c3 = y then A3 else A3.map (·.add (y * 1))) := ⟨_, rfl⟩
            rw [← hA4] at hcutr
            obtain ⟨L4, hL4⟩ : ∃ L4, L4 = L3 - y := ⟨_, rfl⟩
            obtain ⟨c4, hc4⟩ : ∃ c4, c4 = c3 - y := ⟨_, rfl⟩
            rw [← hL4, ← hc4] at hcutr
            have hl4 : ((bb.drop 3).drop y).length = L4 := by rw [List.length_drop, HL3.out, hL4]
            have HR4 : Aside0 (∀ W, Below w.heap.size w W → kB.C W A4 ((bb.drop 3).drop y).length ((bb.drop 3).drop y)) := ⟨fun W hW => by
              rw [hA4]
              exact Kd.C_drop (HR3.out W hW) (by rw [HL3.out]; omega) (by rw [HL3.out]; exact HCC.out)⟩
            have HL4 := Aside0.mk hl4
            have HL45 : Aside0 (L4 = L3 - y ∧ c4 = c3 - y) := ⟨⟨hL4, hc4⟩⟩
            have hacc := hj.out.accl
            have HACC := Aside0.mk hacc
            have hpM : k26.M w5 w.heap.size (fun k => k ≠ gi ∧ some k ≠ v4.ownBlock) ⟨x0, dat⟩ [.int .i64 x0, .slice A9 m9 c9] := k26_mkM w5 _ _ ⟨x0, dat⟩ H95.out
            rw [HW5.out] at hpM HO5 HB5
            have HPM := Aside0.mk hpM
            have hgw : w.heap.size ≤ (w4.setCell ⟨gi, 1, none⟩ (.slice A9 m9 c9)).heap.size := HB5.out.size
            have HGW := Aside0.mk hgw
            have hgi5 : gi < (w4.setCell ⟨gi, 1, none⟩ (.slice A9 m9 c9)).heap.size := by rw [← HW5.out]; exact blk_lt hI5
            have HGI := Aside0.mk hgi5
            have HSZ : Aside0 (w4.heap.size = (w4.setCell ⟨gi, 1, none⟩ (.slice A9 m9 c9)).heap.size) := ⟨by simp⟩
            clear hR9 hB4 hI4 hglt hm9 hw5 hI5 hA4 hL4 hc4 hl4 h9 hacc hi50 hi51 hpM hgw hgi5
            go_wp2_with (((with_reducible refine gate_builtin (b := .append) (xs := #[.tmp 43, .tmp 45]) rfl ?_); at_builtin; refine Kd.R_append k26 (w0 := w) w.heap.size rfl (.tmp 43) (.tmp 45) 22 26 (.agg #[.int .i64 0, .slice none 0 0]) 32 rfl Try.underlying22 info26 rfl (by decide) (by omega) v4 acc ⟨x0, dat⟩ [.int .i64 x0, .slice A9 m9 c9] (fun k => k ≠ gi) (fun k => k ≠ gi ∧ some k ≠ v4.ownBlock) rfl ?aX ?aP (fun _ h => h) ?aF ?aO ?aB ?aS ?aL ?_; (case aX => exact congrArg (fun k => Value.slice (some ⟨k, 0, none⟩) 1 1) HSZ.out); (case aP => exact HPM.out); (case aO => exact HO5.out); (case aF => exact fun k hk => by have := HGI.out; omega); (case aB => exact HB5.out); (case aS => exact HGW.out); (case aL => have := HACC.out; omega); intro v1 w6 ho hb6 hg6 _; go_must (have HO6 := Aside0.mk ho; have HB6 := Aside0.mk hb6; have HG6 := Aside0.mk hg6; clear ho hb6 hg6)))
            go_step3
            simp only [go_sem]
            show ∃ n', n' < L + 1 ∧ Jg w r 0 n' _ _
            have hne : some gi ≠ v4.ownBlock := fun e => (HO5.out.1 gi e.symm) rfl
            have hI6 : w6.heap[gi]? = some (.cells #[.int .i64 x0, .slice A9 m9 c9] 26 (0, 0)) := blk_grown (by rw [← HW5.out]; exact HI5.out) HG6.out hne
            have h4 := HL4.out
            have h45 := HL45.out
            have h3l := HL3.out
            refine ⟨((bb.drop 3).drop y).length + 1, ?_, .inr ⟨rfl, A4, c4, (bb.drop 3).drop y, acc ++ [⟨x0, dat⟩], v1, gi, rfl, ⟨?_⟩, ?_⟩⟩
            · rw [h4]
              have := HLL.out
              omega
            · refine ⟨HR4.out, ?_, ?_, fun x hx => hj.out.byte x (List.mem_of_mem_drop (List.mem_of_mem_drop hx)), HO6.out, ?_, ⟨_, _, hI6⟩, hj.out.gle, HB6.out, ?_⟩
              · rw [h4]
                have := HCC.out
                omega
              · rw [h4]
                have := HLL.out
                omega
              · rw [h4]
                have h1 := HACC.out
                have h2 := HL.out
                have h5 := HLL.out
                simp only [List.length_append, List.length_singleton]
                omega
              · have e := hj.out.is_
                rw [getL_go _ _ (by have := HL.out; omega) (by rw [HL3.out, HN2.out]; omega), HN2.out, ← HD.out, ← HX.out.1] at e
                exact e
            · rw [h4]
              exact ⟨_, _, _, _, _, _, _, _, _, _, _, _, _, _, _, _, _, _, _, _, _, _, _, _, _, _, _, _, _, _, _, _, _, _, _, _, _, _, _, _, _, rfl⟩
  · intro H
    go_wp2
    rename_i hK
    go_step3
    simp only [go_sem]
    refine hK _ _ ?_
    have hn0 := Hn.out
    refine H 0 (b.length + 1) _ _ _ ?hf (.inr ⟨rfl, A, c, b, [], .slice none 0 0, w.heap.size, rfl, ⟨?_⟩, ?_⟩)
    case hf => rfl
    · refine ⟨fun W hW => Kd.C_below HR.out hW, by omega, by omega, HB.out, Kd.R_nil _ _ _ _ _, by simp; omega, ⟨_, _, blk_new _ _⟩, Nat.le_refl _, below_alloc (Below.refl _ _) _, Hr.out.symm⟩
    · rw [← hn0]
      exact ⟨_, _, _, _, _, _, _, _, _, _, _, _, _, _, _, _, _, _, _, _, _, _, _, _, _, _, _, _, _, _, _, _, _, _, _, _, _, _, _, _, _, rfl⟩
end Go.Proofs.Ytgpeogbifpbcdaa.Tlv
