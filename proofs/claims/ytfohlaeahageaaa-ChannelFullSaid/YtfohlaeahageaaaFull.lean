/- ChannelFull: whole. -/
import Derived.Test.YtfohlaeahageaaaChanAlive
namespace Go.Proofs.Ytfohlaeahageaaa.Edge
open Go.RowKit Go.Proofs.YtfohlaeahageaaaW.PrintWords Go.Proofs.YtfohlaeahageaaaW.PrintMore Go.Proofs.YtfohlaeahageaaaW.PrintLast

/-- The note to i. -/
def nt (i : Nat) : NoteT := ((i : Int), 0, false, [])
/-- What flies behind k calls. -/
def Lf (d : Bool) (k : Nat) : List NoteT := (List.range (min k 1000)).map (fun i => nt (if d = true then 0 else i))
theorem lf_len (d : Bool) (k : Nat) : (Lf d k).length = min k 1000 := by simp [Lf]
theorem lf_at (d : Bool) (k i : Nat) (hi : i < (Lf d k).length) : (Lf d k)[i] = nt (if d = true then 0 else i) := by simp [Lf]
theorem lf_step (d : Bool) (k : Nat) : sendN (Lf d k) (nt (if d = true then 0 else k)) = Lf d (k + 1) := by
  unfold sendN
  rw [lf_len]
  by_cases h : k < 1000
  · rw [if_pos (by omega)]
    unfold Lf
    rw [Nat.min_eq_left (by omega), Nat.min_eq_left (by omega), List.range_succ, List.map_append]
    rfl
  · rw [if_neg (by omega)]
    unfold Lf
    rw [Nat.min_eq_right (by omega), Nat.min_eq_right (by omega)]
theorem full_out (w : World) (n : Int) (d : Bool) (h : n < 1 ∨ 1020 < n) : Calls Try.prog 6 #[.int .i64 n, .bool d] w fun e w' => e = .returned (.bool true) ∧ Below w.heap.size w w' := by
  rcases h with h | h
  · go_enter Try.func6, Try.ntmps6
    go_wp2_with fail
    refine (chan_alive _).mono ?_
    rintro e w1 ⟨rfl, hb⟩
    have HB := Aside0.mk hb
    clear hb
    go_wp2
    go_ret
    exact ⟨rfl, HB.out⟩
  · have h0 : ¬ n < 1 := by omega
    go_enter Try.func6, Try.ntmps6
    go_wp2_with fail
    refine (chan_alive _).mono ?_
    rintro e w1 ⟨rfl, hb⟩
    have HB := Aside0.mk hb
    clear hb
    go_wp2
    go_ret
    exact ⟨rfl, HB.out⟩
set_option maxRecDepth 100000 in
set_option maxHeartbeats 8000000 in
theorem full_in (w : World) (N : Nat) (d : Bool) (h1 : 1 ≤ N) (h2 : N ≤ 1020) : Calls Try.prog 6 #[.int .i64 (N : Int), .bool d] w fun e w' => e = .returned (.bool true) ∧ Below w.heap.size w w' := by
  have h1' : ¬ (N : Int) < 1 := by omega
  have h2' : ¬ (1020 : Int) < (N : Int) := by omega
  have HN := Aside0.mk (And.intro h1 h2)
  clear h1 h2
  go_enter Try.func6, Try.ntmps6
  go_wp2_with fail
  refine (chan_alive _).mono ?_
  rintro e w1 ⟨rfl, hb⟩
  have hB := hb.alloc hb.size (.cells #[.slice none 0 0] 49)
  have hC : Ch (fun _ => True) 49 (w1.alloc (.cells #[.slice none 0 0] 49)) w1.heap.size none 0 (Lf d 0) := by
    have e0 : Lf d 0 = [] := by simp [Lf]
    rw [e0]
    exact new_chan _ _ _
  obtain ⟨g, hg⟩ : ∃ g, g = w1.heap.size := ⟨_, rfl⟩
  have HG := Aside0.mk (show w.heap.size ≤ g by have := hb.size; omega)
  rw [← hg] at hC
  have HC0 := Aside0.mk hC
  have HB0 := Aside0.mk hB
  clear hb hB hC
  go_wp2
  rw [← hg]
  clear hg
  go_loopg [7] (N + 1) (fun kq v7 w' => ∃ (k : Nat) (A1 : Option Addr) (c1 : Nat), v7 = .int .i64 (k : Int) ∧ Aside0 (Ch (fun _ => True) 49 w' g A1 c1 (Lf d k)) ∧ Aside0 (Below w.heap.size w w') ∧ Aside0 (k ≤ N) ∧ Aside0 (N < kq + k))
  case atStart => exact ⟨0, _, _, rfl, HC0, HB0, ⟨by omega⟩, ⟨by omega⟩⟩
  case round =>
    obtain ⟨k, A1, c1, rfl, hC, hB, hkN, hkq⟩ := hrel
    by_cases h : k < N
    · have hb1 : (k : Int) < (N : Int) := by omega
      have hnb : (N : Int) ≤ 1020 := by have := HN.out; omega
      obtain ⟨mk, hmk⟩ : ∃ mk, gk = mk + 1 := ⟨gk - 1, by have := hkq.out; omega⟩
      by_cases hd : d = true ∧ 0 < k
      · obtain ⟨rfl, hk0⟩ := hd
        have hk1 : (0 : Int) < (k : Int) := by omega
        have hlen : 0 < (Lf true k).length := by rw [lf_len]; omega
        have hat := lf_at true k 0 hlen
        have hsn : sendN (Lf true k) (Lf true k)[0] = Lf true (k + 1) := by rw [hat]; exact lf_step true k
        have HSN := Aside0.mk hsn
        have HAT := Aside0.mk (show (Lf true k)[0].2.2.2.length ≤ 10 ∧ Fits (Lf true k)[0].2.2.2 by rw [hat]; exact ⟨Nat.zero_le _, nil_fits2⟩)
        clear hsn hat
        go_wp2_with fail
        refine (double_some _ wr g A1 c1 (Lf true k) 0 hC.out hlen (by rw [lf_len]; omega) HAT.out).mono ?_
        rintro e w2 ⟨rfl, ⟨A2, c2, hC2⟩, _, hb2⟩
        rw [HSN.out] at hC2
        have HC2 := Aside0.mk (hC2.imp (P' := fun _ => True) (fun _ _ _ _ => trivial))
        have HB2 := Aside0.mk (hB.out.trans (hb2.mono HG.out))
        clear hC2 hb2
        go_wp2
        go_roundg mk
        case measure => omega
        case rel => exact ⟨k + 1, A2, c2, by go_num, HC2, HB2, ⟨by omega⟩, ⟨by have := hkq.out; omega⟩⟩
      · have hnt : nt (if d = true then 0 else k) = nt k := by
          cases d with
          | false => rfl
          | true =>
            have : k = 0 := by simpa using hd
            subst this
            rfl
        have hsend := send_any _ wr g A1 none c1 0 0 (Lf d k) (nt k) hC.out rfl (nil_C2 _) (by decide) nil_fits2
        rw [← hnt, lf_step, hnt] at hsend
        have HS := Aside0.mk hsend
        clear hsend hnt
        rcases d with _ | _
        · go_wp2_with fail
          refine HS.out.mono ?_
          rintro e w2 ⟨rfl, ⟨A2, c2, hC2⟩, _, hb2⟩
          have HC2 := Aside0.mk (hC2.imp (P' := fun _ => True) (fun _ _ _ _ => trivial))
          have HB2 := Aside0.mk (hB.out.trans (hb2.mono HG.out))
          clear hC2 hb2
          go_wp2
          go_roundg mk
          case measure => omega
          case rel => exact ⟨k + 1, A2, c2, by go_num, HC2, HB2, ⟨by omega⟩, ⟨by have := hkq.out; omega⟩⟩
        · obtain rfl : k = 0 := by simpa using hd
          go_wp2_with fail
          refine HS.out.mono ?_
          rintro e w2 ⟨rfl, ⟨A2, c2, hC2⟩, _, hb2⟩
          have HC2 := Aside0.mk (hC2.imp (P' := fun _ => True) (fun _ _ _ _ => trivial))
          have HB2 := Aside0.mk (hB.out.trans (hb2.mono HG.out))
          clear hC2 hb2
          go_wp2
          go_roundg mk
          case measure => omega
          case rel => exact ⟨0 + 1, A2, c2, by go_num, HC2, HB2, ⟨by omega⟩, ⟨by have := hkq.out; omega⟩⟩
    · have hb1 : ¬ (k : Int) < (N : Int) := by omega
      obtain rfl : k = N := by have := hkN.out; omega
      have hn1 := HN.out.1
      have hn2 := HN.out.2
      by_cases hN : 1000 < k
      · have hN' : (1000 : Int) < (k : Int) := by omega
        go_wp2_with fail
        have hlen : (Lf d k).length = 999 + 1 := by rw [lf_len]; omega
        have hlast := lf_at d k 999 (by rw [hlen]; exact Nat.lt_succ_self _)
        have HLEN := Aside0.mk hlen
        refine (give_some _ wr g A1 c1 (Lf d k) 999 hC.out (by omega) (by omega)).mono ?_
        rintro e w2 ⟨⟨A2, c2, rfl, hR2⟩, hC2, hk2, hb2⟩
        simp only [hlast]
        obtain ⟨x, hx⟩ : ∃ x, x = nt (if d = true then 0 else 999) := ⟨_, rfl⟩
        rw [← hx]
        have HX := Aside0.mk hx
        have HC2 := Aside0.mk hC2
        have HB2 := Aside0.mk (hB.out.trans (hb2.mono HG.out))
        obtain ⟨L2, hL2⟩ : ∃ L, L = x.2.2.2.length := ⟨_, rfl⟩
        rw [← hL2]
        have hle : ((Lf d k).eraseIdx 999).length = 999 := by rw [List.length_eraseIdx, if_pos (by omega)]; omega
        have HLE := Aside0.mk hle
        clear hR2 hk2 hC2 hb2 hx hlast hlen hle hL2
        go_wp2_with fail
        refine (give_no _ _ g A1 c1 _ (999) (HC2.out.below (below_alloc (Below.refl _ _) _)) (fun h => by have := h.2; rw [HLE.out] at this; omega)).mono ?_
        rintro e w3 ⟨rfl, hb3⟩
        have HC3 := Aside0.mk ((HC2.out.below (below_alloc (Below.refl _ _) _)).below hb3)
        have HB3 := Aside0.mk ((HB2.out.alloc HB2.out.size _).trans (hb3.mono (Nat.le_trans HB2.out.size (by simp))))
        obtain ⟨p0, _, _, _⟩ := box4 (blk_below (blk_new w2 _) hb3)
        clear hb3
        go_wp2_with fail
        refine (len_any _ _ g A1 c1 _ (HC3.out.below (below_alloc (Below.refl _ _) _))).mono ?_
        rintro e w4 ⟨rfl, rfl⟩
        rw [HLE.out]
        rcases d with _ | _
        · have q0 : ∀ o, (w3.alloc o).cell? ⟨w2.heap.size, 0, none⟩ = some (.int .i64 ((999 : Nat) : Int)) := fun o => by
            have h := Lib.cell?_alloc_some o p0
            rw [HX.out] at h
            exact h
          clear p0
          go_wp2
          go_ret
          exact ⟨by simp, HB3.out.alloc HB3.out.size _⟩
        · have q0 : ∀ o, (w3.alloc o).cell? ⟨w2.heap.size, 0, none⟩ = some (.int .i64 0) := fun o => by
            have h := Lib.cell?_alloc_some o p0
            rw [HX.out] at h
            exact h
          clear p0
          go_wp2
          go_ret
          exact ⟨by simp, HB3.out.alloc HB3.out.size _⟩
      · have hN' : ¬ (1000 : Int) < (k : Int) := by omega
        obtain ⟨m, rfl⟩ : ∃ m, k = m + 1 := ⟨k - 1, by omega⟩
        go_wp2_with fail
        have hlen : (Lf d (m + 1)).length = m + 1 := by rw [lf_len]; omega
        have hlast := lf_at d (m + 1) m (by rw [hlen]; exact Nat.lt_succ_self _)
        have HLEN := Aside0.mk hlen
        refine (give_some _ wr g A1 c1 (Lf d (m + 1)) m hC.out (by omega) (by omega)).mono ?_
        rintro e w2 ⟨⟨A2, c2, rfl, hR2⟩, hC2, hk2, hb2⟩
        simp only [hlast]
        obtain ⟨x, hx⟩ : ∃ x, x = nt (if d = true then 0 else m) := ⟨_, rfl⟩
        rw [← hx]
        have HX := Aside0.mk hx
        have HC2 := Aside0.mk hC2
        have HB2 := Aside0.mk (hB.out.trans (hb2.mono HG.out))
        obtain ⟨L2, hL2⟩ : ∃ L, L = x.2.2.2.length := ⟨_, rfl⟩
        rw [← hL2]
        have hle : ((Lf d (m + 1)).eraseIdx m).length = m := by rw [List.length_eraseIdx, if_pos (by omega)]; omega
        have HLE := Aside0.mk hle
        clear hR2 hk2 hC2 hb2 hx hlast hlen hle hL2
        go_wp2_with fail
        refine (give_no _ _ g A1 c1 _ (m) (HC2.out.below (below_alloc (Below.refl _ _) _)) (fun h => by have := h.2; rw [HLE.out] at this; omega)).mono ?_
        rintro e w3 ⟨rfl, hb3⟩
        have HC3 := Aside0.mk ((HC2.out.below (below_alloc (Below.refl _ _) _)).below hb3)
        have HB3 := Aside0.mk ((HB2.out.alloc HB2.out.size _).trans (hb3.mono (Nat.le_trans HB2.out.size (by simp))))
        obtain ⟨p0, _, _, _⟩ := box4 (blk_below (blk_new w2 _) hb3)
        clear hb3
        go_wp2_with fail
        refine (len_any _ _ g A1 c1 _ (HC3.out.below (below_alloc (Below.refl _ _) _))).mono ?_
        rintro e w4 ⟨rfl, rfl⟩
        rw [HLE.out]
        rcases d with _ | _
        · have q0 : ∀ o, (w3.alloc o).cell? ⟨w2.heap.size, 0, none⟩ = some (.int .i64 ((m : Nat) : Int)) := fun o => by
            have h := Lib.cell?_alloc_some o p0
            rw [HX.out] at h
            exact h
          clear p0
          go_wp2
          go_ret
          exact ⟨by simp, HB3.out.alloc HB3.out.size _⟩
        · have q0 : ∀ o, (w3.alloc o).cell? ⟨w2.heap.size, 0, none⟩ = some (.int .i64 0) := fun o => by
            have h := Lib.cell?_alloc_some o p0
            rw [HX.out] at h
            exact h
          clear p0
          go_wp2
          go_ret
          exact ⟨by simp, HB3.out.alloc HB3.out.size _⟩
end Go.Proofs.Ytfohlaeahageaaa.Edge
