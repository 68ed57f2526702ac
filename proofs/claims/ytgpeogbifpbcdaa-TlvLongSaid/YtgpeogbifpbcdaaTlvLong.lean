/- The walk of the law TlvLong: true for every number. -/
import Derived.Test.YtgpeogbifpbcdaaTlvTells
namespace Go.Proofs.Ytgpeogbifpbcdaa.Tlv
open Go.RowKit Go.Proofs.YtgpeogbifpbcdaaW.PrintWords Go.Proofs.YtgpeogbifpbcdaaW.PrintMore Go.Proofs.YtgpeogbifpbcdaaW.PrintLast Go.Proofs.Ytgpeogbifpbcdaa.PTlvTells

theorem long_out (n : Int) (w : World) (h : n < 0 ∨ 70000 < n) (hn : -9223372036854775808 ≤ n ∧ n ≤ 9223372036854775807) : Calls Try.prog 4 #[.int .i64 n] w fun e w' => e = .returned (.bool true) ∧ Below w.heap.size w w' := by
  by_cases h0 : n < 0
  · clear h hn
    go_enter Try.func4, Try.ntmps4
    go_wp2_with fail
    refine (alive_any _).mono ?_
    rintro e w' ⟨rfl, hb⟩
    go_wp2
    go_ret
    exact ⟨rfl, hb⟩
  · have h1 : 0 ≤ n := by omega
    have h2 : 70000 < n := by omega
    clear h hn h0
    go_enter Try.func4, Try.ntmps4
    go_wp2_with fail
    refine (alive_any _).mono ?_
    rintro e w' ⟨rfl, hb⟩
    go_wp2
    go_ret
    exact ⟨rfl, hb⟩
def two (n : Nat) : List S26 := [⟨9, List.replicate n 0⟩, ⟨3, []⟩]
theorem two_bad (n : Nat) (h : 65535 < n) : putL (two n) = ([], 6) := by
  unfold putL two
  have e1 : badT (⟨9, List.replicate n 0⟩ : S26) = false := rfl
  have e2 : badT (⟨3, []⟩ : S26) = false := rfl
  have e3 : badL (⟨9, List.replicate n 0⟩ : S26) = true := by unfold badL; exact decide_eq_true (by simpa using h)
  simp [e1, e2, e3]
theorem two_ok (n : Nat) (h : n ≤ 65535) : putL (two n) = (enc1 ⟨9, List.replicate n 0⟩ ++ [3, 0, 0], 0) := by
  rw [putL_ok]
  · simp [two, enc1]
  · intro x hx
    simp only [two, List.mem_cons, List.not_mem_nil, or_false] at hx
    rcases hx with rfl | rfl
    · exact ⟨rfl, by unfold badL; exact decide_eq_false (by simpa using h)⟩
    · exact ⟨rfl, rfl⟩
theorem two_torn (n : Nat) (h : n ≤ 65535) : getL (enc1 ⟨9, List.replicate n 0⟩ ++ [3, 0]) [] = ([], 2) := by
  rw [getL_one 9 _ _ _ (by rw [List.length_replicate]; omega) (by omega) (by omega), getL_short _ _ (by simp) (by simp)]
set_option maxHeartbeats 4000000 in
set_option maxRecDepth 100000 in
theorem long_in (n : Nat) (w : World) (hn : n ≤ 70000) : Calls Try.prog 4 #[.int .i64 (n : Int)] w fun e w' => e = .returned (.bool true) ∧ Below w.heap.size w w' := by
  have hn5 : (n : Int) ≤ 70000 := by omega
  have hu26 := Try.underlying26
  go_enter Try.func4, Try.ntmps4
  go_wp2_with fail
  refine (alive_any _).mono ?_
  rintro e w1 ⟨rfl, hb1⟩
  have HB1 := Aside0.mk hb1
  clear hb1
  go_wp2_with (((with_reducible refine gate_dst (N := 24) rfl ?_); refine Kd.R_make kB (w0 := w1) w1.heap.size 5 rfl (N := 24) rfl 23 (.tmp 23) (.tmp 23) rfl (n : Int) rfl rfl Try.underlying23 (.int .u8 0) 1 info5 rfl (by decide) (by decide) 0 (ok := fun _ => True) (okp := fun _ => False) rfl (fun _ h => h.elim) trivial (by omega) (by omega) (Below.refl _ _) (Nat.le_refl _) ?_; intro v2 w2 h2 hb2 _ _; go_must (obtain ⟨A2, c2, e2⟩ := Kd.R_slice h2; subst e2; rw [Int.toNat_natCast, List.length_replicate] at h2; have C2 := Aside0.mk (Kd.R_reads' h2); have hb2' := Aside0.mk hb2; clear h2 hb2; rw [Int.toNat_natCast, List.length_replicate])))
  obtain ⟨w3, hw3⟩ : ∃ w3, w3 = w2.alloc (.cells #[.int .i64 9, .slice A2 n c2, .int .i64 3, .slice none 0 0] 26) := ⟨_, rfl⟩
  have hb3 : Below w2.heap.size w2 w3 := by rw [hw3]; exact below_alloc (Below.refl _ _) _
  have hg3 : w3.heap[w2.heap.size]? = some (.cells ([.int .i64 9, .slice A2 n c2, .int .i64 3, .slice none 0 0] : List Value).toArray 26 (0, 0)) := by rw [hw3]; exact blk_new _ _
  have hC3 : Kd.C k26 w3 (some ⟨w2.heap.size, 0, none⟩) 2 (two n) := by
    have hrl : (List.replicate n (0 : Int)).length = n := List.length_replicate
    have hk1 : k26.K w3 ⟨9, List.replicate n 0⟩ [.int .i64 9, .slice A2 n c2] := by
      have h := k26_mk w3 (⟨9, List.replicate n 0⟩ : S26) (A1 := A2) (c1 := c2) (by rw [hrl]; exact C2.out.2.1) (by
        have h := Kd.C_below C2.out.2.2 hb3
        exact h)
      rw [hrl] at h
      exact h
    have hk2 : k26.K w3 ⟨3, []⟩ [.int .i64 3, .slice none 0 0] := k26_mk w3 (⟨3, []⟩ : S26) (A1 := none) (c1 := 0) (Nat.le_refl _) (Kd.C_nil kB w3)
    have h := C_lit k26 hg3 (xs := two n) (Reps.snoc (R := k26.K w3) (size := 2) (ps := [⟨9, List.replicate n 0⟩]) (cs := [.int .i64 9, .slice A2 n c2]) (Reps.snoc (R := k26.K w3) (size := 2) (ps := []) (cs := []) (Reps.none _ _) hk1 rfl) hk2 rfl) (by simp [two])
    exact h
  have HB3 : Aside0 (Below w.heap.size w w3) := ⟨below_step (below_step HB1.out hb2'.out) hb3⟩
  have C3 := Aside0.mk hC3
  rw [← hw3]
  clear hw3 hb3 hg3 hC3 C2 hb2'
  refine (put_any w3 _ 2 2 (two n) C3.out (Nat.le_refl _) (by omega)).mono ?_
  by_cases hbig : 65535 < n
  · have hbig' : 65535 < (n : Int) := by omega
    rw [two_bad n hbig]
    rintro e w4 ⟨v4, rfl, hR4, hb4⟩
    obtain ⟨A4, c4, rfl⟩ := Kd.R_slice hR4
    have HB4 : Aside0 (Below w.heap.size w w4) := ⟨below_step HB3.out hb4⟩
    clear hR4 hb4
    simp only [List.length_nil]
    go_wp2_with fail
    refine (num_any _ _).mono ?_
    rintro e w' ⟨rfl, rfl⟩
    go_wp2
    go_ret
    exact ⟨rfl, HB4.out⟩
  · have hbig' : (n : Int) ≤ 65535 := by omega
    have htn : n ≤ 65535 := by omega
    have HTN := Aside0.mk htn
    clear hbig htn
    rw [two_ok n HTN.out]
    rintro e w4 ⟨v4, rfl, hR4, hb4⟩
    obtain ⟨A4, c4, rfl⟩ := Kd.R_slice hR4
    have hr4 := Kd.R_reads' hR4
    have HB4 : Aside0 (Below w.heap.size w w4) := ⟨below_step HB3.out hb4⟩
    obtain ⟨P, hP⟩ : ∃ P, P = enc1 ⟨9, List.replicate n 0⟩ ++ [3, 0, 0] := ⟨_, rfl⟩
    have hPl : P.length = n + 6 := by rw [hP]; simp [enc1]
    dsimp only at hr4 ⊢
    rw [← hP, hPl] at hr4
    rw [← hP, hPl]
    have C4 := Aside0.mk hr4.2.2
    have HC4 : Aside0 (n + 6 ≤ c4) := ⟨hr4.2.1⟩
    have HPB : Aside0 (∀ y, y ∈ P → 0 ≤ y ∧ y < 256) := ⟨by
      have h := putL_byte (two n) (by
        intro x hx y hy
        simp only [two, List.mem_cons, List.not_mem_nil, or_false] at hx
        rcases hx with rfl | rfl
        · obtain ⟨_, rfl⟩ := List.mem_replicate.1 hy
          omega
        · cases hy)
      rw [two_ok n HTN.out, ← hP] at h
      exact h⟩
    have HPL := Aside0.mk hPl
    have HGET : Aside0 (getL P [] = (two n, 0)) := ⟨by
      have h := get_put (two n) (by rw [two_ok n HTN.out])
      rw [two_ok n HTN.out, ← hP] at h
      exact h⟩
    have HTORN : Aside0 (getL (P.take (n + 5)) [] = ([], 2)) := ⟨by
      have e : P.take (n + 5) = enc1 ⟨9, List.replicate n 0⟩ ++ [3, 0] := by
        rw [hP]
        have : enc1 ⟨9, List.replicate n 0⟩ ++ [3, 0, 0] = (enc1 ⟨9, List.replicate n 0⟩ ++ [3, 0]) ++ [0] := by simp
        rw [this, List.take_append_of_le_length (by simp [enc1]), List.take_of_length_le (by simp [enc1])]
      rw [e]
      exact two_torn n HTN.out⟩
    clear hR4 hb4 hr4 hP hPl
    go_wp2_with fail
    refine (get_at w4 A4 (n + 6) c4 P C4.out HC4.out (by omega) HPB.out).mono ?_
    rw [HGET.out]
    rintro e w5 ⟨v5, rfl, hR5, hb5⟩
    obtain ⟨A5, c5, rfl⟩ := Kd.R_slice hR5
    have HB5 : Aside0 (Below w.heap.size w w5) := ⟨below_step HB4.out hb5⟩
    have C45 := Aside0.mk (Kd.C_below C4.out hb5)
    have C5 := Aside0.mk (Kd.R_reads' hR5).2.2
    clear hR5 hb5
    have h2l : (two n).length = 2 := rfl
    simp only [h2l] at C5 ⊢
    clear h2l
    obtain ⟨i5, hi5, hi5'⟩ := Option.map_eq_some_iff.1 info5
    have hcut := cut_to (P := Try.prog) 23 5 .i64 Try.underlying23 hi5 A4 (n + 6) c4 ((n : Int) + 5) (by omega) (by omega) HC4.out
    have hcut2 := cut_to (P := Try.prog) 23 5 .i64 Try.underlying23 hi5 A4 (n + 6) c4 ((n : Int) + 6 - 1) (by omega) (by omega) HC4.out
    rw [show ((n : Int) + 5).toNat = n + 5 by omega] at hcut
    rw [show ((n : Int) + 6 - 1).toNat = n + 5 by omega] at hcut2
    clear hi5'
    have C45t : Aside0 (kB.C w5 A4 (n + 5) (P.take (n + 5))) := ⟨by
      have h := C45.out
      rw [← HPL.out] at h
      have h2 := Kd.C_take h (m := n + 5) (by have := HPL.out; omega)
      have hl : (P.take (n + 5)).length = n + 5 := by rw [List.length_take, HPL.out]; omega
      rw [hl] at h2
      exact h2⟩
    go_wp2_with fail
    refine (get_at w5 A4 (n + 5) c4 (P.take (n + 5)) C45t.out (by have := HC4.out; omega) (by omega) (fun y hy => HPB.out y (List.mem_of_mem_take hy))).mono ?_
    rw [HTORN.out]
    rintro e w6 ⟨v6, rfl, hR6, hb6⟩
    obtain ⟨A6, c6, rfl⟩ := Kd.R_slice hR6
    have HB6 : Aside0 (Below w.heap.size w w6) := ⟨below_step HB5.out hb6⟩
    obtain ⟨ad, A7, c7, rfl, p0, p1, _, _⟩ := at_T26 (Kd.C_below C5.out hb6) 0 (by omega) (by omega)
    have e0 : rd_T26 (two n) 0 = ⟨9, List.replicate n 0⟩ := rfl
    rw [show (0 : Int).toNat = 0 from rfl, e0] at p0 p1
    simp only [List.length_replicate, Nat.zero_mul, add_zero_] at p0 p1
    simp only [List.length_nil]
    clear hR6 hb6 e0 hcut hcut2
    have h02 : (0 : Int) < 2 := by omega
    go_wp2_with fail
    refine (num_any _ _).mono ?_
    rintro e w' ⟨rfl, rfl⟩
    go_wp2_with fail
    refine (num_any _ _).mono ?_
    rintro e w' ⟨rfl, rfl⟩
    go_wp2_with fail
    refine (num_any _ _).mono ?_
    rintro e w' ⟨rfl, rfl⟩
    go_wp2
    go_ret
    exact ⟨rfl, HB6.out⟩
end Go.Proofs.Ytgpeogbifpbcdaa.Tlv
