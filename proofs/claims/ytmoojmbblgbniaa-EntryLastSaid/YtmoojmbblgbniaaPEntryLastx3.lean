-- PRINTED BY print.sh 35421559b90ae4d0a3588c463048766b98c2df88dd9212a6774a882060cdf62d: not written by this session
import Derived.Test.YtmoojmbblgbniaaPEntryLastx0
import Derived.Test.YtmoojmbblgbniaaPEntryLastx1
import Derived.Test.YtmoojmbblgbniaaPEntryLastx2
namespace Go.Proofs.Ytmoojmbblgbniaa.PEntryLast
open Go.RowKit Go.Proofs.YtmoojmbblgbniaaW.PrintWords Go.Proofs.YtmoojmbblgbniaaW.PrintLast Go.Proofs.YtmoojmbblgbniaaW.PrintMore
attribute [local go_sem] max2_int min2_int max_two min_two max_three min_three max_four min_four   -- for this text's walks alone
set_option linter.unusedVariables false
set_option linter.unusedSimpArgs false

/-! ### waymarklaw1_EntryLast: function 8 -/
def waymarklaw1_EntryLast.j0 : Nat → Int → Int → Bool → Bool → Option (Bool)
  | 0, _, _, _, _ => none
  | k + 1, x0, x1, x5, x30 => if x30 = true then (some x5) else (if 0 ≤ x0 then (if (x0 : Int).toNat ≤ 8796093022208 then ((some (List.replicate (x0 : Int).toNat z51 : List (S51))).bind fun y150 => (if 0 ≤ x1 then (if x1 < (y150.length : Int) then ((some (y150.set (x1 : Int).toNat (⟨(rd_T51 y150 x1).f0, (rd_T51 y150 x1).f1, (rd_T51 y150 x1).f2, true⟩ : S51) : List (S51))).bind fun y153 => ((entry_Put.f k y153).bind fun bt154 => ((entry_Put.f k (y153.set (x1 : Int).toNat (⟨(rd_T51 y153 x1).f0, (rd_T51 y153 x1).f1, (rd_T51 y153 x1).f2, false⟩ : S51))).bind fun bt159 => ((waymarklaw1_num.f bt154.2).bind fun t163 => (if ((t163 == 0) == (x1 == (wrap64 (x0 - 1)))) = true then ((waymarklaw1_num.f bt159.2).bind fun t164 => (some (t164 == 1))) else (some false)))))) else (none)) else (none))) else (none)) else (none))
def waymarklaw1_EntryLast.f (k : Nat) (a0 : Int) (a1 : Int) : Option (Bool) := (waymarklaw1_alive.f k).bind fun t149 => (if t149 = true then (if a0 < 1 then (waymarklaw1_EntryLast.j0 k a0 a1 t149 true) else (if a0 > 50 then (waymarklaw1_EntryLast.j0 k a0 a1 t149 true) else (if a1 < 0 then (waymarklaw1_EntryLast.j0 k a0 a1 t149 true) else (waymarklaw1_EntryLast.j0 k a0 a1 t149 (decide (a1 ≥ a0)))))) else (waymarklaw1_EntryLast.j0 k a0 a1 t149 true))
theorem waymarklaw1_EntryLast.mono_l : ∀ k, (∀ y0 y1 y2 y3, LeO (waymarklaw1_EntryLast.j0 k y0 y1 y2 y3) (waymarklaw1_EntryLast.j0 (k + 1) y0 y1 y2 y3))
  | 0 => fun _ _ _ _ r h => by simp [waymarklaw1_EntryLast.j0] at h
  | k + 1 => by
    have ih0 := waymarklaw1_EntryLast.mono_l k
    · intro y0 y1 y2 y3
      unfold waymarklaw1_EntryLast.j0
      repeat' first
      | (with_reducible exact ih0 _ _ _ _)
      | (with_reducible exact entry_Put.mono _ _)
      | (with_reducible exact waymarklaw1_alive.mono _)
      | (with_reducible exact LeO.refl _)
      | (with_reducible exact LeO.none _)
      | (with_reducible refine LeO.ite ?_ ?_)
      | (with_reducible refine LeO.bind ?_ (fun _ => ?_))
      | exact ih0 _ _ _ _
      | exact entry_Put.mono _ _
      | exact waymarklaw1_alive.mono _
      | exact LeO.none _
      | refine LeO.ite ?_ ?_
      | refine LeO.bind ?_ (fun _ => ?_)
theorem waymarklaw1_EntryLast.mono : ∀ a0 a1 k, LeO (waymarklaw1_EntryLast.f k a0 a1) (waymarklaw1_EntryLast.f (k + 1) a0 a1) := by
  intro a0 a1 k
  have ih0 := waymarklaw1_EntryLast.mono_l k
  unfold waymarklaw1_EntryLast.f
  repeat' first
      | (with_reducible exact ih0 _ _ _ _)
      | (with_reducible exact entry_Put.mono _ _)
      | (with_reducible exact waymarklaw1_alive.mono _)
      | (with_reducible exact LeO.refl _)
      | (with_reducible exact LeO.none _)
      | (with_reducible refine LeO.ite ?_ ?_)
      | (with_reducible refine LeO.bind ?_ (fun _ => ?_))
      | exact ih0 _ _ _ _
      | exact entry_Put.mono _ _
      | exact waymarklaw1_alive.mono _
      | exact LeO.none _
      | refine LeO.ite ?_ ?_
      | refine LeO.bind ?_ (fun _ => ?_)
set_option maxHeartbeats 8000000 in
set_option maxRecDepth 100000 in
theorem waymarklaw1_EntryLast.calls (k : Nat) (a0 : Int) (a1 : Int) (r : Bool) (w : World) (h : waymarklaw1_EntryLast.f k a0 a1 = some r) :
    Calls Try.prog 8 #[.int .i64 a0, .int .i64 a1] w fun e w' => e = .returned (.bool r) ∧ Below w.heap.size w w' := by
  have HB := Aside0.mk (Below.refl w.heap.size w)
  have H : ((waymarklaw1_alive.f k).bind fun t149 => (if t149 = true then (if a0 < 1 then (waymarklaw1_EntryLast.j0 k a0 a1 t149 true) else (if a0 > 50 then (waymarklaw1_EntryLast.j0 k a0 a1 t149 true) else (if a1 < 0 then (waymarklaw1_EntryLast.j0 k a0 a1 t149 true) else (waymarklaw1_EntryLast.j0 k a0 a1 t149 (decide (a1 ≥ a0)))))) else (waymarklaw1_EntryLast.j0 k a0 a1 t149 true))) = some r := h
  clear h
  replace H := Option.bind_eq_some_iff.mp H
  obtain ⟨t149, A30, H⟩ := H
  replace H : (if t149 = true then (if a0 < 1 then (waymarklaw1_EntryLast.j0 k a0 a1 t149 true) else (if a0 > 50 then (waymarklaw1_EntryLast.j0 k a0 a1 t149 true) else (if a1 < 0 then (waymarklaw1_EntryLast.j0 k a0 a1 t149 true) else (waymarklaw1_EntryLast.j0 k a0 a1 t149 (decide (a1 ≥ a0)))))) else (waymarklaw1_EntryLast.j0 k a0 a1 t149 true)) = some r := H
  have A3 := Aside0.mk A30
  clear A30
  have HC4 := Aside0.mk H
  clear H
  go_enter Try.func8, Try.ntmps8
  go_upto_region 2 with (first | ((with_reducible refine gate_callee (f := 16) rfl ?_); refine goesL_ (some 11) rfl rfl Try.func16 (by kernel_rfl) rfl #[] rfl (by (try simp only [List.map_toArray, List.map_cons, List.map_nil]); first | done | rfl | (simp only [List.length_drop, List.length_take]; rfl)) ?_; (with_reducible refine (waymarklaw1_alive.calls k  t149 _ A3.out).mono ?_); rintro e w5 ⟨rfl, hb⟩; refine ⟨_, rfl, ?_⟩; have n0_ := Aside0.mk (below_step (by repeat (first | (with_reducible first | exact HB.out | apply below_alloc | apply pw_below_drewN | apply below_drew1) | exact HB.out)) hb); clear HB; have HB := n0_; clear n0_; (try clear hb); (try clear hb2); (try clear hk); (try clear hi)))
  (try simp only [Act.put, List.setIfInBounds_toArray, List.set_cons_zero, List.set_cons_succ])
  go_cut [30] (fun v30 wc => ∃ (kq : Nat) (x30_3 : Bool), v30 = .bool x30_3 ∧ Aside0 (waymarklaw1_EntryLast.j0 kq a0 a1 t149 x30_3 = some r) ∧ Aside0 (kq ≤ k) ∧ Aside0 (Below w.heap.size w wc))
  case first =>
    have H := HC4.out
    clear HC4
    by_cases c6 : t149 = true
    · subst c6
      have H1 : (if a0 < 1 then (waymarklaw1_EntryLast.j0 k a0 a1 true true) else (if a0 > 50 then (waymarklaw1_EntryLast.j0 k a0 a1 true true) else (if a1 < 0 then (waymarklaw1_EntryLast.j0 k a0 a1 true true) else (waymarklaw1_EntryLast.j0 k a0 a1 true (decide (a1 ≥ a0)))))) = some r := by rw [if_pos rfl] at H; exact H
      clear H
      have H := H1
      clear H1
      by_cases c7 : a0 < 1
      · rw [if_pos c7] at H
        have c7b0 : decide (a0 < 1) = true := decide_eq_true c7
        clear c7
        (first | rw [c7b0] | (simp only [i64_w, i32_w]; rw [c7b0]) | skip)
        have H' := Aside0.mk H
        clear H
        go_wp2
        go_meet
        case rel => exact ⟨_, (true), (by first | rfl | (simp; done) | (simp [*]; done)), H', ⟨by first | omega | exact Nat.le_refl _⟩, ⟨by repeat (first | (with_reducible first | exact HB.out | apply below_alloc | apply pw_below_drewN | apply below_drew1) | exact HB.out)⟩⟩
      · rw [if_neg c7] at H
        have c7b0 : decide (a0 < 1) = false := decide_eq_false c7
        clear c7
        (first | rw [c7b0] | (simp only [i64_w, i32_w]; rw [c7b0]) | skip)
        by_cases c8 : a0 > 50
        · rw [if_pos c8] at H
          have c8b0 : decide (50 < a0) = true := decide_eq_true c8
          clear c8
          have H' := Aside0.mk H
          clear H
          go_wp2
          go_meet
          case rel => exact ⟨_, (true), (by first | rfl | (simp; done) | (simp [*]; done)), H', ⟨by first | omega | exact Nat.le_refl _⟩, ⟨by repeat (first | (with_reducible first | exact HB.out | apply below_alloc | apply pw_below_drewN | apply below_drew1) | exact HB.out)⟩⟩
        · rw [if_neg c8] at H
          have c8b0 : decide (50 < a0) = false := decide_eq_false c8
          clear c8
          by_cases c9 : a1 < 0
          · rw [if_pos c9] at H
            have c9b0 : decide (a1 < 0) = true := decide_eq_true c9
            clear c9
            have H' := Aside0.mk H
            clear H
            go_wp2
            go_meet
            case rel => exact ⟨_, (true), (by first | rfl | (simp; done) | (simp [*]; done)), H', ⟨by first | omega | exact Nat.le_refl _⟩, ⟨by repeat (first | (with_reducible first | exact HB.out | apply below_alloc | apply pw_below_drewN | apply below_drew1) | exact HB.out)⟩⟩
          · rw [if_neg c9] at H
            have c9b0 : decide (a1 < 0) = false := decide_eq_false c9
            clear c9
            have H' := Aside0.mk H
            clear H
            go_wp2
            go_meet
            case rel => exact ⟨_, (decide (a1 ≥ a0)), (by first | rfl | (simp; done) | (simp [*]; done)), H', ⟨by first | omega | exact Nat.le_refl _⟩, ⟨by repeat (first | (with_reducible first | exact HB.out | apply below_alloc | apply pw_below_drewN | apply below_drew1) | exact HB.out)⟩⟩
    · replace c6 := Bool.eq_false_iff.mpr c6
      subst c6
      have H1 : (waymarklaw1_EntryLast.j0 k a0 a1 false true) = some r := by rw [if_neg (show ¬ (false = true) by decide)] at H; exact H
      clear H
      have H := H1
      clear H1
      have H' := Aside0.mk H
      clear H
      go_wp2
      go_meet
      case rel => exact ⟨_, (true), (by first | rfl | (simp; done) | (simp [*]; done)), H', ⟨by first | omega | exact Nat.le_refl _⟩, ⟨by repeat (first | (with_reducible first | exact HB.out | apply below_alloc | apply pw_below_drewN | apply below_drew1) | exact HB.out)⟩⟩
  case rest =>
    clear HC4
    try clear c1
    try clear p2
    try clear c6
    try clear c7
    try clear c7b0
    try clear c8
    try clear c8b0
    try clear c9
    try clear c9b0
    obtain ⟨kq, x30_3, rfl, HA, HJ3, HB⟩ := hcut
    cases kq with
    | zero => exact absurd HA.out (by simp [waymarklaw1_EntryLast.j0])
    | succ kj3 =>
      have H := HA.out
      clear HA
      simp only [waymarklaw1_EntryLast.j0] at H
      by_cases c10 : x30_3 = true
      · subst c10
        have H1 : (some t149) = some r := by rw [if_pos rfl] at H; exact H
        clear H
        have H := H1
        clear H1
        obtain rfl := Option.some.inj H
        go_wp2
        go_ret
        exact ⟨by first | rfl | (simp [errW_none, errW_some] <;> rfl) | (simp [*, errW_none, errW_some] <;> rfl), by repeat (first | (with_reducible first | exact HB.out | apply below_alloc | apply pw_below_drewN | apply below_drew1) | exact HB.out)⟩
      · replace c10 := Bool.eq_false_iff.mpr c10
        subst c10
        have H1 : (if 0 ≤ a0 then (if (a0 : Int).toNat ≤ 8796093022208 then ((some (List.replicate (a0 : Int).toNat z51 : List (S51))).bind fun y150 => (if 0 ≤ a1 then (if a1 < (y150.length : Int) then ((some (y150.set (a1 : Int).toNat (⟨(rd_T51 y150 a1).f0, (rd_T51 y150 a1).f1, (rd_T51 y150 a1).f2, true⟩ : S51) : List (S51))).bind fun y153 => ((entry_Put.f kj3 y153).bind fun bt154 => ((entry_Put.f kj3 (y153.set (a1 : Int).toNat (⟨(rd_T51 y153 a1).f0, (rd_T51 y153 a1).f1, (rd_T51 y153 a1).f2, false⟩ : S51))).bind fun bt159 => ((waymarklaw1_num.f bt154.2).bind fun t163 => (if ((t163 == 0) == (a1 == (wrap64 (a0 - 1)))) = true then ((waymarklaw1_num.f bt159.2).bind fun t164 => (some (t164 == 1))) else (some false)))))) else (none)) else (none))) else (none)) else (none)) = some r := by rw [if_neg (show ¬ (false = true) by decide)] at H; exact H
        clear H
        have H := H1
        clear H1
        by_cases c11 : 0 ≤ a0
        · rw [if_pos c11] at H
          have c11b0 := eq_true c11
          have c11b1 : decide (0 ≤ a0) = true := decide_eq_true c11
          clear c11
          by_cases c12 : (a0 : Int).toNat ≤ 8796093022208
          · rw [if_pos c12] at H
            have c12b0 := eq_true c12
            have c12b1 : decide ((a0 : Int).toNat ≤ 8796093022208) = true := decide_eq_true c12
            clear c12
            obtain ⟨y150, hy150⟩ : ∃ y_ : List (S51), y_ = (List.replicate (a0 : Int).toNat z51) := ⟨_, rfl⟩
            replace H : (if 0 ≤ a1 then (if a1 < (y150.length : Int) then ((some (y150.set (a1 : Int).toNat (⟨(rd_T51 y150 a1).f0, (rd_T51 y150 a1).f1, (rd_T51 y150 a1).f2, true⟩ : S51) : List (S51))).bind fun y153 => ((entry_Put.f kj3 y153).bind fun bt154 => ((entry_Put.f kj3 (y153.set (a1 : Int).toNat (⟨(rd_T51 y153 a1).f0, (rd_T51 y153 a1).f1, (rd_T51 y153 a1).f2, false⟩ : S51))).bind fun bt159 => ((waymarklaw1_num.f bt154.2).bind fun t163 => (if ((t163 == 0) == (a1 == (wrap64 (a0 - 1)))) = true then ((waymarklaw1_num.f bt159.2).bind fun t164 => (some (t164 == 1))) else (some false)))))) else (none)) else (none)) = some r := by first | (rw [hy150]; with_reducible exact H) | (have H2_ := (Option.bind_some _ _).symm.trans H; rw [hy150]; with_reducible exact H2_) | (have H2_ := (Option.bind_some _ _).symm.trans H; with_reducible exact H2_) | with_reducible exact H | (rw [hy150]; exact H) | exact H
            have Ny150 := Aside0.mk hy150
            clear hy150
            by_cases c13 : 0 ≤ a1
            · rw [if_pos c13] at H
              have c13b0 : decide (0 ≤ a1) = true := decide_eq_true c13
              clear c13
              by_cases c14 : a1 < (y150.length : Int)
              · rw [if_pos c14] at H
                have c14b0 : decide (a1 < (y150.length : Int)) = true := decide_eq_true c14
                clear c14
                obtain ⟨y153, hy153⟩ : ∃ y_ : List (S51), y_ = (y150.set (a1 : Int).toNat (⟨(rd_T51 y150 a1).f0, (rd_T51 y150 a1).f1, (rd_T51 y150 a1).f2, true⟩ : S51)) := ⟨_, rfl⟩
                replace H : ((entry_Put.f kj3 y153).bind fun bt154 => ((entry_Put.f kj3 (y153.set (a1 : Int).toNat (⟨(rd_T51 y153 a1).f0, (rd_T51 y153 a1).f1, (rd_T51 y153 a1).f2, false⟩ : S51))).bind fun bt159 => ((waymarklaw1_num.f bt154.2).bind fun t163 => (if ((t163 == 0) == (a1 == (wrap64 (a0 - 1)))) = true then ((waymarklaw1_num.f bt159.2).bind fun t164 => (some (t164 == 1))) else (some false))))) = some r := by first | (rw [hy153]; with_reducible exact H) | (have H2_ := (Option.bind_some _ _).symm.trans H; rw [hy153]; with_reducible exact H2_) | (have H2_ := (Option.bind_some _ _).symm.trans H; with_reducible exact H2_) | with_reducible exact H | (rw [hy153]; exact H) | exact H
                have Ny153 := Aside0.mk hy153
                clear hy153
                replace H := Option.bind_eq_some_iff.mp H
                obtain ⟨⟨t154, t155⟩, A160, H⟩ := H
                replace H : ((entry_Put.f kj3 (y153.set (a1 : Int).toNat (⟨(rd_T51 y153 a1).f0, (rd_T51 y153 a1).f1, (rd_T51 y153 a1).f2, false⟩ : S51))).bind fun bt159 => ((waymarklaw1_num.f t155).bind fun t163 => (if ((t163 == 0) == (a1 == (wrap64 (a0 - 1)))) = true then ((waymarklaw1_num.f bt159.2).bind fun t164 => (some (t164 == 1))) else (some false)))) = some r := H
                have A16 := Aside0.mk A160
                clear A160
                obtain ⟨y158, hy158⟩ : ∃ y_ : List (S51), y_ = (y153.set (a1 : Int).toNat (⟨(rd_T51 y153 a1).f0, (rd_T51 y153 a1).f1, (rd_T51 y153 a1).f2, false⟩ : S51)) := ⟨_, rfl⟩
                replace H : ((entry_Put.f kj3 y158).bind fun bt159 => ((waymarklaw1_num.f t155).bind fun t163 => (if ((t163 == 0) == (a1 == (wrap64 (a0 - 1)))) = true then ((waymarklaw1_num.f bt159.2).bind fun t164 => (some (t164 == 1))) else (some false)))) = some r := by first | (rw [hy158]; with_reducible exact H) | (have H2_ := (Option.bind_some _ _).symm.trans H; rw [hy158]; with_reducible exact H2_) | (have H2_ := (Option.bind_some _ _).symm.trans H; with_reducible exact H2_) | with_reducible exact H | (rw [hy158]; exact H) | exact H
                have Ny158 := Aside0.mk hy158
                clear hy158
                replace H := Option.bind_eq_some_iff.mp H
                obtain ⟨⟨t159, t160⟩, A180, H⟩ := H
                replace H : ((waymarklaw1_num.f t155).bind fun t163 => (if ((t163 == 0) == (a1 == (wrap64 (a0 - 1)))) = true then ((waymarklaw1_num.f t160).bind fun t164 => (some (t164 == 1))) else (some false))) = some r := H
                have A18 := Aside0.mk A180
                clear A180
                replace H := Option.bind_eq_some_iff.mp H
                obtain ⟨t163, A190, H⟩ := H
                replace H : (if ((t163 == 0) == (a1 == (wrap64 (a0 - 1)))) = true then ((waymarklaw1_num.f t160).bind fun t164 => (some (t164 == 1))) else (some false)) = some r := H
                have A19 := Aside0.mk A190
                clear A190
                by_cases c20 : ((t163 == 0) == (a1 == (wrap64 (a0 - 1)))) = true
                · rw [if_pos c20] at H
                  have c20b0 : ((t163 == 0) == (a1 == (wrap64 (a0 - 1)))) = true := c20
                  (try (have c20b1 : decide ((t163 == 0) = (a1 == (wrap64 (a0 - 1)))) = true := by simpa using c20))
                  (try (have c20b2 : ((t163 == 0) == (a1 == (wrap64 (a0 - 1)))) = true := by simpa using c20))
                  clear c20
                  replace H := Option.bind_eq_some_iff.mp H
                  obtain ⟨t164, A210, H⟩ := H
                  replace H : (some (t164 == 1)) = some r := H
                  have A21 := Aside0.mk A210
                  clear A210
                  obtain rfl := Option.some.inj H
                  go_wp2_with (first | ((with_reducible refine gate_dst (N := 33) rfl ?_); refine Kd.R_make k51 _ 51 rfl (N := 33) rfl 39 _ _ rfl a0 rfl rfl Try.underlying39 (.agg #[(.int .i64 0), (.int .i64 0), (.int .i64 0), (.bool false)]) 32 info51 rfl (by decide) (by omega) z51 (ok := fun _ => True) (okp := fun _ => True) (k51_mkM _ _ _ z51 ) (fun _ hk => hk) trivial (of_decide_eq_true (by first | (with_reducible assumption) | assumption)) (Nat.le_trans (Nat.mul_le_mul_right _ (of_decide_eq_true (by first | (with_reducible assumption) | assumption) : a0.toNat ≤ 8796093022208)) (by omega)) (Below.refl _ _) (Nat.le_refl _) ?_; intro v151 w22 ho23 hb hg_ hnew_; clear hg_ hnew_; (first | rw [← Ny150.out] at ho23 | (simp only [Int.reduceToNat] at ho23; rw [← Ny150.out] at ho23)); have n0_ := Aside0.mk (Kd.R_lower ho23 (below_size (by repeat (first | (with_reducible first | exact HB.out | apply below_alloc | apply pw_below_drewN | apply below_drew1) | exact HB.out)))); have n1_ := Aside0.mk (below_step (by repeat (first | (with_reducible first | exact HB.out | apply below_alloc | apply pw_below_drewN | apply below_drew1) | exact HB.out)) hb); clear HB; have HO152 := n0_; have HB := n1_; clear n0_ n1_; clear hb ho23; have p15 : 0 ≤ (a1 : Int) := of_decide_eq_true (by first | (with_reducible assumption) | assumption); have q15 : (a1 : Int) < ((y150.length : Int) : Int) := of_decide_eq_true (by first | (with_reducible assumption) | assumption); obtain ⟨go15, co15, eo15, gb15, gl15, cl15, HG15⟩ := Kd.R_form HO152.out (by omega); (first | cases eo15 | (injection eo15 with ea_ en_ ec_; (first | subst ea_ | (injection ea_ with ea_; subst ea_)); subst ec_; clear en_)); have GB15 := Aside0.mk gb15; have GG15 := Aside0.mk HG15; clear gb15 gl15 HG15; obtain ⟨ce15, hcl15, hM15, hcc15, hfr15⟩ := Kd.R_elem HO152.out z51 (a1 : Int) p15 q15; obtain rfl := k51_openM hM15; have hx15_0 : w22.cell? ⟨go15, (a1 : Int).toNat * 4, none⟩ = some (.int .i64 ((rd_T51 y150 a1).f0)) := hcc15 0 _ rfl; have hx15_1 : w22.cell? ⟨go15, (a1 : Int).toNat * 4 + 1, none⟩ = some (.int .i64 ((rd_T51 y150 a1).f1)) := hcc15 1 _ rfl; have hx15_2 : w22.cell? ⟨go15, (a1 : Int).toNat * 4 + 2, none⟩ = some (.int .i64 ((rd_T51 y150 a1).f2)) := hcc15 2 _ rfl; have hx15_3 : w22.cell? ⟨go15, (a1 : Int).toNat * 4 + 3, none⟩ = some (.bool ((rd_T51 y150 a1).f3)) := hcc15 3 _ rfl; have hf15_0 : w22.frozen? ⟨go15, (a1 : Int).toNat * 4, none⟩ = false := hfr15 0; have hf15_1 : w22.frozen? ⟨go15, (a1 : Int).toNat * 4 + 1, none⟩ = false := hfr15 1; have hf15_2 : w22.frozen? ⟨go15, (a1 : Int).toNat * 4 + 2, none⟩ = false := hfr15 2; have hf15_3 : w22.frozen? ⟨go15, (a1 : Int).toNat * 4 + 3, none⟩ = false := hfr15 3; clear hcl15 hcc15 hfr15 hM15; replace p15 := eq_true p15; replace q15 := eq_true q15; have HX24 := Aside0.mk (show Kd.R k51 51 w22 w.heap.size (fun _ => True) (.slice (some ⟨go15, 0, none⟩) y150.length co15) y150 from (by (with_reducible repeat (first | apply Kd.R_alloc | apply Kd.R_drewN | apply Kd.R_drew)); exact HO152.out)); obtain ⟨ce24, hcl24, hM24, hcc24, hfr24⟩ := Kd.R_elem HX24.out z51 (a1 : Int) (of_decide_eq_true (by first | (with_reducible assumption) | assumption)) (by have h_ : (a1 : Int) < ((y150.length : Int) : Int) := of_decide_eq_true (by first | (with_reducible assumption) | assumption); first | exact h_ | (have e_ := (Kd.R_reads' HO152.out).1; omega) | simpa using h_); obtain rfl := k51_openM hM24; have HP24 := Kd.R_seg HX24.out (a1 : Int) (of_decide_eq_true (by first | (with_reducible assumption) | assumption)) (by have h_ : (a1 : Int) < ((y150.length : Int) : Int) := of_decide_eq_true (by first | (with_reducible assumption) | assumption); first | exact h_ | (have e_ := (Kd.R_reads' HO152.out).1; omega) | simpa using h_) (seg := [.bool true]) (j := 3) hcl24 hcc24 (show 4 ≤ 4 from by decide) (x' := (⟨(rd_T51 y150 a1).f0, (rd_T51 y150 a1).f1, (rd_T51 y150 a1).f2, true⟩ : S51)) (k51_mkM _ _ _ (⟨(rd_T51 y150 a1).f0, (rd_T51 y150 a1).f1, (rd_T51 y150 a1).f2, true⟩ : S51) ) (fun _ hk => hk); have hx24_3 := hcc24 3 _ rfl; (try simp only [show (k51).sz = 4 from rfl, Nat.mul_one, Nat.add_zero] at hx24_3); have hf24_3 := hfr24 3; (try simp only [show (k51).sz = 4 from rfl, Nat.mul_one, Nat.add_zero] at hf24_3); clear hcl24 hcc24 hfr24 hM24) | ((with_reducible refine gate_store (t := 4) (p := 37) rfl ?_); refine store_event (t := 4) (p := 37) (v := ?vo_w25) (w1 := (w22.setCell ⟨go15, (a1 : Int).toNat * 4 + 3, none⟩ (.bool true))) ?hg ?ho ?hn ?hr ?_; (case ho => rfl); (case hg => rfl); (case hn => rfl); (case hr => first | (go_simp; done) | (go_simp; rfl)); intro w25 hw; have hg : w22.grownBy w25 (some go15) := (by rw [hw]; exact HP24.2); have hp_ : Kd.R k51 51 w25 w.heap.size (fun _ => True) (.slice (some ⟨go15, 0, none⟩) y150.length co15) y153 := (by rw [hw, Ny153.out]; exact HP24.1); clear HP24; have n0_ := Aside0.mk (hp_); have n1_ := Aside0.mk ((by rw [hw]; exact below_set (HB.out) GB15.out : Below w.heap.size w w25)); clear HO152; clear HB; have HO152 := n0_; have HB := n1_; clear n0_ n1_; clear hg hw hp_) | ((with_reducible refine gate_callee (f := 17) rfl ?_); refine goesL_ (some 40) rfl rfl Try.func17 (by kernel_rfl) rfl #[.slice (some ⟨go15, 0, none⟩) y153.length co15] rfl (by (try simp only [List.map_toArray, List.map_cons, List.map_nil]); first | done | (rw [show y153.length = y150.length from (Kd.R_reads' HO152.out).1.symm] <;> rfl) | rfl | (simp only [List.length_drop, List.length_take]; rfl)) ?_; (with_reducible refine (entry_Put.calls kj3 _ _ y153 t154 t155 _ ?side1 ?side2 A16.out).mono ?_); (case side1 => repeat (first | exact (Kd.R_reads' HO152.out).2.2 | (with_reducible refine Kd.C_alloc ?_ _) | (with_reducible refine Kd.C_drewN ?_ _) | (with_reducible refine Kd.C_drew ?_))); (case side2 => rw [show y153.length = y150.length from (Kd.R_reads' HO152.out).1.symm]; exact (Kd.R_reads' HO152.out).2.1); rintro e w26 ⟨v156, rfl, ho0, hb⟩; refine ⟨_, rfl, ?_⟩; have n0_ := Aside0.mk (Kd.R_below (by (with_reducible repeat (first | apply Kd.R_alloc | apply Kd.R_drewN | apply Kd.R_drew)); exact HO152.out) hb); have n1_ := Aside0.mk (Kd.R_lower ho0 (below_size (by repeat (first | (with_reducible first | exact HB.out | apply below_alloc | apply pw_below_drewN | apply below_drew1) | exact HB.out)))); have n2_ := Aside0.mk (below_step (by repeat (first | (with_reducible first | exact HB.out | apply below_alloc | apply pw_below_drewN | apply below_drew1) | exact HB.out)) hb); clear HO152; clear HB; have HO152 := n0_; have HO157 := n1_; have HB := n2_; clear n0_ n1_ n2_; (try clear hb); (try clear hb2); (try clear hk); (try clear hi); (try clear ho0); have p17 : 0 ≤ (a1 : Int) := of_decide_eq_true (by first | (with_reducible assumption) | assumption); have q17 : (a1 : Int) < ((y150.length : Int) : Int) := of_decide_eq_true (by first | (with_reducible assumption) | assumption); obtain ⟨ce17, hcl17, hM17, hcc17, hfr17⟩ := Kd.R_elem HO152.out z51 (a1 : Int) p17 q17; obtain rfl := k51_openM hM17; have hx17_0 : w26.cell? ⟨go15, (a1 : Int).toNat * 4, none⟩ = some (.int .i64 ((rd_T51 y153 a1).f0)) := hcc17 0 _ rfl; have hx17_1 : w26.cell? ⟨go15, (a1 : Int).toNat * 4 + 1, none⟩ = some (.int .i64 ((rd_T51 y153 a1).f1)) := hcc17 1 _ rfl; have hx17_2 : w26.cell? ⟨go15, (a1 : Int).toNat * 4 + 2, none⟩ = some (.int .i64 ((rd_T51 y153 a1).f2)) := hcc17 2 _ rfl; have hx17_3 : w26.cell? ⟨go15, (a1 : Int).toNat * 4 + 3, none⟩ = some (.bool ((rd_T51 y153 a1).f3)) := hcc17 3 _ rfl; have hf17_0 : w26.frozen? ⟨go15, (a1 : Int).toNat * 4, none⟩ = false := hfr17 0; have hf17_1 : w26.frozen? ⟨go15, (a1 : Int).toNat * 4 + 1, none⟩ = false := hfr17 1; have hf17_2 : w26.frozen? ⟨go15, (a1 : Int).toNat * 4 + 2, none⟩ = false := hfr17 2; have hf17_3 : w26.frozen? ⟨go15, (a1 : Int).toNat * 4 + 3, none⟩ = false := hfr17 3; clear hcl17 hcc17 hfr17 hM17; replace p17 := eq_true p17; replace q17 := eq_true q17; have HX27 := Aside0.mk (show Kd.R k51 51 w26 w.heap.size (fun _ => True) (.slice (some ⟨go15, 0, none⟩) y150.length co15) y153 from (by (with_reducible repeat (first | apply Kd.R_alloc | apply Kd.R_drewN | apply Kd.R_drew)); exact HO152.out)); obtain ⟨ce27, hcl27, hM27, hcc27, hfr27⟩ := Kd.R_elem HX27.out z51 (a1 : Int) (of_decide_eq_true (by first | (with_reducible assumption) | assumption)) (by have h_ : (a1 : Int) < ((y150.length : Int) : Int) := of_decide_eq_true (by first | (with_reducible assumption) | assumption); first | exact h_ | (have e_ := (Kd.R_reads' HO152.out).1; omega) | simpa using h_); obtain rfl := k51_openM hM27; have HP27 := Kd.R_seg HX27.out (a1 : Int) (of_decide_eq_true (by first | (with_reducible assumption) | assumption)) (by have h_ : (a1 : Int) < ((y150.length : Int) : Int) := of_decide_eq_true (by first | (with_reducible assumption) | assumption); first | exact h_ | (have e_ := (Kd.R_reads' HO152.out).1; omega) | simpa using h_) (seg := [.bool false]) (j := 3) hcl27 hcc27 (show 4 ≤ 4 from by decide) (x' := (⟨(rd_T51 y153 a1).f0, (rd_T51 y153 a1).f1, (rd_T51 y153 a1).f2, false⟩ : S51)) (k51_mkM _ _ _ (⟨(rd_T51 y153 a1).f0, (rd_T51 y153 a1).f1, (rd_T51 y153 a1).f2, false⟩ : S51) ) (fun _ hk => hk); have hx27_3 := hcc27 3 _ rfl; (try simp only [show (k51).sz = 4 from rfl, Nat.mul_one, Nat.add_zero] at hx27_3); have hf27_3 := hfr27 3; (try simp only [show (k51).sz = 4 from rfl, Nat.mul_one, Nat.add_zero] at hf27_3); clear hcl27 hcc27 hfr27 hM27) | ((with_reducible refine gate_store (t := 4) (p := 46) rfl ?_); refine store_event (t := 4) (p := 46) (v := ?vo_w28) (w1 := (w26.setCell ⟨go15, (a1 : Int).toNat * 4 + 3, none⟩ (.bool false))) ?hg ?ho ?hn ?hr ?_; (case ho => rfl); (case hg => rfl); (case hn => rfl); (case hr => first | (go_simp; done) | (go_simp; rfl)); intro w28 hw; have hg : w26.grownBy w28 (some go15) := (by rw [hw]; exact HP27.2); have hp_ : Kd.R k51 51 w28 w.heap.size (fun _ => True) (.slice (some ⟨go15, 0, none⟩) y150.length co15) y158 := (by rw [hw, Ny158.out]; exact HP27.1); clear HP27; have n0_ := Aside0.mk (hp_); have n1_ := Aside0.mk (Kd.R_over' (v := (.slice (some ⟨go15, 0, none⟩) y150.length co15)) (by (with_reducible repeat (first | apply Kd.R_alloc | apply Kd.R_drewN | apply Kd.R_drew)); exact HO157.out) (Kd.R_typed HO152.out) (by decide) hg); have n2_ := Aside0.mk ((by rw [hw]; exact below_set (HB.out) GB15.out : Below w.heap.size w w28)); clear HO152; clear HO157; clear HB; have HO152 := n0_; have HO157 := n1_; have HB := n2_; clear n0_ n1_ n2_; clear hg hw hp_) | ((with_reducible refine gate_callee (f := 17) rfl ?_); refine goesL_ (some 49) rfl rfl Try.func17 (by kernel_rfl) rfl #[.slice (some ⟨go15, 0, none⟩) y158.length co15] rfl (by (try simp only [List.map_toArray, List.map_cons, List.map_nil]); first | done | (rw [show y158.length = y150.length from (Kd.R_reads' HO152.out).1.symm] <;> rfl) | rfl | (simp only [List.length_drop, List.length_take]; rfl)) ?_; (with_reducible refine (entry_Put.calls kj3 _ _ y158 t159 t160 _ ?side1 ?side2 A18.out).mono ?_); (case side1 => repeat (first | exact (Kd.R_reads' HO152.out).2.2 | (with_reducible refine Kd.C_alloc ?_ _) | (with_reducible refine Kd.C_drewN ?_ _) | (with_reducible refine Kd.C_drew ?_))); (case side2 => rw [show y158.length = y150.length from (Kd.R_reads' HO152.out).1.symm]; exact (Kd.R_reads' HO152.out).2.1); rintro e w29 ⟨v161, rfl, ho0, hb⟩; refine ⟨_, rfl, ?_⟩; have n0_ := Aside0.mk (Kd.R_below (by (with_reducible repeat (first | apply Kd.R_alloc | apply Kd.R_drewN | apply Kd.R_drew)); exact HO152.out) hb); have n1_ := Aside0.mk (Kd.R_elder' (by (with_reducible repeat (first | apply Kd.R_alloc | apply Kd.R_drewN | apply Kd.R_drew)); exact HO157.out) (Kd.R_base ho0) hb); have n2_ := Aside0.mk (Kd.R_lower (Kd.R_new' ho0 (Kd.R_lt (by (with_reducible repeat (first | apply Kd.R_alloc | apply Kd.R_drewN | apply Kd.R_drew)); exact HO157.out))) (below_size (by repeat (first | (with_reducible first | exact HB.out | apply below_alloc | apply pw_below_drewN | apply below_drew1) | exact HB.out)))); have n3_ := Aside0.mk (below_step (by repeat (first | (with_reducible first | exact HB.out | apply below_alloc | apply pw_below_drewN | apply below_drew1) | exact HB.out)) hb); clear HO152; clear HO157; clear HB; have HO152 := n0_; have HO157 := n1_; have HO162 := n2_; have HB := n3_; clear n0_ n1_ n2_ n3_; (try clear hb); (try clear hb2); (try clear hk); (try clear hi); (try clear ho0)) | ((with_reducible refine gate_callee (f := 21) rfl ?_); refine goesL_ (some 53) rfl rfl Try.func21 (by kernel_rfl) rfl #[.int .i64 t155] rfl (by (try simp only [List.map_toArray, List.map_cons, List.map_nil]); first | done | rfl | (simp only [List.length_drop, List.length_take]; rfl)) ?_; (with_reducible refine (waymarklaw1_num.calls t155 t163 _ A19.out).mono ?_); rintro e w' ⟨rfl, ⟨nd, rfl⟩⟩; refine ⟨_, rfl, ?_⟩) | (go_at_call 21; (with_reducible refine (waymarklaw1_num.calls t160 t164 _ A21.out).mono ?_); rintro e w' ⟨rfl, ⟨nd, rfl⟩⟩))
                  go_ret
                  exact ⟨by first | rfl | (simp [errW_none, errW_some] <;> rfl) | (simp [*, errW_none, errW_some] <;> rfl), by repeat (first | (with_reducible first | exact HB.out | apply below_alloc | apply pw_below_drewN | apply below_drew1) | exact HB.out)⟩
                · rw [if_neg c20] at H
                  have c20b0 : ((t163 == 0) == (a1 == (wrap64 (a0 - 1)))) = false := by simpa using c20
                  (try (have c20b1 : decide ((t163 == 0) = (a1 == (wrap64 (a0 - 1)))) = false := by simpa using c20))
                  (try (have c20b2 : ((t163 == 0) == (a1 == (wrap64 (a0 - 1)))) = false := by simpa using c20))
                  (try (have c20b3 : ¬ ((t163 == 0) = (a1 == (wrap64 (a0 - 1)))) := by simpa using c20))
                  clear c20
                  obtain rfl := Option.some.inj H
                  go_wp2_with (first | ((with_reducible refine gate_dst (N := 33) rfl ?_); refine Kd.R_make k51 _ 51 rfl (N := 33) rfl 39 _ _ rfl a0 rfl rfl Try.underlying39 (.agg #[(.int .i64 0), (.int .i64 0), (.int .i64 0), (.bool false)]) 32 info51 rfl (by decide) (by omega) z51 (ok := fun _ => True) (okp := fun _ => True) (k51_mkM _ _ _ z51 ) (fun _ hk => hk) trivial (of_decide_eq_true (by first | (with_reducible assumption) | assumption)) (Nat.le_trans (Nat.mul_le_mul_right _ (of_decide_eq_true (by first | (with_reducible assumption) | assumption) : a0.toNat ≤ 8796093022208)) (by omega)) (Below.refl _ _) (Nat.le_refl _) ?_; intro v151 w30 ho31 hb hg_ hnew_; clear hg_ hnew_; (first | rw [← Ny150.out] at ho31 | (simp only [Int.reduceToNat] at ho31; rw [← Ny150.out] at ho31)); have n0_ := Aside0.mk (Kd.R_lower ho31 (below_size (by repeat (first | (with_reducible first | exact HB.out | apply below_alloc | apply pw_below_drewN | apply below_drew1) | exact HB.out)))); have n1_ := Aside0.mk (below_step (by repeat (first | (with_reducible first | exact HB.out | apply below_alloc | apply pw_below_drewN | apply below_drew1) | exact HB.out)) hb); clear HB; have HO152 := n0_; have HB := n1_; clear n0_ n1_; clear hb ho31; have p15 : 0 ≤ (a1 : Int) := of_decide_eq_true (by first | (with_reducible assumption) | assumption); have q15 : (a1 : Int) < ((y150.length : Int) : Int) := of_decide_eq_true (by first | (with_reducible assumption) | assumption); obtain ⟨go15, co15, eo15, gb15, gl15, cl15, HG15⟩ := Kd.R_form HO152.out (by omega); (first | cases eo15 | (injection eo15 with ea_ en_ ec_; (first | subst ea_ | (injection ea_ with ea_; subst ea_)); subst ec_; clear en_)); have GB15 := Aside0.mk gb15; have GG15 := Aside0.mk HG15; clear gb15 gl15 HG15; obtain ⟨ce15, hcl15, hM15, hcc15, hfr15⟩ := Kd.R_elem HO152.out z51 (a1 : Int) p15 q15; obtain rfl := k51_openM hM15; have hx15_0 : w30.cell? ⟨go15, (a1 : Int).toNat * 4, none⟩ = some (.int .i64 ((rd_T51 y150 a1).f0)) := hcc15 0 _ rfl; have hx15_1 : w30.cell? ⟨go15, (a1 : Int).toNat * 4 + 1, none⟩ = some (.int .i64 ((rd_T51 y150 a1).f1)) := hcc15 1 _ rfl; have hx15_2 : w30.cell? ⟨go15, (a1 : Int).toNat * 4 + 2, none⟩ = some (.int .i64 ((rd_T51 y150 a1).f2)) := hcc15 2 _ rfl; have hx15_3 : w30.cell? ⟨go15, (a1 : Int).toNat * 4 + 3, none⟩ = some (.bool ((rd_T51 y150 a1).f3)) := hcc15 3 _ rfl; have hf15_0 : w30.frozen? ⟨go15, (a1 : Int).toNat * 4, none⟩ = false := hfr15 0; have hf15_1 : w30.frozen? ⟨go15, (a1 : Int).toNat * 4 + 1, none⟩ = false := hfr15 1; have hf15_2 : w30.frozen? ⟨go15, (a1 : Int).toNat * 4 + 2, none⟩ = false := hfr15 2; have hf15_3 : w30.frozen? ⟨go15, (a1 : Int).toNat * 4 + 3, none⟩ = false := hfr15 3; clear hcl15 hcc15 hfr15 hM15; replace p15 := eq_true p15; replace q15 := eq_true q15; have HX32 := Aside0.mk (show Kd.R k51 51 w30 w.heap.size (fun _ => True) (.slice (some ⟨go15, 0, none⟩) y150.length co15) y150 from (by (with_reducible repeat (first | apply Kd.R_alloc | apply Kd.R_drewN | apply Kd.R_drew)); exact HO152.out)); obtain ⟨ce32, hcl32, hM32, hcc32, hfr32⟩ := Kd.R_elem HX32.out z51 (a1 : Int) (of_decide_eq_true (by first | (with_reducible assumption) | assumption)) (by have h_ : (a1 : Int) < ((y150.length : Int) : Int) := of_decide_eq_true (by first | (with_reducible assumption) | assumption); first | exact h_ | (have e_ := (Kd.R_reads' HO152.out).1; omega) | simpa using h_); obtain rfl := k51_openM hM32; have HP32 := Kd.R_seg HX32.out (a1 : Int) (of_decide_eq_true (by first | (with_reducible assumption) | assumption)) (by have h_ : (a1 : Int) < ((y150.length : Int) : Int) := of_decide_eq_true (by first | (with_reducible assumption) | assumption); first | exact h_ | (have e_ := (Kd.R_reads' HO152.out).1; omega) | simpa using h_) (seg := [.bool true]) (j := 3) hcl32 hcc32 (show 4 ≤ 4 from by decide) (x' := (⟨(rd_T51 y150 a1).f0, (rd_T51 y150 a1).f1, (rd_T51 y150 a1).f2, true⟩ : S51)) (k51_mkM _ _ _ (⟨(rd_T51 y150 a1).f0, (rd_T51 y150 a1).f1, (rd_T51 y150 a1).f2, true⟩ : S51) ) (fun _ hk => hk); have hx32_3 := hcc32 3 _ rfl; (try simp only [show (k51).sz = 4 from rfl, Nat.mul_one, Nat.add_zero] at hx32_3); have hf32_3 := hfr32 3; (try simp only [show (k51).sz = 4 from rfl, Nat.mul_one, Nat.add_zero] at hf32_3); clear hcl32 hcc32 hfr32 hM32) | ((with_reducible refine gate_store (t := 4) (p := 37) rfl ?_); refine store_event (t := 4) (p := 37) (v := ?vo_w33) (w1 := (w30.setCell ⟨go15, (a1 : Int).toNat * 4 + 3, none⟩ (.bool true))) ?hg ?ho ?hn ?hr ?_; (case ho => rfl); (case hg => rfl); (case hn => rfl); (case hr => first | (go_simp; done) | (go_simp; rfl)); intro w33 hw; have hg : w30.grownBy w33 (some go15) := (by rw [hw]; exact HP32.2); have hp_ : Kd.R k51 51 w33 w.heap.size (fun _ => True) (.slice (some ⟨go15, 0, none⟩) y150.length co15) y153 := (by rw [hw, Ny153.out]; exact HP32.1); clear HP32; have n0_ := Aside0.mk (hp_); have n1_ := Aside0.mk ((by rw [hw]; exact below_set (HB.out) GB15.out : Below w.heap.size w w33)); clear HO152; clear HB; have HO152 := n0_; have HB := n1_; clear n0_ n1_; clear hg hw hp_) | ((with_reducible refine gate_callee (f := 17) rfl ?_); refine goesL_ (some 40) rfl rfl Try.func17 (by kernel_rfl) rfl #[.slice (some ⟨go15, 0, none⟩) y153.length co15] rfl (by (try simp only [List.map_toArray, List.map_cons, List.map_nil]); first | done | (rw [show y153.length = y150.length from (Kd.R_reads' HO152.out).1.symm] <;> rfl) | rfl | (simp only [List.length_drop, List.length_take]; rfl)) ?_; (with_reducible refine (entry_Put.calls kj3 _ _ y153 t154 t155 _ ?side1 ?side2 A16.out).mono ?_); (case side1 => repeat (first | exact (Kd.R_reads' HO152.out).2.2 | (with_reducible refine Kd.C_alloc ?_ _) | (with_reducible refine Kd.C_drewN ?_ _) | (with_reducible refine Kd.C_drew ?_))); (case side2 => rw [show y153.length = y150.length from (Kd.R_reads' HO152.out).1.symm]; exact (Kd.R_reads' HO152.out).2.1); rintro e w34 ⟨v156, rfl, ho0, hb⟩; refine ⟨_, rfl, ?_⟩; have n0_ := Aside0.mk (Kd.R_below (by (with_reducible repeat (first | apply Kd.R_alloc | apply Kd.R_drewN | apply Kd.R_drew)); exact HO152.out) hb); have n1_ := Aside0.mk (Kd.R_lower ho0 (below_size (by repeat (first | (with_reducible first | exact HB.out | apply below_alloc | apply pw_below_drewN | apply below_drew1) | exact HB.out)))); have n2_ := Aside0.mk (below_step (by repeat (first | (with_reducible first | exact HB.out | apply below_alloc | apply pw_below_drewN | apply below_drew1) | exact HB.out)) hb); clear HO152; clear HB; have HO152 := n0_; have HO157 := n1_; have HB := n2_; clear n0_ n1_ n2_; (try clear hb); (try clear hb2); (try clear hk); (try clear hi); (try clear ho0); have p17 : 0 ≤ (a1 : Int) := of_decide_eq_true (by first | (with_reducible assumption) | assumption); have q17 : (a1 : Int) < ((y150.length : Int) : Int) := of_decide_eq_true (by first | (with_reducible assumption) | assumption); obtain ⟨ce17, hcl17, hM17, hcc17, hfr17⟩ := Kd.R_elem HO152.out z51 (a1 : Int) p17 q17; obtain rfl := k51_openM hM17; have hx17_0 : w34.cell? ⟨go15, (a1 : Int).toNat * 4, none⟩ = some (.int .i64 ((rd_T51 y153 a1).f0)) := hcc17 0 _ rfl; have hx17_1 : w34.cell? ⟨go15, (a1 : Int).toNat * 4 + 1, none⟩ = some (.int .i64 ((rd_T51 y153 a1).f1)) := hcc17 1 _ rfl; have hx17_2 : w34.cell? ⟨go15, (a1 : Int).toNat * 4 + 2, none⟩ = some (.int .i64 ((rd_T51 y153 a1).f2)) := hcc17 2 _ rfl; have hx17_3 : w34.cell? ⟨go15, (a1 : Int).toNat * 4 + 3, none⟩ = some (.bool ((rd_T51 y153 a1).f3)) := hcc17 3 _ rfl; have hf17_0 : w34.frozen? ⟨go15, (a1 : Int).toNat * 4, none⟩ = false := hfr17 0; have hf17_1 : w34.frozen? ⟨go15, (a1 : Int).toNat * 4 + 1, none⟩ = false := hfr17 1; have hf17_2 : w34.frozen? ⟨go15, (a1 : Int).toNat * 4 + 2, none⟩ = false := hfr17 2; have hf17_3 : w34.frozen? ⟨go15, (a1 : Int).toNat * 4 + 3, none⟩ = false := hfr17 3; clear hcl17 hcc17 hfr17 hM17; replace p17 := eq_true p17; replace q17 := eq_true q17; have HX35 := Aside0.mk (show Kd.R k51 51 w34 w.heap.size (fun _ => True) (.slice (some ⟨go15, 0, none⟩) y150.length co15) y153 from (by (with_reducible repeat (first | apply Kd.R_alloc | apply Kd.R_drewN | apply Kd.R_drew)); exact HO152.out)); obtain ⟨ce35, hcl35, hM35, hcc35, hfr35⟩ := Kd.R_elem HX35.out z51 (a1 : Int) (of_decide_eq_true (by first | (with_reducible assumption) | assumption)) (by have h_ : (a1 : Int) < ((y150.length : Int) : Int) := of_decide_eq_true (by first | (with_reducible assumption) | assumption); first | exact h_ | (have e_ := (Kd.R_reads' HO152.out).1; omega) | simpa using h_); obtain rfl := k51_openM hM35; have HP35 := Kd.R_seg HX35.out (a1 : Int) (of_decide_eq_true (by first | (with_reducible assumption) | assumption)) (by have h_ : (a1 : Int) < ((y150.length : Int) : Int) := of_decide_eq_true (by first | (with_reducible assumption) | assumption); first | exact h_ | (have e_ := (Kd.R_reads' HO152.out).1; omega) | simpa using h_) (seg := [.bool false]) (j := 3) hcl35 hcc35 (show 4 ≤ 4 from by decide) (x' := (⟨(rd_T51 y153 a1).f0, (rd_T51 y153 a1).f1, (rd_T51 y153 a1).f2, false⟩ : S51)) (k51_mkM _ _ _ (⟨(rd_T51 y153 a1).f0, (rd_T51 y153 a1).f1, (rd_T51 y153 a1).f2, false⟩ : S51) ) (fun _ hk => hk); have hx35_3 := hcc35 3 _ rfl; (try simp only [show (k51).sz = 4 from rfl, Nat.mul_one, Nat.add_zero] at hx35_3); have hf35_3 := hfr35 3; (try simp only [show (k51).sz = 4 from rfl, Nat.mul_one, Nat.add_zero] at hf35_3); clear hcl35 hcc35 hfr35 hM35) | ((with_reducible refine gate_store (t := 4) (p := 46) rfl ?_); refine store_event (t := 4) (p := 46) (v := ?vo_w36) (w1 := (w34.setCell ⟨go15, (a1 : Int).toNat * 4 + 3, none⟩ (.bool false))) ?hg ?ho ?hn ?hr ?_; (case ho => rfl); (case hg => rfl); (case hn => rfl); (case hr => first | (go_simp; done) | (go_simp; rfl)); intro w36 hw; have hg : w34.grownBy w36 (some go15) := (by rw [hw]; exact HP35.2); have hp_ : Kd.R k51 51 w36 w.heap.size (fun _ => True) (.slice (some ⟨go15, 0, none⟩) y150.length co15) y158 := (by rw [hw, Ny158.out]; exact HP35.1); clear HP35; have n0_ := Aside0.mk (hp_); have n1_ := Aside0.mk (Kd.R_over' (v := (.slice (some ⟨go15, 0, none⟩) y150.length co15)) (by (with_reducible repeat (first | apply Kd.R_alloc | apply Kd.R_drewN | apply Kd.R_drew)); exact HO157.out) (Kd.R_typed HO152.out) (by decide) hg); have n2_ := Aside0.mk ((by rw [hw]; exact below_set (HB.out) GB15.out : Below w.heap.size w w36)); clear HO152; clear HO157; clear HB; have HO152 := n0_; have HO157 := n1_; have HB := n2_; clear n0_ n1_ n2_; clear hg hw hp_) | ((with_reducible refine gate_callee (f := 17) rfl ?_); refine goesL_ (some 49) rfl rfl Try.func17 (by kernel_rfl) rfl #[.slice (some ⟨go15, 0, none⟩) y158.length co15] rfl (by (try simp only [List.map_toArray, List.map_cons, List.map_nil]); first | done | (rw [show y158.length = y150.length from (Kd.R_reads' HO152.out).1.symm] <;> rfl) | rfl | (simp only [List.length_drop, List.length_take]; rfl)) ?_; (with_reducible refine (entry_Put.calls kj3 _ _ y158 t159 t160 _ ?side1 ?side2 A18.out).mono ?_); (case side1 => repeat (first | exact (Kd.R_reads' HO152.out).2.2 | (with_reducible refine Kd.C_alloc ?_ _) | (with_reducible refine Kd.C_drewN ?_ _) | (with_reducible refine Kd.C_drew ?_))); (case side2 => rw [show y158.length = y150.length from (Kd.R_reads' HO152.out).1.symm]; exact (Kd.R_reads' HO152.out).2.1); rintro e w37 ⟨v161, rfl, ho0, hb⟩; refine ⟨_, rfl, ?_⟩; have n0_ := Aside0.mk (Kd.R_below (by (with_reducible repeat (first | apply Kd.R_alloc | apply Kd.R_drewN | apply Kd.R_drew)); exact HO152.out) hb); have n1_ := Aside0.mk (Kd.R_elder' (by (with_reducible repeat (first | apply Kd.R_alloc | apply Kd.R_drewN | apply Kd.R_drew)); exact HO157.out) (Kd.R_base ho0) hb); have n2_ := Aside0.mk (Kd.R_lower (Kd.R_new' ho0 (Kd.R_lt (by (with_reducible repeat (first | apply Kd.R_alloc | apply Kd.R_drewN | apply Kd.R_drew)); exact HO157.out))) (below_size (by repeat (first | (with_reducible first | exact HB.out | apply below_alloc | apply pw_below_drewN | apply below_drew1) | exact HB.out)))); have n3_ := Aside0.mk (below_step (by repeat (first | (with_reducible first | exact HB.out | apply below_alloc | apply pw_below_drewN | apply below_drew1) | exact HB.out)) hb); clear HO152; clear HO157; clear HB; have HO152 := n0_; have HO157 := n1_; have HO162 := n2_; have HB := n3_; clear n0_ n1_ n2_ n3_; (try clear hb); (try clear hb2); (try clear hk); (try clear hi); (try clear ho0)) | ((with_reducible refine gate_callee (f := 21) rfl ?_); refine goesL_ (some 53) rfl rfl Try.func21 (by kernel_rfl) rfl #[.int .i64 t155] rfl (by (try simp only [List.map_toArray, List.map_cons, List.map_nil]); first | done | rfl | (simp only [List.length_drop, List.length_take]; rfl)) ?_; (with_reducible refine (waymarklaw1_num.calls t155 t163 _ A19.out).mono ?_); rintro e w' ⟨rfl, ⟨nd, rfl⟩⟩; refine ⟨_, rfl, ?_⟩))
                  go_ret
                  exact ⟨by first | rfl | (simp [errW_none, errW_some] <;> rfl) | (simp [*, errW_none, errW_some] <;> rfl), by repeat (first | (with_reducible first | exact HB.out | apply below_alloc | apply pw_below_drewN | apply below_drew1) | exact HB.out)⟩
              · rw [if_neg c14] at H
                exact absurd H (by simp)
            · rw [if_neg c13] at H
              exact absurd H (by simp)
          · rw [if_neg c12] at H
            exact absurd H (by simp)
        · rw [if_neg c11] at H
          exact absurd H (by simp)

/-- THE ONE PURE STATEMENT of waymarklaw1_EntryLast: yours. -/
def waymarklaw1_EntryLast.Pure : Prop := ∀ (a0 : Int) (a1 : Int), (Lit.int .i64 a0).wf = true → (Lit.int .i64 a1).wf = true → ∃ k, waymarklaw1_EntryLast.f k a0 a1 = some true
theorem waymarklaw1_EntryLast.walk (P : waymarklaw1_EntryLast.Pure) (a0 : Int) (a1 : Int) (w : World) (w0 : (Lit.int .i64 a0).wf = true) (w1 : (Lit.int .i64 a1).wf = true) :
    Calls Try.prog 8 #[.int .i64 a0, .int .i64 a1] w fun e w' => e = .returned (.bool true) ∧ Below w.heap.size w w' := by
  obtain ⟨k, h⟩ := P a0 a1 w0 w1
  refine (waymarklaw1_EntryLast.calls k a0 a1 true w h).mono ?_
  rintro e w' ⟨rfl, hd⟩
  exact ⟨rfl, hd⟩

end Go.Proofs.Ytmoojmbblgbniaa.PEntryLast
