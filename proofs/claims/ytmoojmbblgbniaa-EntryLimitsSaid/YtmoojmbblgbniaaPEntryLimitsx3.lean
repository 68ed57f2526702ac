-- made by wip/xprint (a program of this session, over the kit's print)
import Derived.Test.YtmoojmbblgbniaaPEntryLimitsx0
import Derived.Test.YtmoojmbblgbniaaPEntryLimitsx1
import Derived.Test.YtmoojmbblgbniaaPEntryLimitsx2
namespace Go.Proofs.Ytmoojmbblgbniaa.PEntryLimits
open Go.RowKit Go.Proofs.YtmoojmbblgbniaaW.PrintWords Go.Proofs.YtmoojmbblgbniaaW.PrintLast Go.Proofs.YtmoojmbblgbniaaW.PrintMore
attribute [local go_sem] max2_int min2_int max_two min_two max_three min_three max_four min_four   -- for this text's walks alone
set_option linter.unusedVariables false
set_option linter.unusedSimpArgs false

/-! ### waymarklaw1_EntryLimits: function 7 -/
def waymarklaw1_EntryLimits.j0 : Nat → Int → Bool → Bool → Bool → Option (Bool)
  | 0, _, _, _, _ => none
  | k + 1, x0, x1, x5, x20 => if x20 = true then (some x5) else (if x1 = true then ((some (([(⟨1048575 + 1, 0, 0, true⟩ : S51), (⟨0, 7 + 1, 0, true⟩ : S51), (⟨0, 0, 255 + 1, true⟩ : S51), (⟨-1, 0, 0, true⟩ : S51)] : List (S51)) : List (S51))).bind fun y150 => (if 0 ≤ x0 then (if x0 ≤ (wrap64 (x0 + 1)) then (if (wrap64 (x0 + 1)) ≤ (y150.length : Int) then ((entry_Put.f k ((y150.take ((wrap64 (x0 + 1)) : Int).toNat).drop (x0 : Int).toNat)).bind fun bt157 => ((waymarklaw1_num.f bt157.2).bind fun t161 => (if t161 = 0 then (some false) else (some (!((bt157.1.length : Int) == 4)))))) else (none)) else (none)) else (none))) else ((some (([(⟨1048575 + 0, 0, 0, true⟩ : S51), (⟨0, 7 + 0, 0, true⟩ : S51), (⟨0, 0, 255 + 0, true⟩ : S51), (⟨-0, 0, 0, true⟩ : S51)] : List (S51)) : List (S51))).bind fun y162 => (if 0 ≤ x0 then (if x0 ≤ (wrap64 (x0 + 1)) then (if (wrap64 (x0 + 1)) ≤ (y162.length : Int) then ((entry_Put.f k ((y162.take ((wrap64 (x0 + 1)) : Int).toNat).drop (x0 : Int).toNat)).bind fun bt169 => ((waymarklaw1_num.f bt169.2).bind fun t173 => (if t173 = 0 then (some ((bt169.1.length : Int) == 4)) else (some false)))) else (none)) else (none)) else (none))))
def waymarklaw1_EntryLimits.f (k : Nat) (a0 : Int) (a1 : Bool) : Option (Bool) := (waymarklaw1_alive.f k).bind fun t149 => (if t149 = true then (if a0 < 0 then (waymarklaw1_EntryLimits.j0 k a0 a1 t149 true) else (waymarklaw1_EntryLimits.j0 k a0 a1 t149 (decide (a0 > 3)))) else (waymarklaw1_EntryLimits.j0 k a0 a1 t149 true))
theorem waymarklaw1_EntryLimits.mono_l : ∀ k, (∀ y0 y1 y2 y3, LeO (waymarklaw1_EntryLimits.j0 k y0 y1 y2 y3) (waymarklaw1_EntryLimits.j0 (k + 1) y0 y1 y2 y3))
  | 0 => fun _ _ _ _ r h => by simp [waymarklaw1_EntryLimits.j0] at h
  | k + 1 => by
    have ih0 := waymarklaw1_EntryLimits.mono_l k
    · intro y0 y1 y2 y3
      unfold waymarklaw1_EntryLimits.j0
      repeat' first
      | (with_reducible exact ih0 _ _ _ _)
      | (with_reducible exact entry_Put.mono _ _)
      | (with_reducible exact waymarklaw1_alive.mono _)
      | (with_reducible exact LeO.refl _)
      | (with_reducible exact LeO.none _)
      | (with_reducible refine LeO.ite ?_ ?_)
      | (with_reducible refine LeO.bind ?_ (fun _ => ?_))
      | exact ih0 _ _ _ _
      | exact entry_Put.mono _ _
      | exact waymarklaw1_alive.mono _
      | exact LeO.none _
      | refine LeO.ite ?_ ?_
      | refine LeO.bind ?_ (fun _ => ?_)
theorem waymarklaw1_EntryLimits.mono : ∀ a0 a1 k, LeO (waymarklaw1_EntryLimits.f k a0 a1) (waymarklaw1_EntryLimits.f (k + 1) a0 a1) := by
  intro a0 a1 k
  have ih0 := waymarklaw1_EntryLimits.mono_l k
  unfold waymarklaw1_EntryLimits.f
  repeat' first
      | (with_reducible exact ih0 _ _ _ _)
      | (with_reducible exact entry_Put.mono _ _)
      | (with_reducible exact waymarklaw1_alive.mono _)
      | (with_reducible exact LeO.refl _)
      | (with_reducible exact LeO.none _)
      | (with_reducible refine LeO.ite ?_ ?_)
      | (with_reducible refine LeO.bind ?_ (fun _ => ?_))
      | exact ih0 _ _ _ _
      | exact entry_Put.mono _ _
      | exact waymarklaw1_alive.mono _
      | exact LeO.none _
      | refine LeO.ite ?_ ?_
      | refine LeO.bind ?_ (fun _ => ?_)
set_option maxHeartbeats 8000000 in
set_option maxRecDepth 100000 in
theorem waymarklaw1_EntryLimits.calls (k : Nat) (a0 : Int) (a1 : Bool) (r : Bool) (w : World) (h : waymarklaw1_EntryLimits.f k a0 a1 = some r) :
    Calls Try.prog 7 #[.int .i64 a0, .bool a1] w fun e w' => e = .returned (.bool r) ∧ Below w.heap.size w w' := by
  have hu51 := Try.underlying51
  have HB := Aside0.mk (Below.refl w.heap.size w)
  have H : ((waymarklaw1_alive.f k).bind fun t149 => (if t149 = true then (if a0 < 0 then (waymarklaw1_EntryLimits.j0 k a0 a1 t149 true) else (waymarklaw1_EntryLimits.j0 k a0 a1 t149 (decide (a0 > 3)))) else (waymarklaw1_EntryLimits.j0 k a0 a1 t149 true))) = some r := h
  clear h
  replace H := Option.bind_eq_some_iff.mp H
  obtain ⟨t149, A30, H⟩ := H
  replace H : (if t149 = true then (if a0 < 0 then (waymarklaw1_EntryLimits.j0 k a0 a1 t149 true) else (waymarklaw1_EntryLimits.j0 k a0 a1 t149 (decide (a0 > 3)))) else (waymarklaw1_EntryLimits.j0 k a0 a1 t149 true)) = some r := H
  have A3 := Aside0.mk A30
  clear A30
  have HC4 := Aside0.mk H
  clear H
  go_enter Try.func7, Try.ntmps7
  go_upto_region 2 with (first | ((with_reducible refine gate_callee (f := 16) rfl ?_); refine goesL_ (some 10) rfl rfl Try.func16 (by kernel_rfl) rfl #[] rfl (by (try simp only [List.map_toArray, List.map_cons, List.map_nil]); first | done | rfl | (simp only [List.length_drop, List.length_take]; rfl)) ?_; (with_reducible refine (waymarklaw1_alive.calls k  t149 _ A3.out).mono ?_); rintro e w5 ⟨rfl, hb⟩; refine ⟨_, rfl, ?_⟩; have n0_ := Aside0.mk (below_step (by repeat (first | (with_reducible first | exact HB.out | apply below_alloc | apply pw_below_drewN | apply below_drew1) | exact HB.out)) hb); clear HB; have HB := n0_; clear n0_; (try clear hb); (try clear hb2); (try clear hk); (try clear hi)))
  (try simp only [Act.put, List.setIfInBounds_toArray, List.set_cons_zero, List.set_cons_succ])
  go_cut [20] (fun v20 wc => ∃ (kq : Nat) (x20_3 : Bool), v20 = .bool x20_3 ∧ Aside0 (waymarklaw1_EntryLimits.j0 kq a0 a1 t149 x20_3 = some r) ∧ Aside0 (kq ≤ k) ∧ Aside0 (Below w.heap.size w wc))
  case first =>
    have H := HC4.out
    clear HC4
    by_cases c6 : t149 = true
    · subst c6
      have H1 : (if a0 < 0 then (waymarklaw1_EntryLimits.j0 k a0 a1 true true) else (waymarklaw1_EntryLimits.j0 k a0 a1 true (decide (a0 > 3)))) = some r := by rw [if_pos rfl] at H; exact H
      clear H
      have H := H1
      clear H1
      by_cases c7 : a0 < 0
      · rw [if_pos c7] at H
        have c7b0 : decide (a0 < 0) = true := decide_eq_true c7
        clear c7
        (first | rw [c7b0] | (simp only [i64_w, i32_w]; rw [c7b0]) | skip)
        have H' := Aside0.mk H
        clear H
        go_wp2
        go_meet
        case rel => exact ⟨_, (true), (by first | rfl | (simp; done) | (simp [*]; done)), H', ⟨by first | omega | exact Nat.le_refl _⟩, ⟨by repeat (first | (with_reducible first | exact HB.out | apply below_alloc | apply pw_below_drewN | apply below_drew1) | exact HB.out)⟩⟩
      · rw [if_neg c7] at H
        have c7b0 : decide (a0 < 0) = false := decide_eq_false c7
        clear c7
        (first | rw [c7b0] | (simp only [i64_w, i32_w]; rw [c7b0]) | skip)
        have H' := Aside0.mk H
        clear H
        go_wp2
        go_meet
        case rel => exact ⟨_, (decide (a0 > 3)), (by first | rfl | (simp; done) | (simp [*]; done)), H', ⟨by first | omega | exact Nat.le_refl _⟩, ⟨by repeat (first | (with_reducible first | exact HB.out | apply below_alloc | apply pw_below_drewN | apply below_drew1) | exact HB.out)⟩⟩
    · replace c6 := Bool.eq_false_iff.mpr c6
      subst c6
      have H1 : (waymarklaw1_EntryLimits.j0 k a0 a1 false true) = some r := by rw [if_neg (show ¬ (false = true) by decide)] at H; exact H
      clear H
      have H := H1
      clear H1
      have H' := Aside0.mk H
      clear H
      go_wp2
      go_meet
      case rel => exact ⟨_, (true), (by first | rfl | (simp; done) | (simp [*]; done)), H', ⟨by first | omega | exact Nat.le_refl _⟩, ⟨by repeat (first | (with_reducible first | exact HB.out | apply below_alloc | apply pw_below_drewN | apply below_drew1) | exact HB.out)⟩⟩
  case rest =>
    clear HC4
    try clear c1
    try clear p2
    try clear c6
    try clear c7
    try clear c7b0
    obtain ⟨kq, x20_3, rfl, HA, HJ3, HB⟩ := hcut
    cases kq with
    | zero => exact absurd HA.out (by simp [waymarklaw1_EntryLimits.j0])
    | succ kj3 =>
      have H := HA.out
      clear HA
      simp only [waymarklaw1_EntryLimits.j0] at H
      by_cases c8 : x20_3 = true
      · subst c8
        have H1 : (some t149) = some r := by rw [if_pos rfl] at H; exact H
        clear H
        have H := H1
        clear H1
        obtain rfl := Option.some.inj H
        go_wp2
        go_ret
        exact ⟨by first | rfl | (simp [errW_none, errW_some] <;> rfl) | (simp [*, errW_none, errW_some] <;> rfl), by repeat (first | (with_reducible first | exact HB.out | apply below_alloc | apply pw_below_drewN | apply below_drew1) | exact HB.out)⟩
      · replace c8 := Bool.eq_false_iff.mpr c8
        subst c8
        have H1 : (if a1 = true then ((some (([(⟨1048575 + 1, 0, 0, true⟩ : S51), (⟨0, 7 + 1, 0, true⟩ : S51), (⟨0, 0, 255 + 1, true⟩ : S51), (⟨-1, 0, 0, true⟩ : S51)] : List (S51)) : List (S51))).bind fun y150 => (if 0 ≤ a0 then (if a0 ≤ (wrap64 (a0 + 1)) then (if (wrap64 (a0 + 1)) ≤ (y150.length : Int) then ((entry_Put.f kj3 ((y150.take ((wrap64 (a0 + 1)) : Int).toNat).drop (a0 : Int).toNat)).bind fun bt157 => ((waymarklaw1_num.f bt157.2).bind fun t161 => (if t161 = 0 then (some false) else (some (!((bt157.1.length : Int) == 4)))))) else (none)) else (none)) else (none))) else ((some (([(⟨1048575 + 0, 0, 0, true⟩ : S51), (⟨0, 7 + 0, 0, true⟩ : S51), (⟨0, 0, 255 + 0, true⟩ : S51), (⟨-0, 0, 0, true⟩ : S51)] : List (S51)) : List (S51))).bind fun y162 => (if 0 ≤ a0 then (if a0 ≤ (wrap64 (a0 + 1)) then (if (wrap64 (a0 + 1)) ≤ (y162.length : Int) then ((entry_Put.f kj3 ((y162.take ((wrap64 (a0 + 1)) : Int).toNat).drop (a0 : Int).toNat)).bind fun bt169 => ((waymarklaw1_num.f bt169.2).bind fun t173 => (if t173 = 0 then (some ((bt169.1.length : Int) == 4)) else (some false)))) else (none)) else (none)) else (none)))) = some r := by rw [if_neg (show ¬ (false = true) by decide)] at H; exact H
        clear H
        have H := H1
        clear H1
        by_cases c9 : a1 = true
        · subst c9
          have H1 : ((some (([(⟨1048575 + 1, 0, 0, true⟩ : S51), (⟨0, 7 + 1, 0, true⟩ : S51), (⟨0, 0, 255 + 1, true⟩ : S51), (⟨-1, 0, 0, true⟩ : S51)] : List (S51)) : List (S51))).bind fun y150 => (if 0 ≤ a0 then (if a0 ≤ (wrap64 (a0 + 1)) then (if (wrap64 (a0 + 1)) ≤ (y150.length : Int) then ((entry_Put.f kj3 ((y150.take ((wrap64 (a0 + 1)) : Int).toNat).drop (a0 : Int).toNat)).bind fun bt157 => ((waymarklaw1_num.f bt157.2).bind fun t161 => (if t161 = 0 then (some false) else (some (!((bt157.1.length : Int) == 4)))))) else (none)) else (none)) else (none))) = some r := by rw [if_pos rfl] at H; exact H
          clear H
          have H := H1
          clear H1
          obtain ⟨y150, hy150⟩ : ∃ y_ : List (S51), y_ = (([(⟨1048575 + 1, 0, 0, true⟩ : S51), (⟨0, 7 + 1, 0, true⟩ : S51), (⟨0, 0, 255 + 1, true⟩ : S51), (⟨-1, 0, 0, true⟩ : S51)] : List (S51))) := ⟨_, rfl⟩
          replace H : (if 0 ≤ a0 then (if a0 ≤ (wrap64 (a0 + 1)) then (if (wrap64 (a0 + 1)) ≤ (y150.length : Int) then ((entry_Put.f kj3 ((y150.take ((wrap64 (a0 + 1)) : Int).toNat).drop (a0 : Int).toNat)).bind fun bt157 => ((waymarklaw1_num.f bt157.2).bind fun t161 => (if t161 = 0 then (some false) else (some (!((bt157.1.length : Int) == 4)))))) else (none)) else (none)) else (none)) = some r := by first | (rw [hy150]; with_reducible exact H) | (have H2_ := (Option.bind_some _ _).symm.trans H; rw [hy150]; with_reducible exact H2_) | (have H2_ := (Option.bind_some _ _).symm.trans H; with_reducible exact H2_) | with_reducible exact H | (rw [hy150]; exact H) | exact H
          have Ny150 := Aside0.mk hy150
          clear hy150
          by_cases c10 : 0 ≤ a0
          · rw [if_pos c10] at H
            have c10b0 := eq_true c10
            have c10b1 : decide (0 ≤ a0) = true := decide_eq_true c10
            clear c10
            by_cases c11 : a0 ≤ (wrap64 (a0 + 1))
            · rw [if_pos c11] at H
              have c11b0 := eq_true c11
              have c11b1 : decide (a0 ≤ (wrap64 (a0 + 1))) = true := decide_eq_true c11
              by_cases c12 : (wrap64 (a0 + 1)) ≤ (y150.length : Int)
              · rw [if_pos c12] at H
                have c12b0 := eq_true c12
                have c12b1 : decide ((wrap64 (a0 + 1)) ≤ (y150.length : Int)) = true := decide_eq_true c12
                obtain ⟨y153, hy153⟩ : ∃ y_ : List (S51), y_ = ((y150.take ((wrap64 (a0 + 1)) : Int).toNat).drop (a0 : Int).toNat) := ⟨_, rfl⟩
                replace H : ((entry_Put.f kj3 y153).bind fun bt157 => ((waymarklaw1_num.f bt157.2).bind fun t161 => (if t161 = 0 then (some false) else (some (!((bt157.1.length : Int) == 4)))))) = some r := by first | (rw [hy153]; with_reducible exact H) | (have H2_ := (Option.bind_some _ _).symm.trans H; rw [hy153]; with_reducible exact H2_) | (have H2_ := (Option.bind_some _ _).symm.trans H; with_reducible exact H2_) | with_reducible exact H | (rw [hy153]; exact H) | exact H
                have Ny153 := Aside0.mk hy153
                clear hy153
                replace H := Option.bind_eq_some_iff.mp H
                obtain ⟨⟨t157, t158⟩, A130, H⟩ := H
                replace H : ((waymarklaw1_num.f t158).bind fun t161 => (if t161 = 0 then (some false) else (some (!((t157.length : Int) == 4))))) = some r := H
                have A13 := Aside0.mk A130
                clear A130
                replace H := Option.bind_eq_some_iff.mp H
                obtain ⟨t161, A140, H⟩ := H
                replace H : (if t161 = 0 then (some false) else (some (!((t157.length : Int) == 4)))) = some r := H
                have A14 := Aside0.mk A140
                clear A140
                by_cases c15 : t161 = 0
                · rw [if_pos c15] at H
                  have c15b0 : (t161 == 0) = true := beq_iff_eq.mpr c15
                  have c15b1 : (t161 != 0) = false := bne_eq_false_iff_eq.mpr c15
                  clear c15
                  obtain rfl := Option.some.inj H
                  go_wp2_with (first | ((with_reducible refine gate_dst (N := 35) rfl ?_); (try (refine gate_guard (by rfl) ?_; dsimp only)); refine Kd.R_lit k51 _ 51 ?hg (N := 35) ?hd (xs := ([(⟨1048575 + 1, 0, 0, true⟩ : S51), (⟨0, 7 + 1, 0, true⟩ : S51), (⟨0, 0, 255 + 1, true⟩ : S51), (⟨-1, 0, 0, true⟩ : S51)] : List (S51))) (inner := [.int .i64 (1048575 + 1), .int .i64 0, .int .i64 0, .bool true, .int .i64 0, .int .i64 (7 + 1), .int .i64 0, .bool true, .int .i64 0, .int .i64 0, .int .i64 (255 + 1), .bool true, .int .i64 (-1), .int .i64 0, .int .i64 0, .bool true]) (ok := fun _ => True) (okp := fun _ => True) ?hr ?hp (fun _ hk => hk) trivial (Below.refl _ _) (Nat.le_refl _) (by simp) ?_; (case hd => rfl); (case hg => rfl); (case hr => first | (go_simp; done) | (go_simp; rfl)); (case hp => exact (Reps.c4 (show Kd.M k51 _ _ _ (⟨1048575 + 1, 0, 0, true⟩ : S51) [.int .i64 (1048575 + 1), .int .i64 0, .int .i64 0, .bool true] from (k51_mkM _ _ _ (⟨1048575 + 1, 0, 0, true⟩ : S51) )) (Reps.c4 (show Kd.M k51 _ _ _ (⟨0, 7 + 1, 0, true⟩ : S51) [.int .i64 0, .int .i64 (7 + 1), .int .i64 0, .bool true] from (k51_mkM _ _ _ (⟨0, 7 + 1, 0, true⟩ : S51) )) (Reps.c4 (show Kd.M k51 _ _ _ (⟨0, 0, 255 + 1, true⟩ : S51) [.int .i64 0, .int .i64 0, .int .i64 (255 + 1), .bool true] from (k51_mkM _ _ _ (⟨0, 0, 255 + 1, true⟩ : S51) )) (Reps.c4 (show Kd.M k51 _ _ _ (⟨-1, 0, 0, true⟩ : S51) [.int .i64 (-1), .int .i64 0, .int .i64 0, .bool true] from (k51_mkM _ _ _ (⟨-1, 0, 0, true⟩ : S51) )) (Reps.none _ _)))))); intro v151 w16 ho17 hb hg_ hnew_; clear hg_ hnew_; (first | rw [← Ny150.out] at ho17 | (simp only [Int.reduceToNat] at ho17; rw [← Ny150.out] at ho17)); have n0_ := Aside0.mk (Kd.R_lower ho17 (below_size (by repeat (first | (with_reducible first | exact HB.out | apply below_alloc | apply pw_below_drewN | apply below_drew1) | exact HB.out)))); have n1_ := Aside0.mk (below_step (by repeat (first | (with_reducible first | exact HB.out | apply below_alloc | apply pw_below_drewN | apply below_drew1) | exact HB.out)) hb); clear HB; have HO152 := n0_; have HB := n1_; clear n0_ n1_; clear hb ho17; obtain ⟨Ao19, co19, eo19⟩ := Kd.R_slice HO152.out; subst eo19; have q18 : ((wrap64 (a0 + 1)) : Int) ≤ ((y150.length : Int) : Int) := of_decide_eq_true (by first | (with_reducible assumption) | assumption); obtain ⟨i018, hi018, _, hsz18, _⟩ := info_parts info51; have hroom18 : y150.length ≤ co19 := (Kd.R_reads' HO152.out).2.1; have hC18 : Kd.C k51 _ Ao19 y150.length y150 := (Kd.R_reads' HO152.out).2.2; have ql18 : (a0 : Int) ≤ ((wrap64 (a0 + 1)) : Int) := of_decide_eq_true (by first | (with_reducible assumption) | assumption); have q018 : (0 : Int) ≤ (a0 : Int) := of_decide_eq_true (by first | (with_reducible assumption) | assumption); have hcut18 := cut_mid (P := Try.prog) 39 51 .i64 .i64 Try.underlying39 hi018 4 hsz18 Ao19 y150.length co19 a0 (wrap64 (a0 + 1)) q018 ql18 q18 hroom18; have hr18 := Kd.C_mid (lo := (a0 : Int).toNat) (hi := ((wrap64 (a0 + 1)) : Int).toNat) (c := co19) hC18 (by omega) (by omega) hroom18; obtain ⟨A18, hA18⟩ : ∃ A1, A1 = (if co19 = (a0 : Int).toNat then Ao19 else (Ao19 : Option Addr).map (·.add ((a0 : Int).toNat * 4))) := ⟨_, rfl⟩; obtain ⟨c18, hc18⟩ : ∃ c1, c1 = co19 - (a0 : Int).toNat := ⟨_, rfl⟩; have hy18 : y153.length = ((wrap64 (a0 + 1)) : Int).toNat - (a0 : Int).toNat := (by rw [Ny153.out, List.length_drop, List.length_take] <;> omega); rw [show ((y150).take ((wrap64 (a0 + 1)) : Int).toNat).drop (a0 : Int).toNat = y153 from Ny153.out.symm] at hr18; replace hr18 : Kd.C k51 _ A18 y153.length y153 := (by rw [hA18]; exact hr18); rw [← hy18, ← hA18, ← hc18] at hcut18; have HR156 := Aside0.mk hr18; have HC156 := Aside0.mk (show y153.length ≤ c18 from by rw [hy18, hc18]; exact Nat.sub_le_sub_right (Nat.le_trans (by omega) hroom18) _); clear hr18 hC18 hroom18 hi018 hsz18 hc18; have KY18 := Aside0.mk hy18; have KA18 := Aside0.mk hA18; clear hy18 hA18; have KL18 := Aside0.mk (show ((wrap64 (a0 + 1)) : Int).toNat ≤ y150.length from by omega); have KM18 := Aside0.mk (show (a0 : Int).toNat ≤ ((wrap64 (a0 + 1)) : Int).toNat from by omega); replace q18 := eq_true q18) | ((with_reducible refine gate_callee (f := 17) rfl ?_); refine goesL_ (some 42) rfl rfl Try.func17 (by kernel_rfl) rfl #[.slice A18 y153.length c18] rfl (by (try simp only [List.map_toArray, List.map_cons, List.map_nil]); first | done | rfl | (simp only [List.length_drop, List.length_take]; rfl)) ?_; (with_reducible refine (entry_Put.calls kj3 _ _ y153 t157 t158 _ ?side1 ?side2 A13.out).mono ?_); (case side1 => repeat (first | exact (by repeat (first | (with_reducible exact HR156.out) | (with_reducible refine Kd.C_alloc ?_ _) | (with_reducible refine Kd.C_drewN ?_ _) | (with_reducible refine Kd.C_drew ?_) | exact HR156.out)) | (with_reducible refine Kd.C_alloc ?_ _) | (with_reducible refine Kd.C_drewN ?_ _) | (with_reducible refine Kd.C_drew ?_))); (case side2 => exact HC156.out); rintro e w20 ⟨v159, rfl, ho0, hb⟩; refine ⟨_, rfl, ?_⟩; have n0_ := Aside0.mk (Kd.R_below (by (with_reducible repeat (first | apply Kd.R_alloc | apply Kd.R_drewN | apply Kd.R_drew)); exact HO152.out) hb); have n1_ := Aside0.mk (Kd.R_lower ho0 (below_size (by repeat (first | (with_reducible first | exact HB.out | apply below_alloc | apply pw_below_drewN | apply below_drew1) | exact HB.out)))); have n2_ := Aside0.mk (Kd.C_below (by repeat (first | (with_reducible exact HR156.out) | (with_reducible refine Kd.C_alloc ?_ _) | (with_reducible refine Kd.C_drewN ?_ _) | (with_reducible refine Kd.C_drew ?_) | exact HR156.out)) hb); have n3_ := Aside0.mk (below_step (by repeat (first | (with_reducible first | exact HB.out | apply below_alloc | apply pw_below_drewN | apply below_drew1) | exact HB.out)) hb); clear HO152; clear HR156; clear HB; have HO152 := n0_; have HO160 := n1_; have HR156 := n2_; have HB := n3_; clear n0_ n1_ n2_ n3_; (try clear hb); (try clear hb2); (try clear hk); (try clear hi); (try clear ho0)) | ((with_reducible refine gate_callee (f := 21) rfl ?_); refine goesL_ (some 46) rfl rfl Try.func21 (by kernel_rfl) rfl #[.int .i64 t158] rfl (by (try simp only [List.map_toArray, List.map_cons, List.map_nil]); first | done | rfl | (simp only [List.length_drop, List.length_take]; rfl)) ?_; (with_reducible refine (waymarklaw1_num.calls t158 t161 _ A14.out).mono ?_); rintro e w' ⟨rfl, ⟨nd, rfl⟩⟩; refine ⟨_, rfl, ?_⟩))
                  go_ret
                  exact ⟨by first | rfl | (simp [errW_none, errW_some] <;> rfl) | (simp [*, errW_none, errW_some] <;> rfl), by repeat (first | (with_reducible first | exact HB.out | apply below_alloc | apply pw_below_drewN | apply below_drew1) | exact HB.out)⟩
                · rw [if_neg c15] at H
                  have c15b0 : (t161 == 0) = false := beq_eq_false_iff_ne.mpr c15
                  have c15b1 : (t161 != 0) = true := bne_iff_ne.mpr c15
                  obtain rfl := Option.some.inj H
                  go_wp2_with (first | ((with_reducible refine gate_dst (N := 35) rfl ?_); (try (refine gate_guard (by rfl) ?_; dsimp only)); refine Kd.R_lit k51 _ 51 ?hg (N := 35) ?hd (xs := ([(⟨1048575 + 1, 0, 0, true⟩ : S51), (⟨0, 7 + 1, 0, true⟩ : S51), (⟨0, 0, 255 + 1, true⟩ : S51), (⟨-1, 0, 0, true⟩ : S51)] : List (S51))) (inner := [.int .i64 (1048575 + 1), .int .i64 0, .int .i64 0, .bool true, .int .i64 0, .int .i64 (7 + 1), .int .i64 0, .bool true, .int .i64 0, .int .i64 0, .int .i64 (255 + 1), .bool true, .int .i64 (-1), .int .i64 0, .int .i64 0, .bool true]) (ok := fun _ => True) (okp := fun _ => True) ?hr ?hp (fun _ hk => hk) trivial (Below.refl _ _) (Nat.le_refl _) (by simp) ?_; (case hd => rfl); (case hg => rfl); (case hr => first | (go_simp; done) | (go_simp; rfl)); (case hp => exact (Reps.c4 (show Kd.M k51 _ _ _ (⟨1048575 + 1, 0, 0, true⟩ : S51) [.int .i64 (1048575 + 1), .int .i64 0, .int .i64 0, .bool true] from (k51_mkM _ _ _ (⟨1048575 + 1, 0, 0, true⟩ : S51) )) (Reps.c4 (show Kd.M k51 _ _ _ (⟨0, 7 + 1, 0, true⟩ : S51) [.int .i64 0, .int .i64 (7 + 1), .int .i64 0, .bool true] from (k51_mkM _ _ _ (⟨0, 7 + 1, 0, true⟩ : S51) )) (Reps.c4 (show Kd.M k51 _ _ _ (⟨0, 0, 255 + 1, true⟩ : S51) [.int .i64 0, .int .i64 0, .int .i64 (255 + 1), .bool true] from (k51_mkM _ _ _ (⟨0, 0, 255 + 1, true⟩ : S51) )) (Reps.c4 (show Kd.M k51 _ _ _ (⟨-1, 0, 0, true⟩ : S51) [.int .i64 (-1), .int .i64 0, .int .i64 0, .bool true] from (k51_mkM _ _ _ (⟨-1, 0, 0, true⟩ : S51) )) (Reps.none _ _)))))); intro v151 w21 ho22 hb hg_ hnew_; clear hg_ hnew_; (first | rw [← Ny150.out] at ho22 | (simp only [Int.reduceToNat] at ho22; rw [← Ny150.out] at ho22)); have n0_ := Aside0.mk (Kd.R_lower ho22 (below_size (by repeat (first | (with_reducible first | exact HB.out | apply below_alloc | apply pw_below_drewN | apply below_drew1) | exact HB.out)))); have n1_ := Aside0.mk (below_step (by repeat (first | (with_reducible first | exact HB.out | apply below_alloc | apply pw_below_drewN | apply below_drew1) | exact HB.out)) hb); clear HB; have HO152 := n0_; have HB := n1_; clear n0_ n1_; clear hb ho22; obtain ⟨Ao24, co24, eo24⟩ := Kd.R_slice HO152.out; subst eo24; have q23 : ((wrap64 (a0 + 1)) : Int) ≤ ((y150.length : Int) : Int) := of_decide_eq_true (by first | (with_reducible assumption) | assumption); obtain ⟨i023, hi023, _, hsz23, _⟩ := info_parts info51; have hroom23 : y150.length ≤ co24 := (Kd.R_reads' HO152.out).2.1; have hC23 : Kd.C k51 _ Ao24 y150.length y150 := (Kd.R_reads' HO152.out).2.2; have ql23 : (a0 : Int) ≤ ((wrap64 (a0 + 1)) : Int) := of_decide_eq_true (by first | (with_reducible assumption) | assumption); have q023 : (0 : Int) ≤ (a0 : Int) := of_decide_eq_true (by first | (with_reducible assumption) | assumption); have hcut23 := cut_mid (P := Try.prog) 39 51 .i64 .i64 Try.underlying39 hi023 4 hsz23 Ao24 y150.length co24 a0 (wrap64 (a0 + 1)) q023 ql23 q23 hroom23; have hr23 := Kd.C_mid (lo := (a0 : Int).toNat) (hi := ((wrap64 (a0 + 1)) : Int).toNat) (c := co24) hC23 (by omega) (by omega) hroom23; obtain ⟨A23, hA23⟩ : ∃ A1, A1 = (if co24 = (a0 : Int).toNat then Ao24 else (Ao24 : Option Addr).map (·.add ((a0 : Int).toNat * 4))) := ⟨_, rfl⟩; obtain ⟨c23, hc23⟩ : ∃ c1, c1 = co24 - (a0 : Int).toNat := ⟨_, rfl⟩; have hy23 : y153.length = ((wrap64 (a0 + 1)) : Int).toNat - (a0 : Int).toNat := (by rw [Ny153.out, List.length_drop, List.length_take] <;> omega); rw [show ((y150).take ((wrap64 (a0 + 1)) : Int).toNat).drop (a0 : Int).toNat = y153 from Ny153.out.symm] at hr23; replace hr23 : Kd.C k51 _ A23 y153.length y153 := (by rw [hA23]; exact hr23); rw [← hy23, ← hA23, ← hc23] at hcut23; have HR156 := Aside0.mk hr23; have HC156 := Aside0.mk (show y153.length ≤ c23 from by rw [hy23, hc23]; exact Nat.sub_le_sub_right (Nat.le_trans (by omega) hroom23) _); clear hr23 hC23 hroom23 hi023 hsz23 hc23; have KY23 := Aside0.mk hy23; have KA23 := Aside0.mk hA23; clear hy23 hA23; have KL23 := Aside0.mk (show ((wrap64 (a0 + 1)) : Int).toNat ≤ y150.length from by omega); have KM23 := Aside0.mk (show (a0 : Int).toNat ≤ ((wrap64 (a0 + 1)) : Int).toNat from by omega); replace q23 := eq_true q23) | ((with_reducible refine gate_callee (f := 17) rfl ?_); refine goesL_ (some 42) rfl rfl Try.func17 (by kernel_rfl) rfl #[.slice A23 y153.length c23] rfl (by (try simp only [List.map_toArray, List.map_cons, List.map_nil]); first | done | rfl | (simp only [List.length_drop, List.length_take]; rfl)) ?_; (with_reducible refine (entry_Put.calls kj3 _ _ y153 t157 t158 _ ?side1 ?side2 A13.out).mono ?_); (case side1 => repeat (first | exact (by repeat (first | (with_reducible exact HR156.out) | (with_reducible refine Kd.C_alloc ?_ _) | (with_reducible refine Kd.C_drewN ?_ _) | (with_reducible refine Kd.C_drew ?_) | exact HR156.out)) | (with_reducible refine Kd.C_alloc ?_ _) | (with_reducible refine Kd.C_drewN ?_ _) | (with_reducible refine Kd.C_drew ?_))); (case side2 => exact HC156.out); rintro e w25 ⟨v159, rfl, ho0, hb⟩; refine ⟨_, rfl, ?_⟩; have n0_ := Aside0.mk (Kd.R_below (by (with_reducible repeat (first | apply Kd.R_alloc | apply Kd.R_drewN | apply Kd.R_drew)); exact HO152.out) hb); have n1_ := Aside0.mk (Kd.R_lower ho0 (below_size (by repeat (first | (with_reducible first | exact HB.out | apply below_alloc | apply pw_below_drewN | apply below_drew1) | exact HB.out)))); have n2_ := Aside0.mk (Kd.C_below (by repeat (first | (with_reducible exact HR156.out) | (with_reducible refine Kd.C_alloc ?_ _) | (with_reducible refine Kd.C_drewN ?_ _) | (with_reducible refine Kd.C_drew ?_) | exact HR156.out)) hb); have n3_ := Aside0.mk (below_step (by repeat (first | (with_reducible first | exact HB.out | apply below_alloc | apply pw_below_drewN | apply below_drew1) | exact HB.out)) hb); clear HO152; clear HR156; clear HB; have HO152 := n0_; have HO160 := n1_; have HR156 := n2_; have HB := n3_; clear n0_ n1_ n2_ n3_; (try clear hb); (try clear hb2); (try clear hk); (try clear hi); (try clear ho0)) | ((with_reducible refine gate_callee (f := 21) rfl ?_); refine goesL_ (some 46) rfl rfl Try.func21 (by kernel_rfl) rfl #[.int .i64 t158] rfl (by (try simp only [List.map_toArray, List.map_cons, List.map_nil]); first | done | rfl | (simp only [List.length_drop, List.length_take]; rfl)) ?_; (with_reducible refine (waymarklaw1_num.calls t158 t161 _ A14.out).mono ?_); rintro e w' ⟨rfl, ⟨nd, rfl⟩⟩; refine ⟨_, rfl, ?_⟩; obtain ⟨Ao26, co26, eo26⟩ := Kd.R_slice HO160.out; subst eo26))
                  go_ret
                  exact ⟨by first | rfl | (simp [errW_none, errW_some] <;> rfl) | (simp [*, errW_none, errW_some] <;> rfl), by repeat (first | (with_reducible first | exact HB.out | apply below_alloc | apply pw_below_drewN | apply below_drew1) | exact HB.out)⟩
              · rw [if_neg c12] at H
                exact absurd H (by simp)
            · rw [if_neg c11] at H
              exact absurd H (by simp)
          · rw [if_neg c10] at H
            exact absurd H (by simp)
        · replace c9 := Bool.eq_false_iff.mpr c9
          subst c9
          have H1 : ((some (([(⟨1048575 + 0, 0, 0, true⟩ : S51), (⟨0, 7 + 0, 0, true⟩ : S51), (⟨0, 0, 255 + 0, true⟩ : S51), (⟨-0, 0, 0, true⟩ : S51)] : List (S51)) : List (S51))).bind fun y162 => (if 0 ≤ a0 then (if a0 ≤ (wrap64 (a0 + 1)) then (if (wrap64 (a0 + 1)) ≤ (y162.length : Int) then ((entry_Put.f kj3 ((y162.take ((wrap64 (a0 + 1)) : Int).toNat).drop (a0 : Int).toNat)).bind fun bt169 => ((waymarklaw1_num.f bt169.2).bind fun t173 => (if t173 = 0 then (some ((bt169.1.length : Int) == 4)) else (some false)))) else (none)) else (none)) else (none))) = some r := by rw [if_neg (show ¬ (false = true) by decide)] at H; exact H
          clear H
          have H := H1
          clear H1
          obtain ⟨y162, hy162⟩ : ∃ y_ : List (S51), y_ = (([(⟨1048575 + 0, 0, 0, true⟩ : S51), (⟨0, 7 + 0, 0, true⟩ : S51), (⟨0, 0, 255 + 0, true⟩ : S51), (⟨-0, 0, 0, true⟩ : S51)] : List (S51))) := ⟨_, rfl⟩
          replace H : (if 0 ≤ a0 then (if a0 ≤ (wrap64 (a0 + 1)) then (if (wrap64 (a0 + 1)) ≤ (y162.length : Int) then ((entry_Put.f kj3 ((y162.take ((wrap64 (a0 + 1)) : Int).toNat).drop (a0 : Int).toNat)).bind fun bt169 => ((waymarklaw1_num.f bt169.2).bind fun t173 => (if t173 = 0 then (some ((bt169.1.length : Int) == 4)) else (some false)))) else (none)) else (none)) else (none)) = some r := by first | (rw [hy162]; with_reducible exact H) | (have H2_ := (Option.bind_some _ _).symm.trans H; rw [hy162]; with_reducible exact H2_) | (have H2_ := (Option.bind_some _ _).symm.trans H; with_reducible exact H2_) | with_reducible exact H | (rw [hy162]; exact H) | exact H
          have Ny162 := Aside0.mk hy162
          clear hy162
          by_cases c27 : 0 ≤ a0
          · rw [if_pos c27] at H
            have c27b0 := eq_true c27
            have c27b1 : decide (0 ≤ a0) = true := decide_eq_true c27
            clear c27
            by_cases c28 : a0 ≤ (wrap64 (a0 + 1))
            · rw [if_pos c28] at H
              have c28b0 := eq_true c28
              have c28b1 : decide (a0 ≤ (wrap64 (a0 + 1))) = true := decide_eq_true c28
              by_cases c29 : (wrap64 (a0 + 1)) ≤ (y162.length : Int)
              · rw [if_pos c29] at H
                have c29b0 := eq_true c29
                have c29b1 : decide ((wrap64 (a0 + 1)) ≤ (y162.length : Int)) = true := decide_eq_true c29
                obtain ⟨y165, hy165⟩ : ∃ y_ : List (S51), y_ = ((y162.take ((wrap64 (a0 + 1)) : Int).toNat).drop (a0 : Int).toNat) := ⟨_, rfl⟩
                replace H : ((entry_Put.f kj3 y165).bind fun bt169 => ((waymarklaw1_num.f bt169.2).bind fun t173 => (if t173 = 0 then (some ((bt169.1.length : Int) == 4)) else (some false)))) = some r := by first | (rw [hy165]; with_reducible exact H) | (have H2_ := (Option.bind_some _ _).symm.trans H; rw [hy165]; with_reducible exact H2_) | (have H2_ := (Option.bind_some _ _).symm.trans H; with_reducible exact H2_) | with_reducible exact H | (rw [hy165]; exact H) | exact H
                have Ny165 := Aside0.mk hy165
                clear hy165
                replace H := Option.bind_eq_some_iff.mp H
                obtain ⟨⟨t169, t170⟩, A300, H⟩ := H
                replace H : ((waymarklaw1_num.f t170).bind fun t173 => (if t173 = 0 then (some ((t169.length : Int) == 4)) else (some false))) = some r := H
                have A30 := Aside0.mk A300
                clear A300
                replace H := Option.bind_eq_some_iff.mp H
                obtain ⟨t173, A310, H⟩ := H
                replace H : (if t173 = 0 then (some ((t169.length : Int) == 4)) else (some false)) = some r := H
                have A31 := Aside0.mk A310
                clear A310
                by_cases c32 : t173 = 0
                · rw [if_pos c32] at H
                  have c32b0 : (t173 == 0) = true := beq_iff_eq.mpr c32
                  have c32b1 : (t173 != 0) = false := bne_eq_false_iff_eq.mpr c32
                  clear c32
                  obtain rfl := Option.some.inj H
                  go_wp2_with (first | ((with_reducible refine gate_dst (N := 35) rfl ?_); (try (refine gate_guard (by rfl) ?_; dsimp only)); refine Kd.R_lit k51 _ 51 ?hg (N := 35) ?hd (xs := ([(⟨1048575 + 0, 0, 0, true⟩ : S51), (⟨0, 7 + 0, 0, true⟩ : S51), (⟨0, 0, 255 + 0, true⟩ : S51), (⟨-0, 0, 0, true⟩ : S51)] : List (S51))) (inner := [.int .i64 (1048575 + 0), .int .i64 0, .int .i64 0, .bool true, .int .i64 0, .int .i64 (7 + 0), .int .i64 0, .bool true, .int .i64 0, .int .i64 0, .int .i64 (255 + 0), .bool true, .int .i64 (-0), .int .i64 0, .int .i64 0, .bool true]) (ok := fun _ => True) (okp := fun _ => True) ?hr ?hp (fun _ hk => hk) trivial (Below.refl _ _) (Nat.le_refl _) (by simp) ?_; (case hd => rfl); (case hg => rfl); (case hr => first | (go_simp; done) | (go_simp; rfl)); (case hp => exact (Reps.c4 (show Kd.M k51 _ _ _ (⟨1048575 + 0, 0, 0, true⟩ : S51) [.int .i64 (1048575 + 0), .int .i64 0, .int .i64 0, .bool true] from (k51_mkM _ _ _ (⟨1048575 + 0, 0, 0, true⟩ : S51) )) (Reps.c4 (show Kd.M k51 _ _ _ (⟨0, 7 + 0, 0, true⟩ : S51) [.int .i64 0, .int .i64 (7 + 0), .int .i64 0, .bool true] from (k51_mkM _ _ _ (⟨0, 7 + 0, 0, true⟩ : S51) )) (Reps.c4 (show Kd.M k51 _ _ _ (⟨0, 0, 255 + 0, true⟩ : S51) [.int .i64 0, .int .i64 0, .int .i64 (255 + 0), .bool true] from (k51_mkM _ _ _ (⟨0, 0, 255 + 0, true⟩ : S51) )) (Reps.c4 (show Kd.M k51 _ _ _ (⟨-0, 0, 0, true⟩ : S51) [.int .i64 (-0), .int .i64 0, .int .i64 0, .bool true] from (k51_mkM _ _ _ (⟨-0, 0, 0, true⟩ : S51) )) (Reps.none _ _)))))); intro v163 w33 ho34 hb hg_ hnew_; clear hg_ hnew_; (first | rw [← Ny162.out] at ho34 | (simp only [Int.reduceToNat] at ho34; rw [← Ny162.out] at ho34)); have n0_ := Aside0.mk (Kd.R_lower ho34 (below_size (by repeat (first | (with_reducible first | exact HB.out | apply below_alloc | apply pw_below_drewN | apply below_drew1) | exact HB.out)))); have n1_ := Aside0.mk (below_step (by repeat (first | (with_reducible first | exact HB.out | apply below_alloc | apply pw_below_drewN | apply below_drew1) | exact HB.out)) hb); clear HB; have HO164 := n0_; have HB := n1_; clear n0_ n1_; clear hb ho34; obtain ⟨Ao36, co36, eo36⟩ := Kd.R_slice HO164.out; subst eo36; have q35 : ((wrap64 (a0 + 1)) : Int) ≤ ((y162.length : Int) : Int) := of_decide_eq_true (by first | (with_reducible assumption) | assumption); obtain ⟨i035, hi035, _, hsz35, _⟩ := info_parts info51; have hroom35 : y162.length ≤ co36 := (Kd.R_reads' HO164.out).2.1; have hC35 : Kd.C k51 _ Ao36 y162.length y162 := (Kd.R_reads' HO164.out).2.2; have ql35 : (a0 : Int) ≤ ((wrap64 (a0 + 1)) : Int) := of_decide_eq_true (by first | (with_reducible assumption) | assumption); have q035 : (0 : Int) ≤ (a0 : Int) := of_decide_eq_true (by first | (with_reducible assumption) | assumption); have hcut35 := cut_mid (P := Try.prog) 39 51 .i64 .i64 Try.underlying39 hi035 4 hsz35 Ao36 y162.length co36 a0 (wrap64 (a0 + 1)) q035 ql35 q35 hroom35; have hr35 := Kd.C_mid (lo := (a0 : Int).toNat) (hi := ((wrap64 (a0 + 1)) : Int).toNat) (c := co36) hC35 (by omega) (by omega) hroom35; obtain ⟨A35, hA35⟩ : ∃ A1, A1 = (if co36 = (a0 : Int).toNat then Ao36 else (Ao36 : Option Addr).map (·.add ((a0 : Int).toNat * 4))) := ⟨_, rfl⟩; obtain ⟨c35, hc35⟩ : ∃ c1, c1 = co36 - (a0 : Int).toNat := ⟨_, rfl⟩; have hy35 : y165.length = ((wrap64 (a0 + 1)) : Int).toNat - (a0 : Int).toNat := (by rw [Ny165.out, List.length_drop, List.length_take] <;> omega); rw [show ((y162).take ((wrap64 (a0 + 1)) : Int).toNat).drop (a0 : Int).toNat = y165 from Ny165.out.symm] at hr35; replace hr35 : Kd.C k51 _ A35 y165.length y165 := (by rw [hA35]; exact hr35); rw [← hy35, ← hA35, ← hc35] at hcut35; have HR168 := Aside0.mk hr35; have HC168 := Aside0.mk (show y165.length ≤ c35 from by rw [hy35, hc35]; exact Nat.sub_le_sub_right (Nat.le_trans (by omega) hroom35) _); clear hr35 hC35 hroom35 hi035 hsz35 hc35; have KY35 := Aside0.mk hy35; have KA35 := Aside0.mk hA35; clear hy35 hA35; have KL35 := Aside0.mk (show ((wrap64 (a0 + 1)) : Int).toNat ≤ y162.length from by omega); have KM35 := Aside0.mk (show (a0 : Int).toNat ≤ ((wrap64 (a0 + 1)) : Int).toNat from by omega); replace q35 := eq_true q35) | ((with_reducible refine gate_callee (f := 17) rfl ?_); refine goesL_ (some 42) rfl rfl Try.func17 (by kernel_rfl) rfl #[.slice A35 y165.length c35] rfl (by (try simp only [List.map_toArray, List.map_cons, List.map_nil]); first | done | rfl | (simp only [List.length_drop, List.length_take]; rfl)) ?_; (with_reducible refine (entry_Put.calls kj3 _ _ y165 t169 t170 _ ?side1 ?side2 A30.out).mono ?_); (case side1 => repeat (first | exact (by repeat (first | (with_reducible exact HR168.out) | (with_reducible refine Kd.C_alloc ?_ _) | (with_reducible refine Kd.C_drewN ?_ _) | (with_reducible refine Kd.C_drew ?_) | exact HR168.out)) | (with_reducible refine Kd.C_alloc ?_ _) | (with_reducible refine Kd.C_drewN ?_ _) | (with_reducible refine Kd.C_drew ?_))); (case side2 => exact HC168.out); rintro e w37 ⟨v171, rfl, ho0, hb⟩; refine ⟨_, rfl, ?_⟩; have n0_ := Aside0.mk (Kd.R_below (by (with_reducible repeat (first | apply Kd.R_alloc | apply Kd.R_drewN | apply Kd.R_drew)); exact HO164.out) hb); have n1_ := Aside0.mk (Kd.R_lower ho0 (below_size (by repeat (first | (with_reducible first | exact HB.out | apply below_alloc | apply pw_below_drewN | apply below_drew1) | exact HB.out)))); have n2_ := Aside0.mk (Kd.C_below (by repeat (first | (with_reducible exact HR168.out) | (with_reducible refine Kd.C_alloc ?_ _) | (with_reducible refine Kd.C_drewN ?_ _) | (with_reducible refine Kd.C_drew ?_) | exact HR168.out)) hb); have n3_ := Aside0.mk (below_step (by repeat (first | (with_reducible first | exact HB.out | apply below_alloc | apply pw_below_drewN | apply below_drew1) | exact HB.out)) hb); clear HO164; clear HR168; clear HB; have HO164 := n0_; have HO172 := n1_; have HR168 := n2_; have HB := n3_; clear n0_ n1_ n2_ n3_; (try clear hb); (try clear hb2); (try clear hk); (try clear hi); (try clear ho0)) | ((with_reducible refine gate_callee (f := 21) rfl ?_); refine goesL_ (some 46) rfl rfl Try.func21 (by kernel_rfl) rfl #[.int .i64 t170] rfl (by (try simp only [List.map_toArray, List.map_cons, List.map_nil]); first | done | rfl | (simp only [List.length_drop, List.length_take]; rfl)) ?_; (with_reducible refine (waymarklaw1_num.calls t170 t173 _ A31.out).mono ?_); rintro e w' ⟨rfl, ⟨nd, rfl⟩⟩; refine ⟨_, rfl, ?_⟩; obtain ⟨Ao38, co38, eo38⟩ := Kd.R_slice HO172.out; subst eo38))
                  go_ret
                  exact ⟨by first | rfl | (simp [errW_none, errW_some] <;> rfl) | (simp [*, errW_none, errW_some] <;> rfl), by repeat (first | (with_reducible first | exact HB.out | apply below_alloc | apply pw_below_drewN | apply below_drew1) | exact HB.out)⟩
                · rw [if_neg c32] at H
                  have c32b0 : (t173 == 0) = false := beq_eq_false_iff_ne.mpr c32
                  have c32b1 : (t173 != 0) = true := bne_iff_ne.mpr c32
                  obtain rfl := Option.some.inj H
                  go_wp2_with (first | ((with_reducible refine gate_dst (N := 35) rfl ?_); (try (refine gate_guard (by rfl) ?_; dsimp only)); refine Kd.R_lit k51 _ 51 ?hg (N := 35) ?hd (xs := ([(⟨1048575 + 0, 0, 0, true⟩ : S51), (⟨0, 7 + 0, 0, true⟩ : S51), (⟨0, 0, 255 + 0, true⟩ : S51), (⟨-0, 0, 0, true⟩ : S51)] : List (S51))) (inner := [.int .i64 (1048575 + 0), .int .i64 0, .int .i64 0, .bool true, .int .i64 0, .int .i64 (7 + 0), .int .i64 0, .bool true, .int .i64 0, .int .i64 0, .int .i64 (255 + 0), .bool true, .int .i64 (-0), .int .i64 0, .int .i64 0, .bool true]) (ok := fun _ => True) (okp := fun _ => True) ?hr ?hp (fun _ hk => hk) trivial (Below.refl _ _) (Nat.le_refl _) (by simp) ?_; (case hd => rfl); (case hg => rfl); (case hr => first | (go_simp; done) | (go_simp; rfl)); (case hp => exact (Reps.c4 (show Kd.M k51 _ _ _ (⟨1048575 + 0, 0, 0, true⟩ : S51) [.int .i64 (1048575 + 0), .int .i64 0, .int .i64 0, .bool true] from (k51_mkM _ _ _ (⟨1048575 + 0, 0, 0, true⟩ : S51) )) (Reps.c4 (show Kd.M k51 _ _ _ (⟨0, 7 + 0, 0, true⟩ : S51) [.int .i64 0, .int .i64 (7 + 0), .int .i64 0, .bool true] from (k51_mkM _ _ _ (⟨0, 7 + 0, 0, true⟩ : S51) )) (Reps.c4 (show Kd.M k51 _ _ _ (⟨0, 0, 255 + 0, true⟩ : S51) [.int .i64 0, .int .i64 0, .int .i64 (255 + 0), .bool true] from (k51_mkM _ _ _ (⟨0, 0, 255 + 0, true⟩ : S51) )) (Reps.c4 (show Kd.M k51 _ _ _ (⟨-0, 0, 0, true⟩ : S51) [.int .i64 (-0), .int .i64 0, .int .i64 0, .bool true] from (k51_mkM _ _ _ (⟨-0, 0, 0, true⟩ : S51) )) (Reps.none _ _)))))); intro v163 w39 ho40 hb hg_ hnew_; clear hg_ hnew_; (first | rw [← Ny162.out] at ho40 | (simp only [Int.reduceToNat] at ho40; rw [← Ny162.out] at ho40)); have n0_ := Aside0.mk (Kd.R_lower ho40 (below_size (by repeat (first | (with_reducible first | exact HB.out | apply below_alloc | apply pw_below_drewN | apply below_drew1) | exact HB.out)))); have n1_ := Aside0.mk (below_step (by repeat (first | (with_reducible first | exact HB.out | apply below_alloc | apply pw_below_drewN | apply below_drew1) | exact HB.out)) hb); clear HB; have HO164 := n0_; have HB := n1_; clear n0_ n1_; clear hb ho40; obtain ⟨Ao42, co42, eo42⟩ := Kd.R_slice HO164.out; subst eo42; have q41 : ((wrap64 (a0 + 1)) : Int) ≤ ((y162.length : Int) : Int) := of_decide_eq_true (by first | (with_reducible assumption) | assumption); obtain ⟨i041, hi041, _, hsz41, _⟩ := info_parts info51; have hroom41 : y162.length ≤ co42 := (Kd.R_reads' HO164.out).2.1; have hC41 : Kd.C k51 _ Ao42 y162.length y162 := (Kd.R_reads' HO164.out).2.2; have ql41 : (a0 : Int) ≤ ((wrap64 (a0 + 1)) : Int) := of_decide_eq_true (by first | (with_reducible assumption) | assumption); have q041 : (0 : Int) ≤ (a0 : Int) := of_decide_eq_true (by first | (with_reducible assumption) | assumption); have hcut41 := cut_mid (P := Try.prog) 39 51 .i64 .i64 Try.underlying39 hi041 4 hsz41 Ao42 y162.length co42 a0 (wrap64 (a0 + 1)) q041 ql41 q41 hroom41; have hr41 := Kd.C_mid (lo := (a0 : Int).toNat) (hi := ((wrap64 (a0 + 1)) : Int).toNat) (c := co42) hC41 (by omega) (by omega) hroom41; obtain ⟨A41, hA41⟩ : ∃ A1, A1 = (if co42 = (a0 : Int).toNat then Ao42 else (Ao42 : Option Addr).map (·.add ((a0 : Int).toNat * 4))) := ⟨_, rfl⟩; obtain ⟨c41, hc41⟩ : ∃ c1, c1 = co42 - (a0 : Int).toNat := ⟨_, rfl⟩; have hy41 : y165.length = ((wrap64 (a0 + 1)) : Int).toNat - (a0 : Int).toNat := (by rw [Ny165.out, List.length_drop, List.length_take] <;> omega); rw [show ((y162).take ((wrap64 (a0 + 1)) : Int).toNat).drop (a0 : Int).toNat = y165 from Ny165.out.symm] at hr41; replace hr41 : Kd.C k51 _ A41 y165.length y165 := (by rw [hA41]; exact hr41); rw [← hy41, ← hA41, ← hc41] at hcut41; have HR168 := Aside0.mk hr41; have HC168 := Aside0.mk (show y165.length ≤ c41 from by rw [hy41, hc41]; exact Nat.sub_le_sub_right (Nat.le_trans (by omega) hroom41) _); clear hr41 hC41 hroom41 hi041 hsz41 hc41; have KY41 := Aside0.mk hy41; have KA41 := Aside0.mk hA41; clear hy41 hA41; have KL41 := Aside0.mk (show ((wrap64 (a0 + 1)) : Int).toNat ≤ y162.length from by omega); have KM41 := Aside0.mk (show (a0 : Int).toNat ≤ ((wrap64 (a0 + 1)) : Int).toNat from by omega); replace q41 := eq_true q41) | ((with_reducible refine gate_callee (f := 17) rfl ?_); refine goesL_ (some 42) rfl rfl Try.func17 (by kernel_rfl) rfl #[.slice A41 y165.length c41] rfl (by (try simp only [List.map_toArray, List.map_cons, List.map_nil]); first | done | rfl | (simp only [List.length_drop, List.length_take]; rfl)) ?_; (with_reducible refine (entry_Put.calls kj3 _ _ y165 t169 t170 _ ?side1 ?side2 A30.out).mono ?_); (case side1 => repeat (first | exact (by repeat (first | (with_reducible exact HR168.out) | (with_reducible refine Kd.C_alloc ?_ _) | (with_reducible refine Kd.C_drewN ?_ _) | (with_reducible refine Kd.C_drew ?_) | exact HR168.out)) | (with_reducible refine Kd.C_alloc ?_ _) | (with_reducible refine Kd.C_drewN ?_ _) | (with_reducible refine Kd.C_drew ?_))); (case side2 => exact HC168.out); rintro e w43 ⟨v171, rfl, ho0, hb⟩; refine ⟨_, rfl, ?_⟩; have n0_ := Aside0.mk (Kd.R_below (by (with_reducible repeat (first | apply Kd.R_alloc | apply Kd.R_drewN | apply Kd.R_drew)); exact HO164.out) hb); have n1_ := Aside0.mk (Kd.R_lower ho0 (below_size (by repeat (first | (with_reducible first | exact HB.out | apply below_alloc | apply pw_below_drewN | apply below_drew1) | exact HB.out)))); have n2_ := Aside0.mk (Kd.C_below (by repeat (first | (with_reducible exact HR168.out) | (with_reducible refine Kd.C_alloc ?_ _) | (with_reducible refine Kd.C_drewN ?_ _) | (with_reducible refine Kd.C_drew ?_) | exact HR168.out)) hb); have n3_ := Aside0.mk (below_step (by repeat (first | (with_reducible first | exact HB.out | apply below_alloc | apply pw_below_drewN | apply below_drew1) | exact HB.out)) hb); clear HO164; clear HR168; clear HB; have HO164 := n0_; have HO172 := n1_; have HR168 := n2_; have HB := n3_; clear n0_ n1_ n2_ n3_; (try clear hb); (try clear hb2); (try clear hk); (try clear hi); (try clear ho0)) | ((with_reducible refine gate_callee (f := 21) rfl ?_); refine goesL_ (some 46) rfl rfl Try.func21 (by kernel_rfl) rfl #[.int .i64 t170] rfl (by (try simp only [List.map_toArray, List.map_cons, List.map_nil]); first | done | rfl | (simp only [List.length_drop, List.length_take]; rfl)) ?_; (with_reducible refine (waymarklaw1_num.calls t170 t173 _ A31.out).mono ?_); rintro e w' ⟨rfl, ⟨nd, rfl⟩⟩; refine ⟨_, rfl, ?_⟩))
                  go_ret
                  exact ⟨by first | rfl | (simp [errW_none, errW_some] <;> rfl) | (simp [*, errW_none, errW_some] <;> rfl), by repeat (first | (with_reducible first | exact HB.out | apply below_alloc | apply pw_below_drewN | apply below_drew1) | exact HB.out)⟩
              · rw [if_neg c29] at H
                exact absurd H (by simp)
            · rw [if_neg c28] at H
              exact absurd H (by simp)
          · rw [if_neg c27] at H
            exact absurd H (by simp)

/-- THE ONE PURE STATEMENT of waymarklaw1_EntryLimits: yours. -/
def waymarklaw1_EntryLimits.Pure : Prop := ∀ (a0 : Int) (a1 : Bool), (Lit.int .i64 a0).wf = true → ∃ k, waymarklaw1_EntryLimits.f k a0 a1 = some true
theorem waymarklaw1_EntryLimits.walk (P : waymarklaw1_EntryLimits.Pure) (a0 : Int) (a1 : Bool) (w : World) (w0 : (Lit.int .i64 a0).wf = true) :
    Calls Try.prog 7 #[.int .i64 a0, .bool a1] w fun e w' => e = .returned (.bool true) ∧ Below w.heap.size w w' := by
  obtain ⟨k, h⟩ := P a0 a1 w0
  refine (waymarklaw1_EntryLimits.calls k a0 a1 true w h).mono ?_
  rintro e w' ⟨rfl, hd⟩
  exact ⟨rfl, hd⟩

end Go.Proofs.Ytmoojmbblgbniaa.PEntryLimits
