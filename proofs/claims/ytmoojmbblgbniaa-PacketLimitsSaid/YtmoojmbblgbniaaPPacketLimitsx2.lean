-- PRINTED BY print.sh 35421559b90ae4d0a3588c463048766b98c2df88dd9212a6774a882060cdf62d: not written by this session
import Derived.Test.YtmoojmbblgbniaaPPacketLimitsx0
import Derived.Test.YtmoojmbblgbniaaPPacketLimitsx1
namespace Go.Proofs.Ytmoojmbblgbniaa.PPacketLimits
open Go.RowKit Go.Proofs.YtmoojmbblgbniaaW.PrintWords Go.Proofs.YtmoojmbblgbniaaW.PrintLast Go.Proofs.YtmoojmbblgbniaaW.PrintMore
attribute [local go_sem] max2_int min2_int max_two min_two max_three min_three max_four min_four   -- for this text's walks alone
set_option linter.unusedVariables false
set_option linter.unusedSimpArgs false

/-! ### waymarklaw2_PacketLimits: function 4 -/
def waymarklaw2_PacketLimits.j0 : Nat → Int → Bool → Bool → Bool → Option (Bool)
  | 0, _, _, _, _ => none
  | k + 1, x0, x1, x5, x18 => if x18 = true then (some x5) else (if x1 = true then ((some (([(⟨0, 0, 255 + 1, 0, 0⟩ : S24), (⟨0, 0, 0, 65535 + 1, 0⟩ : S24), (⟨0, 0, 0, 0, 65535 + 1⟩ : S24), (⟨0, 0, -1, 0, 0⟩ : S24)] : List (S24)) : List (S24))).bind fun y147 => (if 0 ≤ x0 then (if x0 < (y147.length : Int) then ((packet_Bytes.f ((rd_T24 y147 x0).f0) ((rd_T24 y147 x0).f1) ((rd_T24 y147 x0).f2) ((rd_T24 y147 x0).f3) ((rd_T24 y147 x0).f4)).bind fun t151 => (some (((t151.length : Int) == 13) == (!x1)))) else (none)) else (none))) else ((some (([(⟨0, 0, 255 + 0, 0, 0⟩ : S24), (⟨0, 0, 0, 65535 + 0, 0⟩ : S24), (⟨0, 0, 0, 0, 65535 + 0⟩ : S24), (⟨0, 0, -0, 0, 0⟩ : S24)] : List (S24)) : List (S24))).bind fun y154 => (if 0 ≤ x0 then (if x0 < (y154.length : Int) then ((packet_Bytes.f ((rd_T24 y154 x0).f0) ((rd_T24 y154 x0).f1) ((rd_T24 y154 x0).f2) ((rd_T24 y154 x0).f3) ((rd_T24 y154 x0).f4)).bind fun t158 => (some (((t158.length : Int) == 13) == (!x1)))) else (none)) else (none))))
def waymarklaw2_PacketLimits.f (k : Nat) (a0 : Int) (a1 : Bool) : Option (Bool) := (waymarklaw2_alive.f k).bind fun t146 => (if t146 = true then (if a0 < 0 then (waymarklaw2_PacketLimits.j0 k a0 a1 t146 true) else (waymarklaw2_PacketLimits.j0 k a0 a1 t146 (decide (a0 > 3)))) else (waymarklaw2_PacketLimits.j0 k a0 a1 t146 true))
theorem waymarklaw2_PacketLimits.mono_l : ∀ k, (∀ y0 y1 y2 y3, LeO (waymarklaw2_PacketLimits.j0 k y0 y1 y2 y3) (waymarklaw2_PacketLimits.j0 (k + 1) y0 y1 y2 y3))
  | 0 => fun _ _ _ _ r h => by simp [waymarklaw2_PacketLimits.j0] at h
  | k + 1 => by
    have ih0 := waymarklaw2_PacketLimits.mono_l k
    · intro y0 y1 y2 y3
      unfold waymarklaw2_PacketLimits.j0
      repeat' first
      | (with_reducible exact ih0 _ _ _ _)
      | (with_reducible exact waymarklaw2_alive.mono _)
      | (with_reducible exact LeO.refl _)
      | (with_reducible exact LeO.none _)
      | (with_reducible refine LeO.ite ?_ ?_)
      | (with_reducible refine LeO.bind ?_ (fun _ => ?_))
      | exact ih0 _ _ _ _
      | exact waymarklaw2_alive.mono _
      | exact LeO.none _
      | refine LeO.ite ?_ ?_
      | refine LeO.bind ?_ (fun _ => ?_)
theorem waymarklaw2_PacketLimits.mono : ∀ a0 a1 k, LeO (waymarklaw2_PacketLimits.f k a0 a1) (waymarklaw2_PacketLimits.f (k + 1) a0 a1) := by
  intro a0 a1 k
  have ih0 := waymarklaw2_PacketLimits.mono_l k
  unfold waymarklaw2_PacketLimits.f
  repeat' first
      | (with_reducible exact ih0 _ _ _ _)
      | (with_reducible exact waymarklaw2_alive.mono _)
      | (with_reducible exact LeO.refl _)
      | (with_reducible exact LeO.none _)
      | (with_reducible refine LeO.ite ?_ ?_)
      | (with_reducible refine LeO.bind ?_ (fun _ => ?_))
      | exact ih0 _ _ _ _
      | exact waymarklaw2_alive.mono _
      | exact LeO.none _
      | refine LeO.ite ?_ ?_
      | refine LeO.bind ?_ (fun _ => ?_)
set_option maxHeartbeats 8000000 in
set_option maxRecDepth 100000 in
theorem waymarklaw2_PacketLimits.calls (k : Nat) (a0 : Int) (a1 : Bool) (r : Bool) (w : World) (h : waymarklaw2_PacketLimits.f k a0 a1 = some r) :
    Calls Try.prog 4 #[.int .i64 a0, .bool a1] w fun e w' => e = .returned (.bool r) ∧ Below w.heap.size w w' := by
  have hu24 := Try.underlying24
  have HB := Aside0.mk (Below.refl w.heap.size w)
  have H : ((waymarklaw2_alive.f k).bind fun t146 => (if t146 = true then (if a0 < 0 then (waymarklaw2_PacketLimits.j0 k a0 a1 t146 true) else (waymarklaw2_PacketLimits.j0 k a0 a1 t146 (decide (a0 > 3)))) else (waymarklaw2_PacketLimits.j0 k a0 a1 t146 true))) = some r := h
  clear h
  replace H := Option.bind_eq_some_iff.mp H
  obtain ⟨t146, A30, H⟩ := H
  replace H : (if t146 = true then (if a0 < 0 then (waymarklaw2_PacketLimits.j0 k a0 a1 t146 true) else (waymarklaw2_PacketLimits.j0 k a0 a1 t146 (decide (a0 > 3)))) else (waymarklaw2_PacketLimits.j0 k a0 a1 t146 true)) = some r := H
  have A3 := Aside0.mk A30
  clear A30
  have HC4 := Aside0.mk H
  clear H
  go_enter Try.func4, Try.ntmps4
  go_upto_region 2 with (first | ((with_reducible refine gate_callee (f := 10) rfl ?_); refine goesL_ (some 8) rfl rfl Try.func10 (by kernel_rfl) rfl #[] rfl (by (try simp only [List.map_toArray, List.map_cons, List.map_nil]); first | done | rfl | (simp only [List.length_drop, List.length_take]; rfl)) ?_; (with_reducible refine (waymarklaw2_alive.calls k  t146 _ A3.out).mono ?_); rintro e w5 ⟨rfl, hb⟩; refine ⟨_, rfl, ?_⟩; have n0_ := Aside0.mk (below_step (by repeat (first | (with_reducible first | exact HB.out | apply below_alloc | apply pw_below_drewN | apply below_drew1) | exact HB.out)) hb); clear HB; have HB := n0_; clear n0_; (try clear hb); (try clear hb2); (try clear hk); (try clear hi)))
  (try simp only [Act.put, List.setIfInBounds_toArray, List.set_cons_zero, List.set_cons_succ])
  go_cut [18] (fun v18 wc => ∃ (kq : Nat) (x18_3 : Bool), v18 = .bool x18_3 ∧ Aside0 (waymarklaw2_PacketLimits.j0 kq a0 a1 t146 x18_3 = some r) ∧ Aside0 (kq ≤ k) ∧ Aside0 (Below w.heap.size w wc))
  case first =>
    have H := HC4.out
    clear HC4
    by_cases c6 : t146 = true
    · subst c6
      have H1 : (if a0 < 0 then (waymarklaw2_PacketLimits.j0 k a0 a1 true true) else (waymarklaw2_PacketLimits.j0 k a0 a1 true (decide (a0 > 3)))) = some r := by rw [if_pos rfl] at H; exact H
      clear H
      have H := H1
      clear H1
      by_cases c7 : a0 < 0
      · rw [if_pos c7] at H
        have c7b0 : decide (a0 < 0) = true := decide_eq_true c7
        clear c7
        (first | rw [c7b0] | (simp only [i64_w, i32_w]; rw [c7b0]) | skip)
        have H' := Aside0.mk H
        clear H
        go_wp2
        go_meet
        case rel => exact ⟨_, (true), (by first | rfl | (simp; done) | (simp [*]; done)), H', ⟨by first | omega | exact Nat.le_refl _⟩, ⟨by repeat (first | (with_reducible first | exact HB.out | apply below_alloc | apply pw_below_drewN | apply below_drew1) | exact HB.out)⟩⟩
      · rw [if_neg c7] at H
        have c7b0 : decide (a0 < 0) = false := decide_eq_false c7
        clear c7
        (first | rw [c7b0] | (simp only [i64_w, i32_w]; rw [c7b0]) | skip)
        have H' := Aside0.mk H
        clear H
        go_wp2
        go_meet
        case rel => exact ⟨_, (decide (a0 > 3)), (by first | rfl | (simp; done) | (simp [*]; done)), H', ⟨by first | omega | exact Nat.le_refl _⟩, ⟨by repeat (first | (with_reducible first | exact HB.out | apply below_alloc | apply pw_below_drewN | apply below_drew1) | exact HB.out)⟩⟩
    · replace c6 := Bool.eq_false_iff.mpr c6
      subst c6
      have H1 : (waymarklaw2_PacketLimits.j0 k a0 a1 false true) = some r := by rw [if_neg (show ¬ (false = true) by decide)] at H; exact H
      clear H
      have H := H1
      clear H1
      have H' := Aside0.mk H
      clear H
      go_wp2
      go_meet
      case rel => exact ⟨_, (true), (by first | rfl | (simp; done) | (simp [*]; done)), H', ⟨by first | omega | exact Nat.le_refl _⟩, ⟨by repeat (first | (with_reducible first | exact HB.out | apply below_alloc | apply pw_below_drewN | apply below_drew1) | exact HB.out)⟩⟩
  case rest =>
    clear HC4
    try clear c1
    try clear p2
    try clear c4
    try clear c6
    try clear c7
    try clear c7b0
    obtain ⟨kq, x18_3, rfl, HA, HJ3, HB⟩ := hcut
    cases kq with
    | zero => exact absurd HA.out (by simp [waymarklaw2_PacketLimits.j0])
    | succ kj3 =>
      have H := HA.out
      clear HA
      simp only [waymarklaw2_PacketLimits.j0] at H
      by_cases c8 : x18_3 = true
      · subst c8
        have H1 : (some t146) = some r := by rw [if_pos rfl] at H; exact H
        clear H
        have H := H1
        clear H1
        obtain rfl := Option.some.inj H
        go_wp2
        go_ret
        exact ⟨by first | rfl | (simp [errW_none, errW_some] <;> rfl) | (simp [*, errW_none, errW_some] <;> rfl), by repeat (first | (with_reducible first | exact HB.out | apply below_alloc | apply pw_below_drewN | apply below_drew1) | exact HB.out)⟩
      · replace c8 := Bool.eq_false_iff.mpr c8
        subst c8
        have H1 : (if a1 = true then ((some (([(⟨0, 0, 255 + 1, 0, 0⟩ : S24), (⟨0, 0, 0, 65535 + 1, 0⟩ : S24), (⟨0, 0, 0, 0, 65535 + 1⟩ : S24), (⟨0, 0, -1, 0, 0⟩ : S24)] : List (S24)) : List (S24))).bind fun y147 => (if 0 ≤ a0 then (if a0 < (y147.length : Int) then ((packet_Bytes.f ((rd_T24 y147 a0).f0) ((rd_T24 y147 a0).f1) ((rd_T24 y147 a0).f2) ((rd_T24 y147 a0).f3) ((rd_T24 y147 a0).f4)).bind fun t151 => (some (((t151.length : Int) == 13) == (!a1)))) else (none)) else (none))) else ((some (([(⟨0, 0, 255 + 0, 0, 0⟩ : S24), (⟨0, 0, 0, 65535 + 0, 0⟩ : S24), (⟨0, 0, 0, 0, 65535 + 0⟩ : S24), (⟨0, 0, -0, 0, 0⟩ : S24)] : List (S24)) : List (S24))).bind fun y154 => (if 0 ≤ a0 then (if a0 < (y154.length : Int) then ((packet_Bytes.f ((rd_T24 y154 a0).f0) ((rd_T24 y154 a0).f1) ((rd_T24 y154 a0).f2) ((rd_T24 y154 a0).f3) ((rd_T24 y154 a0).f4)).bind fun t158 => (some (((t158.length : Int) == 13) == (!a1)))) else (none)) else (none)))) = some r := by rw [if_neg (show ¬ (false = true) by decide)] at H; exact H
        clear H
        have H := H1
        clear H1
        by_cases c9 : a1 = true
        · subst c9
          have H1 : ((some (([(⟨0, 0, 255 + 1, 0, 0⟩ : S24), (⟨0, 0, 0, 65535 + 1, 0⟩ : S24), (⟨0, 0, 0, 0, 65535 + 1⟩ : S24), (⟨0, 0, -1, 0, 0⟩ : S24)] : List (S24)) : List (S24))).bind fun y147 => (if 0 ≤ a0 then (if a0 < (y147.length : Int) then ((packet_Bytes.f ((rd_T24 y147 a0).f0) ((rd_T24 y147 a0).f1) ((rd_T24 y147 a0).f2) ((rd_T24 y147 a0).f3) ((rd_T24 y147 a0).f4)).bind fun t151 => (some (((t151.length : Int) == 13) == (!true)))) else (none)) else (none))) = some r := by rw [if_pos rfl] at H; exact H
          clear H
          have H := H1
          clear H1
          obtain ⟨y147, hy147⟩ : ∃ y_ : List (S24), y_ = (([(⟨0, 0, 255 + 1, 0, 0⟩ : S24), (⟨0, 0, 0, 65535 + 1, 0⟩ : S24), (⟨0, 0, 0, 0, 65535 + 1⟩ : S24), (⟨0, 0, -1, 0, 0⟩ : S24)] : List (S24))) := ⟨_, rfl⟩
          replace H : (if 0 ≤ a0 then (if a0 < (y147.length : Int) then ((packet_Bytes.f ((rd_T24 y147 a0).f0) ((rd_T24 y147 a0).f1) ((rd_T24 y147 a0).f2) ((rd_T24 y147 a0).f3) ((rd_T24 y147 a0).f4)).bind fun t151 => (some (((t151.length : Int) == 13) == (!true)))) else (none)) else (none)) = some r := by first | (rw [hy147]; with_reducible exact H) | (have H2_ := (Option.bind_some _ _).symm.trans H; rw [hy147]; with_reducible exact H2_) | (have H2_ := (Option.bind_some _ _).symm.trans H; with_reducible exact H2_) | with_reducible exact H | (rw [hy147]; exact H) | exact H
          have Ny147 := Aside0.mk hy147
          clear hy147
          by_cases c10 : 0 ≤ a0
          · rw [if_pos c10] at H
            have c10b0 : decide (0 ≤ a0) = true := decide_eq_true c10
            clear c10
            by_cases c11 : a0 < (y147.length : Int)
            · rw [if_pos c11] at H
              have c11b0 : decide (a0 < (y147.length : Int)) = true := decide_eq_true c11
              clear c11
              replace H := Option.bind_eq_some_iff.mp H
              obtain ⟨t151, A120, H⟩ := H
              replace H : (some (((t151.length : Int) == 13) == (!true))) = some r := H
              have A12 := Aside0.mk A120
              clear A120
              obtain rfl := Option.some.inj H
              go_wp2_with (first | ((with_reducible refine gate_dst (N := 33) rfl ?_); refine Kd.R_lit k24 _ 24 ?hg (N := 33) ?hd (xs := ([(⟨0, 0, 255 + 1, 0, 0⟩ : S24), (⟨0, 0, 0, 65535 + 1, 0⟩ : S24), (⟨0, 0, 0, 0, 65535 + 1⟩ : S24), (⟨0, 0, -1, 0, 0⟩ : S24)] : List (S24))) (inner := [.int .u32 0, .int .u32 0, .int .i64 (255 + 1), .int .i64 0, .int .i64 0, .int .u32 0, .int .u32 0, .int .i64 0, .int .i64 (65535 + 1), .int .i64 0, .int .u32 0, .int .u32 0, .int .i64 0, .int .i64 0, .int .i64 (65535 + 1), .int .u32 0, .int .u32 0, .int .i64 (-1), .int .i64 0, .int .i64 0]) (ok := fun _ => True) (okp := fun _ => True) ?hr ?hp (fun _ hk => hk) trivial (Below.refl _ _) (Nat.le_refl _) (by simp) ?_; (case hd => rfl); (case hg => rfl); (case hr => first | (go_simp; done) | (go_simp; rfl)); (case hp => exact (Reps.c5 (show Kd.M k24 _ _ _ (⟨0, 0, 255 + 1, 0, 0⟩ : S24) [.int .u32 0, .int .u32 0, .int .i64 (255 + 1), .int .i64 0, .int .i64 0] from (k24_mkM _ _ _ (⟨0, 0, 255 + 1, 0, 0⟩ : S24) )) (Reps.c5 (show Kd.M k24 _ _ _ (⟨0, 0, 0, 65535 + 1, 0⟩ : S24) [.int .u32 0, .int .u32 0, .int .i64 0, .int .i64 (65535 + 1), .int .i64 0] from (k24_mkM _ _ _ (⟨0, 0, 0, 65535 + 1, 0⟩ : S24) )) (Reps.c5 (show Kd.M k24 _ _ _ (⟨0, 0, 0, 0, 65535 + 1⟩ : S24) [.int .u32 0, .int .u32 0, .int .i64 0, .int .i64 0, .int .i64 (65535 + 1)] from (k24_mkM _ _ _ (⟨0, 0, 0, 0, 65535 + 1⟩ : S24) )) (Reps.c5 (show Kd.M k24 _ _ _ (⟨0, 0, -1, 0, 0⟩ : S24) [.int .u32 0, .int .u32 0, .int .i64 (-1), .int .i64 0, .int .i64 0] from (k24_mkM _ _ _ (⟨0, 0, -1, 0, 0⟩ : S24) )) (Reps.none _ _)))))); intro v148 w13 ho14 hb hg_ hnew_; clear hg_ hnew_; (first | rw [← Ny147.out] at ho14 | (simp only [Int.reduceToNat] at ho14; rw [← Ny147.out] at ho14)); have n0_ := Aside0.mk (Kd.R_lower ho14 (below_size (by repeat (first | (with_reducible first | exact HB.out | apply below_alloc | apply pw_below_drewN | apply below_drew1) | exact HB.out)))); have n1_ := Aside0.mk (below_step (by repeat (first | (with_reducible first | exact HB.out | apply below_alloc | apply pw_below_drewN | apply below_drew1) | exact HB.out)) hb); clear HB; have HO149 := n0_; have HB := n1_; clear n0_ n1_; clear hb ho14; obtain ⟨Ao15, co15, eo15⟩ := Kd.R_slice HO149.out; subst eo15; have p150 : 0 ≤ (a0 : Int) := of_decide_eq_true (by first | (with_reducible assumption) | assumption); have q150 : a0 < (y147.length : Int) := of_decide_eq_true (by first | (with_reducible assumption) | assumption); obtain ⟨ad150, e150, hx150_0, hx150_1, hx150_2, hx150_3, hx150_4⟩ := at_T24 (Kd.R_reads' HO149.out).2.2 a0 p150 q150; cases e150; replace p150 := eq_true p150; replace q150 := eq_true q150) | ((with_reducible refine gate_callee (f := 11) rfl ?_); refine goesL_ (some 38) rfl rfl Try.func11 (by kernel_rfl) rfl #[.agg #[.int .u32 ((rd_T24 y147 a0).f0), .int .u32 ((rd_T24 y147 a0).f1), .int .i64 ((rd_T24 y147 a0).f2), .int .i64 ((rd_T24 y147 a0).f3), .int .i64 ((rd_T24 y147 a0).f4)]] rfl (by (try simp only [List.map_toArray, List.map_cons, List.map_nil]); first | done | rfl | (simp only [List.length_drop, List.length_take]; rfl)) ?_; (with_reducible refine (packet_Bytes.calls ((rd_T24 y147 a0).f0) ((rd_T24 y147 a0).f1) ((rd_T24 y147 a0).f2) ((rd_T24 y147 a0).f3) ((rd_T24 y147 a0).f4) t151 _ A12.out).mono ?_); rintro e w16 ⟨v152, rfl, ho0, hb⟩; refine ⟨_, rfl, ?_⟩; have n0_ := Aside0.mk (Kd.R_below (by (with_reducible repeat (first | apply Kd.R_alloc | apply Kd.R_drewN | apply Kd.R_drew)); exact HO149.out) hb); have n1_ := Aside0.mk (Kd.R_lower ho0 (below_size (by repeat (first | (with_reducible first | exact HB.out | apply below_alloc | apply pw_below_drewN | apply below_drew1) | exact HB.out)))); have n2_ := Aside0.mk (below_step (by repeat (first | (with_reducible first | exact HB.out | apply below_alloc | apply pw_below_drewN | apply below_drew1) | exact HB.out)) hb); clear HO149; clear HB; have HO149 := n0_; have HO153 := n1_; have HB := n2_; clear n0_ n1_ n2_; (try clear hb); (try clear hb2); (try clear hk); (try clear hi); (try clear ho0); obtain ⟨Ao17, co17, eo17⟩ := Kd.R_slice HO153.out; subst eo17))
              go_ret
              exact ⟨by first | rfl | (simp [errW_none, errW_some] <;> rfl) | (simp [*, errW_none, errW_some] <;> rfl), by repeat (first | (with_reducible first | exact HB.out | apply below_alloc | apply pw_below_drewN | apply below_drew1) | exact HB.out)⟩
            · rw [if_neg c11] at H
              exact absurd H (by simp)
          · rw [if_neg c10] at H
            exact absurd H (by simp)
        · replace c9 := Bool.eq_false_iff.mpr c9
          subst c9
          have H1 : ((some (([(⟨0, 0, 255 + 0, 0, 0⟩ : S24), (⟨0, 0, 0, 65535 + 0, 0⟩ : S24), (⟨0, 0, 0, 0, 65535 + 0⟩ : S24), (⟨0, 0, -0, 0, 0⟩ : S24)] : List (S24)) : List (S24))).bind fun y154 => (if 0 ≤ a0 then (if a0 < (y154.length : Int) then ((packet_Bytes.f ((rd_T24 y154 a0).f0) ((rd_T24 y154 a0).f1) ((rd_T24 y154 a0).f2) ((rd_T24 y154 a0).f3) ((rd_T24 y154 a0).f4)).bind fun t158 => (some (((t158.length : Int) == 13) == (!false)))) else (none)) else (none))) = some r := by rw [if_neg (show ¬ (false = true) by decide)] at H; exact H
          clear H
          have H := H1
          clear H1
          obtain ⟨y154, hy154⟩ : ∃ y_ : List (S24), y_ = (([(⟨0, 0, 255 + 0, 0, 0⟩ : S24), (⟨0, 0, 0, 65535 + 0, 0⟩ : S24), (⟨0, 0, 0, 0, 65535 + 0⟩ : S24), (⟨0, 0, -0, 0, 0⟩ : S24)] : List (S24))) := ⟨_, rfl⟩
          replace H : (if 0 ≤ a0 then (if a0 < (y154.length : Int) then ((packet_Bytes.f ((rd_T24 y154 a0).f0) ((rd_T24 y154 a0).f1) ((rd_T24 y154 a0).f2) ((rd_T24 y154 a0).f3) ((rd_T24 y154 a0).f4)).bind fun t158 => (some (((t158.length : Int) == 13) == (!false)))) else (none)) else (none)) = some r := by first | (rw [hy154]; with_reducible exact H) | (have H2_ := (Option.bind_some _ _).symm.trans H; rw [hy154]; with_reducible exact H2_) | (have H2_ := (Option.bind_some _ _).symm.trans H; with_reducible exact H2_) | with_reducible exact H | (rw [hy154]; exact H) | exact H
          have Ny154 := Aside0.mk hy154
          clear hy154
          by_cases c18 : 0 ≤ a0
          · rw [if_pos c18] at H
            have c18b0 : decide (0 ≤ a0) = true := decide_eq_true c18
            clear c18
            by_cases c19 : a0 < (y154.length : Int)
            · rw [if_pos c19] at H
              have c19b0 : decide (a0 < (y154.length : Int)) = true := decide_eq_true c19
              clear c19
              replace H := Option.bind_eq_some_iff.mp H
              obtain ⟨t158, A200, H⟩ := H
              replace H : (some (((t158.length : Int) == 13) == (!false))) = some r := H
              have A20 := Aside0.mk A200
              clear A200
              obtain rfl := Option.some.inj H
              go_wp2_with (first | ((with_reducible refine gate_dst (N := 33) rfl ?_); refine Kd.R_lit k24 _ 24 ?hg (N := 33) ?hd (xs := ([(⟨0, 0, 255 + 0, 0, 0⟩ : S24), (⟨0, 0, 0, 65535 + 0, 0⟩ : S24), (⟨0, 0, 0, 0, 65535 + 0⟩ : S24), (⟨0, 0, -0, 0, 0⟩ : S24)] : List (S24))) (inner := [.int .u32 0, .int .u32 0, .int .i64 (255 + 0), .int .i64 0, .int .i64 0, .int .u32 0, .int .u32 0, .int .i64 0, .int .i64 (65535 + 0), .int .i64 0, .int .u32 0, .int .u32 0, .int .i64 0, .int .i64 0, .int .i64 (65535 + 0), .int .u32 0, .int .u32 0, .int .i64 (-0), .int .i64 0, .int .i64 0]) (ok := fun _ => True) (okp := fun _ => True) ?hr ?hp (fun _ hk => hk) trivial (Below.refl _ _) (Nat.le_refl _) (by simp) ?_; (case hd => rfl); (case hg => rfl); (case hr => first | (go_simp; done) | (go_simp; rfl)); (case hp => exact (Reps.c5 (show Kd.M k24 _ _ _ (⟨0, 0, 255 + 0, 0, 0⟩ : S24) [.int .u32 0, .int .u32 0, .int .i64 (255 + 0), .int .i64 0, .int .i64 0] from (k24_mkM _ _ _ (⟨0, 0, 255 + 0, 0, 0⟩ : S24) )) (Reps.c5 (show Kd.M k24 _ _ _ (⟨0, 0, 0, 65535 + 0, 0⟩ : S24) [.int .u32 0, .int .u32 0, .int .i64 0, .int .i64 (65535 + 0), .int .i64 0] from (k24_mkM _ _ _ (⟨0, 0, 0, 65535 + 0, 0⟩ : S24) )) (Reps.c5 (show Kd.M k24 _ _ _ (⟨0, 0, 0, 0, 65535 + 0⟩ : S24) [.int .u32 0, .int .u32 0, .int .i64 0, .int .i64 0, .int .i64 (65535 + 0)] from (k24_mkM _ _ _ (⟨0, 0, 0, 0, 65535 + 0⟩ : S24) )) (Reps.c5 (show Kd.M k24 _ _ _ (⟨0, 0, -0, 0, 0⟩ : S24) [.int .u32 0, .int .u32 0, .int .i64 (-0), .int .i64 0, .int .i64 0] from (k24_mkM _ _ _ (⟨0, 0, -0, 0, 0⟩ : S24) )) (Reps.none _ _)))))); intro v155 w21 ho22 hb hg_ hnew_; clear hg_ hnew_; (first | rw [← Ny154.out] at ho22 | (simp only [Int.reduceToNat] at ho22; rw [← Ny154.out] at ho22)); have n0_ := Aside0.mk (Kd.R_lower ho22 (below_size (by repeat (first | (with_reducible first | exact HB.out | apply below_alloc | apply pw_below_drewN | apply below_drew1) | exact HB.out)))); have n1_ := Aside0.mk (below_step (by repeat (first | (with_reducible first | exact HB.out | apply below_alloc | apply pw_below_drewN | apply below_drew1) | exact HB.out)) hb); clear HB; have HO156 := n0_; have HB := n1_; clear n0_ n1_; clear hb ho22; obtain ⟨Ao23, co23, eo23⟩ := Kd.R_slice HO156.out; subst eo23; have p157 : 0 ≤ (a0 : Int) := of_decide_eq_true (by first | (with_reducible assumption) | assumption); have q157 : a0 < (y154.length : Int) := of_decide_eq_true (by first | (with_reducible assumption) | assumption); obtain ⟨ad157, e157, hx157_0, hx157_1, hx157_2, hx157_3, hx157_4⟩ := at_T24 (Kd.R_reads' HO156.out).2.2 a0 p157 q157; cases e157; replace p157 := eq_true p157; replace q157 := eq_true q157) | ((with_reducible refine gate_callee (f := 11) rfl ?_); refine goesL_ (some 38) rfl rfl Try.func11 (by kernel_rfl) rfl #[.agg #[.int .u32 ((rd_T24 y154 a0).f0), .int .u32 ((rd_T24 y154 a0).f1), .int .i64 ((rd_T24 y154 a0).f2), .int .i64 ((rd_T24 y154 a0).f3), .int .i64 ((rd_T24 y154 a0).f4)]] rfl (by (try simp only [List.map_toArray, List.map_cons, List.map_nil]); first | done | rfl | (simp only [List.length_drop, List.length_take]; rfl)) ?_; (with_reducible refine (packet_Bytes.calls ((rd_T24 y154 a0).f0) ((rd_T24 y154 a0).f1) ((rd_T24 y154 a0).f2) ((rd_T24 y154 a0).f3) ((rd_T24 y154 a0).f4) t158 _ A20.out).mono ?_); rintro e w24 ⟨v159, rfl, ho0, hb⟩; refine ⟨_, rfl, ?_⟩; have n0_ := Aside0.mk (Kd.R_below (by (with_reducible repeat (first | apply Kd.R_alloc | apply Kd.R_drewN | apply Kd.R_drew)); exact HO156.out) hb); have n1_ := Aside0.mk (Kd.R_lower ho0 (below_size (by repeat (first | (with_reducible first | exact HB.out | apply below_alloc | apply pw_below_drewN | apply below_drew1) | exact HB.out)))); have n2_ := Aside0.mk (below_step (by repeat (first | (with_reducible first | exact HB.out | apply below_alloc | apply pw_below_drewN | apply below_drew1) | exact HB.out)) hb); clear HO156; clear HB; have HO156 := n0_; have HO160 := n1_; have HB := n2_; clear n0_ n1_ n2_; (try clear hb); (try clear hb2); (try clear hk); (try clear hi); (try clear ho0); obtain ⟨Ao25, co25, eo25⟩ := Kd.R_slice HO160.out; subst eo25))
              go_ret
              exact ⟨by first | rfl | (simp [errW_none, errW_some] <;> rfl) | (simp [*, errW_none, errW_some] <;> rfl), by repeat (first | (with_reducible first | exact HB.out | apply below_alloc | apply pw_below_drewN | apply below_drew1) | exact HB.out)⟩
            · rw [if_neg c19] at H
              exact absurd H (by simp)
          · rw [if_neg c18] at H
            exact absurd H (by simp)

/-- THE ONE PURE STATEMENT of waymarklaw2_PacketLimits: yours. -/
def waymarklaw2_PacketLimits.Pure : Prop := ∀ (a0 : Int) (a1 : Bool), (Lit.int .i64 a0).wf = true → ∃ k, waymarklaw2_PacketLimits.f k a0 a1 = some true
theorem waymarklaw2_PacketLimits.walk (P : waymarklaw2_PacketLimits.Pure) (a0 : Int) (a1 : Bool) (w : World) (w0 : (Lit.int .i64 a0).wf = true) :
    Calls Try.prog 4 #[.int .i64 a0, .bool a1] w fun e w' => e = .returned (.bool true) ∧ Below w.heap.size w w' := by
  obtain ⟨k, h⟩ := P a0 a1 w0
  refine (waymarklaw2_PacketLimits.calls k a0 a1 true w h).mono ?_
  rintro e w' ⟨rfl, hd⟩
  exact ⟨rfl, hd⟩

end Go.Proofs.Ytmoojmbblgbniaa.PPacketLimits
