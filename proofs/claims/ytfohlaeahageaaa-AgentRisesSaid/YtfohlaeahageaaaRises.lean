/- AgentRises: whole. -/
import Derived.Test.YtfohlaeahageaaaAgentAlive
namespace Go.Proofs.Ytfohlaeahageaaa.Edge
open Go.RowKit Go.Proofs.YtfohlaeahageaaaW.PrintWords Go.Proofs.YtfohlaeahageaaaW.PrintMore Go.Proofs.YtfohlaeahageaaaW.PrintLast

abbrev kI : Kd Int := Kd.int .i64
/-- A row of one put without a list. -/
theorem one_C {w : World} {g : Nat} {s : ByteArray} (h : w.heap[g]? = some (.cells #[.string s, .int .i64 0, .int .i64 0, .slice none 0 0, .bool false] 38 (0, 0))) : kPut.C w (some ⟨g, 0, none⟩) 1 [(s, 0, 0, [], false)] := by
  obtain ⟨p0, p1, p2, p3, p4⟩ := box5 h
  refine ⟨rfl, by decide, fun _ => ⟨_, rfl, fun j p hj => ?_⟩⟩
  obtain ⟨rfl, rfl⟩ : j = 0 ∧ p = (s, 0, 0, [], false) := by
    cases j with
    | zero => exact ⟨rfl, (Option.some.inj hj).symm⟩
    | succ j => simp at hj
  refine ⟨[.string s, .int .i64 0, .int .i64 0, .slice none 0 0, .bool false], rfl, put_C (x := (s, 0, 0, [], false)) (Nat.le_refl _) ⟨rfl, Nat.zero_le _, fun h => absurd h (Nat.lt_irrefl _)⟩, fun i u hi => ?_⟩
  rw [add_plain, Nat.zero_mul, Nat.zero_add]
  match i, hi with
  | 0, hi => obtain rfl := Option.some.inj hi; exact p0
  | 1, hi => obtain rfl := Option.some.inj hi; exact p1
  | 2, hi => obtain rfl := Option.some.inj hi; exact p2
  | 3, hi => obtain rfl := Option.some.inj hi; exact p3
  | 4, hi => obtain rfl := Option.some.inj hi; exact p4
theorem one_fits (s : ByteArray) : Fits [(s, 0, 0, [], false)] := fun x hx => by
  obtain rfl := List.mem_singleton.1 hx
  show 0 * 16 ≤ 140737488355328
  decide
/-- The name in a row of one put. -/
theorem one_at {w : World} {B n c : Nat} {A : Option Addr} {s : ByteArray} (h : kPut.R 38 w B (fun _ => True) (.slice A n c) [(s, 0, 0, [], false)]) : ∃ b, A = some ⟨b, 0, none⟩ ∧ w.cell? ⟨b, 0, none⟩ = some (.string s) := by
  obtain ⟨b, rfl⟩ := R_pos h (Nat.succ_pos _)
  have hn : 1 = n := (Kd.R_reads' h).1.symm
  subst hn
  obtain ⟨cs, hl, hM, hc⟩ := Kd.R_getA h (s, 0, 0, [], false) 0 (by decide) (by decide)
  have hK : kPut.K w (s, 0, 0, [], false) cs := kPut.K_of_M hM
  obtain ⟨A2, m, e, _, hC⟩ := put_K hK
  subst e
  have h3 := hc 0 _ rfl
  rw [add_plain] at h3
  exact ⟨b, rfl, h3⟩
set_option maxHeartbeats 1000000 in
theorem rises_long (w : World) (A : Option Addr) (n c : Nat) (hn : 100 < n) (hm : n ≤ 9223372036854775807) :
    Calls Try.prog 4 #[.slice A n c] w fun e w' => e = .returned (.bool true) ∧ Below w.heap.size w w' := by
  have h1 : (100 : Int) < (n : Int) := by omega
  set_option maxRecDepth 100000 in
  go_enter Try.func4, Try.ntmps4
  go_wp2_with fail
  refine (agent_alive _).mono ?_
  rintro e w1 ⟨rfl, hb⟩
  have HB := Aside0.mk hb
  clear hb
  go_wp2
  go_ret
  exact ⟨rfl, HB.out⟩
set_option maxRecDepth 100000 in
set_option maxHeartbeats 8000000 in
theorem rises_short (w : World) (A : Option Addr) (n c : Nat) (xs : List Int) (hr : kI.C w A n xs) (hn : n ≤ 100) :
    Calls Try.prog 4 #[.slice A n c] w fun e w' => e = .returned (.bool true) ∧ Below w.heap.size w w' := by
  have h1 : ¬ (100 : Int) < (n : Int) := by omega
  have HR := Aside0.mk hr
  have HN := Aside0.mk hn
  clear hr hn
  go_enter Try.func4, Try.ntmps4
  go_wp2_with fail
  refine (agent_alive _).mono ?_
  rintro e w1 ⟨rfl, hb⟩
  have HB := Aside0.mk hb
  clear hb
  go_wp2_with fail
  refine (new_any _ 1).mono ?_
  rintro e w2 ⟨rfl, ha, hb⟩
  have HA := Aside0.mk ha
  have HB2 := Aside0.mk (HB.out.trans (hb.mono HB.out.size))
  have hsz := HB.out.size
  obtain ⟨g, hg⟩ : ∃ g, g = w1.heap.size := ⟨_, rfl⟩
  rw [← hg] at HA ⊢
  have HG := Aside0.mk (show w.heap.size ≤ g by omega)
  clear ha hb hsz hg HB
  go_wp2
  go_loopg [5, 6, 7, 8, 9, 10, 11, 12] (n + 1) (fun kq v5 v6 v7 v8 v9 v10 v11 v12 w' => ∃ (k : Nat) (best : Int) (nm : ByteArray) (A1 : Option Addr) (c1 : Nat) (ps : List PutT), v5 = .int .i64 best ∧ v6 = .string nm ∧ v7 = .int .i64 (k : Int) ∧ Aside0 (Ag 62 w' g 1 best A1 c1 ps) ∧ Aside0 (Below w.heap.size w w') ∧ Aside0 (0 ≤ best ∧ best < 100) ∧ Aside0 (best = 0 ∧ ps = [] ∨ 0 < best ∧ ps = [(nm, 0, 0, [], false)]) ∧ Aside0 (k ≤ n) ∧ Aside0 (n < kq + k))
  case atStart => exact ⟨0, 0, _, _, _, _, rfl, rfl, rfl, HA, HB2, ⟨by omega⟩, ⟨.inl ⟨rfl, rfl⟩⟩, ⟨by omega⟩, ⟨by omega⟩⟩
  case round =>
    obtain ⟨k, best, nm, A1, c1, ps, rfl, rfl, rfl, hA, hB, hb, hp, hkn, hkq⟩ := hrel
    by_cases h : k < n
    · have hb1 : (k : Int) < (n : Int) := by omega
      have hnb : (n : Int) ≤ 100 := by have := HN.out; omega
      obtain ⟨ad, rfl, hc⟩ := Kd.at_int (Kd.C_below HR.out hB.out) (k : Int) (by omega) hb1
      rw [Int.toNat_natCast] at hc
      obtain ⟨x, hx⟩ : ∃ x, x = rd xs (k : Int) := ⟨_, rfl⟩
      rw [← hx] at hc
      clear hx
      have hm31 := Go.Proofs.Ytfohlaeahageaaa.Bits.mask_31 x
      obtain ⟨y, hy⟩ : ∃ y, y = x % 32 := ⟨_, rfl⟩
      rw [← hy] at hm31
      have hy0 : 0 ≤ y := by omega
      have hy1 : y < 32 := by omega
      clear hy
      go_wp2_with fail
      generalize (ByteArray.extract _ (k % 26) (k % 26 + 1)) = s
      obtain ⟨W, hW⟩ : ∃ W, W = wr.alloc (.cells #[.string s, .int .i64 0, .int .i64 0, .slice none 0 0, .bool false] 38) := ⟨_, rfl⟩
      rw [← hW]
      have hbW : Below wr.heap.size wr W := by rw [hW]; exact below_alloc (Below.refl _ _) _
      have HW := Aside0.mk (show W.heap[wr.heap.size]? = some (.cells #[.string s, .int .i64 0, .int .i64 0, .slice none 0 0, .bool false] 38 (0, 0)) by rw [hW]; exact blk_new _ _)
      have hAW := hA.out.below hbW
      have hBW := hB.out.trans (hbW.mono hB.out.size)
      have HAW := Aside0.mk hAW
      have HBW := Aside0.mk hBW
      clear hW hbW hAW hBW hc
      by_cases hv : best < y - 3
      · have hpos : 0 < y - 3 := by have := hb.out; omega
        refine (take_new W g 1 best _ _ _ 1 1 ps [(s, 0, 0, [], false)] (y - 3) HAW.out hv (one_C HW.out) (by decide) (one_fits s)).mono ?_
        rintro e w3 ⟨rfl, ⟨A3, c3, ha3⟩, _, hb3⟩
        have HA3 := Aside0.mk ha3
        have HB3 := Aside0.mk (HBW.out.trans (hb3.mono HG.out))
        clear ha3 hb3
        unfold noteV
        dsimp only
        go_wp2_with fail
        refine (aputs_any _ g 1 (y - 3) _ _ [(s, 0, 0, [], false)] (HA3.out.below (below_alloc (Below.refl _ _) _)) (by show 1 * 64 ≤ 140737488355328; decide) (one_fits _)).mono ?_
        rintro e w5 ⟨v5, rfl, hv5, hb5⟩
        obtain ⟨A5, c5, rfl⟩ := Kd.R_slice hv5
        have hA5 := (HA3.out.below (below_alloc (Below.refl _ _) _)).below hb5
        have HB5 := Aside0.mk ((HB3.out.alloc HB3.out.size _).trans (hb5.mono (Nat.le_trans HB3.out.size (by simp))))
        obtain ⟨p0, p1, p2, p3⟩ := box4 (blk_below (blk_new _ _) hb5)
        obtain ⟨b5, rfl, pn⟩ := one_at hv5
        simp only [List.length_singleton]
        have HA5 := Aside0.mk hA5
        clear hA5 hb5 hv5
        go_wp2_with fail
        refine (version_any _ g 1 (y - 3) _ _ [(s, 0, 0, [], false)] HA5.out).mono ?_
        rintro e w6 ⟨rfl, rfl⟩
        go_wp2
        obtain ⟨mk, hmk⟩ : ∃ mk, gk = mk + 1 := ⟨gk - 1, by have := hkq.out; omega⟩
        go_roundg mk
        case measure => omega
        case rel => exact ⟨k + 1, (y - 3), s, _, _, [(s, 0, 0, [], false)], rfl, rfl, by go_num, HA5, HB5, ⟨by have := hb.out; omega⟩, ⟨.inr ⟨hpos, rfl⟩⟩, ⟨by omega⟩, ⟨by have := hkq.out; omega⟩⟩
      · refine (take_old W g 1 best _ _ _ 1 1 ps (y - 3) HAW.out hv).mono ?_
        rintro e w3 ⟨rfl, hb3⟩
        have HA3 := Aside0.mk (HAW.out.below hb3)
        have HB3 := Aside0.mk (HBW.out.trans (hb3.mono HBW.out.size))
        clear hb3
        rcases hp.out with ⟨rfl, rfl⟩ | ⟨hpos, rfl⟩
        · skip
          unfold noteV
          dsimp only
          go_wp2_with fail
          refine (aputs_any _ g 1 0 _ _ [] (HA3.out.below (below_alloc (Below.refl _ _) _)) (by decide) nil_fits).mono ?_
          rintro e w5 ⟨v5, rfl, hv5, hb5⟩
          obtain ⟨A5, c5, rfl⟩ := Kd.R_slice hv5
          have hA5 := (HA3.out.below (below_alloc (Below.refl _ _) _)).below hb5
          have HB5 := Aside0.mk ((HB3.out.alloc HB3.out.size _).trans (hb5.mono (Nat.le_trans HB3.out.size (by simp))))
          obtain ⟨p0, p1, p2, p3⟩ := box4 (blk_below (blk_new _ _) hb5)
          simp only [List.length_nil]
          have HA5 := Aside0.mk hA5
          clear hA5 hb5 hv5
          go_wp2_with fail
          refine (version_any _ g 1 0 _ _ [] HA5.out).mono ?_
          rintro e w6 ⟨rfl, rfl⟩
          go_wp2
          obtain ⟨mk, hmk⟩ : ∃ mk, gk = mk + 1 := ⟨gk - 1, by have := hkq.out; omega⟩
          go_roundg mk
          case measure => omega
          case rel => exact ⟨k + 1, 0, nm, _, _, [], rfl, rfl, by go_num, HA5, HB5, ⟨by have := hb.out; omega⟩, ⟨.inl ⟨rfl, rfl⟩⟩, ⟨by omega⟩, ⟨by have := hkq.out; omega⟩⟩
        · skip
          unfold noteV
          dsimp only
          go_wp2_with fail
          refine (aputs_any _ g 1 best _ _ [(nm, 0, 0, [], false)] (HA3.out.below (below_alloc (Below.refl _ _) _)) (by show 1 * 64 ≤ 140737488355328; decide) (one_fits _)).mono ?_
          rintro e w5 ⟨v5, rfl, hv5, hb5⟩
          obtain ⟨A5, c5, rfl⟩ := Kd.R_slice hv5
          have hA5 := (HA3.out.below (below_alloc (Below.refl _ _) _)).below hb5
          have HB5 := Aside0.mk ((HB3.out.alloc HB3.out.size _).trans (hb5.mono (Nat.le_trans HB3.out.size (by simp))))
          obtain ⟨p0, p1, p2, p3⟩ := box4 (blk_below (blk_new _ _) hb5)
          obtain ⟨b5, rfl, pn⟩ := one_at hv5
          simp only [List.length_singleton]
          have HA5 := Aside0.mk hA5
          clear hA5 hb5 hv5
          go_wp2_with fail
          refine (version_any _ g 1 best _ _ [(nm, 0, 0, [], false)] HA5.out).mono ?_
          rintro e w6 ⟨rfl, rfl⟩
          go_wp2
          obtain ⟨mk, hmk⟩ : ∃ mk, gk = mk + 1 := ⟨gk - 1, by have := hkq.out; omega⟩
          go_roundg mk
          case measure => omega
          case rel => exact ⟨k + 1, best, nm, _, _, [(nm, 0, 0, [], false)], rfl, rfl, by go_num, HA5, HB5, ⟨by have := hb.out; omega⟩, ⟨.inr ⟨hpos, rfl⟩⟩, ⟨by omega⟩, ⟨by have := hkq.out; omega⟩⟩
    · have hb1 : ¬ (k : Int) < (n : Int) := by omega
      go_wp2
      go_ret
      exact ⟨rfl, hB.out⟩
end Go.Proofs.Ytfohlaeahageaaa.Edge
