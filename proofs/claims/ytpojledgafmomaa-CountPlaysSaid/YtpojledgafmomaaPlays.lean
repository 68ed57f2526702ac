/- The walk of the law CountPlays: true for every row of walks. -/
import Derived.Test.YtpojledgafmomaaSums
namespace Go.Proofs.Ytpojledgafmomaa.Count
open Go.RowKit Go.Maps Go.Proofs.YtpojledgafmomaaW.PrintWords Go.Proofs.YtpojledgafmomaaW.PrintMore Go.Proofs.YtpojledgafmomaaW.PrintLast

abbrev WalkT := List Int × Int × Int × Int × Int
abbrev kWalk : Kd WalkT := Kd.pair (Kd.slice 3 (Kd.int .i64)) (Kd.pair (Kd.int .i64) (Kd.pair (Kd.int .i64) (Kd.pair (Kd.int .i64) (Kd.int .i64))))
theorem add_field (ad : Addr) (n j : Nat) (hj : 0 < j) : ad.add (n + j) = ⟨(ad.add n).block, (ad.add n).off + j, none⟩ := by
  unfold Addr.add
  rw [if_neg (by omega)]
  split
  · rename_i h
    subst h
    simp
  · simp
    omega
theorem walk_at {w : World} {A : Option Addr} {l : List WalkT} (h : Kd.C kWalk w A l.length l) (i : Nat) (hi : i < l.length) : ∃ (ad : Addr) (A2 : Option Addr) (c2 : Nat), A = some ad ∧ w.cell? (ad.add (i * 5)) = some (.slice A2 l[i].1.length c2) ∧
    w.cell? ⟨(ad.add (i * 5)).block, (ad.add (i * 5)).off + 1, none⟩ = some (.int .i64 l[i].2.1) ∧ w.cell? ⟨(ad.add (i * 5)).block, (ad.add (i * 5)).off + 2, none⟩ = some (.int .i64 l[i].2.2.1) ∧
    w.cell? ⟨(ad.add (i * 5)).block, (ad.add (i * 5)).off + 3, none⟩ = some (.int .i64 l[i].2.2.2.1) ∧ w.cell? ⟨(ad.add (i * 5)).block, (ad.add (i * 5)).off + 4, none⟩ = some (.int .i64 l[i].2.2.2.2) ∧ ReadsInt w .i64 A2 l[i].1.length l[i].1 := by
  obtain ⟨ad, e, hc⟩ := h.2.2 (by omega)
  obtain ⟨c, _, hk, hcell⟩ := hc i _ (List.getElem?_eq_getElem hi)
  obtain ⟨c1, r1, e1, ⟨A2, c2, e2, _, hC⟩, c3, r3, e3, f3, c4, r4, e4, f4, c5, r5, e5, f5, f6⟩ := hk
  have g3 : c3 = [.int .i64 l[i].2.1] := f3
  have g4 : c4 = [.int .i64 l[i].2.2.1] := f4
  have g5 : c5 = [.int .i64 l[i].2.2.2.1] := f5
  have g6 : r5 = [.int .i64 l[i].2.2.2.2] := f6
  subst g3 g4 g5 g6
  subst e5
  subst e4
  subst e3
  subst e2
  subst e1
  exact ⟨ad, A2, c2, e, hcell 0 _ rfl, by rw [← add_field ad (i * 5) 1 (by omega)]; exact hcell 1 _ rfl, by rw [← add_field ad (i * 5) 2 (by omega)]; exact hcell 2 _ rfl,
    by rw [← add_field ad (i * 5) 3 (by omega)]; exact hcell 3 _ rfl, by rw [← add_field ad (i * 5) 4 (by omega)]; exact hcell 4 _ rfl, ints_of hC⟩
theorem reads_kept {w0 w w' : World} {k : IntKind} {A : Option Addr} {n : Nat} {xs : List Int} {S : Nat → Prop} (h : ReadsInt w0 k A n xs) (hb : Below w0.heap.size w0 w) (hk : Kept w w' S) (hS : ∀ k, S k → w0.heap.size ≤ k) : ReadsInt w' k A n xs :=
  ⟨h.1, h.2.1, fun hn => by
    obtain ⟨ad, e, hc⟩ := h.2.2 hn
    refine ⟨ad, e, fun j hj => cell_kept (pw_cell_below hb (hc j hj)) hk (fun hs => ?_)⟩
    have h1 := World.block_lt_of_cell? _ _ (hc j hj)
    have h2 := hS _ hs
    omega⟩
theorem Ct.mono {w : World} {B g : Nat} {s : Option (Nat × Nat)} {ends edges : Int → Int} {all : Int} {m m' : Nat} (h : Ct w B g s ends edges all m) (hm : m ≤ m') : Ct w B g s ends edges all m' :=
  ⟨h.blk, h.le, h.none_, fun b1 b2 hs => by
    obtain ⟨c1, c2, r⟩ := h.some_ b1 b2 hs
    exact ⟨c1.mono hm, c2.mono hm, r⟩⟩
theorem Ct.own_le {w : World} {B g : Nat} {s : Option (Nat × Nat)} {ends edges : Int → Int} {all : Int} {m : Nat} (h : Ct w B g s ends edges all m) : ∀ k, own g s k → B ≤ k ∧ k < w.heap.size := by
  rintro k (rfl | ⟨b1, b2, hs, e⟩)
  · exact ⟨h.le, blk_lt h.blk⟩
  · obtain ⟨c1, c2, _, h1, h2⟩ := h.some_ b1 b2 hs
    rcases e with rfl | rfl
    · exact ⟨h1, c1.lt⟩
    · exact ⟨h2, c2.lt⟩
theorem edge_is (w : World) (B g : Nat) (s : Option (Nat × Nat)) (ends edges : Int → Int) (all : Int) (m : Nat) (x v : Int) (hx : (Lit.int .i64 x).wf = true) (h : Ct w B g s ends edges all m) (hv : edges x = v) :
    Calls Try.prog 10 #[.pointer (some ⟨g, 0, none⟩), .int .i64 x] w fun e w' => e = .returned (.int .i64 v) ∧ w = w' := by
  subst hv
  exact edge_any w B g s ends edges all m x hx h
theorem plays_long (A : Option Addr) (cap n : Nat) (x y : Int) (w : World) (hl : 100 < n) (hm : n ≤ 9223372036854775807) : Calls Try.prog 3 #[.slice A n cap, .int .i64 x, .int .i64 y] w fun e w' => e = .returned (.bool true) ∧ Below w.heap.size w w' := by
  go_enter Try.func3, Try.ntmps3
  go_wp2_with fail
  refine (alive_any _).mono ?_
  rintro e w' ⟨rfl, hb⟩
  go_wp2
  go_ret
  exact ⟨rfl, hb⟩
theorem bumps_nonneg (l : List Int) (f : Int → Int) (x : Int) (h : 0 ≤ f x) : 0 ≤ (l.foldl bump f) x := by
  have := bump_bound l f x
  omega
theorem add_at (w : World) (B g : Nat) (s : Option (Nat × Nat)) (ends edges : Int → Int) (all : Int) (m : Nat) (A : Option Addr) (n cap : Nat) (l : List Int) (hn : n = l.length) (at_ en ar mo : Int) (h : Ct w B g s ends edges all m)
    (hr : ∀ w', Kept w w' (own g s) → ReadsInt w' .i64 A l.length l) (hll : l.length ≤ 1000) (hm : m ≤ 1000000) (hall : -1000000 ≤ all ∧ all ≤ 1000000) (hen : (Lit.int .i64 en).wf = true) (hlw : ∀ x, x ∈ l → (Lit.int .i64 x).wf = true)
    (hends : ∀ x, -1000000 ≤ ends x ∧ ends x ≤ 1000000) (hedges : ∀ x, -1000000 ≤ edges x ∧ edges x ≤ 1000000) :
    Calls Try.prog 7 #[.pointer (some ⟨g, 0, none⟩), .agg #[.slice A n cap, .int .i64 at_, .int .i64 en, .int .i64 ar, .int .i64 mo]] w fun e w' => e = .returned (.tuple #[]) ∧
      ∃ s', Ct w' B g s' (bump ends en) (l.foldl bump edges) (all + 1) (m + 1 + l.length) ∧ Below B w w' ∧ Kept w w' (own g s) ∧ (∀ k, own g s' k → own g s k ∨ w.heap.size ≤ k) := by
  subst hn
  exact add_any w B g s ends edges all m A cap l at_ en ar mo h hr hll hm hall hen hlw hends hedges
set_option maxHeartbeats 4000000 in
set_option maxRecDepth 100000 in
theorem plays_short (A : Option Addr) (cap : Nat) (l : List WalkT) (end_ edge : Int) (w : World) (hl : l.length ≤ 100) (hr : Kd.C kWalk w A l.length l) (hg : ∀ x, x ∈ l → (Lit.int .i64 x.2.2.1).wf = true ∧ ∀ e, e ∈ x.1 → (Lit.int .i64 e).wf = true)
    (hen : (Lit.int .i64 end_).wf = true) (hed : (Lit.int .i64 edge).wf = true) : Calls Try.prog 3 #[.slice A l.length cap, .int .i64 end_, .int .i64 edge] w fun e w' => e = .returned (.bool true) ∧ Below w.heap.size w w' := by
  obtain ⟨n, hn⟩ : ∃ n, n = l.length := ⟨_, rfl⟩
  have Hn := Aside0.mk hn
  have HR := Aside0.mk hr
  have HG := Aside0.mk hg
  have HEN := Aside0.mk hen
  have HED := Aside0.mk hed
  rw [← hn] at hl ⊢
  have hln : (n : Int) ≤ 100 := by omega
  have hu27 := Try.underlying27
  have hu30 := Try.underlying30
  clear hn hr hg hen hed
  go_enter Try.func3, Try.ntmps3
  go_wp2_with fail
  refine (alive_any _).mono ?_
  rintro e w1 ⟨rfl, hb1⟩
  have HB1 := Aside0.mk hb1
  clear hb1
  go_wp2
  obtain ⟨B, hB⟩ : ∃ B, B = w1.heap.size := ⟨_, rfl⟩
  obtain ⟨wa, hwa⟩ : ∃ wa, wa = (w1.alloc (Obj.cells #[.map none, .map none, .int .i64 0] 27)).alloc (Obj.cells #[.map none, .map none, .int .i64 0] 27) := ⟨_, rfl⟩
  have hba : Below B w1 wa := by rw [hwa, hB]; exact below_alloc (below_alloc (Below.refl _ _) _) _
  have hH : Ct wa B B none (fun _ => 0) (fun _ => 0) 0 0 := by
    rw [hwa, hB]
    exact (new_ct w1).kept (Kept.of_below (below_alloc (Below.refl _ _) _) (fun _ => False)) (fun _ _ e => e)
  have hO : Ct wa B (B + 1) none (fun _ => 0) (fun _ => 0) 0 0 := by
    have h := new_ct (w1.alloc (Obj.cells #[.map none, .map none, .int .i64 0] 27))
    have e : (w1.alloc (Obj.cells #[.map none, .map none, .int .i64 0] 27)).heap.size = B + 1 := by rw [hB]; simp
    rw [e, ← hwa] at h
    exact ⟨h.blk, by omega, h.none_, fun _ _ h => by cases h⟩
  have HBB : Aside0 (w.heap.size ≤ B ∧ ∀ w', Below B w1 w' → Below w.heap.size w w') := ⟨⟨by rw [hB]; exact HB1.out.size, fun w' h => below_step HB1.out (by rw [← hB]; exact h)⟩⟩
  rw [← hB, ← hwa]
  clear hB hwa HB1
  go_loopg [10, 11, 12] (n + 1) (fun kq v10 v11 v12 w' => ∃ (i : Nat) (s1 s2 : Option (Nat × Nat)) (E F E2 F2 : Int → Int) (ve vf : Int), v10 = .int .i64 ve ∧ v11 = .int .i64 vf ∧ v12 = .int .i64 (i : Int) ∧
    Aside0 (Ct w' B B s1 E F i (301 * i)) ∧ Aside0 (Ct w' B (B + 1) s2 E2 F2 i (301 * i)) ∧ Aside0 (∀ k, own B s1 k → ¬ own (B + 1) s2 k) ∧ Aside0 (Below B w1 w') ∧ Aside0 (i ≤ n) ∧ Aside0 (n < i + kq) ∧
    Aside0 (∀ x, 0 ≤ E x ∧ E x ≤ i ∧ 0 ≤ F x ∧ F x ≤ 300 * i) ∧ Aside0 (∀ x, 0 ≤ E2 x ∧ E2 x ≤ i ∧ 0 ≤ F2 x ∧ F2 x ≤ i) ∧ Aside0 (E end_ = ve) ∧ Aside0 (F edge = vf))
  case atStart =>
    refine ⟨0, none, none, _, _, _, _, 0, 0, rfl, rfl, rfl, ⟨hH⟩, ⟨hO⟩, ⟨?_⟩, ⟨hba⟩, ⟨Nat.zero_le _⟩, ⟨by omega⟩, ⟨fun x => ?_⟩, ⟨fun x => ?_⟩, ⟨rfl⟩, ⟨rfl⟩⟩
    · rintro k (rfl | ⟨_, _, h, _⟩)
      · rintro (h | ⟨_, _, h, _⟩)
        · omega
        · cases h
      · cases h
    · simp
    · simp
  case round =>
    clear hH hO hba
    obtain ⟨i, s1, s2, E, F, E2, F2, ve, vf, rfl, rfl, rfl, hC, hO, hD, hB, hi, hk, hEF, hEF2, hve, hvf⟩ := hrel
    have hi5 : (i : Int) ≤ 100 := by have := hi.out; omega
    by_cases hlt : i < n
    · have hlt' : (i : Int) < (n : Int) := by omega
      have hil : i < l.length := by have := Hn.out; omega
      obtain ⟨ad, A2, c2, rfl, a0, a1, a2, a3, a4, hRI⟩ := walk_at HR.out i hil
      have HW := HG.out _ (List.getElem_mem hil)
      have hbw := HBB.out.2 _ hB.out
      have b0 := pw_cell_below hbw a0
      have b1 := pw_cell_below hbw a1
      have b2 := pw_cell_below hbw a2
      have b3 := pw_cell_below hbw a3
      have b4 := pw_cell_below hbw a4
      have HA := Aside0.mk (And.intro a0 (And.intro a1 (And.intro a2 (And.intro a3 a4))))
      generalize l[i] = q at b0 b1 b2 b3 b4 HA hRI HW
      obtain ⟨es, q1, q2, q3, q4⟩ := q
      dsimp only at b0 b1 b2 b3 b4 HA hRI HW
      obtain ⟨m, hm⟩ : ∃ m, gk = m + 1 := ⟨gk - 1, by have := hk.out; omega⟩
      obtain ⟨L, hL⟩ : ∃ L, L = es.length := ⟨_, rfl⟩
      have HL := Aside0.mk hL
      have HRI := Aside0.mk hRI
      have HWW := Aside0.mk HW
      have Hm : (es.length : Int) ≤ 9223372036854775807 := by have := hRI.2.1; omega
      rw [← hL] at b0 HA Hm
      clear a0 a1 a2 a3 a4 hRI HW hL hbw
      by_cases hl3 : 300 < L
      · have hl3' : (300 : Int) < (L : Int) := by omega
        go_wp2
        go_ret
        exact ⟨rfl, HBB.out.2 _ hB.out⟩
      · have hl3' : (L : Int) ≤ 300 := by omega
        go_wp2_with fail
        refine (add_at wr B B s1 E F i (301 * i) A2 L c2 es HL.out q1 q2 q3 q4 hC.out (fun w' hk => reads_kept HRI.out (HBB.out.2 _ hB.out) hk (fun k hk => by have := (hC.out.own_le k hk).1; have := HBB.out.1; omega)) (by have := HL.out; omega) (by have := hi.out; omega) (by omega) HWW.out.1 HWW.out.2
          (fun x => by have := hEF.out x; omega) (fun x => by have := hEF.out x; omega)).mono ?_
        rintro e w2 ⟨rfl, s1', hC2, hB2, hK2, hn2⟩
        have hO2 := Aside0.mk (hO.out.kept hK2 (fun k h2 h1 => hD.out k h1 h2))
        have hC3 := Aside0.mk hC2
        have hB3 := Aside0.mk (hB.out.trans hB2)
        have hD2 : Aside0 (∀ k, own B s1' k → ¬ own (B + 1) s2 k) := ⟨fun k h1 h2 => by
          rcases hn2 k h1 with h | h
          · exact hD.out k h h2
          · have := (hO.out.own_le k h2).2
            omega⟩
        have hEF3 : Aside0 (∀ x, 0 ≤ bump E q2 x ∧ bump E q2 x ≤ i + 1 ∧ 0 ≤ (es.foldl bump F) x ∧ (es.foldl bump F) x ≤ 300 * (i + 1)) := ⟨fun x => by
          have h1 := hEF.out x
          have h2 := bump_bound es F x
          have h3 := HL.out
          rw [bump_at]
          refine ⟨?_, ?_, ?_, ?_⟩
          · split <;> omega
          · split <;> omega
          · omega
          · omega⟩
        clear hC2 hB2 hK2 hn2 hB hD b0 b1 b2 b3 b4
        go_wp2_with fail
        obtain ⟨wx, hwx⟩ : ∃ wx, wx = w2.alloc (.cells #[.int .i64 edge] 3) := ⟨_, rfl⟩
        have hbx : Below w2.heap.size w2 wx := by rw [hwx]; exact below_alloc (Below.refl _ _) _
        have hxs : wx.heap.size = w2.heap.size + 1 := by rw [hwx]; simp
        have hOx : Ct wx B (B + 1) s2 E2 F2 i (301 * i) := hO2.out.kept (Kept.of_below hbx (fun _ => False)) (fun _ _ e => e)
        have hCx : Ct wx B B s1' (bump E q2) (es.foldl bump F) (i + 1) (301 * i + 1 + es.length) := hC3.out.kept (Kept.of_below hbx (fun _ => False)) (fun _ _ e => e)
        have hcx : wx.cell? ⟨w2.heap.size, 0, none⟩ = some (.int .i64 edge) := by
          rw [hwx]
          exact World.cell?_alloc_at _ _ _ _ rfl
        rw [← hwx]
        refine (add_at wx B (B + 1) s2 E2 F2 i (301 * i) (some ⟨w2.heap.size, 0, none⟩) 1 1 [edge] rfl 0 end_ 0 0 hOx (fun w' hk => ⟨rfl, by simp, fun _ => ⟨_, rfl, fun j hj => ?_⟩⟩) (by simp) (by have := hi.out; omega) (by omega) HEN.out (by simpa using HED.out)
          (fun x => by have := hEF2.out x; omega) (fun x => by have := hEF2.out x; omega)).mono ?_
        · obtain rfl : j = 0 := by simpa using hj
          refine cell_kept hcx hk (fun h => ?_)
          have h' : w2.heap.size < w2.heap.size := (hO2.out.own_le _ h).2
          omega
        rintro e w3 ⟨rfl, s2', hO3, hB4, hK3, hn3⟩
        have hC4 := Aside0.mk (hCx.kept hK3 (fun k h1 h2 => hD2.out k h1 h2))
        have hO4 := Aside0.mk hO3
        have hB5 : Aside0 (Below B w1 w3) := ⟨(hB3.out.trans (hbx.mono (by have := (hO2.out.own_le _ (.inl rfl)); omega))).trans hB4⟩
        have hD3 : Aside0 (∀ k, own B s1' k → ¬ own (B + 1) s2' k) := ⟨fun k h1 h2 => by
          rcases hn3 k h2 with h | h
          · exact hD2.out k h1 h
          · have := (hC3.out.own_le k h1).2
            omega⟩
        have hEF4 : Aside0 (∀ x, 0 ≤ bump E2 end_ x ∧ bump E2 end_ x ≤ i + 1 ∧ 0 ≤ ([edge].foldl bump F2) x ∧ ([edge].foldl bump F2) x ≤ i + 1) := ⟨fun x => by
          have h1 := hEF2.out x
          have h2 := bump_bound [edge] F2 x
          simp only [List.length_singleton] at h2
          rw [bump_at]
          refine ⟨?_, ?_, ?_, ?_⟩
          · split <;> omega
          · split <;> omega
          · omega
          · omega⟩
        clear hbx hxs hOx hCx hcx hwx hO3 hB4 hK3 hn3 hO2 hC3 hB3 hD2
        have hbw := HBB.out.2 _ hB5.out
        obtain ⟨a0, a1, a2, a3, a4⟩ := HA.out
        have b0 := pw_cell_below hbw a0
        have b2 := pw_cell_below hbw a2
        have hRI := reads_kept HRI.out hbw (Kept.refl w3 (fun _ => False)) (fun _ h => h.elim)
        have HRI3 := Aside0.mk hRI
        have hve5 := hEF.out end_
        have hve6 : 0 ≤ ve ∧ ve ≤ 100 := by have := hve.out; omega
        have hvf5 := hEF.out edge
        have hvf6 : 0 ≤ vf ∧ vf ≤ 30000 := by have := hvf.out; omega
        obtain ⟨ve2, hve2⟩ : ∃ ve2 : Int, bump E q2 end_ = ve2 := ⟨_, rfl⟩
        have hve3 : Aside0 (bump E q2 end_ = ve + if end_ = q2 then 1 else 0) := ⟨by rw [bump_at, hve.out]⟩
        clear a0 a1 a2 a3 a4 hbw hRI hve5 hvf5 hve2
        by_cases he : q2 = end_
        · have heb : (q2 == end_) = true := beq_iff_eq.2 he
          have hve4 : Aside0 (bump E q2 end_ = ve + 1) := ⟨by rw [hve3.out, if_pos he.symm]⟩
          clear he
          go_wp2
          go_loopg [11, 13] (L + 1) (fun kq v11 v13 w' => ∃ (k : Nat) (u : Int), v11 = .int .i64 u ∧ v13 = .int .i64 (k : Int) ∧ w' = w3 ∧ Aside0 (((es.take k).foldl bump F) edge = u) ∧ Aside0 (k ≤ L) ∧ Aside0 (L < k + kq))
          case atStart => exact ⟨0, vf, rfl, by go_num, rfl, ⟨hvf.out⟩, ⟨Nat.zero_le _⟩, ⟨by omega⟩⟩
          case round =>
            obtain ⟨k, u, rfl, rfl, rfl, hu, hk2, hkq⟩ := hrel
            have hk5 : (k : Int) ≤ 300 := by have := hk2.out; omega
            by_cases hlt2 : k < L
            · have hlt2' : (k : Int) < (L : Int) := by omega
              have hkl : k < es.length := by have := HL.out; omega
              have hkl' : (k : Int) < (es.length : Int) := by omega
              obtain ⟨ad2, rfl, hc⟩ := HRI3.out.at_ (k : Int) (by omega) hkl'
              obtain ⟨x, hx⟩ : ∃ x, x = es[k] := ⟨_, rfl⟩
              have e : rd es (k : Int) = x := by rw [hx]; simp [rd, hkl]
              rw [e, Int.toNat_natCast] at hc
              have hn : ((es.take (k + 1)).foldl bump F) edge = u + if edge = x then 1 else 0 := by rw [bump_snoc es k hkl, ← hx, bump_at, hu.out]
              have HN := Aside0.mk hn
              have hub := bump_bound (es.take k) F edge
              have hub2 : 0 ≤ u ∧ u ≤ 30300 := by
                have h1 := hu.out
                have h2 := hvf.out
                rw [h1, List.length_take] at hub
                omega
              obtain ⟨f, hf⟩ : ∃ f, gk = f + 1 := ⟨gk - 1, by have := hkq.out; omega⟩
              clear hn hx e hub hkl'
              by_cases hxe : x = edge
              · have hxb : (x == edge) = true := beq_iff_eq.2 hxe
                have HN2 : Aside0 (((es.take (k + 1)).foldl bump F) edge = u + 1) := ⟨by rw [HN.out, if_pos hxe.symm]⟩
                clear hxe
                go_wp2
                go_roundg f
                case measure => omega
                case rel => exact ⟨k + 1, u + 1, rfl, by go_num, rfl, HN2, ⟨by omega⟩, ⟨by have := hkq.out; omega⟩⟩
              · have hxb : (x == edge) = false := beq_eq_false_iff_ne.2 hxe
                have HN2 : Aside0 (((es.take (k + 1)).foldl bump F) edge = u) := ⟨by rw [HN.out, if_neg (fun h => hxe h.symm)]; omega⟩
                clear hxe
                go_wp2
                go_roundg f
                case measure => omega
                case rel => exact ⟨k + 1, u, rfl, by go_num, rfl, HN2, ⟨by omega⟩, ⟨by have := hkq.out; omega⟩⟩
            · have hke : k = es.length := by have := hk2.out; have := HL.out; omega
              have hu2 : Aside0 ((es.foldl bump F) edge = u) := ⟨by
                have := hu.out
                rw [List.take_of_length_le (by omega)] at this
                exact this⟩
              clear hu hke
              go_wp2_with fail
              refine (all_any _ _ _ _ _ _ _ _ hC4.out).mono ?_
              rintro e w' ⟨rfl, rfl⟩
              go_wp2_with fail
              refine (ends_is _ _ _ _ _ _ _ _ _ _ HEN.out hC4.out hve4.out).mono ?_
              rintro e w' ⟨rfl, rfl⟩
              go_wp2_with fail
              refine (edge_is _ _ _ _ _ _ _ _ _ _ HED.out hC4.out hu2.out).mono ?_
              rintro e w' ⟨rfl, rfl⟩
              go_wp2
              have hC5 : Aside0 (Ct _ B B s1' (bump E q2) (es.foldl bump F) ((i + 1 : Nat) : Int) (301 * (i + 1))) := ⟨hC4.out.mono (by have := HL.out; omega)⟩
              have hO5 : Aside0 (Ct _ B (B + 1) s2' (bump E2 end_) ([edge].foldl bump F2) ((i + 1 : Nat) : Int) (301 * (i + 1))) := ⟨hO4.out.mono (by simp; omega)⟩
              go_roundg m
              case measure => omega
              case rel => exact ⟨i + 1, s1', s2', _, _, _, _, _, u, rfl, rfl, by go_num, hC5, hO5, hD3, hB5, ⟨by omega⟩, ⟨by have := hk.out; omega⟩, ⟨fun x => by have := hEF3.out x; simpa using this⟩, ⟨fun x => by have := hEF4.out x; simpa using this⟩, hve4, hu2⟩
        · have heb : (q2 == end_) = false := beq_eq_false_iff_ne.2 he
          have hve4 : Aside0 (bump E q2 end_ = ve) := ⟨by rw [hve3.out, if_neg (fun h => he h.symm)]; omega⟩
          clear he
          go_wp2
          go_loopg [11, 13] (L + 1) (fun kq v11 v13 w' => ∃ (k : Nat) (u : Int), v11 = .int .i64 u ∧ v13 = .int .i64 (k : Int) ∧ w' = w3 ∧ Aside0 (((es.take k).foldl bump F) edge = u) ∧ Aside0 (k ≤ L) ∧ Aside0 (L < k + kq))
          case atStart => exact ⟨0, vf, rfl, by go_num, rfl, ⟨hvf.out⟩, ⟨Nat.zero_le _⟩, ⟨by omega⟩⟩
          case round =>
            obtain ⟨k, u, rfl, rfl, rfl, hu, hk2, hkq⟩ := hrel
            have hk5 : (k : Int) ≤ 300 := by have := hk2.out; omega
            by_cases hlt2 : k < L
            · have hlt2' : (k : Int) < (L : Int) := by omega
              have hkl : k < es.length := by have := HL.out; omega
              have hkl' : (k : Int) < (es.length : Int) := by omega
              obtain ⟨ad2, rfl, hc⟩ := HRI3.out.at_ (k : Int) (by omega) hkl'
              obtain ⟨x, hx⟩ : ∃ x, x = es[k] := ⟨_, rfl⟩
              have e : rd es (k : Int) = x := by rw [hx]; simp [rd, hkl]
              rw [e, Int.toNat_natCast] at hc
              have hn : ((es.take (k + 1)).foldl bump F) edge = u + if edge = x then 1 else 0 := by rw [bump_snoc es k hkl, ← hx, bump_at, hu.out]
              have HN := Aside0.mk hn
              have hub := bump_bound (es.take k) F edge
              have hub2 : 0 ≤ u ∧ u ≤ 30300 := by
                have h1 := hu.out
                have h2 := hvf.out
                rw [h1, List.length_take] at hub
                omega
              obtain ⟨f, hf⟩ : ∃ f, gk = f + 1 := ⟨gk - 1, by have := hkq.out; omega⟩
              clear hn hx e hub hkl'
              by_cases hxe : x = edge
              · have hxb : (x == edge) = true := beq_iff_eq.2 hxe
                have HN2 : Aside0 (((es.take (k + 1)).foldl bump F) edge = u + 1) := ⟨by rw [HN.out, if_pos hxe.symm]⟩
                clear hxe
                go_wp2
                go_roundg f
                case measure => omega
                case rel => exact ⟨k + 1, u + 1, rfl, by go_num, rfl, HN2, ⟨by omega⟩, ⟨by have := hkq.out; omega⟩⟩
              · have hxb : (x == edge) = false := beq_eq_false_iff_ne.2 hxe
                have HN2 : Aside0 (((es.take (k + 1)).foldl bump F) edge = u) := ⟨by rw [HN.out, if_neg (fun h => hxe h.symm)]; omega⟩
                clear hxe
                go_wp2
                go_roundg f
                case measure => omega
                case rel => exact ⟨k + 1, u, rfl, by go_num, rfl, HN2, ⟨by omega⟩, ⟨by have := hkq.out; omega⟩⟩
            · have hke : k = es.length := by have := hk2.out; have := HL.out; omega
              have hu2 : Aside0 ((es.foldl bump F) edge = u) := ⟨by
                have := hu.out
                rw [List.take_of_length_le (by omega)] at this
                exact this⟩
              clear hu hke
              go_wp2_with fail
              refine (all_any _ _ _ _ _ _ _ _ hC4.out).mono ?_
              rintro e w' ⟨rfl, rfl⟩
              go_wp2_with fail
              refine (ends_is _ _ _ _ _ _ _ _ _ _ HEN.out hC4.out hve4.out).mono ?_
              rintro e w' ⟨rfl, rfl⟩
              go_wp2_with fail
              refine (edge_is _ _ _ _ _ _ _ _ _ _ HED.out hC4.out hu2.out).mono ?_
              rintro e w' ⟨rfl, rfl⟩
              go_wp2
              have hC5 : Aside0 (Ct _ B B s1' (bump E q2) (es.foldl bump F) ((i + 1 : Nat) : Int) (301 * (i + 1))) := ⟨hC4.out.mono (by have := HL.out; omega)⟩
              have hO5 : Aside0 (Ct _ B (B + 1) s2' (bump E2 end_) ([edge].foldl bump F2) ((i + 1 : Nat) : Int) (301 * (i + 1))) := ⟨hO4.out.mono (by simp; omega)⟩
              go_roundg m
              case measure => omega
              case rel => exact ⟨i + 1, s1', s2', _, _, _, _, _, u, rfl, rfl, by go_num, hC5, hO5, hD3, hB5, ⟨by omega⟩, ⟨by have := hk.out; omega⟩, ⟨fun x => by have := hEF3.out x; simpa using this⟩, ⟨fun x => by have := hEF4.out x; simpa using this⟩, hve4, hu2⟩
    · go_wp2
      go_ret
      exact ⟨rfl, HBB.out.2 _ hB.out⟩
end Go.Proofs.Ytpojledgafmomaa.Count
