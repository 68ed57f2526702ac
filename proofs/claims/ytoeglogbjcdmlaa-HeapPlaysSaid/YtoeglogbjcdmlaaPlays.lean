/- The walk of the law HeapPlays: true for every row of calls. -/
import Derived.Test.YtoeglogbjcdmlaaHeapTwo
import Derived.Test.YtoeglogbjcdmlaaPairEq
import Derived.Deep.QuietTactic
import Derived.StillTailTactics
import Derived.BigQuiet
import Derived.IntWalk
namespace Go.Proofs.Ytoeglogbjcdmlaa.Heap
open Go.RowKit Go.Proofs.YtoeglogbjcdmlaaW.PrintWords Go.Proofs.YtoeglogbjcdmlaaW.PrintMore Go.Proofs.YtoeglogbjcdmlaaW.PrintLast

abbrev kAct : Kd (Bool × Int × Int) := Kd.pair Kd.bool (Kd.pair (Kd.int .i64) (Kd.int .i64))
theorem add_field (ad : Addr) (n j : Nat) (hj : 0 < j) : ad.add (n + j) = ⟨(ad.add n).block, (ad.add n).off + j, none⟩ := by
  unfold Addr.add
  rw [if_neg (by omega)]
  split
  · rename_i h
    subst h
    simp
  · simp
    omega
theorem act_at {w : World} {A : Option Addr} {l : List (Bool × Int × Int)} (h : Kd.C kAct w A l.length l) (i : Nat) (hi : i < l.length) : ∃ ad, A = some ad ∧ w.cell? (ad.add (i * 3)) = some (.bool l[i].1) ∧ w.cell? ⟨(ad.add (i * 3)).block, (ad.add (i * 3)).off + 1, none⟩ = some (.int .i64 l[i].2.1) ∧ w.cell? ⟨(ad.add (i * 3)).block, (ad.add (i * 3)).off + 2, none⟩ = some (.int .i64 l[i].2.2) := by
  obtain ⟨ad, e, hc⟩ := h.2.2 (by omega)
  obtain ⟨c, _, hk, hcell⟩ := hc i _ (List.getElem?_eq_getElem hi)
  obtain ⟨c1, c2, e1, e2, c3, c4, e3, e4, e5⟩ := hk
  have f2 : c1 = [.bool l[i].1] := e2
  have f4 : c3 = [.int .i64 l[i].2.1] := e4
  have f5 : c4 = [.int .i64 l[i].2.2] := e5
  subst f2 f4 f5
  subst e3
  subst e1
  exact ⟨ad, e, hcell 0 _ rfl, by rw [← add_field ad (i * 3) 1 (by omega)]; exact hcell 1 _ rfl, by rw [← add_field ad (i * 3) 2 (by omega)]; exact hcell 2 _ rfl⟩
theorem up_length : ∀ (f : Nat) (xs : List (Int × Int)) (i : Nat), (up f xs i).length = xs.length
  | 0, _, _ => rfl
  | f + 1, xs, i => by
    rw [up]
    split
    · rfl
    · split
      · rw [up_length f, swp_length]
      · rfl
theorem now_step {ops : Array Oper} {o : Oper} {a : Act} {Q : Exit → Act → World → Prop} {Kc : Act → World → Prop} {E : Prop} (hgd : o.guard = none) (s x : Operand) (ho : o.op = .call { callee := .builtin .append, args := #[s, x], argTypes := #[28, 28] })
    (W : World) (B : Nat) (v : Value) (zs : List (Int × Int)) (p : Int × Int) (hs : a.eval s = v) (hx : a.eval x = .slice (some ⟨W.heap.size, 0, none⟩) 1 1) (HO : Now W B v zs) (hB : B ≤ W.heap.size) (hl : zs.length ≤ 1000)
    (h : ∀ A1 c1 w1, Now w1 B (.slice A1 (zs.length + 1) c1) (zs ++ [p]) → Below B W w1 → W.drew.grownBy w1 v.ownBlock → Kc (a.put o.dst (.slice A1 (zs.length + 1) c1)) w1) :
    if Region.wanted o (yielded ops a.tmps) = true then Oper.wp Try.prog o a (W.alloc (.cells #[.int .i64 p.1, .int .i64 p.2] 32)).drew Kc Q else E := by
  have hw : Region.wanted o (yielded ops a.tmps) = true := by simp [Region.wanted, hgd]
  have H := Kd.R_append_step (P := Try.prog) (Q := Q) (Kc := Kc) (w0 := W.drew) (W := W.drew) kp B hw s x 28 32 (.agg #[.int .i64 0, .int .i64 0]) 16 ho Try.underlying28 info32 rfl (by decide) (by omega) v zs p [.int .i64 p.1, .int .i64 p.2] (fun _ => True) (fun _ => False) hs hx ⟨[.int .i64 p.1], [.int .i64 p.2], rfl, rfl, rfl⟩ (fun _ hk => hk.elim) (fun _ _ => trivial) (Kd.R_drew HO) (Below.refl _ _) hB (by omega) (fun v1 w1 ho1 hb1 hg1 _ => by
    obtain ⟨A1, c1, rfl⟩ := Kd.R_slice ho1
    have e : (zs ++ [p]).length = zs.length + 1 := by simp
    rw [e] at ho1 ⊢
    exact h A1 c1 w1 ho1 ((Below.refl B W).drew.trans hb1) hg1)
  rw [if_pos hw] at H ⊢
  exact H
theorem plays_long (A : Option Addr) (cap : Nat) (n : Nat) (w : World) (hl : 200 < n) (hm : n ≤ 9223372036854775807) : Calls Try.prog 3 #[.slice A n cap] w fun e w' => e = .returned (.bool true) ∧ Below w.heap.size w w' := by
  go_enter Try.func3, Try.ntmps3
  go_wp2_with fail
  refine (alive_any _).mono ?_
  rintro e w' ⟨rfl, hb⟩
  go_wp2
  go_ret
  exact ⟨rfl, hb⟩
set_option maxHeartbeats 8000000 in
set_option maxRecDepth 100000 in
theorem plays_short (A : Option Addr) (cap : Nat) (l : List (Bool × Int × Int)) (w : World) (hl : l.length ≤ 200) (hr : Kd.C kAct w A l.length l) : Calls Try.prog 3 #[.slice A l.length cap] w fun e w' => e = .returned (.bool true) ∧ Below w.heap.size w w' := by
  obtain ⟨n, hn⟩ : ∃ n, n = l.length := ⟨_, rfl⟩
  have Hn := Aside0.mk hn
  have HR : Aside0 (∀ w', Below w.heap.size w w' → Kd.C kAct w' A l.length l) := ⟨fun w' hb => Kd.C_below hr hb⟩
  rw [← hn] at hl ⊢
  have hln : (n : Int) ≤ 200 := by omega
  have hu27 := Try.underlying27
  clear hn hr
  go_enter Try.func3, Try.ntmps3
  go_wp2_with fail
  refine (alive_any _).mono ?_
  rintro e w1 ⟨rfl, hb1⟩
  have HB1 := Aside0.mk hb1
  clear hb1
  go_wp2
  obtain ⟨B, hB⟩ : ∃ B, B = w1.heap.size := ⟨_, rfl⟩
  obtain ⟨wa, hwa⟩ : ∃ wa, wa = (w1.alloc (Obj.cells #[Value.slice none 0 0] 27)).alloc (Obj.cells #[Value.slice none 0 0] 27) := ⟨_, rfl⟩
  have hba : Below B w1 wa := by rw [hwa, hB]; exact below_alloc (below_alloc (Below.refl _ _) _) _
  have hH : Hp wa B B none 0 [] := by rw [hwa, hB]; exact (new_hp w1).below (below_alloc (Below.refl _ _) _)
  have hO : Hp wa B (B + 1) none 0 [] := by
    have h := new_hp (w1.alloc (Obj.cells #[Value.slice none 0 0] 27))
    have e : (w1.alloc (Obj.cells #[Value.slice none 0 0] 27)).heap.size = B + 1 := by rw [hB]; simp
    rw [e, ← hwa] at h
    exact ⟨h.blk, Kd.R_nil _ _ _ _ _, by omega⟩
  have HBB : Aside0 (∀ w', Below B w1 w' → Below w.heap.size w w') := ⟨fun w' h => below_step HB1.out (by rw [← hB]; exact h)⟩
  rw [← hB, ← hwa]
  clear hB hwa HB1
  go_loopg [6, 7] (n + 1) (fun kq v6 v7 w' => ∃ (i : Nat) (A1 A2 A3 : Option Addr) (c1 c2 c3 : Nat) (ys os zs : List (Int × Int)), v6 = .slice A3 zs.length c3 ∧ v7 = .int .i64 (i : Int) ∧ Aside0 (Hp w' B B A1 c1 ys) ∧ Aside0 (Hp w' B (B + 1) A2 c2 os) ∧ Aside0 (Apart A1 A2) ∧ Aside0 (Now w' B (.slice A3 zs.length c3) zs) ∧ Aside0 (Below B w1 w') ∧ Aside0 (i ≤ n) ∧ Aside0 (n < i + kq) ∧ Aside0 (IsHeap ys) ∧ Aside0 (ys.Perm zs) ∧ Aside0 (os.length ≤ i) ∧ Aside0 (zs.length ≤ i))
  case atStart => exact ⟨0, none, none, none, 0, 0, 0, [], [], [], rfl, rfl, ⟨hH⟩, ⟨hO⟩, ⟨fun k hk => by cases hk⟩, ⟨Kd.R_nil _ _ _ _ _⟩, ⟨hba⟩, ⟨Nat.zero_le _⟩, ⟨by omega⟩, ⟨fun j _ h => by simp at h⟩, ⟨List.Perm.refl _⟩, ⟨Nat.le_refl _⟩, ⟨Nat.le_refl _⟩⟩
  case round =>
    clear hH hO hba
    obtain ⟨i, A1, A2, A3, c1, c2, c3, ys, os, zs, rfl, rfl, hP, hO, hD, hN, hB, hi, hk, hH, hpm, hol, hzl⟩ := hrel
    have hi5 : (i : Int) ≤ 200 := by have := hi.out; omega
    by_cases hlt : i < n
    · have hlt' : (i : Int) < (n : Int) := by omega
      go_wp2_with fail
      refine (push_any _ _ _ _ _ _ _ _ hO.out (by have := hol.out; omega)).mono ?_
      rintro e w2 ⟨rfl, A2', c2', hO2, hT2⟩
      obtain ⟨hP2, hD2⟩ := hP.out.beside hO.out (by omega) hD.out hT2
      have hN2 := now_beside hN.out hO.out hT2
      have hB2 := Aside0.mk (hB.out.trans hT2.bel)
      obtain ⟨ad, rfl, a0, a1, a2⟩ := act_at (HR.out w2 (HBB.out w2 hB2.out)) i (by have := Hn.out; omega)
      obtain ⟨m, hm⟩ : ∃ m, gk = m + 1 := ⟨gk - 1, by have := hk.out; omega⟩
      have hol2 : Aside0 ((up (os.length + 1) (os ++ [((i : Int), (i : Int))]) os.length).length ≤ i + 1) := ⟨by
        rw [up_length]
        have := hol.out
        simp
        omega⟩
      have HCELL : Aside0 (∀ w', Below B w1 w' → w'.cell? ⟨(ad.add (i * 3)).block, (ad.add (i * 3)).off + 1, none⟩ = w2.cell? ⟨(ad.add (i * 3)).block, (ad.add (i * 3)).off + 1, none⟩ ∧ w'.cell? ⟨(ad.add (i * 3)).block, (ad.add (i * 3)).off + 2, none⟩ = w2.cell? ⟨(ad.add (i * 3)).block, (ad.add (i * 3)).off + 2, none⟩) := ⟨fun w' hb => by
        obtain ⟨ad', e, _, b1, b2⟩ := act_at (HR.out w' (HBB.out w' hb)) i (by have := Hn.out; omega)
        obtain rfl := Option.some.inj e
        exact ⟨b1.trans a1.symm, b2.trans a2.symm⟩⟩
      generalize l[i]'(by have := Hn.out; omega) = q at a0 a1 a2
      obtain ⟨pb, ka, va⟩ := q
      have hP3 := Aside0.mk hP2
      have hO3 := Aside0.mk hO2
      have hD3 := Aside0.mk hD2
      have hN3 := Aside0.mk hN2
      clear hP hO hD hN hB hT2 hP2 hO2 hD2 hN2
      dsimp only at a0 a1 a2
      cases pb
      · go_wp2_with fail
        have hPd := Aside0.mk hP3.out.drew
        have hBd := Aside0.mk hB2.out.drew
        have hS0 : w2.cell? ⟨(ad.add (i * 3)).block, (ad.add (i * 3)).off + 1, none⟩ = some (.int .i64 ka) ∧ w2.cell? ⟨(ad.add (i * 3)).block, (ad.add (i * 3)).off + 2, none⟩ = some (.int .i64 va) := ⟨a1, a2⟩
        have hS1 : w2.drew.cell? ⟨(ad.add (i * 3)).block, (ad.add (i * 3)).off + 1, none⟩ = some (.int .i64 ka) ∧ w2.drew.cell? ⟨(ad.add (i * 3)).block, (ad.add (i * 3)).off + 2, none⟩ = some (.int .i64 va) := ⟨a1, a2⟩
        go_region_held3 (fun w' => w'.cell? ⟨(ad.add (i * 3)).block, (ad.add (i * 3)).off + 1, none⟩ = some (.int .i64 ka) ∧ w'.cell? ⟨(ad.add (i * 3)).block, (ad.add (i * 3)).off + 2, none⟩ = some (.int .i64 va)) (first | assumption | exact hS1 | exact hS0)
          (first | (go_at_call 6; refine (push_any _ _ _ _ _ _ _ _ hPd.out (by have := hpm.out.length_eq; have := hzl.out; omega)).mono ?_; rintro e w3 ⟨rfl, A1', c1', hP4, hT4⟩; have hS' : w3.cell? ⟨(ad.add (i * 3)).block, (ad.add (i * 3)).off + 1, none⟩ = some (.int .i64 ka) ∧ w3.cell? ⟨(ad.add (i * 3)).block, (ad.add (i * 3)).off + 2, none⟩ = some (.int .i64 va) := ⟨((HCELL.out w3 (hBd.out.trans hT4.bel)).1).trans a1, ((HCELL.out w3 (hBd.out.trans hT4.bel)).2).trans a2⟩))
        obtain ⟨hO5, hD5⟩ := hO3.out.drew.beside hPd.out (by omega) hD3.out.symm hT4
        have hN5 := now_beside (Kd.R_drew hN3.out) hPd.out hT4
        have hB5 := Aside0.mk (hBd.out.trans hT4.bel)
        have hPl := push_heap ys (ka, va) hH.out
        have hP5 := Aside0.mk hP4
        have hO6 := Aside0.mk hO5
        have hD6 := Aside0.mk hD5.symm
        have hN6 := Aside0.mk hN5
        have hPl6 := Aside0.mk hPl
        obtain ⟨a1', a2'⟩ := hS'
        clear hS0 hS1 hP4 hT4 hO5 hD5 hN5 hPl hPd hBd hP3 hO3 hD3 hN3 a1 a2 a0
        go_wp2_with fail
        have hS0 : w3.cell? ⟨(ad.add (i * 3)).block, (ad.add (i * 3)).off + 1, none⟩ = some (.int .i64 ka) ∧ w3.cell? ⟨(ad.add (i * 3)).block, (ad.add (i * 3)).off + 2, none⟩ = some (.int .i64 va) := ⟨a1', a2'⟩
        have hS1 : w3.drew.cell? ⟨(ad.add (i * 3)).block, (ad.add (i * 3)).off + 1, none⟩ = some (.int .i64 ka) ∧ w3.drew.cell? ⟨(ad.add (i * 3)).block, (ad.add (i * 3)).off + 2, none⟩ = some (.int .i64 va) := ⟨a1', a2'⟩
        go_region_held3 (fun w' => w'.cell? ⟨(ad.add (i * 3)).block, (ad.add (i * 3)).off + 1, none⟩ = some (.int .i64 ka) ∧ w'.cell? ⟨(ad.add (i * 3)).block, (ad.add (i * 3)).off + 2, none⟩ = some (.int .i64 va)) (first | assumption | exact hS1 | exact hS0 | go_keep)
          (first | ((refine now_step rfl (.tmp 54) (.tmp 66) rfl w3 B (.slice A3 zs.length c3) zs (ka, va) rfl rfl hN6.out (Nat.le_trans hP5.out.le (Nat.le_of_lt (blk_lt hP5.out.blk))) (by have := hzl.out; omega) ?_); intro A7 c7 w7 hN7 hB7 hG7; have hS' : w7.cell? ⟨(ad.add (i * 3)).block, (ad.add (i * 3)).off + 1, none⟩ = some (.int .i64 ka) ∧ w7.cell? ⟨(ad.add (i * 3)).block, (ad.add (i * 3)).off + 2, none⟩ = some (.int .i64 va) := ⟨((HCELL.out w7 (hB5.out.trans hB7)).1).trans ((HCELL.out w3 hB5.out).1.symm.trans a1'), ((HCELL.out w7 (hB5.out.trans hB7)).2).trans ((HCELL.out w3 hB5.out).2.symm.trans a2')⟩))
        have hP8 := Aside0.mk (Hp.now (Kd.R_drew hN6.out) hP5.out.drew hG7)
        have hO8 := Aside0.mk (Hp.now (Kd.R_drew hN6.out) hO6.out.drew hG7)
        have hN8 := Aside0.mk hN7
        have hB8 := Aside0.mk (hB5.out.trans hB7)
        have hzz : Aside0 ((up (ys.length + 1) (ys ++ [(ka, va)]) ys.length).length = zs.length + 1) := ⟨by rw [up_length]; simp [hpm.out.length_eq]⟩
        clear hS' hS0 hS1 hN7 hB7 hG7 hP5 hO6 hN6 hB5 a1' a2'
        go_wp2_with fail
        refine (len_any _ _ _ _ _ _ hP8.out).mono ?_
        rintro e w8 ⟨rfl, rfl⟩
        rw [hzz.out]
        have hbz : (zs.length : Int) ≤ 200 := by have := hzl.out; omega
        go_wp2
        go_roundg m
        case measure => omega
        case rel =>
          refine ⟨i + 1, A1', A2', A7, c1', c2', c7, _, _, zs ++ [(ka, va)], by simp, by go_num, hP8, hO8, hD6, ⟨by simpa using hN8.out⟩, hB8, ⟨by omega⟩, ⟨by have := hk.out; omega⟩, ⟨hPl6.out.1⟩, ⟨hPl6.out.2.trans (hpm.out.append_right _)⟩, hol2, ⟨by have := hzl.out; simp; omega⟩⟩
      · clear a1 a2 HCELL
        by_cases hz0 : zs = []
        · subst hz0
          have hy0 : ys = [] := List.length_eq_zero_iff.1 (by have := hpm.out.length_eq; simpa using this)
          subst hy0
          simp only [List.length_nil] at hN3 ⊢
          go_wp2_with fail
          refine (pop_none _ _ _ _ _ hP3.out).mono ?_
          rintro e w3 ⟨rfl, rfl⟩
          clear a0
          go_wp2
          go_loopg [11, 12] 1 (fun kq v11 v12 w' => v11 = .int .i64 0 ∧ v12 = .int .i64 1 ∧ w' = w3)
          case atStart => exact ⟨by go_num, by go_num, rfl⟩
          case round =>
            obtain ⟨rfl, rfl, rfl⟩ := hrel
            go_wp2_with (go_at_call 8; refine (len_any _ _ _ _ _ _ hP3.out).mono ?_; rintro e w8 ⟨rfl, rfl⟩)
            go_roundg m
            case measure => omega
            case rel => exact ⟨i + 1, A1, A2', A3, c1, c2', c3, [], _, [], rfl, by go_num, hP3, hO3, hD3, ⟨by simpa using hN3.out⟩, hB2, ⟨by omega⟩, ⟨by have := hk.out; omega⟩, hH, hpm, hol2, ⟨by simp⟩⟩
        · go_wp2_with fail
          have hzp : 0 < zs.length := List.length_pos_iff.2 hz0
          have hyl : ys.length = zs.length := hpm.out.length_eq
          refine (pop_some _ _ _ _ _ _ hP3.out (by omega) (by have := hzl.out; omega)).mono ?_
          rintro e w3 ⟨rfl, hP4, hT4⟩
          obtain ⟨hO5, hD5⟩ := hO3.out.beside hP3.out (by omega) hD3.out.symm hT4
          have hN5 := now_beside hN3.out hP3.out hT4
          have hB5 := Aside0.mk (hB2.out.trans hT4.bel)
          obtain ⟨p, hp⟩ : ∃ p, p = at_ ys 0 := ⟨_, rfl⟩
          rw [← hp]
          have Hp_ := Aside0.mk hp
          have hP5 := Aside0.mk hP4
          have hO6 := Aside0.mk hO5
          have hD6 := Aside0.mk hD5.symm
          obtain ⟨b3, rfl⟩ := hN5.some_ hzp
          have hN6 := Aside0.mk hN5
          have hz1 : (0 : Int) < (zs.length : Int) := by omega
          have hz2 : (zs.length : Int) ≤ 200 := by have := hzl.out; omega
          clear hp hP4 hO5 hD5 hN5 hT4 hP3 hO3 hD3 hN3
          go_wp2
          clear a0
          go_loopg [11, 12] (zs.length + 1) (fun kq v11 v12 w' => ∃ (a j : Nat), v11 = .int .i64 (a : Int) ∧ v12 = .int .i64 (j : Int) ∧ Aside0 (Drawn0 w3 w') ∧ Aside0 (a < zs.length) ∧ Aside0 (1 ≤ j ∧ j ≤ zs.length) ∧ Aside0 (∀ t, t < j → le (at_ zs a) (at_ zs t)) ∧ Aside0 (zs.length < j + kq))
          case atStart => exact ⟨0, 1, by go_num, by go_num, ⟨Drawn0.refl _⟩, ⟨hzp⟩, ⟨Nat.le_refl _, hzp⟩, ⟨fun t ht => by rw [show t = 0 by omega]; exact le_refl _⟩, ⟨by omega⟩⟩
          case round =>
            obtain ⟨a, j, rfl, rfl, hw, ha, hj, hle, hkk⟩ := hrel
            have ha' : (a : Int) < (zs.length : Int) := by have := ha.out; omega
            have hj5 : (j : Int) ≤ 200 := by have := hj.out; omega
            by_cases hjl : j < zs.length
            · have hjl' : (j : Int) < (zs.length : Int) := by omega
              obtain ⟨q, hq⟩ := hw.out.out
              have hN7 : Now wr (B := B) (.slice (some ⟨b3, 0, none⟩) zs.length c3) zs := by rw [hq]; exact Kd.R_drewN hN6.out q
              obtain ⟨x0, x1⟩ := hN7.elem j hjl
              obtain ⟨y0, y1⟩ := hN7.elem a ha.out
              obtain ⟨x, hx⟩ : ∃ x, x = at_ zs j := ⟨_, rfl⟩
              obtain ⟨y, hy⟩ : ∃ y, y = at_ zs a := ⟨_, rfl⟩
              rw [← hx] at x0 x1
              rw [← hy] at y0 y1
              have Hx_ := Aside0.mk hx
              have Hy_ := Aside0.mk hy
              have hgf : ∃ f, gk = f + 1 := ⟨gk - 1, by have := hkk.out; omega⟩
              obtain ⟨f, hf⟩ := hgf
              clear hN7 hq hx hy
              by_cases t1 : x.1 < y.1
              · have hah : Aside0 (le x y) := ⟨by rw [le_iff]; omega⟩
                go_wp2_with fail
                go_quiet (fail)
                go_wp2
                go_roundg f
                case measure => omega
                case rel =>
                  refine ⟨j, j + 1, by go_num, by go_num, ⟨hw.out.step _⟩, ⟨hjl⟩, ⟨by omega, by omega⟩, ⟨fun t ht => ?_⟩, ⟨by have := hkk.out; omega⟩⟩
                  by_cases e : t = j
                  · subst e
                    exact le_refl _
                  · exact le_trans (by rw [← Hx_.out]; exact hah.out) (Hy_.out ▸ hle.out t (by omega))
              · have t1' : decide (x.1 < y.1) = false := decide_eq_false t1
                by_cases t2 : x.1 = y.1
                · by_cases t3 : x.2 < y.2
                  · have hah : Aside0 (le x y) := ⟨by rw [le_iff]; omega⟩
                    have t2' : (x.1 == y.1) = true := beq_iff_eq.2 t2
                    clear t1 t2
                    go_wp2_with fail
                    go_quiet (fail)
                    go_wp2
                    go_roundg f
                    case measure => omega
                    case rel =>
                      refine ⟨j, j + 1, by go_num, by go_num, ⟨hw.out.step _⟩, ⟨hjl⟩, ⟨by omega, by omega⟩, ⟨fun t ht => ?_⟩, ⟨by have := hkk.out; omega⟩⟩
                      by_cases e : t = j
                      · subst e
                        exact le_refl _
                      · exact le_trans (by rw [← Hx_.out]; exact hah.out) (Hy_.out ▸ hle.out t (by omega))
                  · have hah : Aside0 (le y x) := ⟨by rw [le_iff]; omega⟩
                    have t2' : (x.1 == y.1) = true := beq_iff_eq.2 t2
                    have t3' : decide (x.2 < y.2) = false := decide_eq_false t3
                    clear t1 t2 t3
                    go_wp2_with fail
                    go_quiet (fail)
                    go_wp2
                    go_roundg f
                    case measure => omega
                    case rel =>
                      refine ⟨a, j + 1, by go_num, by go_num, ⟨hw.out.step _⟩, ha, ⟨by omega, by omega⟩, ⟨fun t ht => ?_⟩, ⟨by have := hkk.out; omega⟩⟩
                      by_cases e : t = j
                      · subst e
                        rw [← Hx_.out, ← Hy_.out]
                        exact hah.out
                      · exact hle.out t (by omega)
                · have hah : Aside0 (le y x) := ⟨by rw [le_iff]; omega⟩
                  have t2' : (x.1 == y.1) = false := beq_eq_false_iff_ne.2 t2
                  clear t1 t2
                  go_wp2_with fail
                  go_quiet (fail)
                  go_wp2
                  go_roundg f
                  case measure => omega
                  case rel =>
                    refine ⟨a, j + 1, by go_num, by go_num, ⟨hw.out.step _⟩, ha, ⟨by omega, by omega⟩, ⟨fun t ht => ?_⟩, ⟨by have := hkk.out; omega⟩⟩
                    by_cases e : t = j
                    · subst e
                      rw [← Hx_.out, ← Hy_.out]
                      exact hah.out
                    · exact hle.out t (by omega)
            · have hje : j = zs.length := by have := hj.out; omega
              have hLe : Least zs a := ⟨ha.out, fun t ht => hle.out t (by omega)⟩
              obtain ⟨hap, hpr⟩ := least_is hH.out hpm.out hLe
              rw [← Hp_.out] at hap
              obtain ⟨q, rfl⟩ := hw.out.out
              have hN7 : Now (w3.drewN q) B (.slice (some ⟨b3, 0, none⟩) zs.length c3) zs := Kd.R_drewN hN6.out q
              obtain ⟨x0, x1⟩ := hN7.elem a ha.out
              rw [hap] at x0 x1
              have HPR := Aside0.mk hpr
              have HN7 := Aside0.mk hN7
              have hP7 : Aside0 (Hp (w3.drewN q) B B A1 c1 (rest ys)) := ⟨⟨blk_drewN hP5.out.blk q, Kd.R_drewN hP5.out.row q, hP5.out.le⟩⟩
              have hO7 : Aside0 (Hp (w3.drewN q) B (B + 1) A2' c2' (up (os.length + 1) (os ++ [((i : Int), (i : Int))]) os.length)) := ⟨⟨blk_drewN hO6.out.blk q, Kd.R_drewN hO6.out.row q, hO6.out.le⟩⟩
              have hB7 : Aside0 (Below B w1 (w3.drewN q)) := ⟨pw_below_drewN hB5.out q⟩
              have hIH := (rest_heap ys hH.out (by omega)).1
              have HIH := Aside0.mk hIH
              have Hlen := Aside0.mk hyl
              have hza : a < zs.length := ha.out
              clear hN7 hpr hap hLe hle hje hIH hP5 hO6 hN6 hB5 hw hyl
              generalize w3.drewN q = w4 at x0 x1 HN7 hP7 hO7 hB7 ⊢
              have heq := pair_eq p.1 p.2
              have hcap := (Kd.R_reads' HN7.out).2.1
              obtain ⟨i32, hi32, hi32'⟩ := Option.map_eq_some_iff.1 info32
              have hsz : i32.size = 2 := by simp at hi32'; exact hi32'.2.1
              have hcut1 := cut_to (P := Try.prog) 28 32 .i64 Try.underlying28 hi32 (some ⟨b3, 0, none⟩) zs.length c3 (a : Int) (by omega) (by omega) hcap
              have hcut2 := cut_from (P := Try.prog) 28 32 .i64 Try.underlying28 hi32 2 hsz (some ⟨b3, 0, none⟩) zs.length c3 ((a : Int) + 1) (by omega) (by omega)
              have HC1 := Aside0.mk (Kd.C_take (Kd.R_reads' HN7.out).2.2 (m := a) (by omega))
              have HC2 := Kd.C_drop (Kd.R_reads' HN7.out).2.2 (m := a + 1) (by omega) hcap
              rw [Int.toNat_natCast] at hcut1
              rw [show ((a : Int) + 1).toNat = a + 1 by omega] at hcut2
              obtain ⟨A5, hA5⟩ : ∃ A5, A5 = (if c3 = a + 1 then (some ⟨b3, 0, none⟩ : Option Addr) else (some (⟨b3, 0, none⟩ : Addr)).map (·.add ((a + 1) * 2))) := ⟨_, rfl⟩
              rw [← hA5] at hcut2
              have HC2' : Aside0 (Kd.C kp w4 A5 (zs.length - (a + 1)) (zs.drop (a + 1))) := ⟨by
                rw [hA5]
                have := HC2
                rw [List.length_drop] at this
                exact this⟩
              obtain ⟨n5, hn5⟩ : ∃ n5, n5 = zs.length - (a + 1) := ⟨_, rfl⟩
              obtain ⟨c5, hc5⟩ : ∃ c5, c5 = c3 - (a + 1) := ⟨_, rfl⟩
              rw [← hn5] at HC2' hcut2
              rw [← hc5] at hcut2
              have Hn5 := Aside0.mk hn5
              have Hza := Aside0.mk hza
              have htl : (zs.take a).length = a := by rw [List.length_take]; omega
              have Htl := Aside0.mk htl
              have hwr : IntKind.i64.wrap ((a : Int) + 1) = (a : Int) + 1 := IntWalk.i64_in _ (by omega)
              clear HC2 hA5 hn5 hc5 hcap hsz hi32' hza htl
              go_wp2_with fail
              go_region_held3 (fun _ => True) (trivial)
                (first | ((refine rows_step rfl (.const (.slice none 0 0)) (.tmp 137) rfl w4 _ (.slice none 0 0) [] (zs.take a) (some ⟨b3, 0, none⟩) a c3 rfl rfl (Kd.R_nil _ _ _ _ _) ?aC ?aB ?aL ?_); (case aC => (have h := HC1.out; rw [Htl.out] at h; first | exact h | exact Kd.C_drew h)); (case aB => first | exact Below.refl _ _ | exact (Below.refl _ _).drew); (case aL => (have := Hza.out; simp; omega)); intro A6 c6 n6 w6 hn6 hN8 hB8; have Hn6 := Aside0.mk hn6; clear hn6; have hS' : True := trivial) | ((refine rows_step rfl (.tmp 138) (.tmp 142) rfl w4 _ (.slice A6 n6 c6) ([] ++ zs.take a) (zs.drop (a + 1)) A5 n5 c5 rfl rfl hN8 ?aC ?aB ?aL ?_); (case aC => exact Kd.C_below HC2'.out hB8); (case aB => exact hB8); (case aL => (have := Hza.out; have := Hn5.out; have := Htl.out; simp; omega)); intro A9 c9 n9 w9 hn9 hN9 hB9; have Hn9 := Aside0.mk hn9; clear hn9; have hS'' : True := trivial))
              have hBs : B ≤ w4.heap.size := hP7.out.size
              have hP10 := Aside0.mk (hP7.out.below hB9)
              have hO10 := Aside0.mk (hO7.out.below hB9)
              have hB10 := Aside0.mk (hB7.out.trans (hB9.mono hBs))
              obtain ⟨zs2, hzs2⟩ : ∃ zs2, zs2 = zs.take a ++ zs.drop (a + 1) := ⟨_, rfl⟩
              have hn2 : n9 = zs2.length := by
                have h1 := Hn9.out
                have h2 := Hn5.out
                rw [hzs2, List.length_append, List.length_drop, ← h2, h1]
                rfl
              have hN10 : Aside0 (Now w9 B (.slice A9 zs2.length c9) zs2) := ⟨by
                rw [← hn2, hzs2]
                exact Kd.R_lower hN9 hBs⟩
              have hpm2 : Aside0 ((rest ys).Perm zs2) := ⟨by rw [hzs2]; exact HPR.out⟩
              have hlz : zs2.length ≤ i := by
                have h1 := Hn5.out
                have h2 := Htl.out
                have h3 := Hza.out
                have h4 := hzl.out
                rw [hzs2, List.length_append, List.length_drop, h2]
                omega
              have Hlz := Aside0.mk hlz
              have hlz5 : (zs2.length : Int) ≤ 200 := by omega
              have Hrl : Aside0 ((rest ys).length = zs2.length) := ⟨hpm2.out.length_eq⟩
              subst hn2
              clear hzs2 hlz hN9 hN8 hB8 hB9 x0 x1 hcut1 hcut2 hwr heq hBs Hn6 Hn9
              go_wp2_with fail
              refine (len_any _ _ _ _ _ _ hP10.out).mono ?_
              rintro e w11 ⟨rfl, rfl⟩
              rw [Hrl.out]
              go_wp2
              go_roundg m
              case measure => omega
              case rel => exact ⟨i + 1, A1, A2', A9, c1, c2', c9, _, _, zs2, rfl, by go_num, hP10, hO10, hD6, hN10, hB10, ⟨by omega⟩, ⟨by have := hk.out; omega⟩, HIH, hpm2, hol2, ⟨by have := Hlz.out; omega⟩⟩
    · go_wp2
      go_ret
      exact ⟨rfl, HBB.out _ hB.out⟩
end Go.Proofs.Ytoeglogbjcdmlaa.Heap
