/- The walk of Pop. Condition: at most 100001 pairs. -/
import Derived.Test.YtoeglogbjcdmlaaHeapLeast
namespace Go.Proofs.Ytoeglogbjcdmlaa.Heap
open Go.RowKit Go.Proofs.YtoeglogbjcdmlaaW.PrintWords Go.Proofs.YtoeglogbjcdmlaaW.PrintMore Go.Proofs.YtoeglogbjcdmlaaW.PrintLast Go.Proofs.Ytoeglogbjcdmlaa.PHeapSorts

/-- A pair goes down. -/
def down : Nat → List (Int × Int) → Nat → List (Int × Int)
  | 0, xs, _ => xs
  | f + 1, xs, i => if least xs i = i then xs else down f (swp xs i (least xs i)) (least xs i)
/-- What is left. -/
def rest (xs : List (Int × Int)) : List (Int × Int) := down (xs.length + 1) ((xs.set 0 (at_ xs (xs.length - 1))).take (xs.length - 1)) 0
theorem lst_range (xs : List (Int × Int)) (i : Nat) : ∀ (f k best : Nat), i ≤ k → i ≤ best → best < xs.length → i ≤ lst f xs i k best ∧ lst f xs i k best < xs.length
  | 0, k, best, _, h1, h2 => ⟨h1, h2⟩
  | f + 1, k, best, h0, h1, h2 => by
    rw [lst]
    split
    · rename_i h
      split
      · exact lst_range xs i f (k + 1) k (by omega) h0 h.2
      · exact lst_range xs i f (k + 1) best (by omega) h1 h2
    · exact ⟨h1, h2⟩
theorem least_range (xs : List (Int × Int)) (i : Nat) (hi : i < xs.length) : i ≤ least xs i ∧ least xs i < xs.length := lst_range xs i 3 (2 * i + 1) i (by omega) (Nat.le_refl _) hi
theorem down_stop (f : Nat) (xs : List (Int × Int)) (i : Nat) (h : least xs i = i) : down f xs i = xs := by
  cases f with
  | zero => rfl
  | succ f => rw [down, if_pos h]
theorem down_go (f : Nat) (xs : List (Int × Int)) (i : Nat) (h : ¬ least xs i = i) : down (f + 1) xs i = down f (swp xs i (least xs i)) (least xs i) := by rw [down, if_neg h]
theorem Hp.cut {w : World} {B g c m : Nat} {A : Option Addr} {xs : List (Int × Int)} (h : Hp w B g A c xs) (hm : m ≤ xs.length) :
    Hp (w.setCell ⟨g, 0, none⟩ (.slice A m c)) B g A c (xs.take m) ∧ Turns w (w.setCell ⟨g, 0, none⟩ (.slice A m c)) B g A A := by
  have hl : (xs.take m).length = m := by rw [List.length_take]; omega
  refine ⟨⟨?_, ?_, h.le⟩, ⟨(Below.refl B w).setCell h.le _, (Kept.refl w _).setCell (.inl (.inl rfl)) _, .inl rfl⟩⟩
  · rw [hl]
    exact blk_put h.blk 0 _ rfl
  · rw [hl]
    exact Kd.R_set (Kd.R_take h.row hm) h.blk (by decide) 0 _
theorem pop_cell {w w' : World} {B g b : Nat} {a : Nat} {j : Nat} {v : Value} (ht : Turns w w' B g (some ⟨b, 0, none⟩) (some ⟨b, 0, none⟩)) (hg : a ≠ g) (hb : a ≠ b) (hc : w.cell? ⟨a, j, none⟩ = some v) : w'.cell? ⟨a, j, none⟩ = some v :=
  cell_kept hc ht.kept (by
    rintro (h | h)
    · exact hg h
    · exact hb (Option.some.inj h))
theorem Hp.frz {w : World} {B g b c : Nat} {xs : List (Int × Int)} (h : Hp w B g (some ⟨b, 0, none⟩) c xs) (j : Nat) : w.frozen? ⟨b, j, none⟩ = false := by
  obtain ⟨cells, hb⟩ := Kd.R_typed h.row b rfl
  exact blk_frozen hb _
theorem pop_none (w : World) (B g : Nat) (A : Option Addr) (c : Nat) (h : Hp w B g A c []) : Calls Try.prog 7 #[.pointer (some ⟨g, 0, none⟩)] w fun e w' => e = .returned (.tuple #[.int .i64 0, .int .i64 0, .bool false]) ∧ w' = w := by
  go_enter Try.func7, Try.ntmps7
  go_wp2_with (go_at_call 8; refine (len_any _ B g A c [] h).mono ?_; rintro e w' ⟨rfl, rfl⟩)
  go_ret3
  exact ⟨rfl, rfl⟩
set_option maxHeartbeats 4000000 in
theorem pop_some (w : World) (B g : Nat) (A : Option Addr) (c : Nat) (xs : List (Int × Int)) (h : Hp w B g A c xs) (h0 : 0 < xs.length) (hlen : xs.length ≤ 100001) :
    Calls Try.prog 7 #[.pointer (some ⟨g, 0, none⟩)] w fun e w' => e = .returned (.tuple #[.int .i64 (at_ xs 0).1, .int .i64 (at_ xs 0).2, .bool true]) ∧ Hp w' B g A c (rest xs) ∧ Turns w w' B g A A := by
  obtain ⟨b, rfl⟩ := h.some_ h0
  obtain ⟨m, hm⟩ : ∃ m, xs.length = m + 1 := ⟨xs.length - 1, by omega⟩
  obtain ⟨p0, p1, p2, p3⟩ := h.elem 0 h0
  obtain ⟨q0, q1, q2, q3⟩ := h.elem m (by omega)
  have hc := h.cell
  have hf := h.frozen
  rw [hm] at hc
  obtain ⟨p, hp⟩ : ∃ p, p = at_ xs 0 := ⟨_, rfl⟩
  obtain ⟨q, hq⟩ : ∃ q, q = at_ xs m := ⟨_, rfl⟩
  rw [← hp] at p0 p1 ⊢
  rw [← hq] at q0 q1
  have hA : Hp (w.alloc (Obj.cells #[.int .i64 p.1, .int .i64 p.2] 40)) B g (some ⟨b, 0, none⟩) c xs := h.below (below_alloc (Below.refl _ _) _)
  have hc2 := hA.cell
  rw [hm] at hc2
  have hn1 : (w.alloc (Obj.cells #[.int .i64 p.1, .int .i64 p.2] 40)).cell? ⟨w.heap.size, 0, none⟩ = some (.int .i64 p.1) := World.cell?_alloc_at _ _ _ _ rfl
  have hn2 : (w.alloc (Obj.cells #[.int .i64 p.1, .int .i64 p.2] 40)).cell? ⟨w.heap.size, 1, none⟩ = some (.int .i64 p.2) := World.cell?_alloc_at _ _ _ _ rfl
  have hT0 : Below w.heap.size w (w.alloc (Obj.cells #[.int .i64 p.1, .int .i64 p.2] 40)) := below_alloc (Below.refl _ _) _
  have b1 : (m : Int) ≤ 100000 := by omega
  have hz : ¬ ((m : Int) + 1 = 0) := by omega
  have HH := Aside0.mk h
  have Hp_ := Aside0.mk hp
  have Hq_ := Aside0.mk hq
  have Hm := Aside0.mk hm
  clear hp hq hm
  go_enter Try.func7, Try.ntmps7
  go_wp2_with (go_at_call 8; refine (len_any _ B g (some ⟨b, 0, none⟩) c xs h).mono ?_; rintro e w' ⟨rfl, rfl⟩; rw [Hm.out])
  go_wp2_with fail
  generalize hw2 : w.alloc (Obj.cells #[.int .i64 p.1, .int .i64 p.2] 40) = w2 at hA hc2 hn1 hn2 hT0 ⊢
  have hab : w.heap.size ≠ b := fun e => by
    have := Kd.R_lt h.row b rfl
    omega
  have hag : w.heap.size ≠ g := fun e => by
    have := blk_lt h.blk
    omega
  have H0 := Aside0.mk h0
  clear p0 p1 p2 p3 q0 q1 q2 q3 hc hf
  obtain ⟨p0, p1, p2, p3⟩ := hA.elem 0 h0
  obtain ⟨q0, q1, q2, q3⟩ := hA.elem m (by have := Hm.out; omega)
  rw [← Hp_.out] at p0 p1
  rw [← Hq_.out] at q0 q1
  simp only [Nat.zero_mul, Nat.zero_add] at p0 p1 p2 p3
  have hAA := Aside0.mk hA
  have hBB := Aside0.mk h
  clear hA h
  go_region
  obtain ⟨hP3, hT3⟩ := hAA.out.put 0 H0.out q
  simp only [Nat.zero_mul, Nat.zero_add] at hP3 hT3
  have n1 := pop_cell hT3 hag hab hn1
  have n2 := pop_cell hT3 hag hab hn2
  generalize hw3 : (w2.setCell ⟨b, 0, none⟩ (.int .i64 q.1)).setCell ⟨b, 1, none⟩ (.int .i64 q.2) = w3 at hP3 hT3 n1 n2 ⊢
  have hP4 := hP3.drew
  have hT4 := hT3.drew
  have m1 : w3.drew.cell? ⟨w.heap.size, 0, none⟩ = some (.int .i64 p.1) := n1
  have m2 : w3.drew.cell? ⟨w.heap.size, 1, none⟩ = some (.int .i64 p.2) := n2
  generalize w3.drew = w4 at hP4 hT4 m1 m2 ⊢
  have hl4 : (xs.set 0 q).length = m + 1 := by rw [List.length_set]; exact Hm.out
  have hc4 := hP4.cell
  have hf4 := hP4.frozen
  have hcap := (Kd.R_reads' hP4.row).2.1
  rw [hl4] at hc4 hcap
  obtain ⟨i40, hi40, _⟩ := Option.map_eq_some_iff.1 info40
  have hcut := cut_to (P := Try.prog) 25 40 .i64 Try.underlying25 hi40 (some ⟨b, 0, none⟩) (m + 1) c (m : Int) (by omega) (by omega) hcap
  simp only [Int.toNat_natCast] at hcut
  clear hP3 hT3 n1 n2 hw3 hw2 hc2 hn1 hn2 p0 p1 p2 p3 q0 q1 q2 q3
  go_wp2
  obtain ⟨hP5, hT5⟩ := hP4.cut (m := m) (by omega)
  have n1 := pop_cell hT5 hag hab m1
  have n2 := pop_cell hT5 hag hab m2
  have hT6 := hT4.trans hT5
  obtain ⟨ys0, hys⟩ : ∃ ys, ys = (xs.set 0 q).take m := ⟨_, rfl⟩
  have hly : ys0.length = m := by rw [hys, List.length_take, hl4]; omega
  rw [← hys] at hP5
  obtain ⟨r, hr⟩ : ∃ r, r = down (m + 2) ys0 0 := ⟨_, rfl⟩
  have hrest : rest xs = r := by rw [hr, hys, rest, Hm.out, Hq_.out]; rfl
  have Hrest := Aside0.mk hrest
  clear hrest hcut hc4 hf4 hcap hl4 m1 m2 hT4 hP4
  go_loopg [7] (m + 2) (fun kq v7 w' => ∃ (i : Nat) (ys : List (Int × Int)), v7 = .int .i64 (i : Int) ∧ Aside0 (Hp w' B g (some ⟨b, 0, none⟩) c ys) ∧ Aside0 (Turns w2 w' B g (some ⟨b, 0, none⟩) (some ⟨b, 0, none⟩)) ∧ Aside0 (ys.length = m) ∧ Aside0 (i < m ∨ (m = 0 ∧ i = 0)) ∧ Aside0 (m < i + kq) ∧ Aside0 (down kq ys i = r) ∧ w'.cell? ⟨w.heap.size, 0, none⟩ = some (.int .i64 p.1) ∧ w'.cell? ⟨w.heap.size, 1, none⟩ = some (.int .i64 p.2))
  case atStart => exact ⟨0, ys0, rfl, ⟨hP5⟩, ⟨hT6⟩, ⟨hly⟩, ⟨by omega⟩, ⟨by omega⟩, ⟨hr.symm⟩, n1, n2⟩
  case round =>
    clear n1 n2 hP5 hT5 hT6
    obtain ⟨i, ys, rfl, hP, hT, hL, hi, hk, hd, n1, n2⟩ := hrel
    obtain ⟨k, hkk⟩ : ∃ k, k = least ys i := ⟨_, rfl⟩
    have HK := Aside0.mk hkk
    have hle : Aside0 (∀ w', Below wr.heap.size wr w' → w'.cell? ⟨w.heap.size, 0, none⟩ = some (.int .i64 p.1) ∧ w'.cell? ⟨w.heap.size, 1, none⟩ = some (.int .i64 p.2)) := ⟨fun w' hb => ⟨(hb.cell (World.block_lt_of_cell? _ _ n1)).trans n1, (hb.cell (World.block_lt_of_cell? _ _ n2)).trans n2⟩⟩
    have hcall : Aside0 (Calls Try.prog 10 #[.pointer (some ⟨g, 0, none⟩), .int .i64 i] wr fun e w' => e = .returned (.int .i64 k) ∧ Below wr.heap.size wr w') := by
      constructor
      rw [hkk]
      rcases hi.out with h | ⟨h, h'⟩
      · exact least_any wr B g _ c ys i hP.out (by have := hL.out; omega) (by have := hL.out; omega)
      · have he : ys = [] := List.length_eq_zero_iff.1 (by have := hL.out; omega)
        subst he
        subst h'
        refine (least_nil wr B g _ c hP.out).mono ?_
        rintro e w' ⟨rfl, rfl⟩
        exact ⟨rfl, Below.refl _ _⟩
    clear hkk n1 n2
    go_wp2_with fail
    refine hcall.out.mono ?_
    rintro e w' ⟨rfl, hb⟩
    obtain ⟨n1, n2⟩ := hle.out w' hb
    have hP' := Aside0.mk (hP.out.below hb)
    have hT' := Aside0.mk (hT.out.below hP.out.size hb)
    clear hle hcall hb hP hT
    by_cases hki : k = i
    · subst hki
      go_wp2
      go_region
      go_wp2
      go_ret3
      have e := hd.out
      rw [down_stop _ _ _ HK.out.symm] at e
      rw [Hrest.out, ← e]
      have hT00 : Turns w w2 B g (some ⟨b, 0, none⟩) (some ⟨b, 0, none⟩) := ⟨hT0.mono hBB.out.size, Kept.of_below hT0 _, .inl rfl⟩
      exact ⟨rfl, hP'.out.drew, (hT00.trans hT'.out).drew⟩
    · have hne : ¬ ((k : Int) = (i : Int)) := by omega
      go_wp2_with fail
      have him : i < m := by
        rcases hi.out with h | ⟨h, h'⟩
        · exact h
        · exfalso
          have he : ys = [] := List.length_eq_zero_iff.1 (by have := hL.out; omega)
          apply hki
          rw [HK.out, he, h']
          rfl
      have hkm : i ≤ k ∧ k < m := by
        have := least_range ys i (by have := hL.out; omega)
        rw [← HK.out, hL.out] at this
        exact this
      have hc := hP'.out.cell
      rw [hL.out] at hc
      obtain ⟨a0, a1, z0, z1⟩ := hP'.out.elem i (by have := hL.out; omega)
      obtain ⟨d0, d1, z2, z3⟩ := hP'.out.elem k (by have := hL.out; omega)
      obtain ⟨x, hx⟩ : ∃ x, x = at_ ys i := ⟨_, rfl⟩
      obtain ⟨y, hy⟩ : ∃ y, y = at_ ys k := ⟨_, rfl⟩
      rw [← hx] at a0 a1
      rw [← hy] at d0 d1
      have Hx_ := Aside0.mk hx
      have Hy_ := Aside0.mk hy
      have Him := Aside0.mk him
      have Hkm := Aside0.mk hkm
      have Hki := Aside0.mk hki
      have b2 : (i : Int) < (m : Int) := by omega
      have b3 : (k : Int) < (m : Int) := by omega
      have N1 := Aside0.mk n1
      have N2 := Aside0.mk n2
      have hik : ¬ i = k := fun e => hki e.symm
      clear hx hy him hkm hne n1 n2
      go_region
      go_wp2
      obtain ⟨f, hf⟩ : ∃ f, gk = f + 1 := ⟨gk - 1, by have := hk.out; have := Him.out; omega⟩
      obtain ⟨hs, ht⟩ := hP'.out.swap i k (by have := hL.out; have := Him.out; omega) (by have := hL.out; have := Hkm.out; omega) x y Hx_.out Hy_.out
      have e := hd.out
      rw [hf, down_go _ _ _ (by rw [← HK.out]; exact Hki.out), ← HK.out] at e
      go_roundg f
      case measure => omega
      case rel =>
        exact ⟨k, swp ys i k, by go_num, ⟨hs⟩, ⟨hT'.out.trans ht⟩, ⟨by have := hL.out; simp [swp, this]⟩, ⟨.inl Hkm.out.2⟩, ⟨by have := hk.out; have := Hkm.out; have := Hki.out; omega⟩, ⟨e⟩, pop_cell ht hag hab N1.out, pop_cell ht hag hab N2.out⟩
end Go.Proofs.Ytoeglogbjcdmlaa.Heap
