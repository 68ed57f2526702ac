/- The walk of the law HeapSorts: true for every list of numbers. -/
import Derived.Test.YtoeglogbjcdmlaaHeapAlive
namespace Go.Proofs.Ytoeglogbjcdmlaa.Heap
open Go.RowKit Go.Proofs.YtoeglogbjcdmlaaW.PrintWords Go.Proofs.YtoeglogbjcdmlaaW.PrintMore Go.Proofs.YtoeglogbjcdmlaaW.PrintLast

/-- The first n pairs that are put in. -/
def firsts (l : List Int) (n : Nat) : List (Int × Int) := (List.range n).map (fun (j : Nat) => (rd l (j : Int), -(j : Int)))
theorem firsts_succ (l : List Int) (n : Nat) : firsts l (n + 1) = firsts l n ++ [(rd l (n : Int), -(n : Int))] := by simp [firsts, List.range_succ]
theorem firsts_length (l : List Int) (n : Nat) : (firsts l n).length = n := by simp [firsts]
theorem firsts_mem {l : List Int} {n : Nat} {q : Int × Int} (h : q ∈ firsts l n) : ∃ j : Nat, j < n ∧ q = (rd l (j : Int), -(j : Int)) := by
  simp only [firsts, List.mem_map, List.mem_range] at h
  obtain ⟨j, hj, rfl⟩ := h
  exact ⟨j, hj, rfl⟩
theorem firsts_nodup (l : List Int) (n : Nat) : (firsts l n).Nodup := by
  unfold firsts
  rw [List.nodup_iff_pairwise_ne, List.pairwise_map]
  refine List.Pairwise.imp ?_ (List.nodup_iff_pairwise_ne.1 List.nodup_range)
  intro a b hab e
  simp only [Prod.mk.injEq] at e
  omega
/-- What is known of the pairs that are still there, the last one popped being p (if any). -/
structure Left (l : List Int) (n i : Nat) (p : Int × Int) (ys : List (Int × Int)) : Prop where
  heap : IsHeap ys
  len : ys.length + i = n
  nodup : ys.Nodup
  mem : ∀ q, q ∈ ys → q ∈ firsts l n
  behind : 0 < i → ∀ q, q ∈ ys → ah p q = true
theorem Left.pop {l : List Int} {n i : Nat} {p : Int × Int} {ys : List (Int × Int)} (h : Left l n i p ys) (hi : i < n) : at_ ys 0 ∈ ys ∧ Left l n (i + 1) (at_ ys 0) (rest ys) := by
  have h0 : 0 < ys.length := by have := h.len; omega
  obtain ⟨a, b⟩ := rest_heap ys h.heap h0
  have hm : at_ ys 0 ∈ ys := b.mem_iff.1 (by simp)
  have hn : (at_ ys 0 :: rest ys).Nodup := b.nodup_iff.2 h.nodup
  have hsub : ∀ q, q ∈ rest ys → q ∈ ys := fun q hq => b.mem_iff.1 (by simp [hq])
  refine ⟨hm, a, ?_, (List.nodup_cons.1 hn).2, fun q hq => h.mem q (hsub q hq), fun _ q hq => ?_⟩
  · have := b.length_eq
    have := h.len
    simp at *
    omega
  · have h1 := first_least' ys h.heap q (hsub q hq)
    have h2 : q ≠ at_ ys 0 := fun e => (List.nodup_cons.1 hn).1 (e ▸ hq)
    rw [le_iff] at h1
    rw [ah_iff]
    have h3 : ¬ (q.1 = (at_ ys 0).1 ∧ q.2 = (at_ ys 0).2) := fun e => h2 (Prod.ext e.1 e.2)
    omega
theorem sorts_long (A : Option Addr) (cap : Nat) (l : List Int) (w : World) (hl : 500 < l.length) (hm : l.length ≤ 9223372036854775807) : Calls Try.prog 4 #[.slice A l.length cap] w fun e w' => e = .returned (.bool true) ∧ Below w.heap.size w w' := by
  go_enter Try.func4, Try.ntmps4
  go_wp2_with fail
  refine (alive_any _).mono ?_
  rintro e w' ⟨rfl, hb⟩
  go_wp2
  go_ret
  exact ⟨rfl, hb⟩
theorem ints_of {k : IntKind} {w : World} {A : Option Addr} {xs : List Int} (h : Kd.C (Kd.int k) w A xs.length xs) : ReadsInt w k A xs.length xs := by
  obtain ⟨h1, h2, h3⟩ := h
  refine ⟨h1, h2, fun hn => ?_⟩
  obtain ⟨ad, rfl, hc⟩ := h3 hn
  refine ⟨ad, rfl, fun j hj => ?_⟩
  obtain ⟨c, _, rfl, hcell⟩ := hc j _ (List.getElem?_eq_getElem hj)
  have := hcell 0 _ rfl
  simpa [Kd.int, Kd.scalar, hj] using this
set_option maxHeartbeats 4000000 in
theorem sorts_short (A : Option Addr) (cap : Nat) (l : List Int) (w : World) (hl : l.length ≤ 500) (hr : Kd.C (Kd.int .i64) w A l.length l) : Calls Try.prog 4 #[.slice A l.length cap] w fun e w' => e = .returned (.bool true) ∧ Below w.heap.size w w' := by
  obtain ⟨n, hn⟩ : ∃ n, n = l.length := ⟨_, rfl⟩
  have Hn := Aside0.mk hn
  rw [← hn] at hr hl ⊢
  have hln : (n : Int) ≤ 500 := by omega
  have hu27 := Try.underlying27
  have HR : Aside0 (∀ w', Below w.heap.size w w' → ReadsInt w' .i64 A n l) := ⟨fun w' hb => by
    have := ints_of (by rw [← hn]; exact Kd.C_below hr hb)
    rw [← hn] at this
    exact this⟩
  clear hn hr
  go_enter Try.func4, Try.ntmps4
  go_wp2_with fail
  refine (alive_any _).mono ?_
  rintro e w1 ⟨rfl, hb1⟩
  have HB1 := Aside0.mk hb1
  clear hb1
  go_wp2
  have hN := Aside0.mk (new_hp w1)
  have hB2 := Aside0.mk (below_alloc (Below.refl w1.heap.size w1) (.cells #[.slice none 0 0] 27))
  go_loopg [5] (n + 1) (fun kq v5 w' => ∃ (i : Nat) (A1 : Option Addr) (c1 : Nat) (ys : List (Int × Int)), v5 = .int .i64 (i : Int) ∧ Aside0 (Hp w' w1.heap.size w1.heap.size A1 c1 ys) ∧ Aside0 (Below w1.heap.size w1 w') ∧ Aside0 (i ≤ n) ∧ Aside0 (n < i + kq) ∧ Aside0 (IsHeap ys) ∧ Aside0 (ys.Perm (firsts l i)))
  case atStart => exact ⟨0, none, 0, [], rfl, hN, hB2, ⟨Nat.zero_le _⟩, ⟨by omega⟩, ⟨fun j _ h => by simp at h⟩, ⟨List.Perm.refl _⟩⟩
  case round =>
    obtain ⟨i, A1, c1, ys, rfl, hP, hB, hi, hk, hH, hpm⟩ := hrel
    clear hN hB2
    have hi5 : (i : Int) ≤ 500 := by have := hi.out; omega
    by_cases hlt : i < n
    · have hlt' : (i : Int) < (n : Int) := by omega
      obtain ⟨ad, rfl, hc⟩ := (HR.out _ (below_step HB1.out hB.out)).at_ (i : Int) (by omega) hlt'
      obtain ⟨x, hx⟩ : ∃ x, x = rd l (i : Int) := ⟨_, rfl⟩
      rw [← hx, Int.toNat_natCast] at hc
      have Hx := Aside0.mk hx
      clear hx
      go_wp2_with fail
      have hyl : ys.length = i := by rw [hpm.out.length_eq, firsts_length]
      refine (push_any _ _ _ _ _ _ _ _ hP.out (by omega)).mono ?_
      rintro e w2 ⟨rfl, A2, c2, hP2, hT2⟩
      go_wp2
      obtain ⟨a, b⟩ := push_heap ys (x, -(i : Int)) hH.out
      obtain ⟨m, hm⟩ : ∃ m, gk = m + 1 := ⟨gk - 1, by have := hk.out; omega⟩
      go_roundg m
      case measure => omega
      case rel =>
        exact ⟨i + 1, A2, c2, _, by go_num, ⟨hP2⟩, ⟨hB.out.trans hT2.bel⟩, ⟨by omega⟩, ⟨by have := hk.out; omega⟩, ⟨a⟩, ⟨by rw [firsts_succ, ← Hx.out]; exact b.trans (hpm.out.append_right _)⟩⟩
    · have hie : i = n := by have := hi.out; omega
      subst hie
      have hL : Left l i 0 (0, 0) ys := ⟨hH.out, by rw [hpm.out.length_eq, firsts_length]; rfl, hpm.out.nodup_iff.2 (firsts_nodup l i), fun q hq => hpm.out.mem_iff.1 hq, fun h => absurd h (by omega)⟩
      clear hi hk hH hpm
      go_wp2
      go_loopg [6, 7, 8] (i + 1) (fun kq v6 v7 v8 w' => ∃ (t : Nat) (A2 : Option Addr) (c2 : Nat) (zs : List (Int × Int)) (p : Int × Int), v6 = .int .i64 p.1 ∧ v7 = .int .i64 p.2 ∧ v8 = .int .i64 (t : Int) ∧ Aside0 (Hp w' w1.heap.size w1.heap.size A2 c2 zs) ∧ Aside0 (Below w1.heap.size w1 w') ∧ Aside0 (t ≤ i) ∧ Aside0 (i < t + kq) ∧ Aside0 (Left l i t p zs))
      case atStart => exact ⟨0, A1, c1, ys, (0, 0), rfl, rfl, by go_num, hP, hB, ⟨Nat.zero_le _⟩, ⟨by omega⟩, ⟨hL⟩⟩
      case round =>
        clear hP hB hL
        obtain ⟨t, A2, c2, zs, p, rfl, rfl, rfl, hP, hB, ht, hk, hL⟩ := hrel
        have ht5 : (t : Int) ≤ 500 := by have := ht.out; omega
        by_cases hlt : t < i
        · have hlt' : (t : Int) < (i : Int) := by omega
          obtain ⟨hm, hL2⟩ := hL.out.pop hlt
          obtain ⟨j, hj, hq⟩ := firsts_mem (hL.out.mem _ hm)
          have hlen := hL.out.len
          have hah : 0 < t → ah p (at_ zs 0) = true := fun h => hL.out.behind h _ hm
          obtain ⟨x, hx⟩ : ∃ x, x = rd l (j : Int) := ⟨_, rfl⟩
          rw [← hx] at hq
          rw [hq] at hL2 hah
          have HL2 := Aside0.mk hL2
          have HAH := Aside0.mk hah
          have hj' : (j : Int) < (i : Int) := by omega
          obtain ⟨m, hmm⟩ : ∃ m, gk = m + 1 := ⟨gk - 1, by have := hk.out; omega⟩
          have HC : Aside0 (∀ w', Below w.heap.size w w' → ∃ ad, A = some ad ∧ w'.cell? (ad.add j) = some (.int .i64 x)) := ⟨fun w' hb => by
            obtain ⟨ad, e, hc⟩ := (HR.out w' hb).at_ (j : Int) (by omega) hj'
            rw [← hx, Int.toNat_natCast] at hc
            exact ⟨ad, e, hc⟩⟩
          clear hm hL2 hah hx
          go_wp2_with fail
          refine (pop_some _ _ _ _ _ _ hP.out (by omega) (by omega)).mono ?_
          rintro e w2 ⟨rfl, hP2, hT2⟩
          rw [hq]
          have HB3 := Aside0.mk (hB.out.trans hT2.bel)
          have HP3 := Aside0.mk hP2
          obtain ⟨ad, rfl, hc⟩ := HC.out w2 (below_step HB1.out HB3.out)
          clear hP2 hT2 hP hB HC hq hlen
          have d1 : decide ((i : Int) ≤ (j : Int)) = false := decide_eq_false (by omega)
          by_cases h0 : t = 0
          · subst h0
            go_wp2
            go_roundg m
            case measure => omega
            case rel => exact ⟨0 + 1, A2, c2, _, (x, -(j : Int)), by rfl, by rfl, by go_num, HP3, HB3, ⟨by omega⟩, ⟨by have := hk.out; omega⟩, HL2⟩
          · have h0' : (0 : Int) < (t : Int) := by omega
            have hh := HAH.out (by omega)
            rw [ah_iff] at hh
            rcases hh with hh | ⟨hh, hh2⟩
            · have d2 : decide (x < p.1) = false := decide_eq_false (by simp at hh; omega)
              have d3 : (x == p.1) = false := beq_eq_false_iff_ne.2 (by simp at hh; omega)
              clear hh
              go_wp2
              go_roundg m
              case measure => omega
              case rel => exact ⟨t + 1, A2, c2, _, (x, -(j : Int)), by rfl, by rfl, by go_num, HP3, HB3, ⟨by omega⟩, ⟨by have := hk.out; omega⟩, HL2⟩
            · have d2 : decide (-(j : Int) ≤ p.2) = false := decide_eq_false (by simp at hh2; omega)
              simp at hh
              subst hh
              clear hh2
              go_wp2
              go_roundg m
              case measure => omega
              case rel => exact ⟨t + 1, A2, c2, _, (p.1, -(j : Int)), by rfl, by rfl, by go_num, HP3, HB3, ⟨by omega⟩, ⟨by have := hk.out; omega⟩, HL2⟩
        · have hie : t = i := by have := ht.out; omega
          subst hie
          have hz : zs = [] := List.length_eq_zero_iff.1 (by have := hL.out.len; omega)
          subst hz
          clear hL ht hk
          go_wp2_with (go_at_call 7; refine (pop_none _ _ _ _ _ hP.out).mono ?_; rintro e w' ⟨rfl, rfl⟩)
          go_ret
          exact ⟨rfl, below_step HB1.out hB.out⟩
end Go.Proofs.Ytoeglogbjcdmlaa.Heap
