/- SameSegs, SamePuts, SameNote at what is equal. -/
import Derived.Test.YtfohlaeahageaaaCopyPuts
namespace Go.Proofs.Ytfohlaeahageaaa.Edge
open Go.RowKit Go.Proofs.YtfohlaeahageaaaW.PrintWords Go.Proofs.YtfohlaeahageaaaW.PrintMore Go.Proofs.YtfohlaeahageaaaW.PrintLast

theorem seg_at {w : World} {A : Option Addr} {n : Nat} {xs : List SegT} (h : kSeg.C w A n xs) (i : Nat) (hi : i < xs.length) : ∃ ad, A = some ad ∧ w.cell? (ad.add (i * 2)) = some (.bool xs[i].1) ∧ w.cell? ⟨(ad.add (i * 2)).block, (ad.add (i * 2)).off + 1, none⟩ = some (.int .i64 xs[i].2) := by
  have hn : xs.length = n := h.1
  obtain ⟨ad, cs, e, hl, hK, hc⟩ := Kd.C_get h xs[i] (i : Int) (by omega) (by omega)
  rw [Int.toNat_natCast] at hK hc
  have e1 : xs.getD i xs[i] = xs[i] := by simp [List.getD_eq_getElem?_getD, hi]
  rw [e1] at hK
  obtain ⟨c0, c1, e2, e3, e4⟩ := hK
  have e3' : c0 = [.bool xs[i].1] := e3
  have e4' : c1 = [.int .i64 xs[i].2] := e4
  subst e3' e4' e2
  refine ⟨ad, e, hc 0 _ rfl, ?_⟩
  rw [← add_field ad (i * 2) 1 (by decide)]; exact hc 1 _ rfl
set_option maxHeartbeats 2000000 in
theorem samesegs_any (w : World) (A A' : Option Addr) (n c c' : Nat) (xs : List SegT) (hr : kSeg.C w A n xs) (hr' : kSeg.C w A' n xs) :
    Calls Try.prog 28 #[.slice A n c, .slice A' n c'] w fun e w' => e = .returned (.bool true) ∧ ∃ m, w' = w.drewN m := by
  have hxn : xs.length = n := hr.1
  have hm := hr.2.1
  have HR := Aside0.mk hr
  have HR' := Aside0.mk hr'
  have HN := Aside0.mk hxn
  clear hr hr' hxn
  go_enter Try.func28, Try.ntmps28
  go_wp2
  go_loopg [5] (n + 1) (fun kq v5 w' => ∃ (k : Nat), v5 = .int .i64 (k : Int) ∧ Drawn0 w w' ∧ Aside0 (k ≤ n) ∧ Aside0 (n < kq + k))
  case atStart => exact ⟨0, rfl, Drawn0.refl _, ⟨by omega⟩, ⟨by omega⟩⟩
  case round =>
    obtain ⟨k, rfl, hB, hkn, hkq⟩ := hrel
    by_cases h : k < n
    · have hb1 : (k : Int) < (n : Int) := by omega
      have hnb : (n : Int) ≤ 9223372036854775807 := by omega
      have hk : k < xs.length := by have := HN.out; omega
      obtain ⟨ad, rfl, p0, p1⟩ := seg_at (Kd.C_below HR.out hB.below) k hk
      obtain ⟨ad', rfl, q0, q1⟩ := seg_at (Kd.C_below HR'.out hB.below) k hk
      obtain ⟨x, hx⟩ : ∃ x, x = xs[k] := ⟨_, rfl⟩
      obtain ⟨a, b⟩ := x
      rw [← hx] at p0 p1 q0 q1
      dsimp only at p0 p1 q0 q1
      clear hx hk
      go_wp2_with fail
      go_region
      go_wp2
      obtain ⟨mk, hmk⟩ : ∃ mk, gk = mk + 1 := ⟨gk - 1, by have := hkq.out; omega⟩
      go_roundg mk
      case measure => omega
      case rel => exact ⟨k + 1, by go_num, hB.step 1, ⟨by omega⟩, ⟨by have := hkq.out; omega⟩⟩
    · have hb1 : ¬ (k : Int) < (n : Int) := by omega
      go_wp2
      go_ret
      exact ⟨rfl, hB.out⟩
set_option maxHeartbeats 8000000 in
theorem sameputs_any (w : World) (A A' : Option Addr) (n c c' : Nat) (xs : List PutT) (hr : kPut.C w A n xs) (hr' : kPut.C w A' n xs) :
    Calls Try.prog 15 #[.slice A n c, .slice A' n c'] w fun e w' => e = .returned (.bool true) ∧ ∃ m, w' = w.drewN m := by
  have hxn : xs.length = n := hr.1
  have hm := hr.2.1
  have HR := Aside0.mk hr
  have HR' := Aside0.mk hr'
  have HN := Aside0.mk hxn
  clear hr hr' hxn
  go_enter Try.func15, Try.ntmps15
  go_wp2
  go_loopg [5] (n + 1) (fun kq v5 w' => ∃ (k : Nat), v5 = .int .i64 (k : Int) ∧ Drawn0 w w' ∧ Aside0 (k ≤ n) ∧ Aside0 (n < kq + k))
  case atStart => exact ⟨0, rfl, Drawn0.refl _, ⟨by omega⟩, ⟨by omega⟩⟩
  case round =>
    obtain ⟨k, rfl, hB, hkn, hkq⟩ := hrel
    by_cases h : k < n
    · have hb1 : (k : Int) < (n : Int) := by omega
      have hnb : (n : Int) ≤ 9223372036854775807 := by omega
      have hk : k < xs.length := by have := HN.out; omega
      obtain ⟨ad, B, m, rfl, p0, p1, p2, p3, p4, hle, hC⟩ := put_at (Kd.C_below HR.out hB.below) k hk
      obtain ⟨ad', B', m', rfl, q0, q1, q2, q3, q4, hle', hC'⟩ := put_at (Kd.C_below HR'.out hB.below) k hk
      obtain ⟨x, hx⟩ : ∃ x, x = xs[k] := ⟨_, rfl⟩
      obtain ⟨nm, a, b, ls, bo⟩ := x
      rw [← hx] at p0 p1 p2 p3 p4 q0 q1 q2 q3 q4 hC hC'
      dsimp only at p0 p1 p2 p3 p4 q0 q1 q2 q3 q4 hC hC'
      obtain ⟨L, hL⟩ : ∃ L, L = ls.length := ⟨_, rfl⟩
      rw [← hL] at p3 q3 hC hC'
      have HC := Aside0.mk hC
      have HC' := Aside0.mk hC'
      clear hle hle' hx hk hL hC hC'
      go_wp2_with fail
      go_quiet ((go_at_call 28; refine Calls.quiet_of (samesegs_any _ B B' L m m' ls ?_ ?_); exact Kd.C_below HC.out ((Drawn0.refl _).step _).below; exact Kd.C_below HC'.out ((Drawn0.refl _).step _).below))
      go_wp2
      obtain ⟨mk, hmk⟩ : ∃ mk, gk = mk + 1 := ⟨gk - 1, by have := hkq.out; omega⟩
      go_roundg mk
      case measure => omega
      case rel => exact ⟨k + 1, by go_num, hB.step _, ⟨by omega⟩, ⟨by have := hkq.out; omega⟩⟩
    · have hb1 : ¬ (k : Int) < (n : Int) := by omega
      go_wp2
      go_ret
      exact ⟨rfl, hB.out⟩
set_option maxHeartbeats 2000000 in
theorem samenote_any (w : World) (A A' : Option Addr) (n c c' : Nat) (a b : Int) (o : Bool) (xs : List PutT) (hr : kPut.C w A n xs) (hr' : kPut.C w A' n xs) :
    Calls Try.prog 13 #[.agg #[.int .i64 a, .int .i64 b, .bool o, .slice A n c], .agg #[.int .i64 a, .int .i64 b, .bool o, .slice A' n c']] w fun e w' => e = .returned (.bool true) ∧ Below w.heap.size w w' := by
  have HR := Aside0.mk hr
  have HR' := Aside0.mk hr'
  clear hr hr'
  go_enter Try.func13, Try.ntmps13
  go_wp2_with fail
  refine (sameputs_any _ A A' n c c' xs (Kd.C_alloc (Kd.C_alloc HR.out _) _) (Kd.C_alloc (Kd.C_alloc HR'.out _) _)).mono ?_
  rintro e w3 ⟨rfl, m, rfl⟩
  go_wp2
  go_ret
  exact ⟨rfl, pw_below_drewN (((Below.refl _ _).alloc (Nat.le_refl _) _).alloc (by simp) _) _⟩
end Go.Proofs.Ytfohlaeahageaaa.Edge
