/- Rows that are one: same and SameItems answer true. -/
import Derived.Test.YtgpeogbifpbcdaaTlvRep
import Derived.ChangeKeysEq
import Derived.RegionTactic
namespace Go.Proofs.Ytgpeogbifpbcdaa.Tlv
open Go.RowKit Go.Proofs.YtgpeogbifpbcdaaW.PrintWords Go.Proofs.YtgpeogbifpbcdaaW.PrintMore Go.Proofs.YtgpeogbifpbcdaaW.PrintLast Go.Proofs.Ytgpeogbifpbcdaa.PTlvTells

theorem info3 : (Try.prog.info? 3).map (fun i => i.size) = some 1 := by kernel_rfl
theorem cells3 : Try.prog.cellsOf 3 = 1 := by kernel_rfl
theorem pair_eq (a b : Int) (W : World) : (Op.equalIn 10000 48 (.agg #[.int .i64 a, .int .i64 b]) (.agg #[.int .i64 a, .int .i64 b])).run Try.prog W = .ok true W := by
  obtain ⟨i3, hi3, _⟩ := Option.map_eq_some_iff.1 info3
  have h := run_equalIn_array (w := W) (P := Try.prog) 9999 #[.int .i64 a, .int .i64 b] #[.int .i64 a, .int .i64 b] Try.underlying48 hi3
  refine Eq.trans h ?_
  rw [cells3]
  have hu := Try.underlying3
  have e : List.range 2 = [0, 1] := rfl
  simp [Op.eqItems, e, part, go_sem]
theorem link_at {w : World} {A : Option Addr} {n : Nat} {l : List (Int × Int)} (h : Kd.C kP w A n l) (i : Nat) (hi : i < l.length) : ∃ ad, A = some ad ∧ w.cell? (ad.add (i * 2)) = some (.int .i64 l[i].1) ∧ w.cell? ⟨(ad.add (i * 2)).block, (ad.add (i * 2)).off + 1, none⟩ = some (.int .i64 l[i].2) := by
  obtain ⟨ad, e, hc⟩ := h.2.2 (by have := h.1; omega)
  obtain ⟨c, _, hk, hcell⟩ := hc i _ (List.getElem?_eq_getElem hi)
  obtain ⟨c1, c2, e1, e2, e3⟩ := hk
  have f2 : c1 = [.int .i64 l[i].1] := e2
  have f3 : c2 = [.int .i64 l[i].2] := e3
  subst f2 f3
  subst e1
  exact ⟨ad, e, hcell 0 _ rfl, by rw [← add_field _ _ 1 (by omega)]; exact hcell 1 _ rfl⟩
set_option maxHeartbeats 1000000 in
theorem same_any (w : World) (A1 A2 : Option Addr) (c1 c2 n : Nat) (l : List (Int × Int)) (h1 : Kd.C kP w A1 n l) (h2 : Kd.C kP w A2 n l) (hl : n ≤ 1000000) :
    Calls Try.prog 16 #[.slice A1 n c1, .slice A2 n c2] w fun e w' => e = .returned (.bool true) ∧ Drawn0 w w' := by
  have H1 := Aside0.mk h1
  have H2 := Aside0.mk h2
  have hn5 : (n : Int) ≤ 1000000 := by omega
  have HN : Aside0 (l.length = n) := ⟨h1.1⟩
  have hu48 := Try.underlying48
  clear h1 h2
  go_enter Try.func16, Try.ntmps16
  go_wp2
  go_loopg [5] (n + 1) (fun kq v5 w' => ∃ k : Nat, v5 = .int .i64 (k : Int) ∧ Aside0 (Drawn0 w w') ∧ Aside0 (k ≤ n) ∧ Aside0 (n < k + kq))
  case atStart => exact ⟨0, by go_num, ⟨Drawn0.refl _⟩, ⟨Nat.zero_le _⟩, ⟨by omega⟩⟩
  case round =>
    obtain ⟨k, rfl, hd, hk, hkq⟩ := hrel
    have hk5 : (k : Int) ≤ 1000000 := by have := hk.out; omega
    obtain ⟨q, rfl⟩ := hd.out.out
    by_cases hlt : k < n
    · have hlt' : (k : Int) < (n : Int) := by omega
      have hkl : k < l.length := by have := HN.out; omega
      obtain ⟨a1, rfl, p0, p1⟩ := link_at H1.out k hkl
      obtain ⟨a2, rfl, q0, q1⟩ := link_at H2.out k hkl
      obtain ⟨f, hf⟩ : ∃ f, gk = f + 1 := ⟨gk - 1, by have := hkq.out; omega⟩
      have hpe := pair_eq l[k].1 l[k].2
      generalize l[k] = x at p0 p1 q0 q1 hpe
      obtain ⟨x, y⟩ := x
      dsimp only at p0 p1 q0 q1 hpe
      go_wp2
      go_quiet (fail)
      go_wp2
      go_roundg f
      case measure => omega
      case rel => exact ⟨k + 1, by go_num, ⟨⟨⟨_, rfl⟩⟩⟩, ⟨by omega⟩, ⟨by have := hkq.out; omega⟩⟩
    · go_wp2
      go_ret
      exact ⟨rfl, hd.out⟩
set_option maxHeartbeats 1000000 in
theorem items_any (w : World) (A1 A2 : Option Addr) (c1 c2 n : Nat) (l : List S26) (h1 : Kd.C k26 w A1 n l) (h2 : Kd.C k26 w A2 n l) (hl : n ≤ 1000000) :
    Calls Try.prog 15 #[.slice A1 n c1, .slice A2 n c2] w fun e w' => e = .returned (.bool true) ∧ Drawn0 w w' := by
  have H1 := Aside0.mk h1
  have H2 := Aside0.mk h2
  have hn5 : (n : Int) ≤ 1000000 := by omega
  have HN : Aside0 (l.length = n) := ⟨h1.1⟩
  have hu26 := Try.underlying26
  clear h1 h2
  go_enter Try.func15, Try.ntmps15
  go_wp2
  go_loopg [5] (n + 1) (fun kq v5 w' => ∃ k : Nat, v5 = .int .i64 (k : Int) ∧ Aside0 (Drawn0 w w') ∧ Aside0 (k ≤ n) ∧ Aside0 (n < k + kq))
  case atStart => exact ⟨0, by go_num, ⟨Drawn0.refl _⟩, ⟨Nat.zero_le _⟩, ⟨by omega⟩⟩
  case round =>
    obtain ⟨k, rfl, hd, hk, hkq⟩ := hrel
    have hk5 : (k : Int) ≤ 1000000 := by have := hk.out; omega
    obtain ⟨q, rfl⟩ := hd.out.out
    by_cases hlt : k < n
    · have hlt' : (k : Int) < (n : Int) := by omega
      have hkl : k < l.length := by have := HN.out; omega
      obtain ⟨a1, B1, d1, rfl, p0, p1, _, pC⟩ := at_T26 H1.out (k : Int) (by omega) hlt'
      obtain ⟨a2, B2, d2, rfl, q0, q1, _, qC⟩ := at_T26 H2.out (k : Int) (by omega) hlt'
      rw [Int.toNat_natCast] at p0 p1 q0 q1
      obtain ⟨f, hf⟩ : ∃ f, gk = f + 1 := ⟨gk - 1, by have := hkq.out; omega⟩
      generalize rd_T26 l (k : Int) = x at p0 p1 q0 q1 pC qC
      have s1 : ∀ q, (convert 23 9 (.slice B1 x.f1.length d1)).run Try.prog (w.drewN q) = .ok (.string (strOfNums x.f1)) (w.drewN q) := fun q => Kd.C_string Try.underlying23 Try.underlying5 Try.underlying9 (Kd.C_drewN pC q)
      have s2 : ∀ q, (convert 23 9 (.slice B2 x.f1.length d2)).run Try.prog (w.drewN q) = .ok (.string (strOfNums x.f1)) (w.drewN q) := fun q => Kd.C_string Try.underlying23 Try.underlying5 Try.underlying9 (Kd.C_drewN qC q)
      clear pC qC
      generalize x.f1.length = m at p1 q1 s1 s2
      generalize strOfNums x.f1 = st at s1 s2
      generalize x.f0 = t0 at p0 q0
      go_wp2
      go_quiet (fail)
      go_wp2
      go_roundg f
      case measure => omega
      case rel => exact ⟨k + 1, by go_num, ⟨⟨⟨_, rfl⟩⟩⟩, ⟨by omega⟩, ⟨by have := hkq.out; omega⟩⟩
    · go_wp2
      go_ret
      exact ⟨rfl, hd.out⟩
end Go.Proofs.Ytgpeogbifpbcdaa.Tlv
