/- The walk of gauss.Fold: what any bytes are folded to. Conditions: the slice reads as bytes. -/
import Derived.Test.YtdocfnomcbfbpaaGauss
import Derived.Test.YtdocfnomcbfbpaaWWords
namespace Go.Proofs.Ytdocfnomcbfbpaa.Gauss
open Go.RowKit Go.Proofs.Ytdocfnomcbfbpaa.Flt Go.Proofs.YtdocfnomcbfbpaaW.PrintWords

def Byt (b : List Int) : Prop := ∀ c, c ∈ b → 0 ≤ c ∧ c < 256
/-- One byte more. -/
def step (p : Int × Int) (c : Int) : Int × Int := (md (md (p.1 * 3 - p.2 * 2) + c), md (md (p.1 * 2 + p.2 * 3) + 1))
def fold (b : List Int) : Int × Int := b.foldl step (1, 0)
def In (p : Int × Int) : Prop := 0 ≤ p.1 ∧ p.1 ≤ 65520 ∧ 0 ≤ p.2 ∧ p.2 ≤ 65520
theorem step_in (p : Int × Int) (c : Int) : In (step p c) := by
  have h1 := md_range (md (p.1 * 3 - p.2 * 2) + c)
  have h2 := md_range (md (p.1 * 2 + p.2 * 3) + 1)
  exact ⟨h1.1, h1.2, h2.1, h2.2⟩
theorem fold_snoc (b : List Int) (c : Int) : fold (b ++ [c]) = step (fold b) c := by
  unfold fold
  rw [List.foldl_append]
  rfl
theorem fold_in (b : List Int) : In (fold b) := by
  rcases List.eq_nil_or_concat b with rfl | ⟨l, c, rfl⟩
  · exact ⟨by decide, by decide, by decide, by decide⟩
  · rw [List.concat_eq_append, fold_snoc]
    exact step_in _ _
/-- The complex number of a pair. -/
def cx (p : Int × Int) : Value := .complex .f64 (floatOfInt .f64 p.1) (floatOfInt .f64 p.2)
theorem tells_in (n : Int) (h0 : 0 ≤ n) (h1 : n ≤ 65520) : Tells (floatOfInt .f64 n) true := by
  have := whole_F n (by omega) (by omega)
  rwa [decide_eq_true ⟨h0, h1⟩] at this
theorem rep_in (n : Int) (h0 : 0 ≤ n) (h1 : n ≤ 1000000) : Rep (floatOfInt .f64 n) n := rep_F n (by omega)
theorem l1 : (4607182418800017408 : Nat) = floatOfInt .f64 1 := by decide
theorem l2 : (4611686018427387904 : Nat) = floatOfInt .f64 2 := by decide
theorem l3 : (4613937818241073152 : Nat) = floatOfInt .f64 3 := by decide
theorem l8 : (4620693217682128896 : Nat) = floatOfInt .f64 8 := by decide
theorem l65517 : (4679237401497829376 : Nat) = floatOfInt .f64 65517 := by decide
theorem l0 : (0 : Nat) = floatOfInt .f64 0 := by decide
/-- The product of two pairs that are whole numbers within. -/
def mulP (p q : Int × Int) : Int × Int := (md (p.1 * q.1 - p.2 * q.2), md (p.1 * q.2 + p.2 * q.1))
theorem mulP_in (p q : Int × Int) : In (mulP p q) := by
  have h1 := md_range (p.1 * q.1 - p.2 * q.2)
  have h2 := md_range (p.1 * q.2 + p.2 * q.1)
  exact ⟨h1.1, h1.2, h2.1, h2.2⟩
theorem mul_cx (p q : Int × Int) (hp : In p) (hq : In q) (w : World) : Calls Try.prog 8 #[cx p, cx q] w fun e w' => e = .returned (cx (mulP p q)) ∧ w = w' := by
  obtain ⟨a0, a1, b0, b1⟩ := hp
  obtain ⟨c0, c1, d0, d1⟩ := hq
  exact mul_yes _ _ _ _ _ _ _ _ (rep_in _ a0 (by omega)) (rep_in _ b0 (by omega)) (rep_in _ c0 (by omega)) (rep_in _ d0 (by omega)) (tells_in _ a0 a1) (tells_in _ b0 b1) (tells_in _ c0 c1) (tells_in _ d0 d1) a0 a1 b0 b1 c0 c1 d0 d1 w
theorem turn_cx : cx (3, 2) = .complex .f64 4613937818241073152 4611686018427387904 := by
  unfold cx
  rw [l3, l2]
theorem mul_turn (p : Int × Int) (hp : In p) (w : World) : Calls Try.prog 8 #[.complex .f64 (floatOfInt .f64 p.1) (floatOfInt .f64 p.2), .complex .f64 4613937818241073152 4611686018427387904] w fun e w' => e = .returned (.complex .f64 (floatOfInt .f64 (md (p.1 * 3 - p.2 * 2))) (floatOfInt .f64 (md (p.1 * 2 + p.2 * 3)))) ∧ w = w' := by
  have h := mul_cx p (3, 2) hp ⟨by decide, by decide, by decide, by decide⟩ w
  rw [turn_cx] at h
  exact h
theorem sum_bits (m n c : Int) (hm : 0 ≤ m ∧ m ≤ 65520) (hn : 0 ≤ n ∧ n ≤ 65520) (hc : 0 ≤ c ∧ c < 256) : cSumBits .add .f64 (floatOfInt .f64 m) (floatOfInt .f64 n) (floatOfInt .f64 c) 4607182418800017408 = some (floatOfInt .f64 (m + c), floatOfInt .f64 (n + 1)) := by
  have h1 : floatBits .add .f64 (floatOfInt .f64 m) (floatOfInt .f64 c) = some (floatOfInt .f64 (m + c)) := add_is (rep_in m hm.1 (by omega)) (rep_in c hc.1 (by omega)) (by omega)
  have h2 : floatBits .add .f64 (floatOfInt .f64 n) 4607182418800017408 = some (floatOfInt .f64 (n + 1)) := by
    rw [l1]
    exact add_is (rep_in n hn.1 (by omega)) (rep_in 1 (by omega) (by omega)) (by omega)
  unfold cSumBits
  rw [h1, Option.bind_some, h2, Option.bind_some]
set_option maxHeartbeats 1000000 in
theorem fold_any (A : Option Addr) (cap : Nat) (xs : List Int) (w : World) (hr : ReadsInt w .u8 A xs.length xs) (hB : Byt xs) :
    Calls Try.prog 9 #[.slice A xs.length cap] w fun e w' => e = .returned (cx (fold xs)) ∧ w = w' := by
  have HR := Lib.hid hr
  have HB := Lib.hid hB
  have hm : xs.length ≤ 9223372036854775807 := hr.2.1
  clear hr hB
  have HS : Hid (.complex .f64 4607182418800017408 0 = cx (fold [])) := by
    show _ = Value.complex .f64 (floatOfInt .f64 1) (floatOfInt .f64 0)
    rw [← l1, ← l0]
  go_enter Try.func9, Try.ntmps9
  go_wp2
  go_loop [3, 8] (fun x i => ∃ k : Nat, k ≤ xs.length ∧ i = .int .i64 k ∧ x = cx (fold (xs.take k))) (fun _ i => xs.length - (intOf i).toNat)
  case atStart => exact ⟨0, Nat.zero_le _, rfl, HS.out⟩
  case round =>
    obtain ⟨k, hk, rfl, rfl⟩ := hrel
    obtain ⟨p, hp⟩ : ∃ p, p = fold (xs.take k) := ⟨_, rfl⟩
    have hin : In p := by rw [hp]; exact fold_in _
    have HP := Lib.hid hp
    rw [← hp]
    clear hp
    by_cases hlt : k < xs.length
    · obtain ⟨ad, hA, hc⟩ := HR.out.at_ (k : Int) (by omega) (by omega)
      subst hA
      obtain ⟨c, hcv⟩ : ∃ c, c = rd xs (k : Int) := ⟨_, rfl⟩
      rw [← hcv, Int.toNat_natCast] at hc
      have hcm : c = xs[k] := by
        rw [hcv]
        unfold rd
        simp [hlt]
      have hcb : 0 ≤ c ∧ c < 256 := by
        rw [hcm]
        exact HB.out _ (List.getElem_mem hlt)
      have HN : Hid (fold (xs.take (k + 1)) = step p c) := by
        rw [List.take_succ_eq_append_getElem hlt, fold_snoc, ← HP.out, hcm]
        exact rfl
      obtain ⟨m, hmv⟩ : ∃ m, m = md (p.1 * 3 - p.2 * 2) := ⟨_, rfl⟩
      obtain ⟨n, hnv⟩ : ∃ n, n = md (p.1 * 2 + p.2 * 3) := ⟨_, rfl⟩
      have hmb : 0 ≤ m ∧ m ≤ 65520 := by rw [hmv]; exact md_range _
      have hnb : 0 ≤ n ∧ n ≤ 65520 := by rw [hnv]; exact md_range _
      have HM := Lib.hid (mul_turn p hin)
      have HE : Hid (cx (step p c) = .complex .f64 (floatOfInt .f64 (md (m + c))) (floatOfInt .f64 (md (n + 1)))) := by
        rw [hmv, hnv]
        exact rfl
      have HM2 : Hid (∀ w, Calls Try.prog 8 #[.complex .f64 (floatOfInt .f64 p.1) (floatOfInt .f64 p.2), .complex .f64 4613937818241073152 4611686018427387904] w fun e w' => e = .returned (.complex .f64 (floatOfInt .f64 m) (floatOfInt .f64 n)) ∧ w = w') := by
        rw [hmv, hnv]
        exact HM.out
      have hop : ∀ w, (binOp .add 23 (.complex .f64 (floatOfInt .f64 m) (floatOfInt .f64 n)) (.complex .f64 (floatOfInt .f64 c) 4607182418800017408)).run Try.prog w = .ok (.complex .f64 (floatOfInt .f64 (m + c)) (floatOfInt .f64 (n + 1))) w := fun w => run_complex_sum w .add (Or.inl rfl) 23 .f64 _ _ _ _ _ _ (sum_bits m n c hmb hnb hcb)
      have R1 := Lib.hid (rep_in (m + c) (by omega) (by omega))
      have R2 := Lib.hid (rep_in (n + 1) (by omega) (by omega))
      have g1 : -1000000000000 ≤ m + c := by omega
      have g2 : m + c ≤ 1000000000000 := by omega
      have g3 : -1000000000000 ≤ n + 1 := by omega
      have g4 : n + 1 ≤ 1000000000000 := by omega
      clear HM hmv hnv hcv hcm hin
      unfold cx
      go_wp2_with (first | (go_at_call 8; refine (HM2.out _).mono ?_; rintro e w' ⟨rfl, rfl⟩) | (go_at_call 14; refine (reduced_F _ _ _ _ R1.out R2.out g1 g2 g3 g4 _).mono ?_; rintro e w' ⟨rfl, rfl⟩))
      go_round
      case rel => exact ⟨k + 1, by omega, by go_num, by rw [HN.out]; exact HE.out.symm⟩
      case measure => simp [intOf]; omega
    · go_wp2
      go_ret
      exact ⟨by rw [HP.out, List.take_of_length_le (by omega)]; rfl, rfl⟩
end Go.Proofs.Ytdocfnomcbfbpaa.Gauss
