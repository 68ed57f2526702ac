/- The printed functions of the law FibTells tell true for every graph, segment, label, list and stack. Condition: labels are whole numbers of 64 bits. -/
import Derived.Test.YtpmdldholgjklaaPlainFibTells
namespace Go.Proofs.Ytpmdldholgjklaa.Pure
open Go.RowKit Go.Proofs.Ytpmdldholgjklaa.PFibTells Go.Proofs.YtpmdldholgjklaaW.PrintWords Go.Proofs.YtpmdldholgjklaaW.PrintLast
open Go.Proofs.Ytpmdldholgjklaa.Bits Go.Proofs.Ytpmdldholgjklaa.PlainFibTells

theorem rlabel_j0 (k : Nat) (x b : Bool) (t : Int) : waymarkref11_Label.j0 (k + 1) x b t = some (if x = true then -1 else if b = true then wrap64 (24000 + t) else wrap64 (16000 + t)) := by
  simp only [waymarkref11_Label.j0]
  cases x <;> cases b <;> rfl
theorem rlabel_is (k : Nat) (hk : 0 < k) (b : Bool) (t : Int) : waymarkref11_Label.f k b t = some (lab b t) := by
  obtain ⟨k, rfl⟩ : ∃ m, k = m + 1 := ⟨k - 1, by omega⟩
  unfold waymarkref11_Label.f lab
  by_cases h0 : t < 0
  · rw [if_pos h0, rlabel_j0, if_pos rfl, if_neg (by omega)]
  · rw [if_neg h0]
    by_cases h1 : t > 240
    · rw [decide_eq_true h1, rlabel_j0, if_pos rfl, if_neg (by omega)]
    · rw [decide_eq_false h1, rlabel_j0, if_neg (by decide), if_pos (show 0 ≤ t ∧ t ≤ 240 by omega), wr64 (24000 + t) (by omega) (by omega), wr64 (16000 + t) (by omega) (by omega)]
theorem rcheck_j2 (k : Nat) (hk : 0 < k) (i : Int) (x : Bool) (n : Int) (ls : List S42) (l : S42) : waymarkref1_Check.j2 k i x n ls l.f0 l.f1 l.f2 l.f3 = if x = true then some (i, 4) else if 1 ≤ l.f2 ∧ l.f2 ≤ 16777216 ∧ 0 ≤ l.f3 ∧ l.f3 ≤ 62 then waymarkref1_Check.l0 (k - 1) (wrap64 (i + 1)) n ls else some (i, 1) := by
  obtain ⟨k, rfl⟩ : ∃ m, k = m + 1 := ⟨k - 1, by omega⟩
  simp only [waymarkref1_Check.j2]
  cases x with
  | true => rfl
  | false =>
    simp only [Bool.false_eq_true, if_false]
    by_cases h : 1 ≤ l.f2 ∧ l.f2 ≤ 16777216 ∧ 0 ≤ l.f3 ∧ l.f3 ≤ 62
    · rw [if_pos h, if_neg (by omega), if_neg (by omega), if_neg (by omega), if_neg (by omega)]
      rfl
    · rw [if_neg h]
      repeat' split
      all_goals first | rfl | omega
theorem rcheck_l0 (n : Int) (ls : List S42) (hl : ls.length ≤ 120) : ∀ (d k i : Nat), i + d = ls.length → 2 * d < k → waymarkref1_Check.l0 k (i : Int) n ls = some (chkL n i (ls.drop i)) := by
  intro d
  induction d with
  | zero =>
    intro k i hi hk
    obtain ⟨k, rfl⟩ : ∃ m, k = m + 1 := ⟨k - 1, by omega⟩
    simp only [waymarkref1_Check.l0]
    rw [if_neg (by omega), List.drop_of_length_le (by omega)]
    rfl
  | succ d ih =>
    intro k i hi hk
    obtain ⟨k, rfl⟩ : ∃ m, k = m + 1 := ⟨k - 1, by omega⟩
    have hlt : i < ls.length := by omega
    have e3 : ((i + 1 : Nat) : Int) = (i : Int) + 1 := by omega
    have hI := ih (k - 1) (i + 1) (by omega) (by omega)
    have J : ∀ x : Bool, waymarkref1_Check.j2 k (i : Int) x n ls ls[i].f0 ls[i].f1 ls[i].f2 ls[i].f3 = if x = true then some ((i : Int), 4) else if 1 ≤ ls[i].f2 ∧ ls[i].f2 ≤ 16777216 ∧ 0 ≤ ls[i].f3 ∧ ls[i].f3 ≤ 62 then some (chkL n ((i : Int) + 1) (ls.drop (i + 1))) else some ((i : Int), 1) := by
      intro x
      rw [rcheck_j2 k (by omega), step64 i (by omega), hI, e3]
    have hR : chkL n i (ls.drop i) = if linkE n ls[i] = 0 then chkL n ((i : Int) + 1) (ls.drop (i + 1)) else ((i : Int), linkE n ls[i]) := by
      rw [List.drop_eq_getElem_cons hlt, chkL]
    simp only [waymarkref1_Check.l0]
    rw [if_pos (by omega), if_pos (by omega), at42 ls i hlt, J, J, hR]
    unfold linkE
    by_cases h : (0 ≤ ls[i].f0 ∧ ls[i].f0 < n) ∧ (0 ≤ ls[i].f1 ∧ ls[i].f1 < n)
    · obtain ⟨⟨h1, h2⟩, h3, h4⟩ := h
      rw [if_neg (by omega), if_neg (by omega), if_neg (by omega), if_neg (by omega)]
      by_cases h5 : ls[i].f0 = ls[i].f1
      · rw [beq_iff_eq.2 h5, if_pos rfl, if_neg (show ¬ ((0 ≤ ls[i].f0 ∧ ls[i].f0 < n) ∧ (0 ≤ ls[i].f1 ∧ ls[i].f1 < n) ∧ ls[i].f0 ≠ ls[i].f1) from fun q => q.2.2 h5)]
        rfl
      · rw [beq_eq_false_iff_ne.2 h5, if_neg (show ¬ (false = true) by decide), if_pos (⟨⟨h1, h2⟩, ⟨h3, h4⟩, h5⟩ : (0 ≤ ls[i].f0 ∧ ls[i].f0 < n) ∧ (0 ≤ ls[i].f1 ∧ ls[i].f1 < n) ∧ ls[i].f0 ≠ ls[i].f1)]
        by_cases h6 : 1 ≤ ls[i].f2 ∧ ls[i].f2 ≤ 16777216 ∧ 0 ≤ ls[i].f3 ∧ ls[i].f3 ≤ 62
        · rw [if_pos h6, if_pos h6, if_pos rfl]
        · rw [if_neg h6, if_neg h6]
          rfl
    · have hn : ¬ ((0 ≤ ls[i].f0 ∧ ls[i].f0 < n) ∧ (0 ≤ ls[i].f1 ∧ ls[i].f1 < n) ∧ ls[i].f0 ≠ ls[i].f1) := fun q => h ⟨q.1, q.2.1⟩
      rw [if_neg hn]
      have e4 : (if (4 : Int) = 0 then chkL n ((i : Int) + 1) (ls.drop (i + 1)) else ((i : Int), (4 : Int))) = ((i : Int), 4) := by rw [if_neg (by decide)]
      rw [e4]
      by_cases a1 : ls[i].f0 < 0
      · rw [if_pos a1, if_pos rfl]
      · rw [if_neg a1]
        by_cases a2 : ls[i].f0 ≥ n
        · rw [if_pos a2, if_pos rfl]
        · rw [if_neg a2]
          by_cases a3 : ls[i].f1 < 0
          · rw [if_pos a3, if_pos rfl]
          · rw [if_neg a3, if_pos (by omega), if_pos rfl]
theorem rcheck_is (n : Int) (ls : List S42) (k : Nat) (hk : 250 ≤ k) : waymarkref1_Check.f k n ls = some (chk n ls) := by
  obtain ⟨k, rfl⟩ : ∃ m, k = m + 1 := ⟨k - 1, by omega⟩
  unfold waymarkref1_Check.f chk
  have J : waymarkref1_Check.j0 (k + 1) true n ls = some (-1, 1) := rfl
  by_cases h1 : ls.length ≤ 120
  · rw [if_pos h1, if_neg (by omega)]
    by_cases h2 : n < 1
    · rw [if_pos h2, J, if_neg (by omega)]
    · rw [if_neg h2]
      by_cases h3 : n > 40
      · rw [decide_eq_true h3, J, if_neg (by omega)]
      · rw [decide_eq_false h3, if_pos (show 1 ≤ n ∧ n ≤ 40 by omega)]
        simp only [waymarkref1_Check.j0]
        rw [if_neg (by decide)]
        have := rcheck_l0 n ls h1 ls.length k 0 (by omega) (by omega)
        simpa using this
  · rw [if_neg h1, if_pos (by omega)]
theorem rseg_is (n : Int) (ls : List S42) (x : Int) (k : Nat) (hk : 250 ≤ k) : waymarkref11_SegOf.f k n ls x = some (segB n ls x) := by
  obtain ⟨k, rfl⟩ : ∃ m, k = m + 1 := ⟨k - 1, by omega⟩
  unfold waymarkref11_SegOf.f segB
  rw [rcheck_is n ls (k + 1) hk]
  simp only [Option.bind_some]
  by_cases h : okG n ls = true
  · obtain ⟨hl, h1, h2⟩ := okG_bounds h
    have hc : (chk n ls).2 = 0 := by unfold okG at h; exact beq_iff_eq.1 h
    have J : ∀ b : Bool, waymarkref11_SegOf.j0 (k + 1) x b n ls = if b = true then some (false, wrap64 (x - 16000), true) else (if x ≥ 24000 then (if x < (wrap64 (24000 + (wrap64 (2 * (ls.length : Int))))) then (some (true, wrap64 (x - 24000), true)) else (some (false, 0, false))) else (some (false, 0, false))) := fun b => by simp only [waymarkref11_SegOf.j0]
    rw [if_pos h, if_pos hc, J, J, wr64 (2 * (ls.length : Int)) (by omega) (by omega), wr64 (24000 + 2 * (ls.length : Int)) (by omega) (by omega), wr64 (16000 + n) (by omega) (by omega)]
    have tail : (if x ≥ 24000 then (if x < 24000 + 2 * (ls.length : Int) then (some (true, wrap64 (x - 24000), true)) else (some (false, 0, false))) else (some (false, 0, false))) = some (if 24000 ≤ x ∧ x < 24000 + 2 * (ls.length : Int) then (true, x - 24000, true) else (false, 0, false)) := by
      by_cases a : x ≥ 24000
      · rw [if_pos a]
        by_cases b : x < 24000 + 2 * (ls.length : Int)
        · rw [if_pos b, if_pos ⟨a, b⟩, wr64 (x - 24000) (by omega) (by omega)]
        · rw [if_neg b, if_neg (fun q => b q.2)]
      · rw [if_neg a, if_neg (fun q => a q.1)]
    rw [tail]
    by_cases a : x ≥ 16000
    · rw [if_pos a]
      by_cases b : x < 16000 + n
      · rw [decide_eq_true b, if_pos rfl, if_pos ⟨a, b⟩, wr64 (x - 16000) (by omega) (by omega)]
      · rw [decide_eq_false b, if_neg (show ¬ (false = true) by decide), if_neg (show ¬ (16000 ≤ x ∧ x < 16000 + n) from fun q => b q.2)]
    · rw [if_neg a, if_neg (show ¬ (false = true) by decide), if_neg (show ¬ (16000 ≤ x ∧ x < 16000 + n) from fun q => a q.1)]
  · have hc : ¬ (chk n ls).2 = 0 := fun q => h (by unfold okG; exact beq_iff_eq.2 q)
    rw [if_neg h, if_neg hc]
theorem cut_is (t : Int) : waymarkref1_Cut.f t 0 255 = some (cutT t) := by
  unfold waymarkref1_Cut.f cutT
  repeat' split
  all_goals rfl
theorem rstack_l0 (l : List S26) (t : Int) (hl : l.length ≤ 100000) : ∀ (d k i : Nat) (acc : List S38), i + d = l.length → acc.length = i → d + 1 < k →
    waymarkref11_Stack.l0 k l t acc (i : Int) = some (if allL (l.drop i) = true then acc ++ stkL l.length t i (l.drop i) else []) := by
  intro d
  induction d with
  | zero =>
    intro k i acc hi ha hk
    obtain ⟨k, rfl⟩ : ∃ m, k = m + 1 := ⟨k - 1, by omega⟩
    simp only [waymarkref11_Stack.l0]
    rw [if_neg (by omega), List.drop_of_length_le (by omega)]
    simp [allL, stkL]
  | succ d ih =>
    intro k i acc hi ha hk
    obtain ⟨k, rfl⟩ : ∃ m, k = m + 1 := ⟨k - 1, by omega⟩
    have hlt : i < l.length := by omega
    have e2 : wrap64 ((l.length : Int) - 1) = (l.length : Int) - 1 := wr64 _ (by omega) (by omega)
    have e3 : ((i + 1 : Nat) : Int) = (i : Int) + 1 := by omega
    simp only [waymarkref11_Stack.l0]
    rw [if_pos (by omega), if_pos (by omega), at26 l i hlt, rlabel_is k (by omega), step64 i (by omega), e2, List.drop_eq_getElem_cons hlt, allL_cons, stkL, Option.bind_some, cut_is, Option.bind_some]
    by_cases h : 0 ≤ l[i].f1 ∧ l[i].f1 ≤ 240
    · have := lab_good h
      rw [if_neg (by omega), if_pos (by omega), ih k (i + 1) _ (by omega) (by simp; omega) (by omega), decide_eq_true h, Bool.true_and, e3, List.append_assoc]
      rfl
    · rw [if_pos (by rw [lab_bad h]; decide), decide_eq_false h]
      rfl
theorem rstack_is (l : List S26) (t : Int) (hl : l.length ≤ 100000) (k : Nat) (hk : l.length + 1 < k) : waymarkref11_Stack.f k l t = some (stkB l t) := by
  unfold waymarkref11_Stack.f stkB
  have := rstack_l0 l t hl l.length k 0 [] (by omega) rfl hk
  simpa using this
theorem rsegs_l0 (n : Int) (ls : List S42) (l : List S38) (hl : l.length ≤ 100000) : ∀ (d k i : Nat) (acc : List S26), i + d = l.length → acc.length = i → d + 260 < k →
    waymarkref11_Segs.l0 k l acc (i : Int) n ls = some (match segsL n ls (l.drop i) with | some q => (acc ++ q, true) | none => ([], false)) := by
  intro d
  induction d with
  | zero =>
    intro k i acc hi ha hk
    obtain ⟨k, rfl⟩ : ∃ m, k = m + 1 := ⟨k - 1, by omega⟩
    simp only [waymarkref11_Segs.l0]
    rw [if_neg (by omega), List.drop_of_length_le (by omega)]
    simp [segsL]
  | succ d ih =>
    intro k i acc hi ha hk
    obtain ⟨k, rfl⟩ : ∃ m, k = m + 1 := ⟨k - 1, by omega⟩
    have hlt : i < l.length := by omega
    simp only [waymarkref11_Segs.l0]
    rw [if_pos (by omega), if_pos (by omega), at38 l i hlt, rseg_is n ls _ k (by omega), step64 i (by omega), List.drop_eq_getElem_cons hlt]
    simp only [Option.bind_some, segsL]
    by_cases h : (segB n ls l[i].f0).2.2 = true
    · rw [if_pos h, if_pos h, if_pos (by omega), ih k (i + 1) _ (by omega) (by simp; omega) (by omega)]
      cases segsL n ls (l.drop (i + 1)) with
      | none => rfl
      | some q => simp
    · rw [if_neg h, if_neg h]
theorem rsegs_is (n : Int) (ls : List S42) (l : List S38) (hl : l.length ≤ 100000) (k : Nat) (hk : l.length + 260 < k) : waymarkref11_Segs.f k n ls l = some (segsB n ls l) := by
  unfold waymarkref11_Segs.f segsB
  have := rsegs_l0 n ls l hl l.length k 0 [] (by omega) rfl hk
  simp only [List.drop_zero, List.nil_append] at this
  exact this
theorem segsL_len (n : Int) (ls : List S42) : ∀ (l : List S38) (q : List S26), segsL n ls l = some q → q.length = l.length
  | [], q, h => by cases h; rfl
  | e :: r, q, h => by
    rw [segsL] at h
    split at h
    · cases hr : segsL n ls r with
      | none => rw [hr] at h; cases h
      | some q' =>
        rw [hr] at h
        cases h
        simp [segsL_len n ls r q' hr]
    · cases h
theorem segsB_len (n : Int) (ls : List S42) (l : List S38) : (segsB n ls l).1.length ≤ l.length := by
  unfold segsB
  split
  · rename_i q hq
    have := segsL_len n ls l q hq
    show q.length ≤ _
    omega
  · simp
theorem loop_l0 (x : List S38) (hl : x.length ≤ 100000) : ∀ (d k i : Nat), i + d = x.length → d < k → waymarklaw19_FibTells.l0 k x x (i : Int) = some true := by
  intro d
  induction d with
  | zero =>
    intro k i hi hk
    obtain ⟨k, rfl⟩ : ∃ m, k = m + 1 := ⟨k - 1, by omega⟩
    simp only [waymarklaw19_FibTells.l0]
    rw [if_neg (by omega)]
  | succ d ih =>
    intro k i hi hk
    obtain ⟨k, rfl⟩ : ∃ m, k = m + 1 := ⟨k - 1, by omega⟩
    simp only [waymarklaw19_FibTells.l0]
    rw [if_pos (by omega), if_pos (by omega), if_pos (by omega), step64 i (by omega), ih k (i + 1) (by omega) (by omega)]
    simp
theorem stkB_len (l : List S26) (t : Int) : (stkB l t).length ≤ l.length := by
  unfold stkB
  split
  · rw [stkL_length]
    omega
  · simp
theorem FibTells (n : Int) (ls : List S42) (b : Bool) (s x : Int) (l : List S26) (t : Int) (e : List S38) (hx : -9223372036854775808 ≤ x ∧ x ≤ 9223372036854775807) (he : ∀ y, y ∈ e → -9223372036854775808 ≤ y.f0 ∧ y.f0 ≤ 9223372036854775807) :
    ∃ k, waymarklaw19_FibTells.f k n ls b s x l t e = some true := by
  refine ⟨1000, ?_⟩
  have J : waymarklaw19_FibTells.j0 1000 x l t e true true n ls b s = some true := rfl
  unfold waymarklaw19_FibTells.f
  rw [alive_is 1000 (by omega)]
  simp only [Option.bind_some, if_true]
  by_cases h1 : (ls.length : Int) > 130
  · rw [if_pos h1]
    exact J
  · rw [if_neg h1]
    by_cases h2 : (l.length : Int) > 40
    · rw [if_pos h2]
      exact J
    · rw [if_neg h2]
      by_cases h3 : (e.length : Int) > 40
      · rw [decide_eq_true h3]
        exact J
      · rw [decide_eq_false h3]
        simp only [waymarklaw19_FibTells.j0]
        rw [if_neg (by decide), seg_is n ls x hx 999 (by omega), Option.bind_some, rseg_is n ls x 999 (by omega), Option.bind_some, stack_is l t (by omega) 999 (by omega), Option.bind_some, rstack_is l t (by omega) 999 (by omega), Option.bind_some,
          segs_is n ls e (by omega) he 999 (by omega), Option.bind_some, rsegs_is n ls e (by omega) 999 (by omega), Option.bind_some, label_is 999 (by omega), Option.bind_some, rlabel_is 999 (by omega), Option.bind_some, if_pos rfl]
        have c1 : (!((segB n ls x).1 == (segB n ls x).1) || (!((segB n ls x).2.1 == (segB n ls x).2.1))) = false := by simp
        have c2 : ((segB n ls x).2.2 != (segB n ls x).2.2) = false := by simp
        have c3 : ((segsB n ls e).2 != (segsB n ls e).2) = false := by simp
        have hsl := segsB_len n ls e
        have hkl := stkB_len l t
        rw [c1, c2, if_neg (show ¬ (false = true) by decide), if_neg (show ¬ (false = true) by decide), if_pos rfl, same_is _ (by omega) 999 (by omega), Option.bind_some, if_pos rfl, c3]
        simp only [waymarklaw19_FibTells.j1]
        rw [if_neg (by decide)]
        have := loop_l0 (stkB l t) (by omega) (stkB l t).length 998 0 (by omega) (by omega)
        simpa using this
end Go.Proofs.Ytpmdldholgjklaa.Pure
