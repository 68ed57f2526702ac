/- Plain law of labels and segments, over the printed functions of FibBack: what Label, Seg, Stack and Segs tell. Conditions: a label is a whole number of 64 bits, lists are short. -/
import Derived.Test.YtpmdldholgjklaaPFibBackx4
import Derived.Test.YtpmdldholgjklaaBits
namespace Go.Proofs.Ytpmdldholgjklaa.PlainFibBack
open Go.RowKit Go.Proofs.Ytpmdldholgjklaa.PFibBack Go.Proofs.YtpmdldholgjklaaW.PrintWords Go.Proofs.YtpmdldholgjklaaW.PrintLast
open Go.Proofs.Ytpmdldholgjklaa.Bits

def lab (b : Bool) (t : Int) : Int := if 0 ≤ t ∧ t ≤ 240 then (if b = true then 24000 + t else 16000 + t) else -1
theorem label_j0 (k : Nat) (x b : Bool) (t : Int) : fib_Label.j0 (k + 1) x b t = some (if x = true then -1 else if b = true then wrap64 (24000 + t) else wrap64 (16000 + t)) := by
  simp only [fib_Label.j0]
  cases x <;> cases b <;> rfl
theorem label_is (k : Nat) (hk : 0 < k) (b : Bool) (t : Int) : fib_Label.f k b t = some (lab b t) := by
  obtain ⟨k, rfl⟩ : ∃ m, k = m + 1 := ⟨k - 1, by omega⟩
  unfold fib_Label.f lab
  by_cases h0 : t < 0
  · rw [if_pos h0, label_j0, if_pos rfl, if_neg (by omega)]
  · rw [if_neg h0]
    by_cases h1 : t > 240
    · rw [decide_eq_true h1, label_j0, if_pos rfl, if_neg (by omega)]
    · rw [decide_eq_false h1, label_j0, if_neg (by decide), if_pos (show 0 ≤ t ∧ t ≤ 240 by omega), wr64 (24000 + t) (by omega) (by omega), wr64 (16000 + t) (by omega) (by omega)]
theorem is_is (n : Int) (ls : List S42) (x : Int) : graph_Is.f n ls x = some (decide (0 ≤ x ∧ x < n)) := by
  unfold graph_Is.f
  by_cases h : x ≥ 0
  · rw [if_pos h]
    congr 1
    by_cases h2 : x < n
    · rw [decide_eq_true h2, decide_eq_true ⟨h, h2⟩]
    · rw [decide_eq_false h2, decide_eq_false (fun q => h2 q.2)]
  · rw [if_neg h, decide_eq_false (fun q => h q.1)]
def linkE (n : Int) (l : S42) : Int :=
  if (0 ≤ l.f0 ∧ l.f0 < n) ∧ (0 ≤ l.f1 ∧ l.f1 < n) ∧ l.f0 ≠ l.f1 then (if 1 ≤ l.f2 ∧ l.f2 ≤ 16777216 ∧ 0 ≤ l.f3 ∧ l.f3 ≤ 62 then 0 else 1) else 4
theorem link_j0 (k : Nat) (x : Bool) (a b m c : Int) : graph_link.j0 (k + 1) x a b m c = some (if x = true then 4 else if 1 ≤ m ∧ m ≤ 16777216 ∧ 0 ≤ c ∧ c ≤ 62 then 0 else 1) := by
  simp only [graph_link.j0]
  cases x with
  | true => rfl
  | false =>
    simp only [Bool.false_eq_true, if_false]
    by_cases h : 1 ≤ m ∧ m ≤ 16777216 ∧ 0 ≤ c ∧ c ≤ 62
    · rw [if_pos h, if_neg (by omega), if_neg (by omega), if_neg (by omega), if_neg (by omega)]
    · rw [if_neg h]
      repeat' split
      all_goals first | rfl | omega
theorem link_is (k : Nat) (hk : 0 < k) (n : Int) (ls : List S42) (l : S42) : graph_link.f k n ls l.f0 l.f1 l.f2 l.f3 = some (linkE n l) := by
  obtain ⟨k, rfl⟩ : ∃ m, k = m + 1 := ⟨k - 1, by omega⟩
  unfold graph_link.f linkE
  rw [is_is, is_is]
  by_cases h1 : 0 ≤ l.f0 ∧ l.f0 < n
  · rw [decide_eq_true h1, Option.bind_some, if_pos rfl]
    by_cases h2 : 0 ≤ l.f1 ∧ l.f1 < n
    · rw [decide_eq_true h2, Option.bind_some, if_pos rfl, link_j0]
      by_cases h3 : l.f0 = l.f1
      · rw [beq_iff_eq.2 h3, if_pos rfl, if_neg (show ¬ ((0 ≤ l.f0 ∧ l.f0 < n) ∧ (0 ≤ l.f1 ∧ l.f1 < n) ∧ l.f0 ≠ l.f1) from fun q => q.2.2 h3)]
      · rw [beq_eq_false_iff_ne.2 h3, if_neg (by decide), if_pos (⟨h1, h2, h3⟩ : (0 ≤ l.f0 ∧ l.f0 < n) ∧ (0 ≤ l.f1 ∧ l.f1 < n) ∧ l.f0 ≠ l.f1)]
    · rw [decide_eq_false h2, Option.bind_some, if_neg (by decide), link_j0, if_pos rfl, if_neg (show ¬ ((0 ≤ l.f0 ∧ l.f0 < n) ∧ (0 ≤ l.f1 ∧ l.f1 < n) ∧ l.f0 ≠ l.f1) from fun q => h2 q.2.1)]
  · rw [decide_eq_false h1, Option.bind_some, if_neg (by decide), link_j0, if_pos rfl, if_neg (show ¬ ((0 ≤ l.f0 ∧ l.f0 < n) ∧ (0 ≤ l.f1 ∧ l.f1 < n) ∧ l.f0 ≠ l.f1) from fun q => h1 q.1)]
def chkL (n : Int) : Int → List S42 → Int × Int
  | _, [] => (-1, 0)
  | i, l :: r => if linkE n l = 0 then chkL n (i + 1) r else (i, linkE n l)
def chk (n : Int) (ls : List S42) : Int × Int := if ls.length ≤ 120 then (if 1 ≤ n ∧ n ≤ 40 then chkL n 0 ls else (-1, 1)) else (-1, 6)
theorem at42 (l : List S42) (i : Nat) (h : i < l.length) : rd_T42 l (i : Int) = l[i] := by
  unfold rd_T42
  simp [h]
theorem at26 (l : List S26) (i : Nat) (h : i < l.length) : rd_T26 l (i : Int) = l[i] := by
  unfold rd_T26
  simp [h]
theorem at38 (l : List S38) (i : Nat) (h : i < l.length) : rd_T38 l (i : Int) = l[i] := by
  unfold rd_T38
  simp [h]
theorem step64 (i : Nat) (h : i ≤ 1000000) : wrap64 ((i : Int) + 1) = ((i + 1 : Nat) : Int) := by
  rw [wr64 _ (by omega) (by omega)]
  omega
theorem check_l0 (n : Int) (ls : List S42) (hl : ls.length ≤ 120) : ∀ (d k i : Nat), i + d = ls.length → d + 1 < k → graph_Check.l0 k ls (ls.length : Int) (i : Int) n ls = some (chkL n i (ls.drop i)) := by
  intro d
  induction d with
  | zero =>
    intro k i hi hk
    obtain ⟨k, rfl⟩ : ∃ m, k = m + 1 := ⟨k - 1, by omega⟩
    simp only [graph_Check.l0]
    rw [if_neg (by omega), List.drop_of_length_le (by omega)]
    rfl
  | succ d ih =>
    intro k i hi hk
    obtain ⟨k, rfl⟩ : ∃ m, k = m + 1 := ⟨k - 1, by omega⟩
    have hlt : i < ls.length := by omega
    simp only [graph_Check.l0]
    rw [if_pos (by omega), if_pos (by omega), if_pos (by omega), at42 ls i hlt, link_is k (by omega) n ls ls[i], step64 i (by omega), ih k (i + 1) (by omega) (by omega), List.drop_eq_getElem_cons hlt]
    simp only [Option.bind_some, chkL]
    have e3 : ((i + 1 : Nat) : Int) = (i : Int) + 1 := by omega
    rw [e3]
    split <;> rfl
theorem check_is (n : Int) (ls : List S42) (k : Nat) (hk : 125 ≤ k) : graph_Check.f k n ls = some (chk n ls) := by
  unfold graph_Check.f chk
  by_cases h1 : ls.length ≤ 120
  · rw [if_pos h1, if_neg (by omega)]
    by_cases h2 : 1 ≤ n ∧ n ≤ 40
    · rw [if_pos h2, if_neg (by omega), if_neg (by omega)]
      have := check_l0 n ls h1 ls.length k 0 (by omega) (by omega)
      simpa using this
    · rw [if_neg h2]
      repeat' split
      all_goals first | rfl | omega
  · rw [if_neg h1, if_pos (by omega)]
def okG (n : Int) (ls : List S42) : Bool := (chk n ls).2 == 0
theorem right_is (n : Int) (ls : List S42) (k : Nat) (hk : 125 ≤ k) : graph_Right.f k n ls = some (okG n ls) := by
  unfold graph_Right.f
  rw [check_is n ls k hk]
  rfl
theorem okG_bounds {n : Int} {ls : List S42} (h : okG n ls = true) : ls.length ≤ 120 ∧ 1 ≤ n ∧ n ≤ 40 := by
  unfold okG chk at h
  by_cases h1 : ls.length ≤ 120
  · rw [if_pos h1] at h
    by_cases h2 : 1 ≤ n ∧ n ≤ 40
    · exact ⟨h1, h2⟩
    · rw [if_neg h2] at h
      cases h
  · rw [if_neg h1] at h
    cases h
theorem fibIs_is (n : Int) (ls : List S42) (hl : ls.length ≤ 120) (b : Bool) (t : Int) : fib_Is.f n ls b t = some (if b = true then decide (0 ≤ t ∧ t < 2 * (ls.length : Int)) else decide (0 ≤ t ∧ t < n)) := by
  unfold fib_Is.f
  rw [wr64 _ (by omega) (by omega), is_is]
  cases b with
  | false => rfl
  | true =>
    simp only [if_true]
    by_cases h : t ≥ 0
    · rw [if_pos h]
      congr 1
      by_cases h2 : t < 2 * (ls.length : Int)
      · rw [decide_eq_true h2, decide_eq_true ⟨h, h2⟩]
      · rw [decide_eq_false h2, decide_eq_false (fun q => h2 q.2)]
    · rw [if_neg h, decide_eq_false (fun q => h q.1)]
/-- What a label's segment is: Edge, To, ok. -/
def segB (n : Int) (ls : List S42) (x : Int) : Bool × Int × Bool :=
  if okG n ls = true then (if 16000 ≤ x ∧ x < 16000 + n then (false, x - 16000, true) else if 24000 ≤ x ∧ x < 24000 + 2 * (ls.length : Int) then (true, x - 24000, true) else (false, 0, false)) else (false, 0, false)
theorem seg_is (n : Int) (ls : List S42) (x : Int) (hx : -9223372036854775808 ≤ x ∧ x ≤ 9223372036854775807) (k : Nat) (hk : 125 ≤ k) : fib_Seg.f k n ls x = some (segB n ls x) := by
  obtain ⟨k, rfl⟩ : ∃ m, k = m + 4 := ⟨k - 4, by omega⟩
  unfold fib_Seg.f segB
  rw [right_is n ls (k + 4) hk]
  simp only [Option.bind_some]
  by_cases h : okG n ls = true
  · obtain ⟨hl, h1, h2⟩ := okG_bounds h
    rw [if_pos h, if_pos h]
    obtain ⟨y, hy⟩ : ∃ y, y = wrap64 (x - 16000) := ⟨_, rfl⟩
    obtain ⟨z, hz⟩ : ∃ z, z = wrap64 (x - 24000) := ⟨_, rfl⟩
    have r0 : rd_T26 [(⟨false, y⟩ : S26), ⟨true, z⟩] 0 = ⟨false, y⟩ := rfl
    have r1 : rd_T26 [(⟨false, y⟩ : S26), ⟨true, z⟩] 1 = ⟨true, z⟩ := rfl
    have w1 : wrap64 (0 + 1) = 1 := by unfold wrap64; omega
    have w2 : wrap64 (1 + 1) = 2 := by unfold wrap64; omega
    have hy' : (0 ≤ y ∧ y < n) ↔ (16000 ≤ x ∧ x < 16000 + n) := by rw [hy]; unfold wrap64; omega
    have hz' : (0 ≤ z ∧ z < 2 * (ls.length : Int)) ↔ (24000 ≤ x ∧ x < 24000 + 2 * (ls.length : Int)) := by rw [hz]; unfold wrap64; omega
    rw [← hy, ← hz]
    have h2 : ∀ k, 0 < k → fib_Seg.l0 k x [(⟨false, y⟩ : S26), ⟨true, z⟩] 2 2 n ls = some (false, 0, false) := by
      intro k hk
      obtain ⟨k, rfl⟩ : ∃ m, k = m + 1 := ⟨k - 1, by omega⟩
      simp only [fib_Seg.l0]
      rw [if_neg (by omega)]
    have h1 : ∀ k, 1 < k → fib_Seg.l0 k x [(⟨false, y⟩ : S26), ⟨true, z⟩] 2 1 n ls = some (if 24000 ≤ x ∧ x < 24000 + 2 * (ls.length : Int) then (true, x - 24000, true) else (false, 0, false)) := by
      intro k hk
      obtain ⟨k, rfl⟩ : ∃ m, k = m + 1 := ⟨k - 1, by omega⟩
      simp only [fib_Seg.l0]
      rw [if_pos (show (1 : Int) < 2 by omega), if_pos (show (0 : Int) ≤ 1 by omega), if_pos (show (1 : Int) < (([(⟨false, y⟩ : S26), ⟨true, z⟩].length : Nat) : Int) by simp), r1, w2, h2 k (by omega), fibIs_is n ls hl, label_is k (by omega)]
      simp only [Option.bind_some, if_true]
      by_cases hb : 24000 ≤ x ∧ x < 24000 + 2 * (ls.length : Int)
      · have hzx : z = x - 24000 := by rw [hz]; exact wr64 _ (by omega) (by omega)
        rw [decide_eq_true (hz'.2 hb), if_pos rfl, if_pos hb, hzx]
        unfold lab
        rw [if_pos (show 0 ≤ x - 24000 ∧ x - 24000 ≤ 240 by omega), if_pos rfl, if_pos (by omega)]
      · rw [decide_eq_false (fun q => hb (hz'.1 q)), if_neg hb]
        rfl
    have h0 : ∀ k, 2 < k → fib_Seg.l0 k x [(⟨false, y⟩ : S26), ⟨true, z⟩] 2 0 n ls = some (if 16000 ≤ x ∧ x < 16000 + n then (false, x - 16000, true) else if 24000 ≤ x ∧ x < 24000 + 2 * (ls.length : Int) then (true, x - 24000, true) else (false, 0, false)) := by
      intro k hk
      obtain ⟨k, rfl⟩ : ∃ m, k = m + 1 := ⟨k - 1, by omega⟩
      simp only [fib_Seg.l0]
      rw [if_pos (show (0 : Int) < 2 by omega), if_pos (show (0 : Int) ≤ 0 by omega), if_pos (show (0 : Int) < (([(⟨false, y⟩ : S26), ⟨true, z⟩].length : Nat) : Int) by simp), r0, w1, h1 k (by omega), fibIs_is n ls hl, label_is k (by omega)]
      simp only [Option.bind_some, Bool.false_eq_true, if_false]
      by_cases ha : 16000 ≤ x ∧ x < 16000 + n
      · have hyx : y = x - 16000 := by rw [hy]; exact wr64 _ (by omega) (by omega)
        rw [decide_eq_true (hy'.2 ha), if_pos rfl, if_pos ha, hyx]
        unfold lab
        rw [if_pos (show 0 ≤ x - 16000 ∧ x - 16000 ≤ 240 by omega), if_neg (show ¬ (false = true) by decide), if_pos (by omega)]
      · rw [decide_eq_false (fun q => ha (hy'.1 q)), if_neg ha]
        rfl
    exact h0 (k + 4) (by omega)
  · rw [if_neg h, if_neg h]
def cutT (t : Int) : Int := if t < 0 then 0 else if t > 255 then 255 else t
theorem mx_is (t : Int) : mx 0 (mn t 255) = cutT t := by
  unfold mx mn cutT
  repeat' split
  all_goals omega
def allL (l : List S26) : Bool := l.all fun s => decide (0 ≤ s.f1 ∧ s.f1 ≤ 240)
theorem allL_cons (s : S26) (r : List S26) : allL (s :: r) = (decide (0 ≤ s.f1 ∧ s.f1 ≤ 240) && allL r) := rfl
/-- The entries of segments, from the i-th of n on. -/
def stkL (n t : Int) : Int → List S26 → List S38
  | _, [] => []
  | i, s :: r => ⟨lab s.f0 s.f1, 0, cutT t, (i == n - 1)⟩ :: stkL n t (i + 1) r
theorem stkL_length (n t : Int) : ∀ (l : List S26) (i : Int), (stkL n t i l).length = l.length
  | [], _ => rfl
  | s :: r, i => by simp [stkL, stkL_length n t r]
def stkB (l : List S26) (t : Int) : List S38 := if allL l = true then stkL l.length t 0 l else []
theorem lab_bad {s : S26} (h : ¬ (0 ≤ s.f1 ∧ s.f1 ≤ 240)) : lab s.f0 s.f1 = -1 := by
  unfold lab
  rw [if_neg h]
theorem lab_good {s : S26} (h : 0 ≤ s.f1 ∧ s.f1 ≤ 240) : 16000 ≤ lab s.f0 s.f1 := by
  unfold lab
  rw [if_pos h]
  split <;> omega
theorem stack_l0 (l : List S26) (t : Int) (hl : l.length ≤ 100000) : ∀ (d k i : Nat) (acc : List S38), i + d = l.length → acc.length = i → d + 1 < k →
    fib_Stack.l0 k l t acc l (l.length : Int) (i : Int) = some (if allL (l.drop i) = true then acc ++ stkL l.length t i (l.drop i) else []) := by
  intro d
  induction d with
  | zero =>
    intro k i acc hi ha hk
    obtain ⟨k, rfl⟩ : ∃ m, k = m + 1 := ⟨k - 1, by omega⟩
    simp only [fib_Stack.l0]
    rw [if_neg (by omega), List.drop_of_length_le (by omega)]
    simp [allL, stkL]
  | succ d ih =>
    intro k i acc hi ha hk
    obtain ⟨k, rfl⟩ : ∃ m, k = m + 1 := ⟨k - 1, by omega⟩
    have hlt : i < l.length := by omega
    have e2 : wrap64 ((l.length : Int) - 1) = (l.length : Int) - 1 := wr64 _ (by omega) (by omega)
    have e3 : ((i + 1 : Nat) : Int) = (i : Int) + 1 := by omega
    simp only [fib_Stack.l0]
    rw [if_pos (by omega), if_pos (by omega), if_pos (by omega), at26 l i hlt, label_is k (by omega), step64 i (by omega), e2, mx_is, List.drop_eq_getElem_cons hlt, allL_cons, stkL, Option.bind_some]
    by_cases h : 0 ≤ l[i].f1 ∧ l[i].f1 ≤ 240
    · have := lab_good h
      rw [if_neg (by omega), if_pos (by omega), ih k (i + 1) _ (by omega) (by simp; omega) (by omega), decide_eq_true h, Bool.true_and, e3, List.append_assoc]
      rfl
    · rw [if_pos (lab_bad h), decide_eq_false h]
      rfl
theorem stack_is (l : List S26) (t : Int) (hl : l.length ≤ 100000) (k : Nat) (hk : l.length + 1 < k) : fib_Stack.f k l t = some (stkB l t) := by
  unfold fib_Stack.f stkB
  have := stack_l0 l t hl l.length k 0 [] (by omega) rfl hk
  simpa using this
def segsL (n : Int) (ls : List S42) : List S38 → Option (List S26)
  | [] => some []
  | e :: r => if (segB n ls e.f0).2.2 = true then (segsL n ls r).map fun q => ⟨(segB n ls e.f0).1, (segB n ls e.f0).2.1⟩ :: q else none
def segsB (n : Int) (ls : List S42) (l : List S38) : List S26 × Bool := match segsL n ls l with
  | some q => (q, true)
  | none => ([], false)
theorem segs_l0 (n : Int) (ls : List S42) (l : List S38) (hl : l.length ≤ 100000) (hw : ∀ e, e ∈ l → -9223372036854775808 ≤ e.f0 ∧ e.f0 ≤ 9223372036854775807) : ∀ (d k i : Nat) (acc : List S26), i + d = l.length → acc.length = i → d + 130 < k →
    fib_Segs.l0 k acc l (l.length : Int) (i : Int) n ls = some (match segsL n ls (l.drop i) with | some q => (acc ++ q, true) | none => ([], false)) := by
  intro d
  induction d with
  | zero =>
    intro k i acc hi ha hk
    obtain ⟨k, rfl⟩ : ∃ m, k = m + 1 := ⟨k - 1, by omega⟩
    simp only [fib_Segs.l0]
    rw [if_neg (by omega), List.drop_of_length_le (by omega)]
    simp [segsL]
  | succ d ih =>
    intro k i acc hi ha hk
    obtain ⟨k, rfl⟩ : ∃ m, k = m + 1 := ⟨k - 1, by omega⟩
    have hlt : i < l.length := by omega
    simp only [fib_Segs.l0]
    rw [if_pos (by omega), if_pos (by omega), if_pos (by omega), at38 l i hlt, seg_is n ls _ (hw _ (List.getElem_mem hlt)) k (by omega), step64 i (by omega), List.drop_eq_getElem_cons hlt]
    simp only [Option.bind_some, segsL]
    by_cases h : (segB n ls l[i].f0).2.2 = true
    · rw [if_pos h, if_pos h, if_pos (by omega), ih k (i + 1) _ (by omega) (by simp; omega) (by omega)]
      cases segsL n ls (l.drop (i + 1)) with
      | none => rfl
      | some q => simp
    · rw [if_neg h, if_neg h]
theorem segs_is (n : Int) (ls : List S42) (l : List S38) (hl : l.length ≤ 100000) (hw : ∀ e, e ∈ l → -9223372036854775808 ≤ e.f0 ∧ e.f0 ≤ 9223372036854775807) (k : Nat) (hk : l.length + 130 < k) : fib_Segs.f k n ls l = some (segsB n ls l) := by
  unfold fib_Segs.f segsB
  have := segs_l0 n ls l hl hw l.length k 0 [] (by omega) rfl hk
  simp only [List.drop_zero, List.nil_append] at this
  exact this
theorem same_l0 (l : List S26) (hl : l.length ≤ 100000) : ∀ (d k i : Nat), i + d = l.length → d < k → waymarkref11_SameSegs.l0 k l l (i : Int) = some true := by
  intro d
  induction d with
  | zero =>
    intro k i hi hk
    obtain ⟨k, rfl⟩ : ∃ m, k = m + 1 := ⟨k - 1, by omega⟩
    simp only [waymarkref11_SameSegs.l0]
    rw [if_neg (by omega)]
  | succ d ih =>
    intro k i hi hk
    obtain ⟨k, rfl⟩ : ∃ m, k = m + 1 := ⟨k - 1, by omega⟩
    simp only [waymarkref11_SameSegs.l0]
    rw [if_pos (by omega), if_pos (by omega), if_pos (by omega), step64 i (by omega), ih k (i + 1) (by omega) (by omega)]
    simp
theorem same_is (l : List S26) (hl : l.length ≤ 100000) (k : Nat) (hk : l.length < k) : waymarkref11_SameSegs.f k l l = some true := by
  unfold waymarkref11_SameSegs.f
  rw [if_pos rfl]
  exact same_l0 l hl l.length k 0 (by omega) hk
theorem alive_is (k : Nat) (hk : 125 ≤ k) : waymarklaw19_alive.f k = some true := by
  unfold waymarklaw19_alive.f
  rw [seg_is _ _ _ (by decide) k hk, label_is k (by omega)]
  decide +kernel
end Go.Proofs.Ytpmdldholgjklaa.PlainFibBack
