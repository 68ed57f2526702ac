/- What Put and the reference's PutItems compute: plain; and their contracts. -/
import Derived.Test.YtgpeogbifpbcdaaTlvSame
namespace Go.Proofs.Ytgpeogbifpbcdaa.Tlv
open Go.RowKit Go.Proofs.YtgpeogbifpbcdaaW.PrintWords Go.Proofs.YtgpeogbifpbcdaaW.PrintMore Go.Proofs.YtgpeogbifpbcdaaW.PrintLast Go.Proofs.Ytgpeogbifpbcdaa.PTlvTells

def badT (x : S26) : Bool := decide (x.f0 < 0 ∨ 255 < x.f0)
def badL (x : S26) : Bool := decide (65535 < x.f1.length)
/-- An item's bytes. -/
def enc1 (x : S26) : List Int := [x.f0 % 256, (x.f1.length : Int) / 256 % 256, (x.f1.length : Int) % 256] ++ x.f1
/-- The items' bytes, or an error. -/
def putL (l : List S26) : List Int × Int := if l.any badT then ([], 1) else if l.any badL then ([], 6) else (l.flatMap enc1, 0)
theorem wrap_succ (i : Nat) (h : i ≤ 1000000) : wrap64 ((i : Int) + 1) = ((i + 1 : Nat) : Int) := by
  unfold wrap64
  omega
theorem put_l1 (l : List S26) (hl : l.length ≤ 1000000) : ∀ (d i : Nat) (acc : List Int) (k : Nat), l.length = i + d → d < k → acc.length ≤ 65538 * i →
    tlv_Put.l1 k acc l (l.length : Int) (i : Int) = some (if (l.drop i).any badL then ([], 6) else (acc ++ (l.drop i).flatMap enc1, 0)) := by
  intro d
  induction d with
  | zero =>
    intro i acc k h1 h2 h3
    obtain ⟨k, rfl⟩ : ∃ m, k = m + 1 := ⟨k - 1, by omega⟩
    rw [tlv_Put.l1, if_neg (by omega), List.drop_eq_nil_of_le (by omega)]
    simp
  | succ d ih =>
    intro i acc k h1 h2 h3
    obtain ⟨k, rfl⟩ : ∃ m, k = m + 1 := ⟨k - 1, by omega⟩
    have hi : i < l.length := by omega
    rw [tlv_Put.l1, if_pos (by omega), if_pos (by omega), if_pos (by omega), rd_item hi, List.drop_eq_getElem_cons hi, List.any_cons, List.flatMap_cons]
    generalize l[i] = x
    by_cases hb : (x.f1.length : Int) > 65535
    · rw [if_pos hb]
      have : badL x = true := by unfold badL; exact decide_eq_true (by omega)
      rw [this, Bool.true_or, if_pos rfl]
    · rw [if_neg hb]
      have : badL x = false := by unfold badL; exact decide_eq_false (by omega)
      rw [this, Bool.false_or]
      have h3' : acc.length + ([x.f0 % 256, (x.f1.length : Int) / 256 % 256, (x.f1.length : Int) % 256] : List Int).length < 140737488355328 := by
        simp only [List.length_cons, List.length_nil]
        omega
      rw [Option.bind_some, if_pos h3', Option.bind_some]
      rw [if_pos (by simp only [List.length_append, List.length_cons, List.length_nil]; omega), wrap_succ i (by omega), ih (i + 1) _ k (by omega) (by omega) (by simp only [List.length_append, List.length_cons, List.length_nil]; omega)]
      have e : ∀ F : List Int, acc ++ [x.f0 % 256, (x.f1.length : Int) / 256 % 256, (x.f1.length : Int) % 256] ++ x.f1 ++ F = acc ++ (enc1 x ++ F) := fun F => by
        unfold enc1
        simp only [List.append_assoc]
      rw [e]
theorem put_l0 (l : List S26) (hl : l.length ≤ 1000000) : ∀ (d i : Nat) (k : Nat), l.length = i + d → d + l.length + 1 < k →
    tlv_Put.l0 k l l (l.length : Int) (i : Int) = some (if (l.drop i).any badT then ([], 1) else if l.any badL then ([], 6) else (l.flatMap enc1, 0)) := by
  intro d
  induction d with
  | zero =>
    intro i k h1 h2
    obtain ⟨k, rfl⟩ : ∃ m, k = m + 1 := ⟨k - 1, by omega⟩
    have h := put_l1 l hl l.length 0 [] k (by omega) (by omega) (by simp)
    rw [tlv_Put.l0, if_neg (by omega), List.drop_eq_nil_of_le (by omega)]
    simp only [List.any_nil, Bool.false_eq_true, if_false]
    rw [show ((0 : Nat) : Int) = 0 from rfl] at h
    rw [h, List.drop_zero, List.nil_append]
  | succ d ih =>
    intro i k h1 h2
    obtain ⟨k, rfl⟩ : ∃ m, k = m + 1 := ⟨k - 1, by omega⟩
    have hi : i < l.length := by omega
    rw [tlv_Put.l0, if_pos (by omega), if_pos (by omega), if_pos (by omega), rd_item hi, List.drop_eq_getElem_cons hi, List.any_cons]
    generalize l[i] = x
    by_cases h0 : x.f0 < 0
    · have : badT x = true := by unfold badT; exact decide_eq_true (.inl h0)
      rw [if_pos h0, this, Bool.true_or, if_pos rfl]
    · rw [if_neg h0]
      by_cases h1 : x.f0 > 255
      · have : badT x = true := by unfold badT; exact decide_eq_true (.inr h1)
        rw [if_pos h1, this, Bool.true_or, if_pos rfl]
      · have : badT x = false := by unfold badT; exact decide_eq_false (by omega)
        rw [if_neg h1, this, Bool.false_or, wrap_succ i (by omega)]
        exact ih (i + 1) k (by omega) (by omega)
theorem put_f (l : List S26) (hl : l.length ≤ 1000000) : tlv_Put.f (2 * l.length + 2) l = some (putL l) := by
  have h := put_l0 l hl l.length 0 (2 * l.length + 2) (by omega) (by omega)
  rw [List.drop_zero] at h
  exact h
theorem mask_len (n : Nat) : Go.bits .and .i64 (n : Int) 255 % 256 = (n : Int) % 256 := by
  rw [Bits.mask_255]
  omega
theorem ref_l1 (l : List S26) (hl : l.length ≤ 1000000) : ∀ (d i : Nat) (acc : List Int) (k : Nat), l.length = i + d → d < k → acc.length ≤ 65538 * i →
    waymarkref1_PutItems.l1 k l acc (i : Int) = some (if (l.drop i).any badL then ([], 6) else (acc ++ (l.drop i).flatMap enc1, 0)) := by
  intro d
  induction d with
  | zero =>
    intro i acc k h1 h2 h3
    obtain ⟨k, rfl⟩ : ∃ m, k = m + 1 := ⟨k - 1, by omega⟩
    rw [waymarkref1_PutItems.l1, if_neg (by omega), List.drop_eq_nil_of_le (by omega)]
    simp
  | succ d ih =>
    intro i acc k h1 h2 h3
    obtain ⟨k, rfl⟩ : ∃ m, k = m + 1 := ⟨k - 1, by omega⟩
    have hi : i < l.length := by omega
    rw [waymarkref1_PutItems.l1, if_pos (by omega), if_pos (by omega), rd_item hi, List.drop_eq_getElem_cons hi, List.any_cons, List.flatMap_cons]
    generalize l[i] = x
    by_cases hb : (x.f1.length : Int) > 65535
    · rw [if_pos hb]
      have : badL x = true := by unfold badL; exact decide_eq_true (by omega)
      rw [this, Bool.true_or, if_pos rfl]
    · rw [if_neg hb]
      have : badL x = false := by unfold badL; exact decide_eq_false (by omega)
      rw [this, Bool.false_or, mask_len]
      have h3' : acc.length + ([x.f0 % 256, (x.f1.length : Int) / 256 % 256, (x.f1.length : Int) % 256] : List Int).length < 140737488355328 := by
        simp only [List.length_cons, List.length_nil]
        omega
      rw [Option.bind_some, if_pos h3', Option.bind_some]
      rw [if_pos (by simp only [List.length_append, List.length_cons, List.length_nil]; omega), wrap_succ i (by omega), ih (i + 1) _ k (by omega) (by omega) (by simp only [List.length_append, List.length_cons, List.length_nil]; omega)]
      have e : ∀ F : List Int, acc ++ [x.f0 % 256, (x.f1.length : Int) / 256 % 256, (x.f1.length : Int) % 256] ++ x.f1 ++ F = acc ++ (enc1 x ++ F) := fun F => by
        unfold enc1
        simp only [List.append_assoc]
      rw [e]
theorem ref_l0 (l : List S26) (hl : l.length ≤ 1000000) : ∀ (d i : Nat) (k : Nat), l.length = i + d → d + l.length + 1 < k →
    waymarkref1_PutItems.l0 k l (i : Int) = some (if (l.drop i).any badT then ([], 1) else if l.any badL then ([], 6) else (l.flatMap enc1, 0)) := by
  intro d
  induction d with
  | zero =>
    intro i k h1 h2
    obtain ⟨k, rfl⟩ : ∃ m, k = m + 1 := ⟨k - 1, by omega⟩
    have h := ref_l1 l hl l.length 0 [] k (by omega) (by omega) (by simp)
    rw [waymarkref1_PutItems.l0, if_neg (by omega), List.drop_eq_nil_of_le (by omega)]
    simp only [List.any_nil, Bool.false_eq_true, if_false]
    rw [show ((0 : Nat) : Int) = 0 from rfl] at h
    rw [h, List.drop_zero, List.nil_append]
  | succ d ih =>
    intro i k h1 h2
    obtain ⟨k, rfl⟩ : ∃ m, k = m + 1 := ⟨k - 1, by omega⟩
    have hi : i < l.length := by omega
    rw [waymarkref1_PutItems.l0, if_pos (by omega), if_pos (by omega), rd_item hi, List.drop_eq_getElem_cons hi, List.any_cons]
    generalize l[i] = x
    by_cases h0 : x.f0 < 0
    · have : badT x = true := by unfold badT; exact decide_eq_true (.inl h0)
      rw [if_pos h0, this, Bool.true_or, if_pos rfl]
    · rw [if_neg h0]
      by_cases h1 : x.f0 > 255
      · have : badT x = true := by unfold badT; exact decide_eq_true (.inr h1)
        rw [if_pos h1, this, Bool.true_or, if_pos rfl]
      · have : badT x = false := by unfold badT; exact decide_eq_false (by omega)
        rw [if_neg h1, this, Bool.false_or, wrap_succ i (by omega)]
        exact ih (i + 1) k (by omega) (by omega)
theorem ref_f (l : List S26) (hl : l.length ≤ 1000000) : waymarkref1_PutItems.f (2 * l.length + 2) l = some (putL l) := by
  have h := ref_l0 l hl l.length 0 (2 * l.length + 2) (by omega) (by omega)
  rw [List.drop_zero] at h
  exact h
theorem put_any (w : World) (A : Option Addr) (n c : Nat) (l : List S26) (hr : Kd.C k26 w A n l) (hc : n ≤ c) (hl : n ≤ 1000000) :
    Calls Try.prog 8 #[.slice A n c] w fun e w' => ∃ v : Value, e = .returned (.tuple #[v, .int .i64 (putL l).2]) ∧ kB.R 5 w' w.heap.size (fun _ => True) v (putL l).1 ∧ Below w.heap.size w w' := by
  have hn : l.length = n := hr.1
  subst hn
  exact tlv_Put.calls _ A c l _ _ w hr hc (put_f l hl)
theorem putref_any (w : World) (A : Option Addr) (n c : Nat) (l : List S26) (hr : Kd.C k26 w A n l) (hc : n ≤ c) (hl : n ≤ 1000000) :
    Calls Try.prog 9 #[.slice A n c] w fun e w' => ∃ v : Value, e = .returned (.tuple #[v, .int .i64 (putL l).2]) ∧ kB.R 5 w' w.heap.size (fun _ => True) v (putL l).1 ∧ Below w.heap.size w w' := by
  have hn : l.length = n := hr.1
  subst hn
  exact waymarkref1_PutItems.calls _ A c l _ _ w hr hc (ref_f l hl)
theorem num_any (a : Int) (w : World) : Calls Try.prog 14 #[.int .i64 a] w fun e w' => e = .returned (.int .i64 a) ∧ w = w' := by
  go_enter Try.func14, Try.ntmps14
  go_wp2
  go_ret
  exact ⟨rfl, rfl⟩
end Go.Proofs.Ytgpeogbifpbcdaa.Tlv
