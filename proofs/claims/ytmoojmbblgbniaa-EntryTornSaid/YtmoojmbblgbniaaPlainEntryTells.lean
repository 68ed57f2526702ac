/- Plain law of stacks of labels, over the printed functions of EntryTells: which entries are a stack (right), which bytes they are (Put), and which stack bytes are (Get). Conditions: a stack is shorter than 2^31 entries, bytes are bytes. -/
import Derived.Test.YtmoojmbblgbniaaPEntryTellsx5
import Derived.Test.YtmoojmbblgbniaaBits
namespace Go.Proofs.Ytmoojmbblgbniaa.PlainEntryTells
open Go.RowKit Go.Proofs.Ytmoojmbblgbniaa.PEntryTells Go.Proofs.YtmoojmbblgbniaaW.PrintWords Go.Proofs.YtmoojmbblgbniaaW.PrintLast
open Go.Proofs.Ytmoojmbblgbniaa.Bits

def inE (e : S51) : Bool := decide (0 ≤ e.f0 ∧ e.f0 ≤ 1048575) && decide (0 ≤ e.f1 ∧ e.f1 ≤ 7) && decide (0 ≤ e.f2 ∧ e.f2 ≤ 255)
def okE (n i : Int) (e : S51) : Bool := inE e && (e.f3 == (i == n - 1))
def okL (n : Int) : Int → List S51 → Bool
  | _, [] => true
  | i, e :: r => okE n i e && okL n (i + 1) r
def rightB (l : List S51) : Bool := decide (1 ≤ (l.length : Int) ∧ (l.length : Int) ≤ 1000) && okL l.length 0 l
/-- The four bytes of an entry. -/
def encE (e : S51) : List Int := [(e.f0 / 4096) % 256, (e.f0 / 16) % 256, (e.f0 % 16) * 16 + e.f1 * 2 + (if e.f3 = true then 1 else 0), e.f2]
def enc : List S51 → List Int
  | [] => []
  | e :: r => encE e ++ enc r
/-- The entry of four bytes. -/
def decE (a b c d : Int) : S51 := ⟨a * 4096 + b * 16 + c / 16, c / 2 % 8, d, (c % 2 == 1)⟩
def dec : List Int → List S51
  | a :: b :: c :: d :: r => decE a b c d :: dec r
  | _ => []
def Byt (b : List Int) : Prop := ∀ c, c ∈ b → 0 ≤ c ∧ c < 256

theorem at51 (l : List S51) (i : Nat) (h : i < l.length) : rd_T51 l (i : Int) = l[i] := by
  unfold rd_T51
  simp [h]
theorem within_is (a m : Int) : entry_within.f a m = some (decide (0 ≤ a ∧ a ≤ m)) := by
  unfold entry_within.f
  by_cases h : a ≥ 0
  · rw [if_pos h]
    congr 1
    by_cases h2 : a ≤ m
    · rw [decide_eq_true h2, decide_eq_true ⟨h, h2⟩]
    · rw [decide_eq_false h2, decide_eq_false (fun q => h2 q.2)]
  · rw [if_neg h, decide_eq_false (fun q => h q.1)]
theorem right_l0 (l : List S51) (hl : l.length ≤ 2147483648) : ∀ (d k i : Nat), i + d = l.length → d < k → entry_right.l0 k l l (l.length : Int) (i : Int) = some (okL l.length i (l.drop i)) := by
  intro d
  induction d with
  | zero =>
    intro k i hi hk
    obtain ⟨k, rfl⟩ : ∃ m, k = m + 1 := ⟨k - 1, by omega⟩
    simp only [entry_right.l0]
    rw [if_neg (by omega), List.drop_of_length_le (by omega)]
    rfl
  | succ d ih =>
    intro k i hi hk
    obtain ⟨k, rfl⟩ : ∃ m, k = m + 1 := ⟨k - 1, by omega⟩
    have hlt : i < l.length := by omega
    have e1 : wrap64 ((i : Int) + 1) = ((i + 1 : Nat) : Int) := by rw [wr64 _ (by omega) (by omega)]; omega
    have e2 : wrap64 ((l.length : Int) - 1) = (l.length : Int) - 1 := wr64 _ (by omega) (by omega)
    simp only [entry_right.l0]
    rw [if_pos (by omega), if_pos (by omega), if_pos (by omega), at51 l i hlt, e1, e2, ih k (i + 1) (by omega) (by omega), within_is, within_is, within_is, List.drop_eq_getElem_cons hlt]
    simp only [Option.bind_some, okL, okE, inE]
    generalize decide (0 ≤ l[i].f0 ∧ l[i].f0 ≤ 1048575) = b0
    generalize decide (0 ≤ l[i].f1 ∧ l[i].f1 ≤ 7) = b1
    generalize decide (0 ≤ l[i].f2 ∧ l[i].f2 ≤ 255) = b2
    generalize ((i : Int) == (l.length : Int) - 1) = b3
    generalize l[i].f3 = b4
    have e3 : ((i + 1 : Nat) : Int) = (i : Int) + 1 := by omega
    rw [e3]
    cases b0 <;> cases b1 <;> cases b2 <;> cases b3 <;> cases b4 <;> simp
theorem right_is (l : List S51) (hl : l.length ≤ 2147483648) (k : Nat) (hk : l.length + 1 < k) : entry_right.f k l = some (rightB l) := by
  obtain ⟨k, rfl⟩ : ∃ m, k = m + 1 := ⟨k - 1, by omega⟩
  unfold entry_right.f rightB
  by_cases h1 : (l.length : Int) < 1
  · rw [if_pos h1, decide_eq_false (by omega)]
    rfl
  · rw [if_neg h1]
    by_cases h2 : (l.length : Int) > 1000
    · rw [decide_eq_true h2, decide_eq_false (by omega)]
      rfl
    · rw [decide_eq_false h2, decide_eq_true (by omega)]
      simp only [entry_right.j0]
      rw [if_neg (by decide)]
      have := right_l0 l hl l.length k 0 (by omega) (by omega)
      simp only [List.drop_zero] at this
      simpa using this
theorem okL_in {n : Int} : ∀ {l : List S51} {i : Int}, okL n i l = true → ∀ e, e ∈ l → inE e = true
  | [], _, _, _, he => by cases he
  | x :: r, i, h, e, he => by
    simp only [okL, okE, Bool.and_eq_true] at h
    rcases List.mem_cons.1 he with rfl | he
    · exact h.1.1
    · exact okL_in h.2 e he
theorem inE_iff {e : S51} (h : inE e = true) : 0 ≤ e.f0 ∧ e.f0 ≤ 1048575 ∧ 0 ≤ e.f1 ∧ e.f1 ≤ 7 ∧ 0 ≤ e.f2 ∧ e.f2 ≤ 255 := by
  simp only [inE, Bool.and_eq_true, decide_eq_true_eq] at h
  omega
theorem enc_length : ∀ l : List S51, (enc l).length = 4 * l.length
  | [] => rfl
  | e :: r => by simp [enc, encE, enc_length r]; omega
theorem enc_append (l m : List S51) : enc (l ++ m) = enc l ++ enc m := by
  induction l with
  | nil => rfl
  | cons e r ih => simp [enc, ih, List.append_assoc]
theorem put_third (e : S51) (h : inE e = true) (c : Int) (hc : c = 0 ∨ c = 1) : (Go.bits .or .i64 (Go.bits .or .i64 (wrap64 (e.f0 * 16)) (wrap64 (e.f1 * 2))) c) % 256 = (e.f0 % 16) * 16 + e.f1 * 2 + c := by
  obtain ⟨h1, h2, h3, h4, h5, h6⟩ := inE_iff h
  rw [wr64 (e.f0 * 16) (by omega) (by omega), wr64 (e.f1 * 2) (by omega) (by omega)]
  rw [or64 4 (e.f0 * 16) (e.f1 * 2) (by omega) (by omega) (by omega) (by omega) (by omega) (by omega)]
  rw [or64 1 (e.f0 * 16 + e.f1 * 2) c (by omega) (by omega) (by omega) (by omega) (by omega) (by omega)]
  omega
theorem put_four (e : S51) (h : inE e = true) : (if e.f3 = true then [(e.f0 / 4096) % 256, (e.f0 / 16) % 256, (Go.bits .or .i64 (Go.bits .or .i64 (wrap64 (e.f0 * 16)) (wrap64 (e.f1 * 2))) 1) % 256, e.f2 % 256] else [(e.f0 / 4096) % 256, (e.f0 / 16) % 256, (Go.bits .or .i64 (Go.bits .or .i64 (wrap64 (e.f0 * 16)) (wrap64 (e.f1 * 2))) 0) % 256, e.f2 % 256]) = encE e := by
  have h6 : e.f2 % 256 = e.f2 := by
    have := inE_iff h
    omega
  rw [put_third e h 1 (.inr rfl), put_third e h 0 (.inl rfl), h6]
  unfold encE
  split <;> simp
theorem put_l0 (l : List S51) (hl : l.length ≤ 1000) (hin : ∀ e, e ∈ l → inE e = true) : ∀ (d k i : Nat) (acc : List Int), i + d = l.length → acc.length = 4 * i → d < k → entry_Put.l0 k acc l (l.length : Int) (i : Int) = some (acc ++ enc (l.drop i), 0) := by
  intro d
  induction d with
  | zero =>
    intro k i acc hi ha hk
    obtain ⟨k, rfl⟩ : ∃ m, k = m + 1 := ⟨k - 1, by omega⟩
    simp only [entry_Put.l0]
    rw [if_neg (by omega), List.drop_of_length_le (by omega)]
    simp [enc]
  | succ d ih =>
    intro k i acc hi ha hk
    obtain ⟨k, rfl⟩ : ∃ m, k = m + 1 := ⟨k - 1, by omega⟩
    have hlt : i < l.length := by omega
    have e1 : wrap64 ((i : Int) + 1) = ((i + 1 : Nat) : Int) := by rw [wr64 _ (by omega) (by omega)]; omega
    have h4 := put_four l[i] (hin _ (List.getElem_mem hlt))
    have hlen : (encE l[i]).length = 4 := rfl
    have hI := ih k (i + 1) (acc ++ encE l[i]) (by omega) (by rw [List.length_append, hlen]; omega) (by omega)
    simp only [entry_Put.l0]
    rw [if_pos (by omega), if_pos (by omega), if_pos (by omega), at51 l i hlt, e1]
    simp only [Option.bind_some]
    by_cases hf : l[i].f3 = true
    · rw [if_pos hf] at h4 ⊢
      rw [h4, if_pos (by rw [hlen]; omega), hI, List.drop_eq_getElem_cons hlt, enc, List.append_assoc]
    · rw [if_neg hf] at h4 ⊢
      rw [h4, if_pos (by rw [hlen]; omega), hI, List.drop_eq_getElem_cons hlt, enc, List.append_assoc]
theorem right_len {l : List S51} (h : rightB l = true) : 1 ≤ l.length ∧ l.length ≤ 1000 := by
  simp only [rightB, Bool.and_eq_true, decide_eq_true_eq] at h
  omega
theorem right_in {l : List S51} (h : rightB l = true) : ∀ e, e ∈ l → inE e = true := by
  simp only [rightB, Bool.and_eq_true] at h
  exact okL_in (i := 0) h.2
theorem put_is (l : List S51) (hl : l.length ≤ 2147483648) (k : Nat) (hk : l.length + 1 < k) : entry_Put.f k l = some (if rightB l = true then (enc l, 0) else ([], 1)) := by
  unfold entry_Put.f
  rw [right_is l hl k hk]
  simp only [Option.bind_some]
  by_cases h : rightB l = true
  · rw [if_pos h, if_pos h]
    have := put_l0 l (right_len h).2 (right_in h) l.length k 0 [] (by omega) (by simp) (by omega)
    simpa using this
  · rw [if_neg h, if_neg h]
theorem get_entry (a b c d : Int) (ha : 0 ≤ a ∧ a < 256) (hb : 0 ≤ b ∧ b < 256) (hc : 0 ≤ c ∧ c < 256) (hd : 0 ≤ d ∧ d < 256) :
    (⟨Go.bits .or .i64 (Go.bits .or .i64 (wrap64 ((wrap64 a) * 4096)) (wrap64 ((wrap64 b) * 16))) ((wrap64 c) / 16), Go.bits .and .i64 ((wrap64 c) / 2) 7, wrap64 d, ((Go.bits .and .u8 c 1) == 1)⟩ : S51) = decE a b c d := by
  rw [wr64 a (by omega) (by omega), wr64 b (by omega) (by omega), wr64 c (by omega) (by omega), wr64 d (by omega) (by omega), wr64 (a * 4096) (by omega) (by omega), wr64 (b * 16) (by omega) (by omega)]
  rw [or64 12 (a * 4096) (b * 16) (by omega) (by omega) (by omega) (by omega) (by omega) (by omega)]
  rw [or64 4 (a * 4096 + b * 16) (c / 16) (by omega) (by omega) (by omega) (by omega) (by omega) (by omega)]
  rw [and64_7 _ (by omega) (by omega), and8_1 c (by omega) (by omega)]
  rfl
theorem byt_tail4 {a b c d : Int} {r : List Int} (h : Byt (a :: b :: c :: d :: r)) : (0 ≤ a ∧ a < 256) ∧ (0 ≤ b ∧ b < 256) ∧ (0 ≤ c ∧ c < 256) ∧ (0 ≤ d ∧ d < 256) ∧ Byt r :=
  ⟨h a (by simp), h b (by simp), h c (by simp), h d (by simp), fun x hx => h x (by simp [hx])⟩
theorem four_of {b : List Int} (h : b.length % 4 = 0) (h0 : 0 < b.length) : ∃ x y z t r, b = x :: y :: z :: t :: r ∧ r.length % 4 = 0 := by
  match b, h, h0 with
  | x :: y :: z :: t :: r, h, _ => exact ⟨x, y, z, t, r, rfl, by simp at h; omega⟩
  | [x], h, _ => simp at h
  | [x, y], h, _ => simp at h
  | [x, y, z], h, _ => simp at h
theorem dec_length : ∀ (n : Nat) (b : List Int), b.length = 4 * n → (dec b).length = n
  | 0, b, h => by
    have : b = [] := List.eq_nil_of_length_eq_zero (by omega)
    subst this
    rfl
  | n + 1, b, h => by
    obtain ⟨x, y, z, t, r, rfl, _⟩ := four_of (b := b) (by omega) (by omega)
    simp only [dec, List.length_cons] at h ⊢
    rw [dec_length n r (by omega)]
theorem get_l0 : ∀ (n k : Nat) (b : List Int) (acc : List S51), b.length = 4 * n → Byt b → n + acc.length ≤ 1500 → n + (n + acc.length) + 2 < k → entry_Get.l0 k b acc = some (if rightB (acc ++ dec b) = true then (acc ++ dec b, 0) else ([], 2)) := by
  intro n
  induction n with
  | zero =>
    intro k b acc hb hB ha hk
    obtain ⟨k, rfl⟩ : ∃ m, k = m + 1 := ⟨k - 1, by omega⟩
    have : b = [] := List.eq_nil_of_length_eq_zero (by omega)
    subst this
    simp only [entry_Get.l0]
    rw [if_neg (by simp), right_is acc (by omega) k (by omega)]
    simp only [Option.bind_some, dec, List.append_nil]
    split <;> rfl
  | succ n ih =>
    intro k b acc hb hB ha hk
    obtain ⟨k, rfl⟩ : ∃ m, k = m + 1 := ⟨k - 1, by omega⟩
    obtain ⟨x, y, z, t, r, rfl, _⟩ := four_of (b := b) (by omega) (by omega)
    obtain ⟨hx, hy, hz, ht, hr⟩ := byt_tail4 hB
    have hl : r.length = 4 * n := by simp only [List.length_cons] at hb; omega
    have hI := ih k r (acc ++ [decE x y z t]) hl hr (by simp; omega) (by simp; omega)
    have e0 : rd (x :: y :: z :: t :: r) 0 = x := rfl
    have e1 : rd (x :: y :: z :: t :: r) 1 = y := rfl
    have e2 : rd (x :: y :: z :: t :: r) 2 = z := rfl
    have e3 : rd (x :: y :: z :: t :: r) 3 = t := rfl
    simp only [entry_Get.l0, List.length_cons]
    rw [if_pos (by omega), if_pos (by omega), if_pos (by omega), if_pos (by omega), if_pos (by omega), if_pos (by omega), if_pos (by omega), e0, e1, e2, e3, get_entry x y z t hx hy hz ht]
    simp only [List.drop_succ_cons, List.drop_zero, dec]
    rw [hI, List.append_assoc]
    rfl
/-- What Get tells. -/
def getB (b : List Int) : List S51 × Int := if b.length % 4 = 0 ∧ rightB (dec b) = true then (dec b, 0) else ([], 2)
theorem get_is (b : List Int) (hB : Byt b) (hl : b.length ≤ 5200) (k : Nat) (hk : 3000 ≤ k) : entry_Get.f k b = some (getB b) := by
  unfold entry_Get.f getB
  by_cases h : b.length % 4 = 0
  · rw [if_pos (by omega), get_l0 (b.length / 4) k b [] (by omega) hB (by simp; omega) (by simp; omega)]
    simp [h]
  · rw [if_neg (by omega), if_neg (fun q => h q.1)]
theorem dec_enc : ∀ l : List S51, (∀ e, e ∈ l → inE e = true) → dec (enc l) = l
  | [], _ => rfl
  | e :: r, h => by
    obtain ⟨h1, h2, h3, h4, h5, h6⟩ := inE_iff (h e (by simp))
    have hr := dec_enc r (fun x hx => h x (by simp [hx]))
    have he : decE ((e.f0 / 4096) % 256) ((e.f0 / 16) % 256) ((e.f0 % 16) * 16 + e.f1 * 2 + (if e.f3 = true then 1 else 0)) e.f2 = e := by
      obtain ⟨a, b, c, d⟩ := e
      simp only [decE] at *
      have hd : (((a % 16) * 16 + b * 2 + (if d = true then 1 else 0)) % 2 == 1) = d := by
        cases d
        · simp; omega
        · simp; omega
      rw [hd]
      have e1 : a / 4096 % 256 * 4096 + a / 16 % 256 * 16 + (a % 16 * 16 + b * 2 + (if d = true then 1 else 0)) / 16 = a := by cases d <;> simp <;> omega
      have e2 : (a % 16 * 16 + b * 2 + (if d = true then 1 else 0)) / 2 % 8 = b := by cases d <;> simp <;> omega
      rw [e1, e2]
    simp only [enc, encE, List.cons_append, List.nil_append, dec, hr, he]
theorem enc_byt (l : List S51) (h : ∀ e, e ∈ l → inE e = true) : Byt (enc l) := by
  induction l with
  | nil => intro c hc; cases hc
  | cons e r ih =>
    obtain ⟨h1, h2, h3, h4, h5, h6⟩ := inE_iff (h e (by simp))
    intro c hc
    simp only [enc, List.mem_append] at hc
    rcases hc with hc | hc
    · simp only [encE, List.mem_cons, List.not_mem_nil, or_false] at hc
      rcases hc with rfl | rfl | rfl | rfl
      · omega
      · omega
      · split <;> omega
      · omega
    · exact ih (fun x hx => h x (by simp [hx])) c hc
theorem alive_is (k : Nat) (hk : 3000 ≤ k) : waymarklaw1_alive.f k = some true := by
  unfold waymarklaw1_alive.f
  rw [get_is [] (fun c hc => by cases hc) (by simp) k hk, put_is _ (by simp) k (by simp; omega)]
  decide +kernel
end Go.Proofs.Ytmoojmbblgbniaa.PlainEntryTells
