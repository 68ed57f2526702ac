/- The printed functions of the law FibBack tell true for every graph of links alike, and all picks. Conditions: those of the law's own arguments. -/
import Derived.Test.YtpmdldholgjklaaPlainFibBack
namespace Go.Proofs.Ytpmdldholgjklaa.Pure
open Go.RowKit Go.Proofs.Ytpmdldholgjklaa.PFibBack Go.Proofs.YtpmdldholgjklaaW.PrintWords Go.Proofs.YtpmdldholgjklaaW.PrintLast
open Go.Proofs.Ytpmdldholgjklaa.Bits Go.Proofs.Ytpmdldholgjklaa.PlainFibBack

theorem and_any (i : Nat) (x : Int) (hi : i ≤ 62) : Go.bits .and .i64 x (2 ^ i - 1) = x % 2 ^ i := by
  have hpos : 0 < 2 ^ i := Nat.two_pow_pos i
  have hlt : 2 ^ i ≤ 2 ^ 62 := Nat.pow_le_pow_right (by decide) hi
  have hc : ((2 : Int) ^ i - 1) = ((2 ^ i - 1 : Nat) : Int) := by
    rw [Int.natCast_sub hpos]; simp
  have hm : (2 ^ i - 1) % 2 ^ 64 = 2 ^ i - 1 := Nat.mod_eq_of_lt (by omega)
  rw [hc]
  show IntKind.i64.wrap (((BitVec.ofInt 64 x &&& BitVec.ofInt 64 ((2 ^ i - 1 : Nat) : Int)).toNat : Nat) : Int) = _
  rw [BitVec.ofInt_natCast, BitVec.toNat_and, BitVec.toNat_ofNat, BitVec.toNat_ofInt, hm, Nat.and_two_pow_sub_one_eq_mod]
  have h64 : ((2 ^ 64 : Nat) : Int) = 18446744073709551616 := by decide
  have hd : ((2 : Int) ^ i) ∣ 18446744073709551616 := by
    have : (18446744073709551616 : Int) = 2 ^ i * 2 ^ (64 - i) := by
      rw [← Int.pow_add, show i + (64 - i) = 64 by omega]
      decide
    exact ⟨_, this⟩
  have e : (((x % ((2 ^ 64 : Nat) : Int)).toNat % 2 ^ i : Nat) : Int) = x % 2 ^ i := by
    rw [Int.natCast_emod, Int.toNat_of_nonneg (Int.emod_nonneg _ (by decide)), h64]
    have : (((2 : Nat) ^ i : Nat) : Int) = (2 : Int) ^ i := by simp
    rw [this]
    exact Int.emod_emod_of_dvd x hd
  rw [e]
  have hp : (0 : Int) < 2 ^ i := Int.pow_pos (by decide)
  have hle : (2 : Int) ^ i ≤ 2 ^ 62 := by exact_mod_cast hlt
  have h1 := Int.emod_nonneg x (Int.ne_of_gt hp)
  have h2 := Int.emod_lt_of_pos x hp
  exact wraps_i64 _ h1 (by omega)
theorem and4095 (x : Int) : Go.bits .and .i64 x 4095 = x % 4096 := and_any 12 x (by decide)

def lk : S42 := ⟨0, 1, 1, 0⟩
def pick (n L : Int) (p : Int) : S26 := if Go.bits .and .i64 p 1 = 1 then ⟨true, (p % 4096 / 2) % (2 * L)⟩ else ⟨false, (p % 4096 / 2) % n⟩
theorem half (p : Int) : wrap64 (Int.tdiv (Go.bits .and .i64 p 4095) 2) = p % 4096 / 2 := by
  have h1 : 0 ≤ p % 4096 := by omega
  rw [and4095, Int.tdiv_eq_ediv_of_nonneg h1]
  exact wr64 _ (by omega) (by omega)
theorem links_l0 (n : Int) (L : Nat) (hL : L ≤ 120) (ps : List Int) (t : Int) (r : Option Bool) (K : Nat) (hr : waymarklaw19_FibBack.l1 K n L ps t [] 0 n (List.replicate L lk) = r) : ∀ (d i : Nat), i + d = L →
    waymarklaw19_FibBack.l0 (K + 1 + d) n L ps t (i : Int) n (List.replicate i lk) = r := by
  intro d
  induction d with
  | zero =>
    intro i hi
    obtain rfl : i = L := by omega
    simp only [waymarklaw19_FibBack.l0]
    rw [if_neg (by omega)]
    exact hr
  | succ d ih =>
    intro i hi
    have e : K + 1 + (d + 1) = (K + 1 + d) + 1 := by omega
    rw [e]
    have hI := ih (i + 1) (by omega)
    simp only [waymarklaw19_FibBack.l0] at hI ⊢
    rw [if_pos (by omega), if_pos (by simp; omega), step64 i (by omega)]
    have e2 : List.replicate i lk ++ [(⟨0, 1, 1, 0⟩ : S42)] = List.replicate (i + 1) lk := by rw [List.replicate_succ']; rfl
    rw [e2]
    exact ih (i + 1) (by omega)
theorem segs_l1 (n : Int) (hn : 2 ≤ n ∧ n ≤ 40) (L : Nat) (hL : 1 ≤ L ∧ L ≤ 120) (ps : List Int) (hp : ps.length ≤ 30) (t : Int) (ls : List S42) (r : Option Bool) (K : Nat)
    (hr : ((fib_Stack.f K (ps.map (pick n L)) t).bind fun t166 => ((fib_Segs.f K n ls t166).bind fun bt169 => (if bt169.2 = true then (if (t166.length : Int) = ((ps.map (pick n L)).length : Int) then ((waymarkref11_SameSegs.f K bt169.1 (ps.map (pick n L))).bind fun t173 => (some t173)) else (some false)) else (some false)))) = r) :
    ∀ (d i : Nat), i + d = ps.length → waymarklaw19_FibBack.l1 (K + 1 + d) n L ps t ((ps.take i).map (pick n L)) (i : Int) n ls = r := by
  intro d
  induction d with
  | zero =>
    intro i hi
    obtain rfl : i = ps.length := by omega
    simp only [waymarklaw19_FibBack.l1]
    rw [if_neg (by omega), List.take_length]
    exact hr
  | succ d ih =>
    intro i hi
    have hlt : i < ps.length := by omega
    have e : K + 1 + (d + 1) = (K + 1 + d) + 1 := by omega
    rw [e]
    have hrd : rd ps (i : Int) = ps[i] := by
      unfold rd
      simp [hlt]
    have hw : wrap64 (2 * (L : Int)) = 2 * (L : Int) := wr64 _ (by omega) (by omega)
    have hsn : ∀ s : S26, s = pick n L ps[i] → (ps.take i).map (pick n L) ++ [s] = (ps.take (i + 1)).map (pick n L) := by
      intro s hs
      rw [hs, List.take_succ_eq_append_getElem hlt, List.map_append]
      rfl
    have hq : 0 ≤ ps[i] % 4096 / 2 := by omega
    simp only [waymarklaw19_FibBack.l1]
    rw [if_pos (by omega), if_pos (by omega), hrd, hw, half, step64 i (by omega)]
    by_cases ho : Go.bits .and .i64 ps[i] 1 = 1
    · rw [if_pos ho, if_neg (by omega), if_pos (by simp; omega), Int.tmod_eq_emod_of_nonneg hq, hsn _ (by unfold pick; rw [if_pos ho])]
      exact ih (i + 1) (by omega)
    · rw [if_neg ho, if_neg (by omega), if_pos (by simp; omega), Int.tmod_eq_emod_of_nonneg hq, hsn _ (by unfold pick; rw [if_neg ho])]
      exact ih (i + 1) (by omega)
theorem okG_links (n : Int) (hn : 2 ≤ n ∧ n ≤ 40) (L : Nat) (hL : L ≤ 120) : okG n (List.replicate L lk) = true := by
  have hz : linkE n lk = 0 := by
    unfold linkE lk
    rw [if_pos ⟨⟨by show (0 : Int) ≤ 0; omega, by show (0 : Int) < n; omega⟩, ⟨by show (0 : Int) ≤ 1; omega, by show (1 : Int) < n; omega⟩, by decide⟩]
    rfl
  have hc : ∀ (d : Nat) (i : Int), chkL n i (List.replicate d lk) = (-1, 0) := by
    intro d
    induction d with
    | zero => intro i; rfl
    | succ d ih => intro i; rw [List.replicate_succ, chkL, if_pos hz, ih]
  unfold okG chk
  rw [List.length_replicate, if_pos hL, if_pos (by omega), hc]
  rfl
theorem pick_in (n : Int) (hn : 2 ≤ n ∧ n ≤ 40) (L : Nat) (hL : 1 ≤ L ∧ L ≤ 120) (p : Int) : (pick n L p).f0 = true ∧ 0 ≤ (pick n L p).f1 ∧ (pick n L p).f1 < 2 * L ∨ (pick n L p).f0 = false ∧ 0 ≤ (pick n L p).f1 ∧ (pick n L p).f1 < n := by
  unfold pick
  split
  · exact .inl ⟨rfl, Int.emod_nonneg _ (by omega), Int.emod_lt_of_pos _ (by omega)⟩
  · exact .inr ⟨rfl, Int.emod_nonneg _ (by omega), Int.emod_lt_of_pos _ (by omega)⟩
def Fits (n : Int) (L : Nat) (s : S26) : Prop := s.f0 = true ∧ 0 ≤ s.f1 ∧ s.f1 < 2 * L ∨ s.f0 = false ∧ 0 ≤ s.f1 ∧ s.f1 < n
theorem seg_back (n : Int) (hn : 2 ≤ n ∧ n ≤ 40) (ls : List S42) (L : Nat) (hl : ls.length = L) (hL : L ≤ 120) (hg : okG n ls = true) (s : S26) (h : Fits n L s) : segB n ls (lab s.f0 s.f1) = (s.f0, s.f1, true) := by
  obtain ⟨b, t⟩ := s
  unfold segB lab
  rw [if_pos hg]
  rcases h with ⟨h1, h2, h3⟩ | ⟨h1, h2, h3⟩
  · simp only at h1 h2 h3
    subst h1
    simp only [if_true]
    rw [if_pos (show 0 ≤ t ∧ t ≤ 240 by omega), if_neg (by omega), if_pos (by omega)]
    congr 2
    omega
  · simp only at h1 h2 h3
    subst h1
    simp only [Bool.false_eq_true, if_false]
    rw [if_pos (show 0 ≤ t ∧ t ≤ 240 by omega), if_pos (by omega)]
    congr 2
    omega
theorem segsL_back (n : Int) (hn : 2 ≤ n ∧ n ≤ 40) (ls : List S42) (L : Nat) (hl : ls.length = L) (hL : L ≤ 120) (hg : okG n ls = true) (N t : Int) : ∀ (l : List S26) (i : Int), (∀ s, s ∈ l → Fits n L s) → segsL n ls (stkL N t i l) = some l
  | [], _, _ => rfl
  | s :: r, i, h => by
    rw [stkL, segsL, seg_back n hn ls L hl hL hg s (h s (by simp)), segsL_back n hn ls L hl hL hg N t r (i + 1) (fun x hx => h x (by simp [hx]))]
    rfl
theorem fibBack_any (n L : Int) (ps : List Int) (t : Int) : ∃ k, waymarklaw19_FibBack.f k n L ps t = some true := by
  refine ⟨1000, ?_⟩
  have J : waymarklaw19_FibBack.j0 1000 n L ps t true true = some true := rfl
  unfold waymarklaw19_FibBack.f
  rw [alive_is 1000 (by omega)]
  simp only [Option.bind_some, if_true]
  by_cases h : 2 ≤ n ∧ n ≤ 40 ∧ 1 ≤ L ∧ L ≤ 120 ∧ ps.length ≤ 30
  · obtain ⟨h1, h2, h3, h4, h5⟩ := h
    rw [if_neg (by omega), if_neg (by omega), if_neg (by omega), if_neg (by omega), decide_eq_false (by omega)]
    obtain ⟨L, rfl⟩ := Int.eq_ofNat_of_zero_le (by omega : 0 ≤ L)
    simp only [waymarklaw19_FibBack.j0]
    rw [if_neg (by decide)]
    have hfit : ∀ s, s ∈ ps.map (pick n L) → Fits n L s := by
      intro s hs
      obtain ⟨p, _, rfl⟩ := List.mem_map.1 hs
      exact pick_in n ⟨h1, h2⟩ L (by omega) p
    have hall : allL (ps.map (pick n L)) = true := by
      unfold allL
      rw [List.all_eq_true]
      intro s hs
      have := hfit s hs
      unfold Fits at this
      simp
      omega
    have hstk : stkB (ps.map (pick n L)) t = stkL (ps.map (pick n L)).length t 0 (ps.map (pick n L)) := by
      unfold stkB
      rw [if_pos hall]
    have hlab : ∀ (l : List S26) (N : Int) (i : Int), (∀ s, s ∈ l → Fits n L s) → ∀ e, e ∈ stkL N t i l → -9223372036854775808 ≤ e.f0 ∧ e.f0 ≤ 9223372036854775807 := by
      intro l
      induction l with
      | nil => intro N i _ e he; cases he
      | cons s r ih =>
        intro N i hs e he
        rw [stkL] at he
        rcases List.mem_cons.1 he with rfl | he
        · have := hs s (by simp)
          unfold Fits at this
          show -9223372036854775808 ≤ lab s.f0 s.f1 ∧ lab s.f0 s.f1 ≤ 9223372036854775807
          unfold lab
          split
          · split <;> omega
          · omega
        · exact ih N (i + 1) (fun x hx => hs x (by simp [hx])) e he
    have main : ∀ K, 200 ≤ K → ((fib_Stack.f K (ps.map (pick n L)) t).bind fun t166 => ((fib_Segs.f K n (List.replicate L lk) t166).bind fun bt169 => (if bt169.2 = true then (if (t166.length : Int) = ((ps.map (pick n L)).length : Int) then ((waymarkref11_SameSegs.f K bt169.1 (ps.map (pick n L))).bind fun t173 => (some t173)) else (some false)) else (some false)))) = some true := by
      intro K hK
      have hlen : (ps.map (pick n L)).length = ps.length := List.length_map ..
      rw [stack_is _ t (by omega) K (by omega), hstk, Option.bind_some, segs_is n _ _ (by rw [stkL_length]; omega) (hlab _ _ _ hfit) K (by rw [stkL_length]; omega), Option.bind_some]
      unfold segsB
      rw [segsL_back n ⟨h1, h2⟩ _ L (List.length_replicate ..) (by omega) (okG_links n ⟨h1, h2⟩ L (by omega)) _ _ _ _ hfit, stkL_length]
      simp only [if_true]
      rw [same_is _ (by omega) K (by omega)]
      rfl
    have a1 := segs_l1 n ⟨h1, h2⟩ L (by omega) ps h5 t (List.replicate L lk) (some true) (999 - (L + 1) - (1 + ps.length)) (main _ (by omega)) ps.length 0 (by omega)
    have e1 : 999 - (L + 1) - (1 + ps.length) + 1 + ps.length = 999 - (L + 1) := by omega
    rw [e1] at a1
    have a2 := links_l0 n L (by omega) ps t (some true) (999 - (L + 1)) (by simpa using a1) L 0 (by omega)
    have e2 : 999 - (L + 1) + 1 + L = 999 := by omega
    rw [e2] at a2
    simpa using a2
  · repeat' split
    all_goals first | exact J | (rw [decide_eq_true (by omega)]; exact J)
end Go.Proofs.Ytpmdldholgjklaa.Pure
