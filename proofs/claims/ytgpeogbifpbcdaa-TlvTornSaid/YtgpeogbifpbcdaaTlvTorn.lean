/- The walk of the law TlvTorn: true for all rows of sizes. -/
import Derived.Test.YtgpeogbifpbcdaaTlvReps
namespace Go.Proofs.Ytgpeogbifpbcdaa.Tlv
open Go.RowKit Go.Proofs.YtgpeogbifpbcdaaW.PrintWords Go.Proofs.YtgpeogbifpbcdaaW.PrintMore Go.Proofs.YtgpeogbifpbcdaaW.PrintLast Go.Proofs.Ytgpeogbifpbcdaa.PTlvTells

def itT (x : Int) : S26 := ⟨7, List.replicate (x % 32).toNat 0⟩
def itsT (xs : List Int) : Nat → List S26
  | 0 => []
  | i + 1 => itsT xs i ++ [itT (rd xs i)]
def endT (xs : List Int) : Nat → Int
  | 0 => 0
  | i + 1 => endT xs i + 3 + rd xs i % 32
def endsL (xs : List Int) : Nat → List Int
  | 0 => [0]
  | i + 1 => endsL xs i ++ [endT xs (i + 1)]
theorem len_endsL (xs : List Int) : ∀ i, (endsL xs i).length = i + 1
  | 0 => rfl
  | i + 1 => by rw [endsL, List.length_append, len_endsL xs i]; rfl
theorem rd_append_lt (xs ys : List Int) (j : Nat) (h : j < xs.length) : rd (xs ++ ys) (j : Int) = rd xs (j : Int) := by
  unfold rd
  rw [Int.toNat_natCast, List.getD_eq_getElem?_getD, List.getD_eq_getElem?_getD, List.getElem?_append_left h]
theorem rd_append_eq (xs : List Int) (p : Int) (j : Nat) (h : j = xs.length) : rd (xs ++ [p]) (j : Int) = p := by
  subst h
  unfold rd
  simp
theorem rd_endsL (xs : List Int) : ∀ i j, j ≤ i → rd (endsL xs i) (j : Int) = endT xs j
  | 0, j, h => by
    obtain rfl : j = 0 := by omega
    rfl
  | i + 1, j, h => by
    by_cases e : j = i + 1
    · subst e
      rw [endsL]
      exact rd_append_eq _ _ _ (len_endsL xs i).symm
    · rw [endsL, rd_append_lt _ _ _ (by rw [len_endsL]; omega)]
      exact rd_endsL xs i j (by omega)
theorem len_itsT (xs : List Int) : ∀ i, (itsT xs i).length = i
  | 0 => rfl
  | i + 1 => by rw [itsT, List.length_append, len_itsT xs i]; rfl
theorem itsT_take (xs : List Int) : ∀ i j, j ≤ i → (itsT xs i).take j = itsT xs j
  | 0, j, h => by
    obtain rfl : j = 0 := by omega
    rfl
  | i + 1, j, h => by
    by_cases e : j = i + 1
    · subst e
      rw [List.take_of_length_le (by rw [len_itsT]; omega)]
    · rw [itsT, List.take_append_of_le_length (by rw [len_itsT]; omega), itsT_take xs i j (by omega)]
theorem enc_itT (x : Int) : ((enc1 (itT x)).length : Int) = 3 + x % 32 := by
  simp only [enc1, itT, List.length_append, List.length_cons, List.length_nil, List.length_replicate]
  omega
theorem flat_itsT (xs : List Int) : ∀ i, (((itsT xs i).flatMap enc1).length : Int) = endT xs i
  | 0 => rfl
  | i + 1 => by
    have h1 := flat_itsT xs i
    have h2 := enc_itT (rd xs i)
    rw [itsT, List.flatMap_append, List.length_append, endT]
    simp only [List.flatMap_cons, List.flatMap_nil, List.append_nil]
    omega
theorem good_itsT (xs : List Int) : ∀ i x, x ∈ itsT xs i → badT x = false ∧ badL x = false ∧ (∀ y, y ∈ x.f1 → 0 ≤ y ∧ y < 256) ∧ x.f1.length ≤ 31
  | 0, x, h => by cases h
  | i + 1, x, h => by
    rw [itsT] at h
    rcases List.mem_append.1 h with h | h
    · exact good_itsT xs i x h
    · rw [List.mem_singleton.1 h]
      refine ⟨rfl, by unfold badL; exact decide_eq_false (by simp only [itT, List.length_replicate]; omega), ?_, by simp only [itT, List.length_replicate]; omega⟩
      intro y hy
      obtain ⟨_, rfl⟩ := List.mem_replicate.1 hy
      omega
/-- A beginning of an item is none. -/
theorem getL_tear (x : S26) (hd : badL x = false) (acc : List S26) (k : Nat) (h0 : 0 < k) (h1 : k < (enc1 x).length) : getL ((enc1 x).take k) acc = ([], 2) := by
  have hd' : ¬ 65535 < x.f1.length := by unfold badL at hd; exact of_decide_eq_false hd
  have e : enc1 x = (x.f0 % 256) :: ((x.f1.length : Int) / 256 % 256) :: ((x.f1.length : Int) % 256) :: x.f1 := by simp [enc1]
  have hl : (enc1 x).length = x.f1.length + 3 := by simp [enc1]
  by_cases h3 : k < 3
  · exact getL_short _ _ (by rw [List.length_take]; omega) (by rw [List.length_take]; omega)
  · obtain ⟨j, rfl⟩ : ∃ j, k = j + 3 := ⟨k - 3, by omega⟩
    have e2 : (enc1 x).take (j + 3) = (x.f0 % 256) :: ((x.f1.length : Int) / 256 % 256) :: ((x.f1.length : Int) % 256) :: x.f1.take j := by rw [e]; rfl
    refine getL_torn _ _ (by rw [e2]; simp) ?_
    rw [e2]
    unfold len2
    have r1 : ∀ (a b c : Int) (l : List Int), rd (a :: b :: c :: l) 1 = b := fun a b c l => rfl
    have r2 : ∀ (a b c : Int) (l : List Int), rd (a :: b :: c :: l) 2 = c := fun a b c l => rfl
    rw [r1, r2]
    have e3 : ((x.f0 % 256) :: ((x.f1.length : Int) / 256 % 256) :: ((x.f1.length : Int) % 256) :: x.f1.take j).drop 3 = x.f1.take j := rfl
    rw [e3, List.length_take]
    omega
theorem torn_none : ∀ (l acc : List S26) (k : Nat), (∀ x, x ∈ l → badT x = false ∧ badL x = false) → k ≤ (l.flatMap enc1).length → (∀ j, j ≤ l.length → ((l.take j).flatMap enc1).length ≠ k) → getL ((l.flatMap enc1).take k) acc = ([], 2)
  | [], acc, k, _, hk, hj => by
    have := hj 0 (Nat.le_refl _)
    simp at this hk
    omega
  | x :: l, acc, k, hg, hk, hj => by
    have h0 : 0 < k := by
      have := hj 0 (by omega)
      simp at this
      omega
    have hx := hg x (by simp)
    rw [List.flatMap_cons] at hk ⊢
    by_cases h1 : k < (enc1 x).length
    · rw [List.take_append_of_le_length (by omega)]
      exact getL_tear x hx.2 acc k h0 h1
    · obtain ⟨m, rfl⟩ : ∃ m, k = (enc1 x).length + m := ⟨k - (enc1 x).length, by omega⟩
      have ht : ¬ (x.f0 < 0 ∨ 255 < x.f0) := by have := hx.1; unfold badT at this; exact of_decide_eq_false this
      have hd : ¬ 65535 < x.f1.length := by have := hx.2; unfold badL at this; exact of_decide_eq_false this
      have e : (enc1 x ++ l.flatMap enc1).take ((enc1 x).length + m) = enc1 x ++ (l.flatMap enc1).take m := by
        rw [List.take_append, List.take_of_length_le (by omega), Nat.add_sub_cancel_left]
      rw [e]
      obtain ⟨t, d⟩ := x
      simp only at ht hd
      rw [getL_one t d _ acc (by omega) (by omega) (by omega)]
      refine torn_none l _ m (fun y hy => hg y (by simp [hy])) (by rw [List.length_append] at hk; omega) (fun j hjl => ?_)
      have := hj (j + 1) (by simp; omega)
      rw [List.take_succ_cons, List.flatMap_cons, List.length_append] at this
      omega
theorem torn_some (l : List S26) (j : Nat) (hg : ∀ x, x ∈ l → badT x = false ∧ badL x = false) : getL ((l.flatMap enc1).take ((l.take j).flatMap enc1).length) [] = (l.take j, 0) := by
  have e : l.flatMap enc1 = (l.take j).flatMap enc1 ++ (l.drop j).flatMap enc1 := by rw [← List.flatMap_append, List.take_append_drop]
  rw [e, List.take_left]
  have h := getL_put (l.take j) [] [] (fun x hx => hg x (List.mem_of_mem_take hx))
  rw [List.append_nil, getL_nil, List.nil_append] at h
  exact h
theorem info3b : (Try.prog.info? 3).map (fun i => (i.zero, i.size, i.bytes)) = some (some (.int .i64 0), 1, 8) := by kernel_rfl
/-- A number is appended to the row of the call's own; what lay there lies there. -/
theorem ints_step {ops : Array Oper} {o : Oper} {a : Act} {Q : Exit → Act → World → Prop} {Kc : Act → World → Prop} {E : Prop} (hgd : o.guard = none) (s x : Operand) (ho : o.op = .call { callee := .builtin .append, args := #[s, x], argTypes := #[46, 46] })
    (B : Nat) (w0 W W0 : World) (g n c : Nat) (acc : List Int) (p : Int) (hW : W = W0.alloc (.cells #[.int .i64 p] 3)) (hs : a.eval s = .slice (some ⟨g, 0, none⟩) n c) (hx : a.eval x = .slice (some ⟨W0.heap.size, 0, none⟩) 1 1) (hn : n = acc.length) (HO : kI.R 3 W0 B (fun _ => True) (.slice (some ⟨g, 0, none⟩) n c) acc)
    (HB : Below B w0 W0) (hB : B ≤ W0.heap.size) (hl : acc.length ≤ 1000000)
    (h : ∀ v1 w1, kI.R 3 w1 B (fun _ => True) v1 (acc ++ [p]) → Below B w0 w1 → W0.grownBy w1 (some g) → (∀ j, j < acc.length → w1.cell? ⟨g, j, none⟩ = some (.int .i64 (rd acc (j : Int)))) → Kc (a.put o.dst v1) w1) :
    if Region.wanted o (yielded ops a.tmps) = true then Oper.wp Try.prog o a W Kc Q else E := by
  subst hW
  subst hn
  have hw : Region.wanted o (yielded ops a.tmps) = true := by simp [Region.wanted, hgd]
  rw [if_pos hw]
  obtain ⟨i0, hi, hzz⟩ := Option.map_eq_some_iff.1 info3b
  simp only [Prod.mk.injEq] at hzz
  obtain ⟨hz0, hz1, hz2⟩ := hzz
  have hown0 := Kd.own_of_R HO
  have hown := hown0.alloc (.cells #[.int .i64 p] 3)
  have hnews := cell_one_new W0 (.int .i64 p) 3
  obtain ⟨v', w', hr, h2, h3, _, h5⟩ := run_append_own_at (P := Try.prog) (W0.alloc (.cells #[.int .i64 p] 3)) B 46 o.type 3 i0 (.int .i64 0) 1 8 Try.underlying46 hi hz0 hz1 hz2 rfl (by decide) (.slice (some ⟨g, 0, none⟩) acc.length c) acc.length (encs (Value.int .i64) acc) hown ⟨W0.heap.size, 0, none⟩ 1 1 [.int .i64 p] rfl hnews (by simp [Value.oneCell']) (by simp only [maxLen]; omega) (by omega) (by simp; omega)
  have hg : v'.ownBlock = some g ∨ v'.ownBlock = some (W0.alloc (.cells #[.int .i64 p] 3)).heap.size := h5
  have hR1 : kI.R 3 w' B (fun _ => True) v' (acc ++ [p]) := Kd.R_of_own (by
    have e : encs (Value.int .i64) (acc ++ [p]) = encs (Value.int .i64) acc ++ [.int .i64 p] := by simp [encs]
    rw [e, List.length_append]
    exact h2) (fun _ _ => trivial)
  have hgB := Kd.R_base HO g rfl
  have hgl := Kd.R_lt HO g rfl
  have hcell : ∀ j, j < acc.length → w'.cell? ⟨g, j, none⟩ = some (.int .i64 (rd acc (j : Int))) := by
    intro j hj
    have hold : W0.cell? ⟨g, j, none⟩ = some (.int .i64 (rd acc (j : Int))) := by
      have := (Kd.R_cell (d := (0 : Int)) HO (j : Int) (by omega) (by omega)).1
      rw [Int.toNat_natCast] at this
      exact this
    rcases hg with e | e
    · obtain ⟨A1, c1, rfl⟩ := Kd.R_slice hR1
      obtain ⟨g', cp, hv, _⟩ := Kd.R_form hR1 (by simp)
      injection hv with q1 q2 q3
      subst q1
      have : g' = g := by simpa [Value.ownBlock] using e
      subst this
      have := (Kd.R_cell (d := (0 : Int)) hR1 (j : Int) (by omega) (by simp; omega)).1
      rw [Int.toNat_natCast] at this
      rw [this]
      have e3 : rdOf (0 : Int) (acc ++ [p]) (j : Int) = rd acc (j : Int) := rd_append_lt acc [p] j hj
      rw [e3]
    · rcases hown.2 with ⟨hv, _⟩ | ⟨g', cap, cur, hv, _, hh, hnc, _, hcs, _⟩
      · cases hv
      · injection hv with q1 q2 q3
        injection q1 with q1
        injection q1 with q1 _ _
        subst q1
        subst q3
        by_cases hroom : acc.length + 1 ≤ c
        · have hr' := run_append_room (P := Try.prog) (W0.alloc (.cells #[.int .i64 p] 3)) 46 o.type 3 i0 Try.underlying46 hi g acc.length c cur hh ⟨W0.heap.size, 0, none⟩ 1 1 [.int .i64 p] (by rw [hz1]; rfl) hnews (by simp [Value.oneCell']) hroom (by rw [hz1, hcs]; simp; omega)
          rw [hr'] at hr
          injection hr with hv' _
          rw [← hv'] at e
          simp [Value.ownBlock] at e
          omega
        · have hr' := run_append_grow (P := Try.prog) (W0.alloc (.cells #[.int .i64 p] 3)) 46 o.type 3 i0 (.int .i64 0) Try.underlying46 hi hz0 ⟨g, 0, none⟩ acc.length c (encs (Value.int .i64) acc) (by rw [hz1]; simp [encs]) (hown.cells (g := g) rfl) ⟨W0.heap.size, 0, none⟩ 1 1 [.int .i64 p] (by rw [hz1]; rfl) hnews (by omega) (by omega) (growslice_fits (by omega) (by rw [hz2]; omega))
          rw [hr'] at hr
          injection hr with _ hw'
          rw [← hw']
          refine Eq.trans ?_ hold
          have hlt : g < (W0.alloc (.cells #[.int .i64 p] 3)).heap.size := by simp; omega
          refine Eq.trans (World.cell?_of_block (a := ⟨g, j, none⟩) (heap_alloc_old (W0.alloc (.cells #[.int .i64 p] 3)).drew _ hlt)) ?_
          exact (below_alloc (Below.refl W0.heap.size W0) (.cells #[.int .i64 p] 3)).cell (p := ⟨g, j, none⟩) hgl
  have hgrow : W0.grownBy w' (some g) := World.grownBy.trans (World.grownBy_alloc W0 _ _) h3
  have hfin := h v' w' hR1 (HB.grown hgrow hB (fun k hk => by rw [← Option.some.inj hk]; exact hgB)) hgrow hcell
  unfold Oper.wp execOp
  simp only [ho, resolve, invoke, builtin, Sem.run_bind, Sem.run_pure, Result.andThen_ok, List.map_toArray, List.map_cons, List.map_nil, hs, hx, hr]
  exact hfin
theorem step2 {w w' : World} (hb : Below w.heap.size w w') {p0 p1 : Addr} {v0 v1 : Value} (h : w.cell? p0 = some v0 ∧ w.cell? p1 = some v1) : w'.cell? p0 = some v0 ∧ w'.cell? p1 = some v1 :=
  ⟨pw_cell_below hb h.1, pw_cell_below hb h.2⟩
theorem endT_bound (xs : List Int) : ∀ i, 0 ≤ endT xs i ∧ endT xs i ≤ 34 * i
  | 0 => by simp [endT]
  | i + 1 => by
    have := endT_bound xs i
    simp only [endT]
    omega
theorem torn_long (A1 : Option Addr) (c1 n : Nat) (nn : Int) (w : World) (h : 20 < n ∨ nn < 0) (hn : n ≤ 9223372036854775807) : Calls Try.prog 6 #[.slice A1 n c1, .int .i64 nn] w fun e w' => e = .returned (.bool true) ∧ Below w.heap.size w w' := by
  by_cases h0 : 20 < n
  · clear h
    go_enter Try.func6, Try.ntmps6
    go_wp2_with fail
    refine (alive_any _).mono ?_
    rintro e w' ⟨rfl, hb⟩
    go_wp2
    go_ret
    exact ⟨rfl, hb⟩
  · have h1 : (n : Int) ≤ 20 := by omega
    have h2 : nn < 0 := by omega
    clear h
    go_enter Try.func6, Try.ntmps6
    go_wp2_with fail
    refine (alive_any _).mono ?_
    rintro e w' ⟨rfl, hb⟩
    go_wp2
    go_ret
    exact ⟨rfl, hb⟩
theorem lit0i (w : World) (B : Nat) (hB : B ≤ w.heap.size) : kI.R 3 (w.alloc (.cells #[.int .i64 0] 3)) B (fun _ => True) (.slice (some ⟨w.heap.size, 0, none⟩) 1 1) [0] := by
  have h := World.ownsRow_lit (base := B) (e := 3) (size := 1) w #[.int .i64 0] 1 hB (by simp [maxLen]) (by simp)
  exact Kd.R_of_own (by simpa [encs] using h) (fun _ _ => trivial)
set_option maxHeartbeats 4000000 in
set_option maxRecDepth 100000 in
theorem torn_short (A1 : Option Addr) (c1 n : Nat) (nn : Int) (xs : List Int) (w : World) (hl : n ≤ 20) (h0 : 0 ≤ nn) (hn9 : nn ≤ 9223372036854775807) (hr : kI.C w A1 n xs) : Calls Try.prog 6 #[.slice A1 n c1, .int .i64 nn] w fun e w' => e = .returned (.bool true) ∧ Below w.heap.size w w' := by
  have HR : Aside0 (∀ W, Below w.heap.size w W → kI.C W A1 n xs) := ⟨fun W hW => Kd.C_below hr hW⟩
  have HN : Aside0 (xs.length = n) := ⟨hr.1⟩
  have hln : (n : Int) ≤ 20 := by omega
  have hnn : decide (nn < 0) = false := decide_eq_false (by omega)
  have hu26 := Try.underlying26
  clear hr
  go_enter Try.func6, Try.ntmps6
  go_wp2_with fail
  refine (alive_any _).mono ?_
  rintro e w1 ⟨rfl, hb1⟩
  obtain ⟨B, hB⟩ : ∃ B, B = w1.heap.size := ⟨_, rfl⟩
  have HBB : Aside0 (w.heap.size ≤ B ∧ ∀ W, Below B w1 W → Below w.heap.size w W) := ⟨⟨by rw [hB]; exact hb1.size, fun W hW => hb1.trans (hW.mono (by rw [hB]; exact hb1.size))⟩⟩
  have HBR : Aside0 (Below B w1 (w1.alloc (.cells #[.int .i64 0] 3))) := ⟨(Below.refl _ _).alloc (by omega) _⟩
  have HLE : Aside0 (B ≤ w1.heap.size) := ⟨by omega⟩
  have HE0 := Aside0.mk (lit0i w1 B HLE.out)
  clear hb1 hB
  go_wp2
  go_loopg [6, 7, 8] (n + 1) (fun kq v6 v7 v8 w' => ∃ (i : Nat), v8 = .int .i64 (i : Int) ∧ Aside0 (Kd.R k26 26 w' B (fun _ => True) v6 (itsT xs i)) ∧ Aside0 (Kd.R kI 3 w' B (fun _ => True) v7 (endsL xs i)) ∧ Aside0 (Below B w1 w') ∧ Aside0 (i ≤ n) ∧ Aside0 (n < i + kq))
  case atStart => exact ⟨0, by go_num, ⟨Kd.R_nil _ _ _ _ _⟩, HE0, HBR, ⟨Nat.zero_le _⟩, ⟨by omega⟩⟩
  case round =>
    obtain ⟨i, rfl, hL, hE, hB, hi, hk⟩ := hrel
    clear HE0 HBR
    have hi5 : (i : Int) ≤ 20 := by have := hi.out; omega
    by_cases hlt : i < n
    · have hlt' : (i : Int) < (n : Int) := by omega
      obtain ⟨f, hf⟩ : ∃ f, gk = f + 1 := ⟨gk - 1, by have := hk.out; omega⟩
      obtain ⟨a1, rfl, p1⟩ := Kd.at_int (HR.out _ (HBB.out.2 _ hB.out)) (i : Int) (by omega) hlt'
      rw [Int.toNat_natCast] at p1
      obtain ⟨x, hx⟩ : ∃ x, x = rd xs (i : Int) := ⟨_, rfl⟩
      rw [← hx] at p1
      have HX := Aside0.mk hx
      have m1 := Bits.mask_31 x
      have HPK : Aside0 (∀ W, Below w.heap.size w W → W.cell? (a1.add i) = some (.int .i64 x)) := ⟨fun W hW => by
        obtain ⟨_, e1, q⟩ := Kd.at_int (HR.out W hW) (i : Int) (by omega) hlt'
        cases e1
        rw [Int.toNat_natCast, ← HX.out] at q
        exact q⟩
      clear hx
      have hle := Nat.le_trans HLE.out hB.out.size
      have HLEW := Aside0.mk hle
      obtain ⟨q, hq⟩ : ∃ q : Nat, x % 32 = (q : Int) := ⟨(x % 32).toNat, by omega⟩
      have hq8 : q ≤ 31 := by omega
      obtain ⟨Z, hmk, hZ⟩ := made_row wr B q (x % 32) hq hle (by omega) (ok := fun k => some k ≠ u6.ownBlock) (fun e => by
        have := Kd.R_lt hL.out _ e.symm
        exact Nat.lt_irrefl _ this)
      have hZ' := Aside0.mk hZ
      have HQ := Aside0.mk hq
      have HLL := Aside0.mk (len_itsT xs i)
      have HLN := Aside0.mk (len_endsL xs i)
      clear hle hq hZ
      go_wp2_with (first | ((with_reducible refine gate_builtin (b := .append) (xs := #[.tmp 35, .tmp 43]) rfl ?_); at_builtin; refine item_event (wr.alloc (.cells Z 5)) _ rfl (.tmp 35) (.tmp 43) rfl B w1 u6 (itsT xs i) 7 (List.replicate q 0) (some ⟨wr.heap.size, 0, none⟩) q q rfl rfl ?aH ?aO ?aD ?aB ?aS (by simp) ?aL ?_; (case aH => simp); (case aO => exact Kd.R_alloc hL.out _); (case aD => exact hZ'.out); (case aB => exact hB.out.alloc HLEW.out _); (case aS => (have := HLEW.out; simp; omega)); (case aL => (have := HLL.out; omega)); intro v7 w7 h7 hb7 hg7; go_must (have HL7 := Aside0.mk h7; have HB7 := Aside0.mk hb7; have HE7 := Aside0.mk (Kd.R_over (Kd.R_alloc hE.out _) (Kd.R_alloc hL.out _) (by decide) hg7); clear h7 hb7 hg7; have p7 := HPK.out w7 (HBB.out.2 _ HB7.out))))
      have hE7 := HE7.out
      obtain ⟨g7, c7, hu7, hg7B, hg7l, _⟩ := Kd.R_form hE7 (by rw [HLN.out]; omega)
      rw [HLN.out] at hu7
      obtain ⟨n7, hn7⟩ : ∃ n7, n7 = i + 1 := ⟨_, rfl⟩
      rw [← hn7] at hu7
      subst hu7
      obtain ⟨t, ht⟩ : ∃ t, t = endT xs i := ⟨_, rfl⟩
      have htb := endT_bound xs i
      rw [← ht] at htb
      obtain ⟨ht0, ht1⟩ := htb
      have ht5 : t ≤ 680 := by omega
      have hn75 : (n7 : Int) ≤ 21 := by omega
      have hin7 : (i : Int) < (n7 : Int) := by omega
      have hcE : w7.cell? ⟨g7, i, none⟩ = some (.int .i64 t) := by
        have h := (Kd.R_celln (d := (0 : Int)) hE7 (i : Int) (by omega) hin7).1
        have e : rdOf (0 : Int) (endsL xs i) (i : Int) = t := by rw [ht]; exact rd_endsL xs i i (Nat.le_refl _)
        rw [e, Int.toNat_natCast] at h
        exact h
      have Hn7 := Aside0.mk hn7
      have HT := Aside0.mk ht
      have hS0 : w7.cell? (a1.add i) = some (.int .i64 x) ∧ w7.cell? ⟨g7, i, none⟩ = some (.int .i64 t) := ⟨p7, hcE⟩
      have hS1 : w7.drew.cell? (a1.add i) = some (.int .i64 x) ∧ w7.drew.cell? ⟨g7, i, none⟩ = some (.int .i64 t) := ⟨p7, hcE⟩
      have hw3 : IntKind.i64.wrap (t + 3) = t + 3 := IntWalk.i64_in _ (by omega)
      have hw4 : IntKind.i64.wrap (t + 3 + x % 32) = t + 3 + x % 32 := IntWalk.i64_in _ (by omega)
      clear hn7 ht hmk ht1
      go_region_held3 (fun w' => w'.cell? (a1.add i) = some (.int .i64 x) ∧ w'.cell? ⟨g7, i, none⟩ = some (.int .i64 t)) (first | assumption | exact step2 (below_alloc (Below.refl _ _) _) (by assumption))
        (first | ((refine ints_step rfl (.tmp 45) (.tmp 57) rfl B w1 _ w7.drew g7 n7 c7 (endsL xs i) (t + 3 + x % 32) rfl rfl rfl ?aN ?aO ?aB ?aS ?aL ?_); (case aN => rw [HLN.out, Hn7.out]); (case aO => exact Kd.R_drew HE7.out); (case aB => exact HB7.out.drew); (case aS => exact Nat.le_trans HLE.out HB7.out.size); (case aL => (rw [HLN.out]; omega)); intro v8 w8 h8 hb8 hg8 hc8; have hS'' : w8.cell? (a1.add i) = some (.int .i64 x) ∧ w8.cell? ⟨g7, i, none⟩ = some (.int .i64 t) := ⟨HPK.out w8 (HBB.out.2 _ hb8), by (have h := hc8 i (by rw [HLN.out]; omega); rw [rd_endsL xs i i (Nat.le_refl _), ← HT.out] at h; exact h)⟩))
      have HE8 := Aside0.mk h8
      have HB8 := Aside0.mk hb8
      have HL8 := Aside0.mk (Kd.R_over (Kd.R_drew HL7.out) (Kd.R_drew HE7.out) (by decide) hg8)
      clear h8 hb8 hg8 hc8 hS0 hS1 hS'' hw3 hw4 hE7 hcE p7
      go_wp2
      go_roundg f
      case measure => omega
      case rel =>
        refine ⟨i + 1, by go_num, ⟨?_⟩, ⟨?_⟩, HB8, ⟨by omega⟩, ⟨by have := hk.out; omega⟩⟩
        · have h := HL8.out
          have e : itT x = ⟨7, List.replicate q 0⟩ := by
            unfold itT
            rw [HQ.out, Int.toNat_natCast]
          rw [itsT, ← HX.out, e]
          exact h
        · have h := HE8.out
          rw [endsL, endT, ← HX.out, ← HT.out]
          exact h
    · have hin : i = n := by have := hi.out; omega
      subst hin
      obtain ⟨A6, c6, hu6⟩ := Kd.R_slice hL.out
      have hr6 := Kd.R_reads' (by rw [hu6] at hL; exact hL.out)
      obtain ⟨g7, c7, hu7, _, _, _⟩ := Kd.R_form hE.out (by rw [len_endsL]; omega)
      have hE7 := hE.out
      rw [hu7, len_endsL] at hE7
      rw [len_itsT] at hu6 hr6
      rw [len_endsL] at hu7
      subst hu6 hu7
      have C6 := Aside0.mk hr6.2.2
      have HC6 := Aside0.mk hr6.2.1
      obtain ⟨n7, hn7⟩ : ∃ n7, n7 = i + 1 := ⟨_, rfl⟩
      have HEC : Aside0 (∀ W, Below wr.heap.size wr W → ∀ j, j ≤ i → W.cell? ⟨g7, j, none⟩ = some (.int .i64 (endT xs j))) := ⟨fun W hW j hj => by
        have h := (Kd.R_celln (d := (0 : Int)) (Kd.R_below hE7 hW) (j : Int) (by omega) (by omega)).1
        have e : rdOf (0 : Int) (endsL xs i) (j : Int) = endT xs j := rd_endsL xs i j hj
        rw [e, Int.toNat_natCast] at h
        exact h⟩
      rw [← hn7] at hE7 ⊢
      have hn75 : (n7 : Int) ≤ 21 := by omega
      have hin7 : (i : Int) < (n7 : Int) := by omega
      have Hn7 := Aside0.mk hn7
      have hgood := good_itsT xs i
      have hput := putL_ok (itsT xs i) (fun x hx => ⟨(hgood x hx).1, (hgood x hx).2.1⟩)
      have hPB := putL_byte (itsT xs i) (fun x hx => (hgood x hx).2.2.1)
      have hfl := flat_len (itsT xs i) 31 (fun x hx => (hgood x hx).2.2.2)
      have hfe := flat_itsT xs i
      rw [len_itsT] at hfl
      obtain ⟨P, hP⟩ : ∃ P, P = (itsT xs i).flatMap enc1 := ⟨_, rfl⟩
      rw [hput] at hPB
      rw [← hP] at hput hPB hfl hfe
      dsimp only at hPB
      obtain ⟨L, hL0⟩ : ∃ L, L = P.length := ⟨_, rfl⟩
      rw [← hL0] at hfl hfe
      have hL5 : (L : Int) ≤ 680 := by omega
      have HP := Aside0.mk hP
      have HPUT := Aside0.mk hput
      have HPB := Aside0.mk hPB
      have HPL := Aside0.mk hL0
      have HFE := Aside0.mk hfe
      have HGOOD := Aside0.mk hgood
      clear hr6 hn7 hE7 hgood hput hPB hfl hfe hP hL0 hL hE
      go_wp2_with fail
      refine (put_any wr A6 i c6 (itsT xs i) C6.out HC6.out (by omega)).mono ?_
      rw [HPUT.out]
      rintro e w2 ⟨v2, rfl, hR2, hb2⟩
      obtain ⟨A2, c2, rfl⟩ := Kd.R_slice hR2
      have hr2 := Kd.R_reads' hR2
      dsimp only at hr2 ⊢
      rw [← HPL.out] at hr2 ⊢
      have C2 := Aside0.mk hr2.2.2
      have HC2 := Aside0.mk hr2.2.1
      have HB2 : Aside0 (Below w.heap.size w w2) := ⟨below_step (HBB.out.2 _ hB.out) hb2⟩
      have HX2 := Aside0.mk hb2
      have hcE := HEC.out w2 hb2 i (Nat.le_refl _)
      rw [← HFE.out] at hcE
      clear hR2 hr2 hb2
      obtain ⟨k, hk0⟩ : ∃ k : Nat, nn % ((L : Int) + 1) = (k : Int) := ⟨(nn % ((L : Int) + 1)).toNat, by have := Int.emod_nonneg nn (show (L : Int) + 1 ≠ 0 by omega); omega⟩
      have hkL : (k : Int) ≤ (L : Int) := by have := Int.emod_lt_of_pos nn (show (0 : Int) < (L : Int) + 1 by omega); omega
      have hk5 : (k : Int) ≤ 680 := by omega
      obtain ⟨i5, hi5', _⟩ := Option.map_eq_some_iff.1 info5
      have hcut := cut_to (P := Try.prog) 23 5 .i64 Try.underlying23 hi5' A2 L c2 (k : Int) (by omega) hkL HC2.out
      rw [Int.toNat_natCast] at hcut
      have hkL' : k ≤ L := by omega
      have HCk : Aside0 (kB.C w2 A2 k (P.take k)) := ⟨by
        have h := C2.out
        rw [HPL.out] at h
        have h2 := Kd.C_take h (m := k) (by rw [← HPL.out]; exact hkL')
        have hl : (P.take k).length = k := by rw [List.length_take, ← HPL.out]; omega
        rw [hl] at h2
        exact h2⟩
      have HKL := Aside0.mk hkL'
      clear hkL'
      go_wp2_with fail
      refine (num_any _ _).mono ?_
      rintro e w' ⟨rfl, rfl⟩
      go_wp2_with fail
      rw [hk0]
      refine (get_at w2 A2 k c2 (P.take k) HCk.out (by have := HC2.out; have := HKL.out; omega) (by omega) (fun y hy => HPB.out y (List.mem_of_mem_take hy))).mono ?_
      obtain ⟨G, hG⟩ : ∃ G, G = getL (P.take k) [] := ⟨_, rfl⟩
      have HG := Aside0.mk hG
      rw [← hG]
      rintro e w3 ⟨v3, rfl, hR3, hb3⟩
      obtain ⟨A3, c3, rfl⟩ := Kd.R_slice hR3
      obtain ⟨g, hg⟩ : ∃ g, g = G.1.length := ⟨_, rfl⟩
      rw [← hg]
      have Hg := Aside0.mk hg
      obtain ⟨ge, hge⟩ : ∃ ge, ge = G.2 := ⟨_, rfl⟩
      rw [← hge]
      have Hge := Aside0.mk hge
      have HB3 : Aside0 (Below w.heap.size w w3) := ⟨below_step HB2.out hb3⟩
      have HEC3 : Aside0 (∀ j, j ≤ i → w3.cell? ⟨g7, j, none⟩ = some (.int .i64 (endT xs j))) := ⟨fun j hj => HEC.out w3 (below_step HX2.out hb3) j hj⟩
      have hgm : (g : Int) ≤ 1000000 := by
        have := (getL_len (P.take k).length (P.take k) [] (Nat.le_refl _)).1
        rw [← hG, List.length_nil] at this
        have h2 : (P.take k).length ≤ k := List.length_take_le _ _
        omega
      clear hR3 hb3 hG hg hge hcE hcut hk0
      go_wp2
      go_loopg [14] (i + 2) (fun kq v14 w' => ∃ j : Nat, v14 = .int .i64 (j : Int) ∧ w' = w3 ∧ Aside0 (j ≤ i + 1) ∧ Aside0 (i + 1 < j + kq) ∧ Aside0 (∀ m, m < j → endT xs m ≠ (k : Int)))
      case atStart => exact ⟨0, by go_num, rfl, ⟨Nat.zero_le _⟩, ⟨by omega⟩, ⟨fun m hm => by omega⟩⟩
      case round =>
        obtain ⟨j, rfl, rfl, hj, hjk, hne⟩ := hrel
        have hj5 : (j : Int) ≤ 21 := by have := hj.out; omega
        by_cases hlt2 : j ≤ i
        · have hlt2' : (j : Int) < (n7 : Int) := by have := Hn7.out; omega
          have hcj := HEC3.out j hlt2
          obtain ⟨t, ht⟩ : ∃ t, t = endT xs j := ⟨_, rfl⟩
          rw [← ht] at hcj
          have HT := Aside0.mk ht
          clear ht
          obtain ⟨f, hf⟩ : ∃ f, gk = f + 1 := ⟨gk - 1, by have := hjk.out; omega⟩
          by_cases htk : t = (k : Int)
          · have htb : (t == (k : Int)) = true := beq_iff_eq.2 htk
            have hGe : G = (itsT xs j, 0) := by
              have h1 := flat_itsT xs j
              have h2 := torn_some (itsT xs i) j (fun x hx => ⟨(HGOOD.out x hx).1, (HGOOD.out x hx).2.1⟩)
              rw [itsT_take xs i j hlt2, ← HP.out] at h2
              have h3 : ((itsT xs j).flatMap enc1).length = k := by have := HT.out; omega
              rw [h3] at h2
              rw [HG.out, h2]
            have hgj : g = j := by rw [Hg.out, hGe]; exact len_itsT xs j
            have hge0 : ge = 0 := by rw [Hge.out, hGe]
            clear hGe htk
            subst hgj hge0
            go_wp2_with fail
            refine (num_any _ _).mono ?_
            rintro e w' ⟨rfl, rfl⟩
            go_wp2
            go_ret
            exact ⟨rfl, HB3.out⟩
          · have htb : (t == (k : Int)) = false := beq_eq_false_iff_ne.2 htk
            have HTK := Aside0.mk htk
            clear htk
            go_wp2
            go_roundg f
            case measure => omega
            case rel =>
              refine ⟨j + 1, by go_num, rfl, ⟨by omega⟩, ⟨by have := hjk.out; omega⟩, ⟨fun m hm => ?_⟩⟩
              by_cases e : m = j
              · subst e
                rw [← HT.out]
                exact HTK.out
              · exact hne.out m (by omega)
        · have hjn : (n7 : Int) ≤ (j : Int) := by have := Hn7.out; omega
          have hGe : G = ([], 2) := by
            have h2 := torn_none (itsT xs i) [] k (fun x hx => ⟨(HGOOD.out x hx).1, (HGOOD.out x hx).2.1⟩) (by rw [← HP.out, ← HPL.out]; exact HKL.out) (fun m hm => by
              rw [len_itsT] at hm
              rw [itsT_take xs i m hm]
              have h1 := flat_itsT xs m
              have h3 := hne.out m (by omega)
              omega)
            rw [HG.out, HP.out, h2]
          have hg0 : g = 0 := by rw [Hg.out, hGe]; rfl
          have hge2 : ge = 2 := by rw [Hge.out, hGe]
          clear hGe
          subst hg0 hge2
          go_wp2_with fail
          refine (num_any _ _).mono ?_
          rintro e w' ⟨rfl, rfl⟩
          go_wp2
          go_ret
          exact ⟨rfl, HB3.out⟩
end Go.Proofs.Ytgpeogbifpbcdaa.Tlv
