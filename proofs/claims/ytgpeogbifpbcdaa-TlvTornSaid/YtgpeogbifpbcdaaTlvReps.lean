/- The walk of the law TlvReports: true for all rows of numbers. -/
import Derived.Test.YtgpeogbifpbcdaaTlvTells
namespace Go.Proofs.Ytgpeogbifpbcdaa.Tlv
open Go.RowKit Go.Proofs.YtgpeogbifpbcdaaW.PrintWords Go.Proofs.YtgpeogbifpbcdaaW.PrintMore Go.Proofs.YtgpeogbifpbcdaaW.PrintLast Go.Proofs.Ytgpeogbifpbcdaa.PTlvTells

def lnk (x : Int) : Int := x % 65536
def upb (x : Int) : Int := x / 65536 % 2
def itA (x : Int) : S26 := ⟨1, [x % 65536 / 256, x % 256, x / 65536 % 2]⟩
def itB (k : Int) : S26 := ⟨2 + k % 128, List.replicate (k % 8).toNat 0⟩
/-- The items of the first rounds. -/
def itR (xs ks : List Int) : Nat → List S26
  | 0 => []
  | i + 1 => itR xs ks i ++ itA (rd xs i) :: (if rd ks i % 2 = 1 then [itB (rd ks i)] else [])
def waR (xs : List Int) : Nat → List (Int × Int)
  | 0 => []
  | i + 1 => waR xs i ++ [(lnk (rd xs i), upb (rd xs i))]
theorem linksL_append : ∀ (l r : List S26) (acc acc' : List (Int × Int)), linksL l acc = (acc', 0) → linksL (l ++ r) acc = linksL r acc'
  | [], r, acc, acc', h => by
    simp only [linksL, Prod.mk.injEq] at h
    rw [List.nil_append, h.1]
  | x :: l, r, acc, acc', h => by
    rw [linksL] at h
    rw [List.cons_append, linksL]
    split at h
    · rename_i h1
      rw [if_pos h1]
      exact linksL_append l r acc acc' h
    · rename_i h1
      split at h
      · simp at h
      · rename_i h2
        rw [if_neg h1, if_neg h2]
        exact linksL_append l r _ acc' h
theorem link_itA (x : Int) (acc : List (Int × Int)) (r : List S26) : linksL (itA x :: r) acc = linksL r (acc ++ [(lnk x, upb x)]) := by
  have r0 : ∀ a b c : Int, rd [a, b, c] 0 = a := fun _ _ _ => rfl
  have r1 : ∀ a b c : Int, rd [a, b, c] 1 = b := fun _ _ _ => rfl
  have r2 : ∀ a b c : Int, rd [a, b, c] 2 = c := fun _ _ _ => rfl
  rw [linksL_go (itA x) r acc rfl rfl]
  · simp only [itA, r0, r1, r2]
    unfold lnk upb
    rw [show x % 65536 / 256 * 256 + x % 256 = x % 65536 by omega]
  · simp only [itA, r2]
    omega
theorem link_itB (k : Int) (acc : List (Int × Int)) (r : List S26) : linksL (itB k :: r) acc = linksL r acc := by
  refine linksL_pass _ _ _ ?_
  simp only [itB]
  omega
theorem links_itR (xs ks : List Int) : ∀ i, linksL (itR xs ks i) [] = (waR xs i, 0)
  | 0 => rfl
  | i + 1 => by
    rw [itR, linksL_append _ _ _ _ (links_itR xs ks i), link_itA]
    split
    · rw [link_itB]
      rfl
    · rfl
theorem good_itA (x : Int) : badT (itA x) = false ∧ badL (itA x) = false ∧ ∀ y, y ∈ (itA x).f1 → 0 ≤ y ∧ y < 256 := by
  refine ⟨rfl, rfl, ?_⟩
  intro y hy
  simp only [itA, List.mem_cons, List.not_mem_nil, or_false] at hy
  rcases hy with rfl | rfl | rfl <;> omega
theorem good_itB (k : Int) : badT (itB k) = false ∧ badL (itB k) = false ∧ ∀ y, y ∈ (itB k).f1 → 0 ≤ y ∧ y < 256 := by
  refine ⟨by unfold badT; exact decide_eq_false (by simp only [itB]; omega), by unfold badL; exact decide_eq_false (by simp only [itB, List.length_replicate]; omega), ?_⟩
  intro y hy
  obtain ⟨_, rfl⟩ := List.mem_replicate.1 hy
  omega
theorem good_itR (xs ks : List Int) : ∀ i x, x ∈ itR xs ks i → badT x = false ∧ badL x = false ∧ ∀ y, y ∈ x.f1 → 0 ≤ y ∧ y < 256
  | 0, x, h => by cases h
  | i + 1, x, h => by
    rw [itR] at h
    rcases List.mem_append.1 h with h | h
    · exact good_itR xs ks i x h
    · rcases List.mem_cons.1 h with rfl | h
      · exact good_itA _
      · split at h
        · rw [List.mem_singleton.1 h]
          exact good_itB _
        · cases h
theorem len_itR (xs ks : List Int) : ∀ i, (itR xs ks i).length ≤ 2 * i
  | 0 => by simp [itR]
  | i + 1 => by
    have := len_itR xs ks i
    rw [itR]
    split <;> simp <;> omega
theorem len_waR (xs : List Int) : ∀ i, (waR xs i).length = i
  | 0 => rfl
  | i + 1 => by rw [waR, List.length_append, len_waR xs i]; rfl
theorem len7 (xs ks : List Int) : ∀ i x, x ∈ itR xs ks i → x.f1.length ≤ 7
  | 0, x, h => by cases h
  | i + 1, x, h => by
    rw [itR] at h
    rcases List.mem_append.1 h with h | h
    · exact len7 xs ks i x h
    · rcases List.mem_cons.1 h with rfl | h
      · simp [itA]
      · split at h
        · rw [List.mem_singleton.1 h]
          simp only [itB, List.length_replicate]
          omega
        · cases h
theorem reps_long (A1 A2 : Option Addr) (c1 c2 n m : Nat) (w : World) (h : 40 < n ∨ m < n) (hn : n ≤ 9223372036854775807) : Calls Try.prog 5 #[.slice A1 n c1, .slice A2 m c2] w fun e w' => e = .returned (.bool true) ∧ Below w.heap.size w w' := by
  by_cases h0 : 40 < n
  · clear h
    go_enter Try.func5, Try.ntmps5
    go_wp2_with fail
    refine (alive_any _).mono ?_
    rintro e w' ⟨rfl, hb⟩
    go_wp2
    go_ret
    exact ⟨rfl, hb⟩
  · have h1 : (n : Int) ≤ 40 := by omega
    have h2 : (m : Int) < (n : Int) := by omega
    clear h
    go_enter Try.func5, Try.ntmps5
    go_wp2_with fail
    refine (alive_any _).mono ?_
    rintro e w' ⟨rfl, hb⟩
    go_wp2
    go_ret
    exact ⟨rfl, hb⟩
abbrev kI : Kd Int := Kd.int .i64
/-- An item is appended to the row of the call's own. -/
theorem item_event {ops : Array Oper} {rest : List Oper} {o : Oper} {a : Act} {Q : Exit → Act → World → Prop} (W0 : World) (H : Nat) (hgd : o.guard = none) (s x : Operand) (ho : o.op = .call { callee := .builtin .append, args := #[s, x], argTypes := #[22, 22] })
    (B : Nat) (w0 : World) (v : Value) (acc : List S26) (x0 : Int) (dat : List Int) (A1 : Option Addr) (m c1 : Nat) (hs : a.eval s = v) (hx : a.eval x = .slice (some ⟨H, 0, none⟩) 1 1) (hH : H = W0.heap.size) (HO : Kd.R k26 26 W0 B (fun _ => True) v acc)
    (HD : kB.R 5 W0 B (fun k => some k ≠ v.ownBlock) (.slice A1 m c1) dat) (HB : Below B w0 W0) (hB : B ≤ W0.heap.size) (hm : m = dat.length) (hl : acc.length ≤ 1000000)
    (h : ∀ v1 w1, Kd.R k26 26 w1 B (fun _ => True) v1 (acc ++ [⟨x0, dat⟩]) → Below B w0 w1 → W0.grownBy w1 v.ownBlock → wpList Try.prog ops Q rest (a.put o.dst v1) w1) :
    wpList Try.prog ops Q (o :: rest) a (W0.alloc (.cells #[.int .i64 x0, .slice A1 m c1] 26)) := by
  subst hH
  subst hm
  exact Kd.R_append (P := Try.prog) (Q := Q) (w0 := w0) (W := W0) k26 B hgd s x 22 26 (.agg #[.int .i64 0, .slice none 0 0]) 32 ho Try.underlying22 info26 rfl (by decide) (by omega) v acc ⟨x0, dat⟩ [.int .i64 x0, .slice A1 dat.length c1] (fun _ => True) (fun k => some k ≠ v.ownBlock) hs hx (k26_mkM W0 _ _ ⟨x0, dat⟩ HD) (fun _ hk => ⟨trivial, hk⟩) (fun _ _ => trivial) HO HB hB (by omega) (fun v1 w1 ho1 hb1 hg1 _ => h v1 w1 ho1 hb1 hg1)
theorem item_step2 {ops : Array Oper} {o : Oper} {a : Act} {Q : Exit → Act → World → Prop} {Kc : Act → World → Prop} {E : Prop} (hgd : o.guard = none) (s x : Operand) (ho : o.op = .call { callee := .builtin .append, args := #[s, x], argTypes := #[22, 22] })
    (B : Nat) (w0 W W0 : World) (v : Value) (acc : List S26) (x0 : Int) (dat : List Int) (A1 : Option Addr) (m c1 : Nat) (hW : W = W0.alloc (.cells #[.int .i64 x0, .slice A1 m c1] 26)) (hs : a.eval s = v) (hx : a.eval x = .slice (some ⟨W0.heap.size, 0, none⟩) 1 1) (HO : Kd.R k26 26 W0 B (fun _ => True) v acc)
    (HD : kB.R 5 W0 B (fun k => some k ≠ v.ownBlock) (.slice A1 m c1) dat) (HB : Below B w0 W0) (hB : B ≤ W0.heap.size) (hm : m = dat.length) (hl : acc.length ≤ 1000000)
    (h : ∀ v1 w1, Kd.R k26 26 w1 B (fun _ => True) v1 (acc ++ [⟨x0, dat⟩]) → Below B w0 w1 → W0.grownBy w1 v.ownBlock → Kc (a.put o.dst v1) w1) :
    if Region.wanted o (yielded ops a.tmps) = true then Oper.wp Try.prog o a W Kc Q else E := by
  subst hW
  subst hm
  have hw : Region.wanted o (yielded ops a.tmps) = true := by simp [Region.wanted, hgd]
  have H := Kd.R_append_step (P := Try.prog) (Q := Q) (Kc := Kc) (w0 := w0) (W := W0) k26 B hw s x 22 26 (.agg #[.int .i64 0, .slice none 0 0]) 32 ho Try.underlying22 info26 rfl (by decide) (by omega) v acc ⟨x0, dat⟩ [.int .i64 x0, .slice A1 dat.length c1] (fun _ => True) (fun k => some k ≠ v.ownBlock) hs hx (k26_mkM W0 _ _ ⟨x0, dat⟩ HD) (fun _ hk => ⟨trivial, hk⟩) (fun _ _ => trivial) HO HB hB (by omega) (fun v1 w1 ho1 hb1 hg1 _ => h v1 w1 ho1 hb1 hg1)
  rw [if_pos hw] at H ⊢
  exact H
theorem link_event {ops : Array Oper} {rest : List Oper} {o : Oper} {a : Act} {Q : Exit → Act → World → Prop} (W0 : World) (hgd : o.guard = none) (s x : Operand) (ho : o.op = .call { callee := .builtin .append, args := #[s, x], argTypes := #[36, 36] })
    (B : Nat) (w0 : World) (v : Value) (acc : List (Int × Int)) (p q : Int) (hs : a.eval s = v) (hx : a.eval x = .slice (some ⟨W0.heap.size, 0, none⟩) 1 1) (HO : Kd.R kP 48 W0 B (fun _ => True) v acc)
    (HB : Below B w0 W0) (hB : B ≤ W0.heap.size) (hl : acc.length ≤ 1000000)
    (h : ∀ v1 w1, Kd.R kP 48 w1 B (fun _ => True) v1 (acc ++ [(p, q)]) → Below B w0 w1 → W0.grownBy w1 v.ownBlock → wpList Try.prog ops Q rest (a.put o.dst v1) w1) :
    wpList Try.prog ops Q (o :: rest) a (W0.alloc (.cells #[.int .i64 p, .int .i64 q] 48)) :=
  Kd.R_append (P := Try.prog) (Q := Q) (w0 := w0) (W := W0) kP B hgd s x 36 48 (.agg #[.int .i64 0, .int .i64 0]) 16 ho Try.underlying36 info48 rfl (by decide) (by omega) v acc (p, q) [.int .i64 p, .int .i64 q] (fun _ => True) (fun _ => False) hs hx ⟨[.int .i64 p], [.int .i64 q], rfl, rfl, rfl⟩ (fun _ hk => hk.elim) (fun _ _ => trivial) HO HB hB (by omega) (fun v1 w1 ho1 hb1 hg1 _ => h v1 w1 ho1 hb1 hg1)
/-- Bytes made: the run, and the row that lies there. -/
theorem made_row (w : World) (B q : Nat) (n : Int) (hn : n = (q : Int)) (hB : B ≤ w.heap.size) (hq : q ≤ 1000) {ok : Nat → Prop} (hok : ok w.heap.size) :
    ∃ Z : Array Value, (Instr.makeSlice 23 (.int .i64 n) (.int .i64 n)).run Try.prog w = .ok (.slice (some ⟨w.heap.size, 0, none⟩) q q) (w.alloc (.cells Z 5)) ∧ kB.R 5 (w.alloc (.cells Z 5)) B ok (.slice (some ⟨w.heap.size, 0, none⟩) q q) (List.replicate q 0) := by
  subst hn
  obtain ⟨i0, hi, hzz⟩ := Option.map_eq_some_iff.1 info5
  simp only [Prod.mk.injEq] at hzz
  obtain ⟨hz0, hz1, hz2⟩ := hzz
  have hr := run_make (P := Try.prog) w 23 5 i0 (.int .u8 0) Try.underlying23 hi hz0 .i64 .i64 (q : Int) (q : Int) (by omega) (by omega) (by rw [hz2]; omega) (by omega)
  simp only [Int.toNat_natCast] at hr
  rw [hz1] at hr
  refine ⟨_, hr, fun k hk => ?_, (madeCells (Value.int .u8 0).cells (q * 1)).toList, ?_, ?_⟩
  · have : w.heap.size = k := by simpa [Value.ownBlock] using hk
    subst this
    exact hok
  · have h2 := World.ownsRow_lit (base := B) (e := 5) (size := 1) w (madeCells (Value.int .u8 0).cells (q * 1)) q hB (by simp [maxLen]; omega) (by simp [size_madeCells])
    rw [List.length_replicate]
    exact h2
  · exact Kd.reps_made (R := fun x cs => cs = [Value.int .u8 x]) (size := 1) rfl (by decide) rfl q
/-- A literal of three bytes, beside a row. -/
theorem lit3 {w : World} {B : Nat} {v : Value} {acc : List S26} (a b c : Int) (hB : B ≤ w.heap.size) (HO : Kd.R k26 26 w B (fun _ => True) v acc) :
    kB.R 5 (w.alloc (.cells #[.int .u8 a, .int .u8 b, .int .u8 c] 5)) B (fun k => some k ≠ v.ownBlock) (.slice (some ⟨w.heap.size, 0, none⟩) 3 3) [a, b, c] := by
  have h := World.ownsRow_lit (base := B) (e := 5) (size := 1) w #[.int .u8 a, .int .u8 b, .int .u8 c] 3 hB (by simp [maxLen]) (by simp)
  refine Kd.R_of_own (by simpa [encs] using h) (fun k hk e => ?_)
  have h1 : k = w.heap.size := by simpa [Value.ownBlock] using hk.symm
  have h2 := Kd.R_lt HO k e.symm
  omega
set_option maxHeartbeats 4000000 in
set_option maxRecDepth 100000 in
theorem reps_short (A1 A2 : Option Addr) (c1 c2 n m : Nat) (xs ks : List Int) (w : World) (hl : n ≤ 40) (hnm : n ≤ m) (hr : kI.C w A1 n xs) (hrk : kI.C w A2 m ks) : Calls Try.prog 5 #[.slice A1 n c1, .slice A2 m c2] w fun e w' => e = .returned (.bool true) ∧ Below w.heap.size w w' := by
  have HR : Aside0 (∀ W, Below w.heap.size w W → kI.C W A1 n xs) := ⟨fun W hW => Kd.C_below hr hW⟩
  have HRK : Aside0 (∀ W, Below w.heap.size w W → kI.C W A2 m ks) := ⟨fun W hW => Kd.C_below hrk hW⟩
  have HN : Aside0 (xs.length = n) := ⟨hr.1⟩
  have HM : Aside0 (ks.length = m) := ⟨hrk.1⟩
  have hln : (n : Int) ≤ 40 := by omega
  have hnm' : (n : Int) ≤ (m : Int) := by omega
  have hmn : decide (m < n) = false := decide_eq_false (by omega)
  have hu26 := Try.underlying26
  have hu48 := Try.underlying48
  clear hr hrk
  go_enter Try.func5, Try.ntmps5
  go_wp2_with fail
  refine (alive_any _).mono ?_
  rintro e w1 ⟨rfl, hb1⟩
  obtain ⟨B, hB⟩ : ∃ B, B = w1.heap.size := ⟨_, rfl⟩
  have HBB : Aside0 (w.heap.size ≤ B ∧ ∀ W, Below B w1 W → Below w.heap.size w W) := ⟨⟨by rw [hB]; exact hb1.size, fun W hW => hb1.trans (hW.mono (by rw [hB]; exact hb1.size))⟩⟩
  have HBR : Aside0 (Below B w1 w1) := ⟨Below.refl _ _⟩
  have HLE : Aside0 (B ≤ w1.heap.size) := ⟨by omega⟩
  clear hb1 hB
  go_wp2
  go_loopg [6, 7, 8] (n + 1) (fun kq v6 v7 v8 w' => ∃ (i : Nat), v8 = .int .i64 (i : Int) ∧ Aside0 (Kd.R k26 26 w' B (fun _ => True) v6 (itR xs ks i)) ∧ Aside0 (Kd.R kP 48 w' B (fun _ => True) v7 (waR xs i)) ∧ Aside0 (Below B w1 w') ∧ Aside0 (i ≤ n) ∧ Aside0 (n < i + kq))
  case atStart => exact ⟨0, by go_num, ⟨Kd.R_nil _ _ _ _ _⟩, ⟨Kd.R_nil _ _ _ _ _⟩, HBR, ⟨Nat.zero_le _⟩, ⟨by omega⟩⟩
  case round =>
    obtain ⟨i, rfl, hL, hW, hB, hi, hk⟩ := hrel
    have hi5 : (i : Int) ≤ 40 := by have := hi.out; omega
    by_cases hlt : i < n
    · have hlt' : (i : Int) < (n : Int) := by omega
      have hlm' : (i : Int) < (m : Int) := by omega
      obtain ⟨f, hf⟩ : ∃ f, gk = f + 1 := ⟨gk - 1, by have := hk.out; omega⟩
      obtain ⟨a1, rfl, p1⟩ := Kd.at_int (HR.out _ (HBB.out.2 _ hB.out)) (i : Int) (by omega) hlt'
      obtain ⟨a2, rfl, p2⟩ := Kd.at_int (HRK.out _ (HBB.out.2 _ hB.out)) (i : Int) (by omega) hlm'
      rw [Int.toNat_natCast] at p1 p2
      obtain ⟨x, hx⟩ : ∃ x, x = rd xs (i : Int) := ⟨_, rfl⟩
      obtain ⟨y, hy⟩ : ∃ y, y = rd ks (i : Int) := ⟨_, rfl⟩
      rw [← hx] at p1
      rw [← hy] at p2
      have HX := Aside0.mk hx
      have HY := Aside0.mk hy
      have m1 := Bits.mask_65535 x
      have m2 := Bits.mask_1 (x / 65536)
      have m3 := Bits.mask_255 (x % 65536)
      have m4 := Bits.mask_1 y
      clear hx hy
      have hle := Nat.le_trans HLE.out hB.out.size
      have HLEW := Aside0.mk hle
      have HPK : Aside0 (∀ W, Below w.heap.size w W → W.cell? (a2.add i) = some (.int .i64 y)) := ⟨fun W hW => by
        obtain ⟨_, e1, q⟩ := Kd.at_int (HRK.out W hW) (i : Int) (by omega) hlm'
        cases e1
        rw [Int.toNat_natCast, ← HY.out] at q
        exact q⟩
      have H3 := Aside0.mk (lit3 (x % 65536 / 256) (x % 256) (x / 65536 % 2) hle hL.out)
      have hll := len_itR xs ks i
      have hlw := len_waR xs i
      have HLL := Aside0.mk hll
      have HLW := Aside0.mk hlw
      clear hle hll hlw
      by_cases hy1 : y % 2 = 1
      · have hyb : (y % 2 == 1) = true := beq_iff_eq.2 hy1
        have HY1 := Aside0.mk hy1
        clear hy1
        go_wp2_with (first | ((with_reducible refine gate_builtin (b := .append) (xs := #[.tmp 48, .tmp 59]) rfl ?_); at_builtin; refine item_event _ _ rfl (.tmp 48) (.tmp 59) rfl B w1 u6 (itR xs ks i) 1 [x % 65536 / 256, x % 256, x / 65536 % 2] (some ⟨wr.heap.size, 0, none⟩) 3 3 rfl rfl ?aH ?aO ?aD ?aB ?aS rfl ?aL ?_; (case aH => simp); (case aO => exact Kd.R_alloc hL.out _); (case aD => exact H3.out); (case aB => exact hB.out.alloc HLEW.out _); (case aS => (have := HLEW.out; simp; omega)); (case aL => (have := HLL.out; omega)); intro v7 w7 h7 hb7 hg7; go_must (have HL7 := Aside0.mk h7; have HB7 := Aside0.mk hb7; have HW7 := Aside0.mk (Kd.R_over (Kd.R_alloc hW.out _) (Kd.R_alloc hL.out _) (by decide) hg7); clear h7 hb7 hg7)) | ((with_reducible refine gate_builtin (b := .append) (xs := #[.tmp 61, .tmp 65]) rfl ?_); at_builtin; refine link_event _ rfl (.tmp 61) (.tmp 65) rfl B w1 u7 (waR xs i) (x % 65536) (x / 65536 % 2) rfl rfl ?aO ?aB ?aS ?aL ?_; (case aO => exact HW7.out); (case aB => exact HB7.out); (case aS => exact Nat.le_trans HLE.out HB7.out.size); (case aL => (have := HLW.out; omega)); intro v8 w8 h8 hb8 hg8; go_must (have HW8 := Aside0.mk h8; have HB8 := Aside0.mk hb8; have HL8 := Aside0.mk (Kd.R_over HL7.out HW7.out (by decide) hg8); clear h8 hb8 hg8; have p8 := HPK.out w8 (HBB.out.2 _ HB8.out))))
        have m7 := Bits.mask_7 y
        have m127 := Bits.mask_127 y
        have hw2 : IntKind.i64.wrap (2 + y % 128) = 2 + y % 128 := IntWalk.i64_in _ (by omega)
        have hS0 : w8.cell? (a2.add i) = some (.int .i64 y) := p8
        have hS1 : w8.drew.cell? (a2.add i) = some (.int .i64 y) := p8
        clear m1 m2 m3 m4
        obtain ⟨q, hq⟩ : ∃ q : Nat, y % 8 = (q : Int) := ⟨(y % 8).toNat, by omega⟩
        have hq8 : q ≤ 8 := by omega
        obtain ⟨Z, hmk, hZ⟩ := made_row w8.drew B q (y % 8) hq (Nat.le_trans HLE.out HB8.out.size) (by omega) (ok := fun k => some k ≠ v7.ownBlock) (fun e => by
          have := Kd.R_lt HL8.out _ e.symm
          exact Nat.lt_irrefl _ this)
        have hZ' := Aside0.mk hZ
        have HSZ : Aside0 (w8.heap.size + 1 = (w8.drew.alloc (.cells Z 5)).heap.size) := ⟨by simp⟩
        have HQ := Aside0.mk hq
        clear hq hZ
        go_region_held3 (fun w' => w'.cell? (a2.add i) = some (.int .i64 y)) (first | assumption | exact pw_cell_below (below_alloc (Below.refl _ _) _) (by assumption))
          (first | ((refine item_step2 rfl (.tmp 73) (.tmp 87) rfl B w1 _ (w8.drew.alloc (.cells Z 5)) v7 (itR xs ks i ++ [itA x]) (2 + y % 128) (List.replicate q 0) (some ⟨w8.heap.size, 0, none⟩) q q rfl rfl ?aX ?aO ?aD ?aB ?aS (by simp) ?aL ?_); (case aX => exact congrArg (fun k => Value.slice (some ⟨k, 0, none⟩) 1 1) HSZ.out); (case aO => exact Kd.R_alloc (Kd.R_drew HL8.out) _); (case aD => exact hZ'.out); (case aB => exact HB8.out.drew.alloc (Nat.le_trans HLE.out HB8.out.size) _); (case aS => (have h1 := HLE.out; have h2 := HB8.out.size; simp; omega)); (case aL => (have := HLL.out; simp; omega)); intro v10 w10 h10 hb10 hg10; have hS'' : w10.cell? (a2.add i) = some (.int .i64 y) := HPK.out w10 (HBB.out.2 _ hb10)))
        have HL10 := Aside0.mk h10
        have HB10 := Aside0.mk hb10
        have HW10 := Aside0.mk (Kd.R_over (Kd.R_alloc (Kd.R_drew HW8.out) (.cells Z 5)) (Kd.R_alloc (Kd.R_drew HL8.out) (.cells Z 5)) (by decide) hg10)
        clear h10 hb10 hg10 hS0 hS1 hS'' hmk
        go_wp2
        go_roundg f
        case measure => omega
        case rel =>
          refine ⟨i + 1, by go_num, ⟨?_⟩, ⟨?_⟩, HB10, ⟨by omega⟩, ⟨by have := hk.out; omega⟩⟩
          · have h := HL10.out
            rw [itR, ← HY.out, ← HX.out, if_pos HY1.out]
            have e : itB y = ⟨2 + y % 128, List.replicate q 0⟩ := by
              unfold itB
              rw [HQ.out, Int.toNat_natCast]
            rw [e]
            simpa using h
          · have h := HW10.out
            rw [waR, ← HX.out]
            exact h
      · have hyb : (y % 2 == 1) = false := beq_eq_false_iff_ne.2 hy1
        have HY1 := Aside0.mk hy1
        clear hy1
        go_wp2_with (first | ((with_reducible refine gate_builtin (b := .append) (xs := #[.tmp 48, .tmp 59]) rfl ?_); at_builtin; refine item_event _ _ rfl (.tmp 48) (.tmp 59) rfl B w1 u6 (itR xs ks i) 1 [x % 65536 / 256, x % 256, x / 65536 % 2] (some ⟨wr.heap.size, 0, none⟩) 3 3 rfl rfl ?aH ?aO ?aD ?aB ?aS rfl ?aL ?_; (case aH => simp); (case aO => exact Kd.R_alloc hL.out _); (case aD => exact H3.out); (case aB => exact hB.out.alloc HLEW.out _); (case aS => (have := HLEW.out; simp; omega)); (case aL => (have := HLL.out; omega)); intro v7 w7 h7 hb7 hg7; go_must (have HL7 := Aside0.mk h7; have HB7 := Aside0.mk hb7; have HW7 := Aside0.mk (Kd.R_over (Kd.R_alloc hW.out _) (Kd.R_alloc hL.out _) (by decide) hg7); clear h7 hb7 hg7)) | ((with_reducible refine gate_builtin (b := .append) (xs := #[.tmp 61, .tmp 65]) rfl ?_); at_builtin; refine link_event _ rfl (.tmp 61) (.tmp 65) rfl B w1 u7 (waR xs i) (x % 65536) (x / 65536 % 2) rfl rfl ?aO ?aB ?aS ?aL ?_; (case aO => exact HW7.out); (case aB => exact HB7.out); (case aS => exact Nat.le_trans HLE.out HB7.out.size); (case aL => (have := HLW.out; omega)); intro v8 w8 h8 hb8 hg8; go_must (have HW8 := Aside0.mk h8; have HB8 := Aside0.mk hb8; have HL8 := Aside0.mk (Kd.R_over HL7.out HW7.out (by decide) hg8); clear h8 hb8 hg8; have p8 := HPK.out w8 (HBB.out.2 _ HB8.out))))
        go_roundg f
        case measure => omega
        case rel =>
          refine ⟨i + 1, by go_num, ⟨?_⟩, ⟨?_⟩, HB8, ⟨by omega⟩, ⟨by have := hk.out; omega⟩⟩
          · have h := HL8.out
            rw [itR, ← HY.out, ← HX.out, if_neg HY1.out]
            exact h
          · have h := HW8.out
            rw [waR, ← HX.out]
            exact h
    · have hin : i = n := by have := hi.out; omega
      subst hin
      obtain ⟨A6, c6, rfl⟩ := Kd.R_slice hL.out
      obtain ⟨A7, c7, rfl⟩ := Kd.R_slice hW.out
      have hr6 := Kd.R_reads' hL.out
      have hr7 := Kd.R_reads' hW.out
      have hgood := good_itR xs ks i
      have hlen := len_itR xs ks i
      have hlk := links_itR xs ks i
      have hwl := len_waR xs i
      obtain ⟨l, hl0⟩ : ∃ l, l = itR xs ks i := ⟨_, rfl⟩
      obtain ⟨wa, hwa⟩ : ∃ wa, wa = waR xs i := ⟨_, rfl⟩
      rw [← hl0] at hr6 hgood hlen hlk ⊢
      rw [← hwa] at hr7 hlk hwl ⊢
      rw [hwl] at hr7 ⊢
      have C7 := Aside0.mk hr7.2.2
      obtain ⟨g, hg⟩ : ∃ g, g = l.length := ⟨_, rfl⟩
      rw [← hg] at hr6 ⊢
      have C6 := Aside0.mk hr6.2.2
      have HC6 := Aside0.mk hr6.2.1
      have hg5 : g ≤ 80 := by omega
      have HG := Aside0.mk hg
      have hfl := flat_len l 7 (fun x hx => len7 xs ks i x (by rw [← hl0]; exact hx))
      have hput := putL_ok l (fun x hx => ⟨(hgood x hx).1, (hgood x hx).2.1⟩)
      have HBY : Aside0 (∀ y, y ∈ (putL l).1 → 0 ≤ y ∧ y < 256) := ⟨putL_byte l (fun x hx => (hgood x hx).2.2)⟩
      have hget := get_put l (by rw [hput])
      obtain ⟨P, hP⟩ : ∃ P, P = l.flatMap enc1 := ⟨_, rfl⟩
      rw [← hP] at hput hfl
      rw [hput] at hget
      have hPl : P.length ≤ 1000 := by omega
      have hrep : repL P = (wa, 0) := by
        unfold repL
        rw [hget]
        exact hlk
      have HREP := Aside0.mk hrep
      have HPUT := Aside0.mk hput
      have HPL := Aside0.mk hPl
      clear hr6 hr7 hgood hlen hlk hwl hl0 hwa hg hfl hput hget hP hPl hrep
      go_wp2_with fail
      refine (put_any wr A6 g c6 l C6.out HC6.out (by omega)).mono ?_
      rw [HPUT.out]
      rintro e w2 ⟨v2, rfl, hR2, hb2⟩
      obtain ⟨A2b, c2b, rfl⟩ := Kd.R_slice hR2
      have hr2 := Kd.R_reads' hR2
      obtain ⟨L, hL2⟩ : ∃ L, L = P.length := ⟨_, rfl⟩
      rw [HPUT.out] at HBY
      dsimp only at hr2 HBY ⊢
      rw [← hL2] at hr2 ⊢
      have C2 := Aside0.mk hr2.2.2
      have HC2 := Aside0.mk hr2.2.1
      have HB2 : Aside0 (Below w.heap.size w w2) := ⟨below_step (HBB.out.2 _ hB.out) hb2⟩
      have C72 := Aside0.mk (Kd.C_below C7.out hb2)
      have hL5 : L ≤ 1000 := by rw [hL2]; exact HPL.out
      clear hR2 hr2 hb2 hL2
      go_wp2_with fail
      refine (links_at w2 A2b L c2b P C2.out HC2.out (by omega) HBY.out).mono ?_
      rw [HREP.out]
      rintro e w3 ⟨v3, rfl, hR3, hb3⟩
      obtain ⟨A3, c3, rfl⟩ := Kd.R_slice hR3
      have hr3 := (Kd.R_reads' hR3).2.2
      have hwal : wa.length = i := C7.out.1
      dsimp only at hr3 ⊢
      rw [hwal] at hr3 ⊢
      have C3 := Aside0.mk hr3
      have C73 := Aside0.mk (Kd.C_below C72.out hb3)
      have HB3 : Aside0 (Below w.heap.size w w3) := ⟨below_step HB2.out hb3⟩
      clear hR3 hr3 hb3 hwal
      go_wp2_with fail
      refine (num_any _ _).mono ?_
      rintro e w' ⟨rfl, rfl⟩
      go_wp2_with fail
      refine (num_any _ _).mono ?_
      rintro e w' ⟨rfl, rfl⟩
      go_wp2_with fail
      refine (same_any w3 A3 A7 c3 c7 i wa C3.out C73.out (by omega)).mono ?_
      rintro e w4 ⟨rfl, hd4⟩
      have HB4 : Aside0 (Below w.heap.size w w4) := ⟨below_step HB3.out hd4.below⟩
      clear hd4
      go_wp2
      go_ret
      exact ⟨rfl, HB4.out⟩
end Go.Proofs.Ytgpeogbifpbcdaa.Tlv
