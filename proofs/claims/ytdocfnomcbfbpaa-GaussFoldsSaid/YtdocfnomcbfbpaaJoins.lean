/- The walk of the law GaussJoins: true for all bytes. -/
import Derived.Test.YtdocfnomcbfbpaaAlive
import Derived.Test.YtdocfnomcbfbpaaWMore
import Derived.WalkSpells
namespace Go.Proofs.Ytdocfnomcbfbpaa.Gauss
open Go.RowKit Go.Proofs.Ytdocfnomcbfbpaa.Flt Go.Proofs.YtdocfnomcbfbpaaW.PrintWords Go.Proofs.YtdocfnomcbfbpaaW.PrintMore

theorem info5 : (Try.prog.info? 5).map (fun i => (i.zero, i.size, i.bytes)) = some (some (.int .u8 0), 1, 1) := by kernel_rfl
theorem ints_of {k : IntKind} {w : World} {A : Option Addr} {xs : List Int} (h : Kd.C (Kd.int k) w A xs.length xs) : ReadsInt w k A xs.length xs := by
  obtain ⟨h1, h2, h3⟩ := h
  refine ⟨h1, h2, fun hn => ?_⟩
  obtain ⟨ad, rfl, hc⟩ := h3 hn
  refine ⟨ad, rfl, fun j hj => ?_⟩
  obtain ⟨c, _, rfl, hcell⟩ := hc j _ (List.getElem?_eq_getElem hj)
  have := hcell 0 _ rfl
  simpa [Kd.int, Kd.scalar, hj] using this
theorem fold_C (A : Option Addr) (cap : Nat) (xs : List Int) (w : World) (hr : Kd.C (Kd.int .u8) w A xs.length xs) (hB : Byt xs) :
    Calls Try.prog 9 #[.slice A xs.length cap] w fun e w' => e = .returned (.complex .f64 (floatOfInt .f64 (fold xs).1) (floatOfInt .f64 (fold xs).2)) ∧ w = w' := fold_any A cap xs w (ints_of hr) hB
theorem fold_D {ys : List Int} (A : Option Addr) (cap k : Nat) (w : World) (hr : Kd.C (Kd.int .u8) w A ys.length ys) (hB : Byt ys) (hk : k = ys.length) (p : Int × Int) (hp : fold ys = p) :
    Calls Try.prog 9 #[.slice A k cap] w fun e w' => e = .returned (.complex .f64 (floatOfInt .f64 p.1) (floatOfInt .f64 p.2)) ∧ w = w' := by
  subst hk; subst hp; exact fold_C A cap ys w hr hB
theorem int_in (n : Int) (h0 : 0 ≤ n) (h1 : n ≤ 65520) (w : World) : (convert 25 3 (.float .f64 (floatOfInt .f64 n))).run Try.prog w = .ok (.int .i64 n) w :=
  run_convert_float_int w 25 3 .f64 .i64 _ n (by rw [Try.underlying25]; rfl) Try.underlying3 (int_is (rep_in n h0 (by omega)) (by omega) (by omega))
theorem joins_long (A : Option Addr) (cap : Nat) (xs : List Int) (c : Int) (w : World) (hl : 1000 < xs.length) (hm : xs.length ≤ 9223372036854775807) : Calls Try.prog 4 #[.slice A xs.length cap, .int .u8 c] w fun e w' => e = .returned (.bool true) ∧ Below w.heap.size w w' := by
  go_enter Try.func4, Try.ntmps4
  go_wp2_with fail
  refine (alive_any _).mono ?_
  rintro e w' ⟨rfl, hb⟩
  go_wp2
  go_ret
  exact ⟨rfl, hb⟩
set_option maxHeartbeats 2000000 in
theorem joins_short (A : Option Addr) (cap : Nat) (xs : List Int) (c : Int) (w : World) (hl : xs.length ≤ 1000) (hr : Kd.C (Kd.int .u8) w A xs.length xs) (hB : Byt xs) (hc : 0 ≤ c ∧ c < 256) :
    Calls Try.prog 4 #[.slice A xs.length cap, .int .u8 c] w fun e w' => e = .returned (.bool true) ∧ Below w.heap.size w w' := by
  obtain ⟨p, hp⟩ : ∃ p, p = fold xs := ⟨_, rfl⟩
  have hin : In p := by rw [hp]; exact fold_in _
  obtain ⟨m, hmv⟩ : ∃ m, m = md (p.1 * 3 - p.2 * 2) := ⟨_, rfl⟩
  obtain ⟨n, hnv⟩ : ∃ n, n = md (p.1 * 2 + p.2 * 3) := ⟨_, rfl⟩
  have hmb : 0 ≤ m ∧ m ≤ 65520 := by rw [hmv]; exact md_range _
  have hnb : 0 ≤ n ∧ n ≤ 65520 := by rw [hnv]; exact md_range _
  have HF : Hid (∀ w', Below w.heap.size w w' → Calls Try.prog 9 #[.slice A xs.length cap] w' fun e w2 => e = .returned (.complex .f64 (floatOfInt .f64 p.1) (floatOfInt .f64 p.2)) ∧ w' = w2) := by
    rw [hp]
    exact Lib.hid fun w' hb => fold_C A cap xs w' (Kd.C_below hr hb) hB
  have HM : Hid (∀ w, Calls Try.prog 8 #[.complex .f64 (floatOfInt .f64 p.1) (floatOfInt .f64 p.2), .complex .f64 4613937818241073152 4611686018427387904] w fun e w' => e = .returned (.complex .f64 (floatOfInt .f64 m) (floatOfInt .f64 n)) ∧ w = w') := by
    rw [hmv, hnv]
    exact Lib.hid (mul_turn p hin)
  have c1 := int_in m hmb.1 hmb.2
  have c2 := int_in n hnb.1 hnb.2
  have e1 : (m + c).tmod 65521 = md (m + c) := Int.tmod_eq_emod_of_nonneg (by omega)
  have e2 : (n + 1).tmod 65521 = md (n + 1) := Int.tmod_eq_emod_of_nonneg (by omega)
  have HS : Hid (fold (xs ++ [c]) = (md (m + c), md (n + 1))) := by
    rw [fold_snoc, ← hp, hmv, hnv]
    exact rfl
  have b1 := md_range (m + c)
  have b2 := md_range (n + 1)
  have O1 := same_lit (md (m + c)) b1.1 (by omega) _ rfl
  have O2 := same_lit (md (n + 1)) b2.1 (by omega) _ rfl
  have HR := Lib.hid hr
  have HB := Lib.hid hB
  clear hr hB hp hmv hnv hin b1 b2
  go_enter Try.func4, Try.ntmps4
  go_wp2_with fail
  refine (alive_any _).mono ?_
  rintro e w' ⟨rfl, hb⟩
  go_wp2_with fail
  refine (HF.out _ hb).mono ?_
  rintro e w2 ⟨rfl, rfl⟩
  go_wp2_with fail
  refine (HM.out _).mono ?_
  rintro e w2 ⟨rfl, rfl⟩
  have HB1 := Aside0.mk hb
  clear hb
  go_wp2_with (first | ((with_reducible refine gate_builtin (b := .append) (xs := #[.const (.slice none 0 0), .tmp 33]) rfl ?_); at_builtin; refine Kd.R_append_rows (Kd.int .u8) (w0 := w) w.heap.size rfl (.const (.slice none 0 0)) (.tmp 33) 27 5 (.int .u8 0) 1 rfl Try.underlying27 info5 rfl (by decide) (by omega) (.slice none 0 0) ([] : List Int) xs _ _ _ (fun _ => True) (fun _ => False) rfl rfl ?aO ?aR (fun _ _ h => h) (fun _ h => h.elim) ?aF ?aB ?aS ?aL ?_; (case aR => exact Kd.C_below HR.out HB1.out); (case aB => exact HB1.out); (case aF => exact fun _ _ => trivial); (case aO => exact Kd.R_nil _ _ _ _ _); (case aS => exact below_size HB1.out); (case aL => simp; omega); intro v1 w1 ho hb1 hg hat; clear HB1 hg hat; have HB1 := Aside0.mk hb1; have HO := Aside0.mk ho; clear ho hb1; obtain ⟨A1, c1, e1⟩ := Kd.R_slice HO.out; subst e1) | ((with_reducible refine gate_builtin (b := .append) (xs := #[.tmp 34, .tmp 36]) rfl ?_); at_builtin; refine Kd.R_append (Kd.int .u8) (w0 := w) w.heap.size rfl (.tmp 34) (.tmp 36) 27 5 (.int .u8 0) 1 rfl Try.underlying27 info5 rfl (by decide) (by omega) _ ([] ++ xs) c [.int .u8 c] (fun _ => True) (fun _ => False) rfl ?aX ?aP (fun _ h => h.elim) ?aF ?aO ?aB ?aS ?aL ?_; (case aX => first | rfl | (go_simp; rfl)); (case aP => rfl); (case aO => exact HO.out); (case aF => exact fun _ _ => trivial); (case aB => exact HB1.out); (case aS => exact below_size HB1.out); (case aL => simp; omega); intro v2 w2 ho hb1 hg hat; clear HB1 hg hat; have HB1 := Aside0.mk hb1; have HO2 := Aside0.mk ho; clear ho hb1; obtain ⟨A2, c2, e2⟩ := Kd.R_slice HO2.out; subst e2) | (go_at_call 9; go_must (refine (fold_D A2 c2 _ _ (Kd.R_reads' HO2.out).2.2 ?hB ?hl (md (m + c), md (n + 1)) ?hp).mono ?_); (case hB => (intro x hx; rcases List.mem_append.1 hx with hx | hx; exact HB.out x (by simpa using hx); (have : x = c := by simpa using hx); omega)); (case hl => simp); (case hp => (rw [List.nil_append]; exact HS.out)); rintro e w' ⟨rfl, rfl⟩))
  go_ret
  exact ⟨rfl, HB1.out⟩
end Go.Proofs.Ytdocfnomcbfbpaa.Gauss
