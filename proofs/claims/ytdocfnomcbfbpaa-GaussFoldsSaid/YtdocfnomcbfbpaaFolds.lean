/- The walk of gauss.Hash and of the law GaussFolds. Conditions: addresses of 32 bits; the slice reads as bytes. -/
import Derived.Test.YtdocfnomcbfbpaaFoldsPlain
import Derived.Test.YtdocfnomcbfbpaaJoins
import Derived.Deep.RegionHeld3
namespace Go.Proofs.Ytdocfnomcbfbpaa.Gauss
open Go.RowKit Go.Proofs.Ytdocfnomcbfbpaa.Flt Go.Proofs.Ytdocfnomcbfbpaa.PGaussFolds Go.Proofs.YtdocfnomcbfbpaaW.PrintWords Go.Proofs.YtdocfnomcbfbpaaW.PrintMore Go.Proofs.YtdocfnomcbfbpaaW.PrintLast

theorem fold_R {ys : List Int} (v : Value) (g : Nat) (ok : Nat → Prop) (w : World) (hr : Kd.R (Kd.int .u8) 5 w g ok v ys) (hB : Byt ys) (p : Int × Int) (hp : fold ys = p) :
    Calls Try.prog 9 #[v] w fun e w' => e = .returned (.complex .f64 (floatOfInt .f64 p.1) (floatOfInt .f64 p.2)) ∧ w = w' := by
  obtain ⟨A, c, rfl⟩ := Kd.R_slice hr
  exact fold_D A c _ w (Kd.R_reads' hr).2.2 hB rfl p hp
theorem hash_any (a b p s d : Int) (r : List Int) (hB : Byt r) (hb : packet_Bytes.f a b p s d = some r) (w : World) :
    Calls Try.prog 11 #[.agg #[.int .u32 a, .int .u32 b, .int .i64 p, .int .i64 s, .int .i64 d]] w fun e w' => e = .returned (.int .i64 ((fold r).1 * 7 + (fold r).2)) ∧ Below w.heap.size w w' := by
  obtain ⟨q, hq⟩ : ∃ q, q = fold r := ⟨_, rfl⟩
  rw [← hq]
  have hin : In q := by rw [hq]; exact fold_in _
  obtain ⟨h1, h2, h3, h4⟩ := hin
  have c1 := int_in q.1 h1 h2
  have c2 := int_in q.2 h3 h4
  have HQ : Hid (fold r = q) := Lib.hid hq.symm
  have HB := Lib.hid hB
  have Hb := Lib.hid hb
  clear hB hb hq
  have hu32 := Try.underlying32
  go_enter Try.func11, Try.ntmps11
  go_wp2_with fail
  refine (packet_Bytes.calls a b p s d r _ Hb.out).mono ?_
  rintro e w' ⟨v, rfl, hR, hbel⟩
  have HR := Aside0.mk hR
  have HW : Aside0 (Below w.heap.size w w') := ⟨((Below.refl _ _).alloc (Nat.le_refl _) _).trans (hbel.mono (by simp))⟩
  clear hR hbel
  go_wp2_with (go_at_call 9; go_must (refine (fold_R _ _ _ _ HR.out HB.out q HQ.out).mono ?_); rintro e w2 ⟨rfl, rfl⟩)
  go_ret
  exact ⟨rfl, HW.out⟩
/-- The tuple's box at block g. -/
def Bx (g : Nat) (a b p s d : Int) (w' : World) : Prop := g < w'.heap.size ∧ w'.cell? ⟨g, 0, none⟩ = some (.int .u32 a) ∧ w'.cell? ⟨g, 1, none⟩ = some (.int .u32 b) ∧ w'.cell? ⟨g, 2, none⟩ = some (.int .i64 p) ∧ w'.cell? ⟨g, 3, none⟩ = some (.int .i64 s) ∧ w'.cell? ⟨g, 4, none⟩ = some (.int .i64 d)
theorem Bx.below {g : Nat} {a b p s d : Int} {w w' : World} (h : Below w.heap.size w w') (x : Bx g a b p s d w) : Bx g a b p s d w' := by
  obtain ⟨h0, h1, h2, h3, h4, h5⟩ := x
  have hs := h.size
  refine ⟨by omega, ?_, ?_, ?_, ?_, ?_⟩
  all_goals rw [h.cell (by exact h0)]; assumption
theorem folds_long (A : Option Addr) (cap : Nat) (xs : List Int) (a b p s d : Int) (w : World) (hl : 1000 < xs.length) (hm : xs.length ≤ 9223372036854775807) : Calls Try.prog 6 #[.slice A xs.length cap, .agg #[.int .u32 a, .int .u32 b, .int .i64 p, .int .i64 s, .int .i64 d]] w fun e w' => e = .returned (.bool true) ∧ Below w.heap.size w w' := by
  have hu32 := Try.underlying32
  go_enter Try.func6, Try.ntmps6
  go_wp2_with fail
  refine (alive_any _).mono ?_
  rintro e w' ⟨rfl, hb⟩
  go_wp2
  go_ret
  exact ⟨rfl, ((Below.refl _ _).alloc (Nat.le_refl _) _).trans (hb.mono (by simp))⟩
/-- What the last region keeps. -/
theorem Bx.step {g : Nat} {a b p s d : Int} {w0 w w' : World} (h : Below w.heap.size w w') (x : Below w0.heap.size w0 w ∧ Bx g a b p s d w) : Below w0.heap.size w0 w' ∧ Bx g a b p s d w' := ⟨below_step x.1 h, Bx.below h x.2⟩
set_option maxHeartbeats 4000000 in
set_option maxRecDepth 100000 in
theorem folds_short (A : Option Addr) (cap : Nat) (xs : List Int) (a b p s d : Int) (w : World) (hl : xs.length ≤ 1000) (hcap : xs.length ≤ cap) (hr : Kd.C (Kd.int .u8) w A xs.length xs) (hB : Byt xs) (ha : 0 ≤ a ∧ a < 4294967296) (hb : 0 ≤ b ∧ b < 4294967296) :
    Calls Try.prog 6 #[.slice A xs.length cap, .agg #[.int .u32 a, .int .u32 b, .int .i64 p, .int .i64 s, .int .i64 d]] w fun e w' => e = .returned (.bool true) ∧ Below w.heap.size w w' := by
  obtain ⟨r, hrB, hrl, hrb, hrp⟩ := bytes_any a b p s d ha hb
  obtain ⟨q, hq⟩ : ∃ q, q = fold xs := ⟨_, rfl⟩
  have hin : In q := by rw [hq]; exact fold_in _
  obtain ⟨h1, h2, h3, h4⟩ := hin
  have c1 := int_in q.1 h1 h2
  have c2 := int_in q.2 h3 h4
  obtain ⟨H, hH⟩ : ∃ H, H = (fold r).1 * 7 + (fold r).2 := ⟨_, rfl⟩
  have H11 : Hid (∀ w, Calls Try.prog 11 #[.agg #[.int .u32 a, .int .u32 b, .int .i64 p, .int .i64 s, .int .i64 d]] w fun e w' => e = .returned (.int .i64 H) ∧ Below w.heap.size w w') := by
    rw [hH]; exact Lib.hid fun w => hash_any a b p s d r hrB hrb w
  have H12 : Hid (∀ w, Calls Try.prog 12 #[.agg #[.int .u32 a, .int .u32 b, .int .i64 p, .int .i64 s, .int .i64 d]] w fun e w' => e = .returned (.int .i64 H) ∧ Below w.heap.size w w') :=
    Lib.hid fun w => waymarkref1_Hash.calls 1001 a b p s d H w (by rw [hH]; exact ref_hash a b p s d r hrB hrl hrp)
  have HF : Hid (waymarkref1_Fold.f 1001 xs = some (q.1, q.2)) := Lib.hid (by rw [hq]; exact ref_fold xs hB hl 0)
  have HQ : Hid (fold ([] ++ xs) = q) := Lib.hid (by rw [hq]; rfl)
  have HB : Hid (Byt ([] ++ xs)) := Lib.hid hB
  have HR := Lib.hid hr
  have HC := Lib.hid hcap
  have hu32 := Try.underlying32
  clear hr hB hq hH hrB hrl hrb hrp ha hb hcap
  go_enter Try.func6, Try.ntmps6
  go_wp2_with fail
  refine (alive_any _).mono ?_
  rintro e w1 ⟨rfl, hb⟩
  have HB0 : Aside0 (Below w.heap.size w w1) := ⟨((Below.refl _ _).alloc (Nat.le_refl _) _).trans (hb.mono (by simp))⟩
  have HX : Aside0 (Bx w.heap.size a b p s d w1) := ⟨Bx.below hb ⟨by simp, by simp, by simp, by simp, by simp, by simp⟩⟩
  clear hb
  go_wp2_with fail
  refine (waymarkref1_Fold.calls 1001 A cap xs q.1 q.2 w1 (Kd.C_below HR.out HB0.out) HC.out HF.out).mono ?_
  rintro e w2 ⟨rfl, hd⟩
  have HB1 := Aside0.mk hd.below
  clear hd
  go_wp2_with (first | ((with_reducible refine gate_builtin (b := .append) (xs := #[.const (.slice none 0 0), .tmp 23]) rfl ?_); at_builtin; refine Kd.R_append_rows (Kd.int .u8) (w0 := w1) w1.heap.size rfl (.const (.slice none 0 0)) (.tmp 23) 27 5 (.int .u8 0) 1 rfl Try.underlying27 info5 rfl (by decide) (by omega) (.slice none 0 0) ([] : List Int) xs _ _ _ (fun _ => True) (fun _ => False) rfl rfl ?aO ?aR (fun _ _ h => h) (fun _ h => h.elim) ?aF ?aB ?aS ?aL ?_; (case aR => exact Kd.C_below (Kd.C_below HR.out HB0.out) HB1.out); (case aB => exact HB1.out); (case aF => exact fun _ _ => trivial); (case aO => exact Kd.R_nil _ _ _ _ _); (case aS => exact below_size HB1.out); (case aL => simp; omega); intro v1 w3 ho hb1 hg hat; clear HB1 hg hat; have HB1 := Aside0.mk hb1; have HO := Aside0.mk ho; clear ho hb1) | (go_at_call 9; go_must (refine (fold_R _ _ _ _ HO.out HB.out q HQ.out).mono ?_); rintro e w4 ⟨rfl, rfl⟩))
  have hS0 : Below w.heap.size w w3 ∧ Bx w.heap.size a b p s d w3 := ⟨below_step HB0.out HB1.out, Bx.below HB1.out HX.out⟩
  have hS1 : Below w.heap.size w w3.drew ∧ Bx w.heap.size a b p s d w3.drew := Bx.step ((Below.refl _ _).drew) hS0
  clear HB0 HX HB1 HO hl
  go_region_held3 (fun w' => Below w.heap.size w w' ∧ w.heap.size < w'.heap.size ∧ w'.cell? ⟨w.heap.size, 0, none⟩ = some (.int .u32 a) ∧ w'.cell? ⟨w.heap.size, 1, none⟩ = some (.int .u32 b) ∧ w'.cell? ⟨w.heap.size, 2, none⟩ = some (.int .i64 p) ∧ w'.cell? ⟨w.heap.size, 3, none⟩ = some (.int .i64 s) ∧ w'.cell? ⟨w.heap.size, 4, none⟩ = some (.int .i64 d)) (first | assumption | exact hS1 | exact hS0) (first | (go_at_call 11; refine (H11.out _).mono ?_; rintro e w' ⟨rfl, hb⟩; have hS' := Bx.step (g := w.heap.size) (a := a) (b := b) (p := p) (s := s) (d := d) (w0 := w) hb (by assumption); clear hb) | (go_at_call 12; refine (H12.out _).mono ?_; rintro e w' ⟨rfl, hb⟩; have hS' := Bx.step (g := w.heap.size) (a := a) (b := b) (p := p) (s := s) (d := d) (w0 := w) hb (by assumption); clear hb))
  all_goals go_wp2
  all_goals (go_ret; exact ⟨rfl, hS'.1⟩)
end Go.Proofs.Ytdocfnomcbfbpaa.Gauss
