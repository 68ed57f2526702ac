/- The walk of the law EntryTorn, over the printed contracts of EntryTells. Condition: none. -/
import Derived.Test.YtmoojmbblgbniaaPlainEntryTorn
import Derived.Test.YtmoojmbblgbniaaWMore
import Derived.WalkSpells
import Derived.WalkKit
namespace Go.Proofs.Ytmoojmbblgbniaa.Torn
open Go.RowKit Go.Proofs.Ytmoojmbblgbniaa.PEntryTells Go.Proofs.YtmoojmbblgbniaaW.PrintWords Go.Proofs.YtmoojmbblgbniaaW.PrintMore Go.Proofs.YtmoojmbblgbniaaW.PrintLast
open Go.Proofs.Ytmoojmbblgbniaa.PlainEntryTells Go.Proofs.Ytmoojmbblgbniaa.PlainEntryTorn Go.Proofs.Ytmoojmbblgbniaa.Pure

theorem get_torn {xs : List Int} (v : Value) (g : Nat) (ok : Nat → Prop) (w : World) (hR : Kd.R (Kd.int .u8) 5 w g ok v xs) (hB : Byt xs) (hl : xs.length ≤ 5200) (h : (getB xs).2 = 2) :
    Calls Try.prog 19 #[v] w fun e w' => (∃ u, e = .returned (.tuple #[u, .int .i64 2])) ∧ Below w.heap.size w w' := by
  obtain ⟨A, c, rfl⟩ := Kd.R_slice hR
  refine (entry_Get.calls 3000 ok A c xs (getB xs).1 (getB xs).2 w (Kd.R_V hR) (get_is xs hB hl 3000 (Nat.le_refl _))).mono ?_
  rintro e w' ⟨u, rfl, _, hb⟩
  rw [h]
  exact ⟨⟨u, rfl⟩, hb⟩
theorem info5 : (Try.prog.info? 5).map (fun i => (i.zero, i.size, i.bytes)) = some (some (.int .u8 0), 1, 1) := by kernel_rfl
theorem put_out (l : List S51) (h : rightB l = false) (A : Option Addr) (cap : Nat) (w : World) (hr : Kd.C k51 w A l.length l) (hc : l.length ≤ cap) :
    Calls Try.prog 18 #[.slice A l.length cap] w fun e w' => (∃ u, e = .returned (.tuple #[u, .int .i64 1])) ∧ Below w.heap.size w w' := by
  have hf := ref_is l 2003 (by omega)
  rw [h, if_neg (by decide)] at hf
  refine (waymarkref1_PutEntries.calls 2003 A cap l _ _ w hr hc hf).mono ?_
  rintro e w' ⟨u, rfl, _, hb⟩
  exact ⟨⟨u, rfl⟩, hb⟩
theorem put_in (l : List S51) (h : rightB l = true) (A : Option Addr) (cap : Nat) (w : World) (hr : Kd.C k51 w A l.length l) (hc : l.length ≤ cap) :
    Calls Try.prog 18 #[.slice A l.length cap] w fun e w' => (∃ A1 c1, e = .returned (.tuple #[.slice A1 (enc l).length c1, .int .i64 0]) ∧ Kd.R (Kd.int .u8) 5 w' w.heap.size (fun _ => True) (.slice A1 (enc l).length c1) (enc l)) ∧ Below w.heap.size w w' := by
  have hf := ref_is l 2003 (by omega)
  rw [h, if_pos rfl] at hf
  refine (waymarkref1_PutEntries.calls 2003 A cap l _ _ w hr hc hf).mono ?_
  rintro e w' ⟨u, rfl, hR, hb⟩
  obtain ⟨A1, c1, rfl⟩ := Kd.R_slice hR
  exact ⟨⟨A1, c1, rfl, hR⟩, hb⟩
theorem torn_not (A : Option Addr) (cap : Nat) (l : List S51) (n : Int) (w : World) (hr : Kd.C k51 w A l.length l) (hc : l.length ≤ cap) (h : rightB l = false) :
    Calls Try.prog 9 #[.slice A l.length cap, .int .i64 n] w fun e w' => e = .returned (.bool true) ∧ Below w.heap.size w w' := by
  have HR := Aside0.mk hr
  clear hr
  go_enter Try.func9, Try.ntmps9
  go_wp2_with fail
  refine (waymarklaw1_alive.calls 3000 true w (alive_is 3000 (Nat.le_refl _))).mono ?_
  rintro e w1 ⟨rfl, hb1⟩
  go_wp2_with fail
  refine (put_out l h A cap w1 (Kd.C_below HR.out hb1) hc).mono ?_
  rintro e w2 ⟨⟨u, rfl⟩, hb2⟩
  go_wp2
  go_ret
  exact ⟨rfl, below_step hb1 hb2⟩
theorem torn_out (A : Option Addr) (cap : Nat) (l : List S51) (n : Int) (w : World) (hr : Kd.C k51 w A l.length l) (hc : l.length ≤ cap) (h : rightB l = true) (hn : (100 : Int) < (l.length : Int) ∨ n < 0) :
    Calls Try.prog 9 #[.slice A l.length cap, .int .i64 n] w fun e w' => e = .returned (.bool true) ∧ Below w.heap.size w w' := by
  have HR := Aside0.mk hr
  clear hr
  go_enter Try.func9, Try.ntmps9
  go_wp2_with fail
  refine (waymarklaw1_alive.calls 3000 true w (alive_is 3000 (Nat.le_refl _))).mono ?_
  rintro e w1 ⟨rfl, hb1⟩
  go_wp2_with fail
  refine (put_in l h A cap w1 (Kd.C_below HR.out hb1) hc).mono ?_
  rintro e w2 ⟨⟨A1, c1, rfl, hR⟩, hb2⟩
  have HH := Aside0.mk h
  have hb := below_step hb1 hb2
  clear h hR hb1 hb2
  by_cases h1 : (100 : Int) < (l.length : Int)
  · clear hn
    go_wp2
    go_ret
    exact ⟨rfl, hb⟩
  · have h2 : n < 0 := hn.resolve_left h1
    clear hn
    go_wp2
    go_ret
    exact ⟨rfl, hb⟩
theorem lit_C (w : World) (cs : List Int) (h : cs.length ≤ 100) : Kd.C (Kd.int .u8) (w.alloc (.cells (cs.map (fun c => Value.int .u8 c)).toArray 5)) (some ⟨w.heap.size, 0, none⟩) cs.length cs := by
  refine ⟨rfl, by omega, fun _ => ⟨_, rfl, fun j p hj => ⟨[.int .u8 p], rfl, rfl, fun i u hi => ?_⟩⟩⟩
  cases i with
  | succ i => simp at hi
  | zero =>
    obtain rfl : Value.int .u8 p = u := by simpa using hi
    have e : (Kd.int .u8).sz = 1 := rfl
    have hj' : (cs.map (fun c => Value.int .u8 c))[j]? = some (.int .u8 p) := by rw [List.getElem?_map, hj]; rfl
    rw [e]
    have h2 : (Addr.add (⟨w.heap.size, 0, none⟩ : Addr) (j * 1 + 0)) = ⟨w.heap.size, j, none⟩ := by
      simp [Addr.add]
      intro h
      exact h.symm
    rw [h2, World.cell?_alloc_at _ _ _ _ rfl]
    simpa using hj'
set_option maxHeartbeats 4000000 in
theorem torn_in (A : Option Addr) (cap : Nat) (l : List S51) (n : Int) (w : World) (hr : Kd.C k51 w A l.length l) (hc : l.length ≤ cap) (h : rightB l = true) (h1 : (l.length : Int) ≤ 100) (h2 : 0 ≤ n) :
    Calls Try.prog 9 #[.slice A l.length cap, .int .i64 n] w fun e w' => e = .returned (.bool true) ∧ Below w.heap.size w w' := by
  obtain ⟨L, hL⟩ : ∃ L, L = enc l := ⟨_, rfl⟩
  have hone := right_one h
  have hlen : L.length = 4 * l.length := by rw [hL, enc_length]
  have hBy : Byt L := by rw [hL]; exact enc_byt l (right_in h)
  have hp : (0 : Int) < (L.length : Int) := by omega
  obtain ⟨j, hj⟩ : ∃ j : Int, j = n.tmod (L.length : Int) := ⟨_, rfl⟩
  have hj0 : 0 ≤ j := by rw [hj]; exact Int.tmod_nonneg _ h2
  have hj1 : j < (L.length : Int) := by rw [hj]; exact Int.tmod_lt_of_pos _ hp
  have T1 : Aside0 ((getB (L.take j.toNat)).2 = 2) := ⟨by rw [hL]; exact torn_short h _ (by rw [← hL]; omega)⟩
  have T2 : Aside0 ((getB (([] ++ L) ++ [0, 0, 1, 0])).2 = 2) := ⟨by rw [hL]; exact torn_four h⟩
  have T3 : Aside0 ((getB (([] ++ L) ++ [0])).2 = 2) := ⟨by rw [hL]; exact torn_one⟩
  obtain ⟨i5, hi5, _⟩ := Option.map_eq_some_iff.1 info5
  have HR := Aside0.mk hr
  have HP : Aside0 (∀ w', Below w.heap.size w w' → Calls Try.prog 18 #[.slice A l.length cap] w' fun e w2 => (∃ A1 c1, e = .returned (.tuple #[.slice A1 L.length c1, .int .i64 0]) ∧ Kd.R (Kd.int .u8) 5 w2 w'.heap.size (fun _ => True) (.slice A1 L.length c1) L) ∧ Below w'.heap.size w' w2) := by
    rw [hL]; exact ⟨fun w' hb => put_in l h A cap w' (Kd.C_below hr hb) hc⟩
  have e1 : n.tmod (L.length : Int) = j := hj.symm
  have e2 : n % (L.length : Int) = j := by rw [hj, Int.tmod_eq_emod_of_nonneg h2]
  have hz : ¬ ((L.length : Int) = 0) := by omega
  have HL5 : Aside0 (L.length ≤ 400) := ⟨by omega⟩
  have HBy : Aside0 (Byt L) := ⟨hBy⟩
  have HH := Aside0.mk h
  clear hr hBy hL h hone hc hlen hj
  go_enter Try.func9, Try.ntmps9
  go_wp2_with fail
  refine (waymarklaw1_alive.calls 3000 true w (alive_is 3000 (Nat.le_refl _))).mono ?_
  rintro e w1 ⟨rfl, hb1⟩
  go_wp2_with fail
  refine (HP.out w1 hb1).mono ?_
  rintro e w2 ⟨⟨A1, c1, rfl, hR⟩, hb2⟩
  have HB := Aside0.mk (below_step hb1 hb2)
  have HO := Aside0.mk (Kd.R_lower hR (below_size hb1))
  clear hR hb1 hb2
  have hcap := (Kd.R_reads' HO.out).2.1
  have hcut := cut_to (P := Try.prog) 25 5 .i64 Try.underlying25 hi5 A1 L.length c1 j hj0 (by omega) hcap
  have HH1 := Aside0.mk hj0
  have HH2 := Aside0.mk hj1
  clear hj0 hj1
  have HB0 := HB
  clear HB
  have HB := Aside0.mk (Below.refl w2.heap.size w2)
  have HC := Aside0.mk (Kd.R_reads' HO.out).2.2
  go_wp2_with fail
  refine (get_torn _ _ _ _ (Kd.R_take (m := j.toNat) HO.out (by have := HH1.out; have := HH2.out; omega)) (fun x hx => HBy.out x (List.mem_of_mem_take hx)) (by have := HL5.out; rw [List.length_take]; omega) T1.out).mono ?_
  rintro e w3 ⟨⟨u3, rfl⟩, hb3⟩
  clear HB HO
  have HB := Aside0.mk hb3
  clear hb3
  go_wp2_with (first | ((with_reducible refine gate_builtin (b := .append) (xs := #[.const (.slice none 0 0), .tmp 47]) rfl ?_); at_builtin; refine Kd.R_append_rows (Kd.int .u8) (w0 := w2) w2.heap.size rfl (.const (.slice none 0 0)) (.tmp 47) 25 5 (.int .u8 0) 1 rfl Try.underlying25 info5 rfl (by decide) (by omega) (.slice none 0 0) ([] : List Int) L _ _ _ (fun _ => True) (fun _ => False) rfl rfl ?aO ?aR (fun _ _ h => h) (fun _ h => h.elim) ?aF ?aB ?aS ?aL ?_; (case aR => exact Kd.C_below HC.out HB.out); (case aB => exact HB.out); (case aF => exact fun _ _ => trivial); (case aO => exact Kd.R_nil _ _ _ _ _); (case aS => exact below_size HB.out); (case aL => have := HL5.out; simp; omega); intro v4 w4 ho hb1 hg hat; clear HB hg hat; have HB := Aside0.mk hb1; have HO4 := Aside0.mk ho; clear ho hb1; obtain ⟨A4, c4, e4⟩ := Kd.R_slice HO4.out; subst e4) | ((with_reducible refine gate_builtin (b := .append) (xs := #[.const (.slice none 0 0), .tmp 55]) rfl ?_); at_builtin; refine Kd.R_append_rows (Kd.int .u8) (w0 := w2) w2.heap.size rfl (.const (.slice none 0 0)) (.tmp 55) 25 5 (.int .u8 0) 1 rfl Try.underlying25 info5 rfl (by decide) (by omega) (.slice none 0 0) ([] : List Int) L _ _ _ (fun _ => True) (fun _ => False) rfl rfl ?aO ?aR (fun _ _ h => h) (fun _ h => h.elim) ?aF ?aB ?aS ?aL ?_; (case aR => exact Kd.C_below HC.out HB.out); (case aB => exact HB.out); (case aF => exact fun _ _ => trivial); (case aO => exact Kd.R_nil _ _ _ _ _); (case aS => exact below_size HB.out); (case aL => have := HL5.out; simp; omega); intro v4 w4 ho hb1 hg hat; clear HB hg hat; have HB := Aside0.mk hb1; have HO4 := Aside0.mk ho; clear ho hb1; obtain ⟨A4, c4, e4⟩ := Kd.R_slice HO4.out; subst e4) | ((with_reducible refine gate_builtin (b := .append) (xs := #[.tmp 48, .tmp 49]) rfl ?_); at_builtin; refine Kd.R_append_rows (Kd.int .u8) (w0 := w2) w2.heap.size rfl (.tmp 48) (.tmp 49) 25 5 (.int .u8 0) 1 rfl Try.underlying25 info5 rfl (by decide) (by omega) _ ([] ++ L) ([0, 0, 1, 0] : List Int) _ _ _ (fun _ => True) (fun _ => False) rfl rfl ?aO ?aR (fun _ _ h => h) (fun _ h => h.elim) ?aF ?aB ?aS ?aL ?_; (case aR => exact lit_C _ [0, 0, 1, 0] (by decide)); (case aB => exact below_alloc HB.out _); (case aF => exact fun _ _ => trivial); (case aO => exact Kd.R_alloc HO4.out _); (case aS => exact below_size (below_alloc HB.out _)); (case aL => have := HL5.out; simp; omega); intro v5 w5 ho hb1 hg hat; clear HB hg hat HO4; have HB := Aside0.mk hb1; have HO5 := Aside0.mk ho; clear ho hb1) | ((with_reducible refine gate_builtin (b := .append) (xs := #[.tmp 56, .tmp 57]) rfl ?_); at_builtin; refine Kd.R_append_rows (Kd.int .u8) (w0 := w2) w2.heap.size rfl (.tmp 56) (.tmp 57) 25 5 (.int .u8 0) 1 rfl Try.underlying25 info5 rfl (by decide) (by omega) _ ([] ++ L) ([0] : List Int) _ _ _ (fun _ => True) (fun _ => False) rfl rfl ?aO ?aR (fun _ _ h => h) (fun _ h => h.elim) ?aF ?aB ?aS ?aL ?_; (case aR => exact lit_C _ [0] (by decide)); (case aB => exact below_alloc HB.out _); (case aF => exact fun _ _ => trivial); (case aO => exact Kd.R_alloc HO4.out _); (case aS => exact below_size (below_alloc HB.out _)); (case aL => have := HL5.out; simp; omega); intro v5 w5 ho hb1 hg hat; clear HB hg hat HO4; have HB := Aside0.mk hb1; have HO5 := Aside0.mk ho; clear ho hb1) | (first | (go_at_call 19; (refine (get_torn _ _ _ _ HO5.out ?hB ?hl T2.out).mono ?_); (case hB => (intro x hx; rcases List.mem_append.1 hx with hx | hx; exact HBy.out x (by simpa using hx); (simp at hx; omega))); (case hl => (have := HL5.out; simp; omega)); rintro e w3 ⟨⟨u3, rfl⟩, hb3⟩; have HB' := Aside0.mk (below_step HB.out hb3); clear HB HO5 hb3; have HB := HB'; clear HB') | (go_at_call 19; (refine (get_torn _ _ _ _ HO5.out ?hB ?hl T3.out).mono ?_); (case hB => (intro x hx; rcases List.mem_append.1 hx with hx | hx; exact HBy.out x (by simpa using hx); (simp at hx; omega))); (case hl => (have := HL5.out; simp; omega)); rintro e w3 ⟨⟨u3, rfl⟩, hb3⟩; have HB' := Aside0.mk (below_step HB.out hb3); clear HB HO5 hb3; have HB := HB'; clear HB')) | (go_at_call 21; refine (waymarklaw1_num.calls 2 2 _ rfl).mono ?_; rintro e w' ⟨rfl, ⟨nd, rfl⟩⟩))
  go_ret
  exact ⟨rfl, below_step (below_step HB0.out HB.out) (Drawn0.below ⟨⟨_, rfl⟩⟩)⟩
end Go.Proofs.Ytmoojmbblgbniaa.Torn
