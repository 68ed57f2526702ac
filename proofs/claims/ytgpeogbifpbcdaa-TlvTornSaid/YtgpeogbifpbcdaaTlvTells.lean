/- The walk of the law TlvTells: true for all items and bytes. -/
import Derived.Test.YtgpeogbifpbcdaaTlvAlive
namespace Go.Proofs.Ytgpeogbifpbcdaa.Tlv
open Go.RowKit Go.Proofs.YtgpeogbifpbcdaaW.PrintWords Go.Proofs.YtgpeogbifpbcdaaW.PrintMore Go.Proofs.YtgpeogbifpbcdaaW.PrintLast Go.Proofs.Ytgpeogbifpbcdaa.PTlvTells

/-- Bytes are appended to nil. -/
theorem copy_event {ops : Array Oper} {rest : List Oper} {o : Oper} {a : Act} {Q : Exit → Act → World → Prop} (W : World) (hgd : o.guard = none) (s x : Operand) (ho : o.op = .call { callee := .builtin .append, args := #[s, x], argTypes := #[23, 23] })
    (ys : List Int) (A : Option Addr) (m c : Nat) (hs : a.eval s = .slice none 0 0) (hx : a.eval x = .slice A m c) (HR : kB.C W A m ys) (hl : m ≤ 1000000)
    (h : ∀ A1 c1 w1, kB.C w1 A1 m ys → m ≤ c1 → Below W.heap.size W w1 → wpList Try.prog ops Q rest (a.put o.dst (.slice A1 m c1)) w1) : wpList Try.prog ops Q (o :: rest) a W := by
  refine Kd.R_append_rows kB (w0 := W) W.heap.size hgd s x 23 5 (.int .u8 0) 1 ho Try.underlying23 info5 rfl (by decide) (by omega) (.slice none 0 0) [] ys A m c (fun _ => True) (fun _ => False) hs hx (Kd.R_nil _ _ _ _ _) HR (fun _ _ h => h) (fun _ hk => hk.elim) (fun _ _ => trivial) (Below.refl _ _) (Nat.le_refl _) (by simp; omega) (fun v1 w1 ho1 hb1 hg1 _ => ?_)
  obtain ⟨A1, c1, rfl⟩ := Kd.R_slice ho1
  have e : ([] ++ ys : List Int) = ys := rfl
  have e2 : ys.length = m := HR.1
  rw [e, e2] at ho1 ⊢
  have hr := Kd.R_reads' ho1
  rw [e2] at hr
  exact h A1 c1 w1 hr.2.2 hr.2.1 hb1
theorem putL_len (l : List S26) (h : ∀ x, x ∈ l → x.f1.length ≤ 300) : (putL l).1.length ≤ l.length * 303 := by
  unfold putL
  split
  · simp
  · split
    · simp
    · exact flat_len l 300 h
theorem putL_byte (l : List S26) (h : ∀ x, x ∈ l → ∀ y, y ∈ x.f1 → 0 ≤ y ∧ y < 256) : ∀ y, y ∈ (putL l).1 → 0 ≤ y ∧ y < 256 := by
  unfold putL
  split
  · simp
  · split
    · simp
    · exact flat_byte l h
/-- Where Put tells no error, Get tells the items. -/
theorem get_put (l : List S26) (h : (putL l).2 = 0) : getL (putL l).1 [] = (l, 0) := by
  unfold putL at h ⊢
  by_cases h1 : l.any badT = true
  · rw [if_pos h1] at h
    simp at h
  · by_cases h2 : l.any badL = true
    · rw [if_neg h1, if_pos h2] at h
      simp at h
    · rw [if_neg h1, if_neg h2]
      have := getL_put l [] [] (fun x hx => ⟨by
        have := h1
        simp only [List.any_eq_true, not_exists, not_and] at this
        simpa using this x hx, by
        have := h2
        simp only [List.any_eq_true, not_exists, not_and] at this
        simpa using this x hx⟩)
      rw [List.append_nil, getL_nil, List.nil_append] at this
      exact this
theorem linksL_len : ∀ (l : List S26) (acc : List (Int × Int)), (linksL l acc).1.length ≤ acc.length + l.length
  | [], acc => by simp [linksL]
  | x :: r, acc => by
    rw [linksL]
    split
    · have := linksL_len r acc
      simp only [List.length_cons]
      omega
    · split
      · simp
      · have := linksL_len r (acc ++ [(rd x.f1 0 * 256 + rd x.f1 1, rd x.f1 2)])
        simp only [List.length_cons, List.length_append, List.length_nil] at this ⊢
        omega
theorem repL_len (b : List Int) : (repL b).1.length ≤ b.length := by
  unfold repL
  split
  · simp
  · have h1 := linksL_len (getL b []).1 []
    have h2 := (getL_len b.length b [] (Nat.le_refl _)).1
    simp only [List.length_nil] at h1 h2
    omega
theorem get_at (w : World) (A : Option Addr) (n c : Nat) (b : List Int) (hr : kB.C w A n b) (hc : n ≤ c) (hl : n ≤ 1000000) (hb : ∀ x, x ∈ b → 0 ≤ x ∧ x < 256) :
    Calls Try.prog 10 #[.slice A n c] w fun e w' => ∃ v, e = .returned (.tuple #[v, .int .i64 (getL b []).2]) ∧ Kd.R k26 26 w' w.heap.size (fun _ => True) v (getL b []).1 ∧ Below w.heap.size w w' := by
  have hn : b.length = n := hr.1
  subst hn
  exact get_any w A c b hr hc hl hb
theorem getref_at (w : World) (A : Option Addr) (n c : Nat) (b : List Int) (hr : kB.C w A n b) (hc : n ≤ c) (hl : n ≤ 1000000) (hb : ∀ x, x ∈ b → 0 ≤ x ∧ x < 256) :
    Calls Try.prog 11 #[.slice A n c] w fun e w' => ∃ v, e = .returned (.tuple #[v, .int .i64 (getL b []).2]) ∧ Kd.R k26 26 w' w.heap.size (fun _ => True) v (getL b []).1 ∧ Below w.heap.size w w' := by
  have hn : b.length = n := hr.1
  subst hn
  exact getref_any w A c b hr hc hl hb
theorem links_at (w : World) (A : Option Addr) (n c : Nat) (b : List Int) (hr : kB.C w A n b) (hc : n ≤ c) (hl : n ≤ 1000000) (hb : ∀ x, x ∈ b → 0 ≤ x ∧ x < 256) :
    Calls Try.prog 12 #[.slice A n c] w fun e w' => ∃ v, e = .returned (.tuple #[v, .int .i64 (repL b).2]) ∧ Kd.R kP 48 w' w.heap.size (fun _ => True) v (repL b).1 ∧ Below w.heap.size w w' := by
  have hn : b.length = n := hr.1
  subst hn
  exact links_any w A c b hr hc hl hb
theorem linksref_at (w : World) (A : Option Addr) (n c : Nat) (b : List Int) (hr : kB.C w A n b) (hc : n ≤ c) (hl : n ≤ 1000000) (hb : ∀ x, x ∈ b → 0 ≤ x ∧ x < 256) :
    Calls Try.prog 13 #[.slice A n c] w fun e w' => ∃ v, e = .returned (.tuple #[v, .int .i64 (repL b).2]) ∧ Kd.R kP 48 w' w.heap.size (fun _ => True) v (repL b).1 ∧ Below w.heap.size w w' := by
  have hn : b.length = n := hr.1
  subst hn
  exact linksref_any w A c b hr hc hl hb
theorem tells_long (A Ab : Option Addr) (c cb n m : Nat) (w : World) (hl : 60 < n ∨ 2000 < m) (hn : n ≤ 9223372036854775807) (hm : m ≤ 9223372036854775807) : Calls Try.prog 3 #[.slice A n c, .slice Ab m cb] w fun e w' => e = .returned (.bool true) ∧ Below w.heap.size w w' := by
  by_cases h : 60 < n
  · clear hl
    go_enter Try.func3, Try.ntmps3
    go_wp2_with fail
    refine (alive_any _).mono ?_
    rintro e w' ⟨rfl, hb⟩
    go_wp2
    go_ret
    exact ⟨rfl, hb⟩
  · have h' : (n : Int) ≤ 60 := by omega
    have h2 : (2000 : Int) < (m : Int) := by omega
    clear hl
    go_enter Try.func3, Try.ntmps3
    go_wp2_with fail
    refine (alive_any _).mono ?_
    rintro e w' ⟨rfl, hb⟩
    go_wp2
    go_ret
    exact ⟨rfl, hb⟩
set_option maxHeartbeats 4000000 in
set_option maxRecDepth 100000 in
theorem tells_short (A Ab : Option Addr) (c cb n m : Nat) (l : List S26) (b : List Int) (w : World) (hl : n ≤ 60) (hm : m ≤ 2000) (hr : Kd.C k26 w A n l) (hrb : kB.C w Ab m b) (hc : n ≤ c) (hcb : m ≤ cb)
    (hbl : ∀ x, x ∈ l → ∀ y, y ∈ x.f1 → 0 ≤ y ∧ y < 256) (hbb : ∀ y, y ∈ b → 0 ≤ y ∧ y < 256) : Calls Try.prog 3 #[.slice A n c, .slice Ab m cb] w fun e w' => e = .returned (.bool true) ∧ Below w.heap.size w w' := by
  have HR := Aside0.mk hr
  have HRB := Aside0.mk hrb
  have HC := Aside0.mk hc
  have HCB := Aside0.mk hcb
  have HBL := Aside0.mk hbl
  have HBB := Aside0.mk hbb
  have HN : Aside0 (l.length = n) := ⟨hr.1⟩
  have HM : Aside0 (b.length = m) := ⟨hrb.1⟩
  have hln : (n : Int) ≤ 60 := by omega
  have hlm : (m : Int) ≤ 2000 := by omega
  have hu26 := Try.underlying26
  clear hr hrb hc hcb hbl hbb
  go_enter Try.func3, Try.ntmps3
  go_wp2_with fail
  refine (alive_any _).mono ?_
  rintro e w1 ⟨rfl, hb1⟩
  have HB1 := Aside0.mk hb1
  have HR1 := Aside0.mk (Kd.C_below HR.out hb1)
  clear hb1
  go_wp2
  go_loopg [6] (n + 1) (fun kq v6 w' => ∃ k : Nat, v6 = .int .i64 (k : Int) ∧ w' = w1 ∧ Aside0 (k ≤ n) ∧ Aside0 (n < k + kq) ∧ Aside0 (∀ x, x ∈ l.take k → x.f1.length ≤ 300))
  case atStart => exact ⟨0, by go_num, rfl, ⟨Nat.zero_le _⟩, ⟨by omega⟩, ⟨by simp⟩⟩
  case round =>
    obtain ⟨k, rfl, rfl, hk, hkq, hall⟩ := hrel
    have hk5 : (k : Int) ≤ 60 := by have := hk.out; omega
    by_cases hlt : k < n
    · have hlt' : (k : Int) < (n : Int) := by omega
      have hkl : k < l.length := by have := HN.out; omega
      obtain ⟨a1, B1, d1, rfl, p0, p1, _, pC⟩ := at_T26 HR1.out (k : Int) (by omega) hlt'
      rw [Int.toNat_natCast, rd_item hkl] at p0 p1
      rw [rd_item hkl] at pC
      obtain ⟨x, hx⟩ : ∃ x, x = l[k] := ⟨_, rfl⟩
      rw [← hx] at p0 p1 pC
      obtain ⟨L, hL⟩ : ∃ L, L = x.f1.length := ⟨_, rfl⟩
      rw [← hL] at p1
      have hLm : (L : Int) ≤ 9223372036854775807 := by have := pC.2.1; omega
      obtain ⟨f, hf⟩ : ∃ f, gk = f + 1 := ⟨gk - 1, by have := hkq.out; omega⟩
      have HX := Aside0.mk hx
      have HL := Aside0.mk hL
      clear pC p0 hx hL
      by_cases hl3 : 300 < L
      · have hl3' : (300 : Int) < (L : Int) := by omega
        go_wp2
        go_ret
        exact ⟨rfl, HB1.out⟩
      · have hl3' : (L : Int) ≤ 300 := by omega
        go_wp2
        go_roundg f
        case measure => omega
        case rel =>
          refine ⟨k + 1, by go_num, rfl, ⟨by omega⟩, ⟨by have := hkq.out; omega⟩, ⟨fun y hy => ?_⟩⟩
          rw [List.take_succ_eq_append_getElem hkl] at hy
          rcases List.mem_append.1 hy with hy | hy
          · exact hall.out y hy
          · rw [List.mem_singleton.1 hy, ← HX.out]
            have := HL.out
            omega
    · have HALL : Aside0 (∀ x, x ∈ l → x.f1.length ≤ 300) := ⟨fun x hx => hall.out x (by rw [List.take_of_length_le (by have := HN.out; omega)]; exact hx)⟩
      clear hall hk hkq
      go_wp2_with fail
      obtain ⟨P, hP⟩ : ∃ P, P = putL l := ⟨_, rfl⟩
      have hPl : P.1.length ≤ 18180 := by have := putL_len l HALL.out; have := HN.out; rw [hP]; omega
      have HPB : Aside0 (∀ y, y ∈ P.1 → 0 ≤ y ∧ y < 256) := ⟨by rw [hP]; exact putL_byte l HBL.out⟩
      have HP := Aside0.mk hP
      obtain ⟨L, hL⟩ : ∃ L, L = P.1.length := ⟨_, rfl⟩
      have hL5 : (L : Int) ≤ 18180 := by omega
      have HL := Aside0.mk hL
      refine (put_any _ A n c l HR1.out HC.out (by omega)).mono ?_
      rw [← hP]
      rintro e w2 ⟨v2, rfl, hR2, hb2⟩
      obtain ⟨A2, c2, rfl⟩ := Kd.R_slice hR2
      have hr2 := Kd.R_reads' hR2
      rw [← hL] at hr2 ⊢
      have HB2 : Aside0 (Below w.heap.size w w2) := ⟨below_step HB1.out hb2⟩
      have C2 := Aside0.mk hr2.2.2
      have hc2 : Aside0 (L ≤ c2) := ⟨hr2.2.1⟩
      have HRl2 := Aside0.mk (Kd.C_below HR1.out hb2)
      clear hR2 hr2 hb2 hPl hL
      go_wp2_with fail
      refine (putref_any w2 A n c l HRl2.out HC.out (by omega)).mono ?_
      rw [← hP]
      rintro e w3 ⟨v3, rfl, hR3, hb3⟩
      obtain ⟨A3, c3, rfl⟩ := Kd.R_slice hR3
      have hr3 := Kd.R_reads' hR3
      rw [← HL.out] at hr3 ⊢
      have HB3 : Aside0 (Below w.heap.size w w3) := ⟨below_step HB2.out hb3⟩
      have C2b := Aside0.mk (Kd.C_below C2.out hb3)
      have C3 := Aside0.mk hr3.2.2
      clear hR3 hr3 hb3 hP HR1 HRl2 C2
      have HRB3 := Aside0.mk (Kd.C_below HRB.out HB3.out)
      go_wp2_with (((with_reducible refine gate_builtin (b := .append) (xs := #[.const (.slice none 0 0), .tmp 59]) rfl ?_); at_builtin; refine copy_event w3 rfl (.const (.slice none 0 0)) (.tmp 59) rfl b Ab m cb rfl rfl ?aC ?aL ?_; (case aC => exact HRB3.out); (case aL => omega); intro A4 c4 w4 h4 hc4 hb4; go_must (have C4 := Aside0.mk h4; have HC4 := Aside0.mk hc4; have hb4' := Aside0.mk hb4; clear h4 hc4 hb4)))
      obtain ⟨G, hG⟩ : ∃ G, G = getL b [] := ⟨_, rfl⟩
      have HG := Aside0.mk hG
      have hGl := (getL_len b.length b [] (Nat.le_refl _)).1
      rw [← hG, List.length_nil] at hGl
      obtain ⟨g, hg⟩ : ∃ g, g = G.1.length := ⟨_, rfl⟩
      have hg5 : (g : Int) ≤ 2000 := by have := HM.out; omega
      have Hg := Aside0.mk hg
      clear hGl hg hG
      refine (get_at w4 A4 m c4 b C4.out HC4.out (by omega) HBB.out).mono ?_
      rw [← HG.out]
      rintro e w5 ⟨v5, rfl, hR5, hb5⟩
      obtain ⟨A5, c5, rfl⟩ := Kd.R_slice hR5
      have hr5 := (Kd.R_reads' hR5).2.2
      rw [← Hg.out] at hr5 ⊢
      have HB5 : Aside0 (Below w.heap.size w w5) := ⟨below_step (below_step HB3.out hb4'.out) hb5⟩
      have C5 := Aside0.mk hr5
      have HX3 : Aside0 (Below w3.heap.size w3 w5) := ⟨below_step hb4'.out hb5⟩
      have HRB5 := Aside0.mk (Kd.C_below HRB.out HB5.out)
      clear hR5 hr5 hb5 hb4' C4
      go_wp2_with fail
      refine (getref_at w5 Ab m cb b HRB5.out HCB.out (by omega) HBB.out).mono ?_
      rw [← HG.out]
      rintro e w6 ⟨v6, rfl, hR6, hb6⟩
      obtain ⟨A6, c6, rfl⟩ := Kd.R_slice hR6
      have hr6 := (Kd.R_reads' hR6).2.2
      rw [← Hg.out] at hr6 ⊢
      have HB6 : Aside0 (Below w.heap.size w w6) := ⟨below_step HB5.out hb6⟩
      have C56 := Aside0.mk (Kd.C_below C5.out hb6)
      have C6 := Aside0.mk hr6
      have HX4 : Aside0 (Below w3.heap.size w3 w6) := ⟨below_step HX3.out hb6⟩
      have HRB6 := Aside0.mk (Kd.C_below HRB.out HB6.out)
      clear hR6 hr6 hb6 HRB5 C5 HX3
      go_wp2_with (((with_reducible refine gate_builtin (b := .append) (xs := #[.const (.slice none 0 0), .tmp 70]) rfl ?_); at_builtin; refine copy_event w6 rfl (.const (.slice none 0 0)) (.tmp 70) rfl b Ab m cb rfl rfl ?aC ?aL ?_; (case aC => exact HRB6.out); (case aL => omega); intro A7 c7 w7 h7 hc7 hb7; go_must (have C7 := Aside0.mk h7; have HC7 := Aside0.mk hc7; have hb7' := Aside0.mk hb7; clear h7 hc7 hb7)))
      obtain ⟨J, hJ⟩ : ∃ J, J = repL b := ⟨_, rfl⟩
      have HJ := Aside0.mk hJ
      clear hJ
      refine (links_at w7 A7 m c7 b C7.out HC7.out (by omega) HBB.out).mono ?_
      rw [← HJ.out]
      rintro e w8 ⟨v8, rfl, hR8, hb8⟩
      obtain ⟨A8, c8, rfl⟩ := Kd.R_slice hR8
      have hr8 := (Kd.R_reads' hR8).2.2
      obtain ⟨j, hj⟩ : ∃ j, j = J.1.length := ⟨_, rfl⟩
      have Hj := Aside0.mk hj
      have hj5 : (j : Int) ≤ 1000000 := by have := repL_len b; rw [← HJ.out] at this; have := HM.out; omega
      rw [← hj] at hr8 ⊢
      have HB8 : Aside0 (Below w.heap.size w w8) := ⟨below_step (below_step HB6.out hb7'.out) hb8⟩
      have HX6 : Aside0 (Below w6.heap.size w6 w8) := ⟨below_step hb7'.out hb8⟩
      have C8 := Aside0.mk hr8
      have HRB8 := Aside0.mk (Kd.C_below HRB.out HB8.out)
      clear hR8 hr8 hb8 hb7' C7 hj HRB6
      go_wp2_with fail
      refine (linksref_at w8 Ab m cb b HRB8.out HCB.out (by omega) HBB.out).mono ?_
      rw [← HJ.out]
      rintro e w9 ⟨v9, rfl, hR9, hb9⟩
      obtain ⟨A9, c9, rfl⟩ := Kd.R_slice hR9
      have hr9 := (Kd.R_reads' hR9).2.2
      rw [← Hj.out] at hr9 ⊢
      have HB9 : Aside0 (Below w.heap.size w w9) := ⟨below_step HB8.out hb9⟩
      have C9 := Aside0.mk hr9
      have C89 := Aside0.mk (Kd.C_below C8.out hb9)
      have C59 := Aside0.mk (Kd.C_below C56.out (below_step HX6.out hb9))
      have C69 := Aside0.mk (Kd.C_below C6.out (below_step HX6.out hb9))
      have C29 := Aside0.mk (Kd.C_below C2b.out (below_step HX4.out (below_step HX6.out hb9)))
      have C39 := Aside0.mk (Kd.C_below C3.out (below_step HX4.out (below_step HX6.out hb9)))
      have HR9 := Aside0.mk (Kd.C_below HR.out HB9.out)
      clear hR9 hr9 hb9 HRB8 C8 C56 C6 HX4 HX6 C2b C3
      have s1 : (convert 23 9 (.slice A2 L c2)).run Try.prog w9 = .ok (.string (strOfNums P.1)) w9 := Kd.C_string Try.underlying23 Try.underlying5 Try.underlying9 C29.out
      have s2 : (convert 23 9 (.slice A3 L c3)).run Try.prog w9 = .ok (.string (strOfNums P.1)) w9 := Kd.C_string Try.underlying23 Try.underlying5 Try.underlying9 C39.out
      generalize strOfNums P.1 = st at s1 s2
      go_wp2_with fail
      refine (num_any _ _).mono ?_
      rintro e w' ⟨rfl, rfl⟩
      go_wp2_with fail
      refine (items_any w9 A5 A6 c5 c6 g G.1 C59.out C69.out (by omega)).mono ?_
      rintro e w10 ⟨rfl, hd10⟩
      have hb10 := hd10.below
      have HB10 : Aside0 (Below w.heap.size w w10) := ⟨below_step HB9.out hb10⟩
      have C8a := Aside0.mk (Kd.C_below C89.out hb10)
      have C9a := Aside0.mk (Kd.C_below C9.out hb10)
      have C2a := Aside0.mk (Kd.C_below C29.out hb10)
      clear hd10 hb10 s1 s2
      go_wp2_with fail
      refine (num_any _ _).mono ?_
      rintro e w' ⟨rfl, rfl⟩
      go_wp2_with fail
      refine (same_any w10 A8 A9 c8 c9 j J.1 C8a.out C9a.out (by omega)).mono ?_
      rintro e w11 ⟨rfl, hd11⟩
      have hb11 := hd11.below
      have HB11 : Aside0 (Below w.heap.size w w11) := ⟨below_step HB10.out hb11⟩
      have C2c := Aside0.mk (Kd.C_below C2a.out hb11)
      clear hd11 hb11
      go_wp2_with fail
      refine (num_any _ _).mono ?_
      rintro e w' ⟨rfl, rfl⟩
      go_wp2_with fail
      refine (get_at w11 A2 L c2 P.1 C2c.out hc2.out (by omega) HPB.out).mono ?_
      by_cases h0 : P.2 = 0
      · have hgp := get_put l (by rw [← HP.out]; exact h0)
        rw [← HP.out] at hgp
        rw [hgp]
        rintro e w12 ⟨v12, rfl, hR12, hb12⟩
        obtain ⟨A12, c12, rfl⟩ := Kd.R_slice hR12
        have hr12 := (Kd.R_reads' hR12).2.2
        have hln0 := HN.out
        simp only [hln0] at hr12 ⊢
        have HB12 : Aside0 (Below w.heap.size w w12) := ⟨below_step HB11.out hb12⟩
        have C12 := Aside0.mk hr12
        have HR12 := Aside0.mk (Kd.C_below HR.out HB12.out)
        have hp1 : (P.2 == 0) = true := by simp [h0]
        have hp2 : (P.2 != 0) = false := by simp [h0]
        clear hR12 hr12 hb12 hgp hln0 h0
        go_wp2_with fail
        refine (num_any _ _).mono ?_
        rintro e w' ⟨rfl, rfl⟩
        go_wp2_with fail
        refine (items_any w12 A12 A c12 c n l C12.out HR12.out (by omega)).mono ?_
        rintro e w13 ⟨rfl, hd13⟩
        have HB13 : Aside0 (Below w.heap.size w w13) := ⟨below_step HB12.out hd13.below⟩
        clear hd13
        go_wp2
        go_ret
        exact ⟨rfl, HB13.out⟩
      · rintro e w12 ⟨v12, rfl, hR12, hb12⟩
        have HB12 : Aside0 (Below w.heap.size w w12) := ⟨below_step HB11.out hb12⟩
        have hp1 : (P.2 == 0) = false := by simpa using h0
        have hp2 : (P.2 != 0) = true := by simpa using h0
        clear hR12 hb12 h0
        go_wp2
        go_ret
        exact ⟨rfl, HB12.out⟩
end Go.Proofs.Ytgpeogbifpbcdaa.Tlv
