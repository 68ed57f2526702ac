/- The walk of the reference's GetItems. -/
import Derived.Test.YtgpeogbifpbcdaaTlvGet
import Derived.Deep.RegionHeld3
import Derived.Deep.LoopGhost
namespace Go.Proofs.Ytgpeogbifpbcdaa.Tlv
open Go.RowKit Go.Proofs.YtgpeogbifpbcdaaW.PrintWords Go.Proofs.YtgpeogbifpbcdaaW.PrintMore Go.Proofs.YtgpeogbifpbcdaaW.PrintLast Go.Proofs.Ytgpeogbifpbcdaa.PTlvTells

/-- At the loop's head of GetItems. -/
structure AtLoop (w w' : World) (r : List S26 × Int) (A' : Option Addr) (c' : Nat) (bb : List Int) (acc : List S26) (v4 : Value) : Prop where
  read : ∀ W, Below w.heap.size w W → kB.C W A' bb.length bb
  cap : bb.length ≤ c'
  len : bb.length ≤ 1000000
  byte : ∀ x, x ∈ bb → 0 ≤ x ∧ x < 256
  out : Kd.R k26 26 w' w.heap.size (fun _ => True) v4 acc
  accl : acc.length + bb.length ≤ 1000000
  bel : Below w.heap.size w w'
  is_ : getL bb acc = r
/-- Bytes are appended to nil. -/
theorem bytes_step {ops : Array Oper} {o : Oper} {a : Act} {Q : Exit → Act → World → Prop} {Kc : Act → World → Prop} {E : Prop} (hgd : o.guard = none) (s x : Operand) (ho : o.op = .call { callee := .builtin .append, args := #[s, x], argTypes := #[23, 23] })
    (B : Nat) (w0 W : World) (ys : List Int) (A : Option Addr) (m c : Nat) (hs : a.eval s = .slice none 0 0) (hx : a.eval x = .slice A m c) (HR : kB.C W A m ys) (HB : Below B w0 W) (hB : B ≤ W.heap.size) (hl : m ≤ 1000000)
    (h : ∀ A1 c1 w1, kB.R 5 w1 W.heap.size (fun _ => True) (.slice A1 m c1) ys → Below B w0 w1 → Below W.heap.size W w1 → Kc (a.put o.dst (.slice A1 m c1)) w1) :
    if Region.wanted o (yielded ops a.tmps) = true then Oper.wp Try.prog o a W Kc Q else E := by
  have hw : Region.wanted o (yielded ops a.tmps) = true := by simp [Region.wanted, hgd]
  have H := Kd.R_append_rows_step (P := Try.prog) (Q := Q) (Kc := Kc) (w0 := W) (W := W) kB W.heap.size hw s x 23 5 (.int .u8 0) 1 ho Try.underlying23 info5 rfl (by decide) (by omega) (.slice none 0 0) [] ys A m c (fun _ => True) (fun _ => False) hs hx (Kd.R_nil _ _ _ _ _) HR (fun _ _ h => h) (fun _ hk => hk.elim) (fun _ _ => trivial) (Below.refl _ _) (Nat.le_refl _) (by simp; omega) (fun v1 w1 ho1 hb1 hg1 _ => by
    obtain ⟨A1, c1, rfl⟩ := Kd.R_slice ho1
    have e : ([] ++ ys : List Int).length = m := by simp [HR.1]
    rw [e] at ho1 ⊢
    exact h A1 c1 w1 ho1 (HB.trans (hb1.mono hB)) hb1)
  rw [if_pos hw] at H ⊢
  exact H
/-- An item is appended to the row of the call's own. -/
theorem item_step {ops : Array Oper} {o : Oper} {a : Act} {Q : Exit → Act → World → Prop} {Kc : Act → World → Prop} {E : Prop} (hgd : o.guard = none) (s x : Operand) (ho : o.op = .call { callee := .builtin .append, args := #[s, x], argTypes := #[22, 22] })
    (B : Nat) (w0 W W0 : World) (v : Value) (acc : List S26) (x0 : Int) (dat : List Int) (A1 : Option Addr) (m c1 : Nat) (hW : W = W0.alloc (.cells #[.int .i64 x0, .slice A1 m c1] 26)) (hs : a.eval s = v) (hx : a.eval x = .slice (some ⟨W0.heap.size, 0, none⟩) 1 1) (HO : Kd.R k26 26 W0 B (fun _ => True) v acc)
    (HD : kB.R 5 W0 B (fun k => some k ≠ v.ownBlock) (.slice A1 m c1) dat) (HB : Below B w0 W0) (hB : B ≤ W0.heap.size) (hm : m = dat.length) (hl : acc.length ≤ 1000000)
    (h : ∀ v1 w1, Kd.R k26 26 w1 B (fun _ => True) v1 (acc ++ [⟨x0, dat⟩]) → Below B w0 w1 → Kc (a.put o.dst v1) w1) :
    if Region.wanted o (yielded ops a.tmps) = true then Oper.wp Try.prog o a W Kc Q else E := by
  subst hW
  subst hm
  have hw : Region.wanted o (yielded ops a.tmps) = true := by simp [Region.wanted, hgd]
  have H := Kd.R_append_step (P := Try.prog) (Q := Q) (Kc := Kc) (w0 := w0) (W := W0) k26 B hw s x 22 26 (.agg #[.int .i64 0, .slice none 0 0]) 32 ho Try.underlying22 info26 rfl (by decide) (by omega) v acc ⟨x0, dat⟩ [.int .i64 x0, .slice A1 dat.length c1] (fun _ => True) (fun k => some k ≠ v.ownBlock) hs hx (k26_mkM W0 _ _ ⟨x0, dat⟩ HD) (fun _ hk => ⟨trivial, hk⟩) (fun _ _ => trivial) HO HB hB (by omega) (fun v1 w1 ho1 hb1 _ _ => h v1 w1 ho1 hb1)
  rw [if_pos hw] at H ⊢
  exact H
set_option maxHeartbeats 2000000 in
set_option maxRecDepth 100000 in
theorem getref_any (w : World) (A : Option Addr) (c : Nat) (b : List Int) (hr : kB.C w A b.length b) (hc : b.length ≤ c) (hl : b.length ≤ 1000000) (hb : ∀ x, x ∈ b → 0 ≤ x ∧ x < 256) :
    Calls Try.prog 11 #[.slice A b.length c] w fun e w' => ∃ v, e = .returned (.tuple #[v, .int .i64 (getL b []).2]) ∧ Kd.R k26 26 w' w.heap.size (fun _ => True) v (getL b []).1 ∧ Below w.heap.size w w' := by
  have HR := Aside0.mk hr
  obtain ⟨n, hn⟩ : ∃ n, n = b.length := ⟨_, rfl⟩
  have Hn := Aside0.mk hn
  have HB := Aside0.mk hb
  obtain ⟨r, hrr⟩ : ∃ r, r = getL b [] := ⟨_, rfl⟩
  have Hr := Aside0.mk hrr
  rw [← hrr]
  have HC0 := Aside0.mk hc
  have HL0 := Aside0.mk hl
  rw [← hn] at hl ⊢
  clear hr hn hb hrr hc
  have hu26 := Try.underlying26
  go_enter Try.func11, Try.ntmps11
  go_wp2
  go_loopg [0, 4] (n + 1) (fun kq v0 v4 w' => ∃ (A' : Option Addr) (L c' : Nat) (bb : List Int) (acc : List S26), v0 = .slice A' L c' ∧ Aside0 (L = bb.length) ∧ Aside0 (AtLoop w w' r A' c' bb acc v4) ∧ Aside0 (L < kq))
  case atStart => exact ⟨A, n, c, b, [], rfl, Hn, ⟨⟨fun W hW => Kd.C_below HR.out hW, HC0.out, HL0.out, HB.out, Kd.R_nil _ _ _ _ _, by have := HL0.out; simp; omega, Below.refl _ _, Hr.out.symm⟩⟩, ⟨by omega⟩⟩
  case round =>
    obtain ⟨A', L, c', bb, acc, rfl, HL, hj, hk⟩ := hrel
    have hL5 : (L : Int) ≤ 1000000 := by have := hj.out.len; have := HL.out; omega
    by_cases h0 : L = 0
    · subst h0
      go_wp2
      go_ret2
      have hJ := hj.out
      have hb0 : bb = [] := List.eq_nil_of_length_eq_zero HL.out.symm
      have e := hJ.is_
      rw [hb0, getL_nil] at e
      rw [← e]
      exact ⟨_, rfl, hJ.out, hJ.bel⟩
    · have h0' : (0 : Int) < (L : Int) := by omega
      by_cases h3 : L < 3
      · have h3' : (L : Int) < 3 := by omega
        go_wp2
        go_ret2
        have e := hj.out.is_
        rw [getL_short _ _ (by have := HL.out; omega) (by have := HL.out; omega)] at e
        rw [← e]
        exact ⟨_, rfl, Kd.R_nil _ _ _ _ _, hj.out.bel⟩
      · have h3' : (3 : Int) ≤ (L : Int) := by omega
        go_wp2
        have hB0 := hj.out.byte
        have hC := hj.out.read _ hj.out.bel
        obtain ⟨ad, rfl, a0⟩ := Kd.at_int hC 0 (by omega) (by have := HL.out; omega)
        obtain ⟨_, e1, c1⟩ := Kd.at_int hC 1 (by omega) (by have := HL.out; omega)
        cases e1
        obtain ⟨_, e1, c2⟩ := Kd.at_int hC 2 (by omega) (by have := HL.out; omega)
        cases e1
        obtain ⟨x0, hx0⟩ : ∃ x, x = rd bb 0 := ⟨_, rfl⟩
        obtain ⟨x1, hx1⟩ : ∃ x, x = rd bb 1 := ⟨_, rfl⟩
        obtain ⟨x2, hx2⟩ : ∃ x, x = rd bb 2 := ⟨_, rfl⟩
        obtain ⟨b00, b01⟩ : 0 ≤ x0 ∧ x0 < 256 := by rw [hx0]; exact rd_byte hB0 0 (by have := HL.out; omega)
        obtain ⟨b10, b11⟩ : 0 ≤ x1 ∧ x1 < 256 := by rw [hx1]; exact rd_byte hB0 1 (by have := HL.out; omega)
        obtain ⟨b20, b21⟩ : 0 ≤ x2 ∧ x2 < 256 := by rw [hx2]; exact rd_byte hB0 2 (by have := HL.out; omega)
        have HX := Aside0.mk (And.intro hx0 (And.intro hx1 hx2))
        rw [show (0 : Int).toNat = 0 from rfl, add_zero_, ← hx0] at a0
        rw [show (1 : Int).toNat = 1 from rfl, ← hx1, add_pos ad 1 (by decide)] at c1
        rw [show (2 : Int).toNat = 2 from rfl, ← hx2, add_pos ad 2 (by decide)] at c2
        obtain ⟨y, hy⟩ : ∃ y : Nat, y = (x1 * 256 + x2).toNat := ⟨_, rfl⟩
        have hor : Go.bits .or .i64 (x1 * 256) x2 = (y : Int) := by
          rw [Bits.or64 8 (x1 * 256) x2 (by omega) (by omega) (by omega) (by omega) (by omega) (by omega)]
          omega
        have hy5 : (y : Int) ≤ 70000 := by omega
        have HY := Aside0.mk hy
        have hL1 : (1 : Int) < (L : Int) := by omega
        have hL2 : (2 : Int) < (L : Int) := by omega
        have HA0 := Aside0.mk a0
        clear hy hx0 hx1 hx2 hC hB0 a0
        go_quiet (fail)
        have hB3 : Below w.heap.size w (wr.drewN nq) := pw_below_drewN hj.out.bel nq
        have HO3 : Aside0 (Kd.R k26 26 (wr.drewN nq) w.heap.size (fun _ => True) u4 acc) := ⟨Kd.R_drewN hj.out.out nq⟩
        have a0 : (wr.drewN nq).cell? ad = some (.int .u8 x0) := HA0.out
        have HB3 := Aside0.mk hB3
        clear hL1 hL2 c1 c2 hor hB3
        generalize wr.drewN nq = w3 at HB3 HO3 a0 ⊢
        have hlen2 : len2 bb = y := by
          have h1 := HX.out
          have h2 := HY.out
          unfold len2
          rw [← h1.2.1, ← h1.2.2, ← h2]
        have HN2 := Aside0.mk hlen2
        clear hlen2
        by_cases hly : L < 3 + y
        · have hly' : (L : Int) < 3 + (y : Int) := by omega
          go_wp2
          go_ret2
          have e := hj.out.is_
          rw [getL_torn _ _ (by have := HL.out; omega) (by rw [List.length_drop, HN2.out, ← HL.out]; omega)] at e
          rw [← e]
          exact ⟨_, rfl, Kd.R_nil _ _ _ _ _, HB3.out⟩
        · have hly' : 3 + (y : Int) ≤ (L : Int) := by omega
          obtain ⟨i5, hi5, hi5'⟩ := Option.map_eq_some_iff.1 info5
          have hsz5 : i5.size = 1 := by simp at hi5'; exact hi5'.2.1
          have hwr : IntKind.i64.wrap (3 + (y : Int)) = 3 + (y : Int) := IntWalk.i64_in _ (by omega)
          have hwx : IntKind.i64.wrap x0 = x0 := IntWalk.i64_in _ (by omega)
          have hw6 : wrap64 (3 + (y : Int)) = 3 + (y : Int) := Bits.wr64 _ (by omega) (by omega)
          have hcutm := cut_mid (P := Try.prog) 23 5 .i64 .i64 Try.underlying23 hi5 1 hsz5 (some ad) L c' 3 (3 + (y : Int)) (by omega) (by omega) (by omega) (by have := hj.out.cap; have := HL.out; omega)
          rw [show (3 : Int).toNat = 3 from rfl, show (3 + (y : Int)).toNat - 3 = y by omega] at hcutm
          obtain ⟨A3, hA3⟩ : ∃ A3, A3 = (if c' = 3 then (some ad : Option Addr) else (some ad).map (·.add (3 * 1))) := ⟨_, rfl⟩
          rw [← hA3] at hcutm
          obtain ⟨c3, hc3⟩ : ∃ c3, c3 = c' - 3 := ⟨_, rfl⟩
          rw [← hc3] at hcutm
          obtain ⟨dat, hdat⟩ : ∃ d, d = (bb.drop 3).take y := ⟨_, rfl⟩
          have hdl : dat.length = y := by rw [hdat, List.length_take, List.length_drop, ← HL.out]; omega
          have hR3 : ∀ W, Below w.heap.size w W → kB.C W A3 y dat := fun W hW => by
            have h := Kd.C_mid (hj.out.read W hW) (lo := 3) (hi := 3 + y) (c := c') (by omega) (by have := HL.out; omega) hj.out.cap
            rw [List.drop_take, show 3 + y - 3 = y by omega, ← hdat, hdl] at h
            rw [hA3]
            exact h
          have hcutr := cut_from (P := Try.prog) 23 5 .i64 Try.underlying23 hi5 1 hsz5 (some ad) L c' (3 + (y : Int)) (by omega) (by omega)
          rw [show (3 + (y : Int)).toNat = 3 + y by omega] at hcutr
          obtain ⟨A4, hA4⟩ : ∃ A4, A4 = (if c' = 3 + y then (some ad : Option Addr) else (some ad).map (·.add ((3 + y) * 1))) := ⟨_, rfl⟩
          rw [← hA4] at hcutr
          obtain ⟨L4, hL4⟩ : ∃ L4, L4 = L - (3 + y) := ⟨_, rfl⟩
          obtain ⟨c4, hc4⟩ : ∃ c4, c4 = c' - (3 + y) := ⟨_, rfl⟩
          rw [← hL4, ← hc4] at hcutr
          have hl4 : ((bb.drop 3).drop y).length = L4 := by rw [List.length_drop, List.length_drop, hL4, HL.out]; omega
          have HR4 : Aside0 (∀ W, Below w.heap.size w W → kB.C W A4 ((bb.drop 3).drop y).length ((bb.drop 3).drop y)) := ⟨fun W hW => by
            have h := Kd.C_drop (hj.out.read W hW) (m := 3 + y) (by have := HL.out; omega) hj.out.cap
            rw [← List.drop_drop] at h
            rw [hA4]
            exact h⟩
          have HR3 := Aside0.mk hR3
          have HD := Aside0.mk hdat
          have HDL := Aside0.mk hdl
          have HL4 := Aside0.mk hl4
          have HL45 : Aside0 (L4 = L - (3 + y) ∧ c4 = c' - (3 + y)) := ⟨⟨hL4, hc4⟩⟩
          have HACC := Aside0.mk hj.out.accl
          clear hi5' hA3 hc3 hdat hdl hR3 hA4 hL4 hc4 hl4
          have HCE : Aside0 (∀ W, Below w.heap.size w W → W.cell? ad = some (.int .u8 x0)) := ⟨fun W hW => by
            obtain ⟨_, e1, a1⟩ := Kd.at_int (hj.out.read W hW) 0 (by omega) (by have := HL.out; omega)
            cases e1
            rw [show (0 : Int).toNat = 0 from rfl, add_zero_, ← HX.out.1] at a1
            exact a1⟩
          have hS0 : w3.cell? ad = some (.int .u8 x0) := a0
          have hS1 : w3.drew.cell? ad = some (.int .u8 x0) := a0
          go_wp2_with fail
          go_region_held3 (fun w' => w'.cell? ad = some (.int .u8 x0)) (first | assumption | exact pw_cell_below (below_alloc (Below.refl _ _) _) (by assumption))
            (first | ((refine bytes_step rfl (.const (.slice none 0 0)) (.tmp 35) rfl w.heap.size w _ dat A3 y c3 rfl rfl ?aC ?aB ?aS ?aL ?_); (case aC => exact HR3.out _ (by first | exact HB3.out | exact HB3.out.drew)); (case aB => first | exact HB3.out | exact HB3.out.drew); (case aS => first | exact HB3.out.size); (case aL => omega); intro A6 c6 w6 h6 hB6 hb6; have hS' : w6.cell? ad = some (.int .u8 x0) := pw_cell_below hb6 a0) | ((refine item_step rfl (.tmp 27) (.tmp 38) rfl w.heap.size w _ w6 u4 acc x0 dat A6 y c6 rfl rfl rfl ?aO ?aD hB6 hB6.size HDL.out.symm ?aL ?_); (case aO => exact Kd.R_below (Kd.R_drew HO3.out) hb6); (case aD => exact Kd.R_mono (Kd.R_lower (Kd.R_newR h6 (Kd.R_drew HO3.out)) HB3.out.size) (fun _ hk => hk.2)); (case aL => (have := HACC.out; omega)); intro v7 w7 h7 hB7; have hS'' : w7.cell? ad = some (.int .u8 x0) := HCE.out w7 hB7))
          have H7 := Aside0.mk h7
          have HB7 := Aside0.mk hB7
          clear h6 hB6 hb6 h7 hB7 hS0 hS1 hS' hS'' a0 hcutm
          obtain ⟨f, hf⟩ : ∃ f, gk = f + 1 := ⟨gk - 1, by have := hk.out; omega⟩
          go_wp2
          have h4 := HL4.out
          have h45 := HL45.out
          go_roundg f
          case measure => omega
          case rel =>
            refine ⟨A4, L4, c4, (bb.drop 3).drop y, acc ++ [⟨x0, dat⟩], rfl, ⟨h4.symm⟩, ⟨⟨HR4.out, ?_, ?_, fun x hx => hj.out.byte x (List.mem_of_mem_drop (List.mem_of_mem_drop hx)), H7.out, ?_, HB7.out, ?_⟩⟩, ⟨by have := hk.out; omega⟩⟩
            · have h1 := hj.out.cap
              have h2 := HL.out
              rw [h4]
              omega
            · have h1 := hj.out.len
              have h2 := HL.out
              rw [h4]
              omega
            · have h1 := HACC.out
              have h2 := HL.out
              rw [h4]
              simp only [List.length_append, List.length_singleton]
              omega
            · have e := hj.out.is_
              rw [getL_go _ _ (by have := HL.out; omega) (by rw [List.length_drop, HN2.out, ← HL.out]; omega), HN2.out, ← HD.out, ← HX.out.1] at e
              exact e
end Go.Proofs.Ytgpeogbifpbcdaa.Tlv
