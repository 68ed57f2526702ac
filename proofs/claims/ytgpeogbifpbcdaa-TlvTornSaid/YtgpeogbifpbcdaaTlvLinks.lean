/- The walk of Links. -/
import Derived.Test.YtgpeogbifpbcdaaTlvRef
namespace Go.Proofs.Ytgpeogbifpbcdaa.Tlv
open Go.RowKit Go.Proofs.YtgpeogbifpbcdaaW.PrintWords Go.Proofs.YtgpeogbifpbcdaaW.PrintMore Go.Proofs.YtgpeogbifpbcdaaW.PrintLast Go.Proofs.Ytgpeogbifpbcdaa.PTlvTells

abbrev kP : Kd (Int × Int) := Kd.pair (Kd.int .i64) (Kd.int .i64)
/-- The links that items tell, behind those of acc. -/
def linksL : List S26 → List (Int × Int) → List (Int × Int) × Int
  | [], acc => (acc, 0)
  | x :: r, acc => if x.f0 ≠ 1 then linksL r acc else if x.f1.length ≠ 3 ∨ 1 < rd x.f1 2 then ([], 2) else linksL r (acc ++ [(rd x.f1 0 * 256 + rd x.f1 1, rd x.f1 2)])
/-- What a report is. -/
def repL (b : List Int) : List (Int × Int) × Int := if (getL b []).2 ≠ 0 then ([], (getL b []).2) else linksL (getL b []).1 []
def ByteItem (x : S26) : Prop := 0 ≤ x.f0 ∧ x.f0 < 256 ∧ ∀ y, y ∈ x.f1 → 0 ≤ y ∧ y < 256
theorem getL_bytes : ∀ (n : Nat) (b : List Int) (acc : List S26), b.length ≤ n → (∀ x, x ∈ b → 0 ≤ x ∧ x < 256) → (∀ x, x ∈ acc → ByteItem x) → ∀ x, x ∈ (getL b acc).1 → ByteItem x := by
  intro n
  induction n with
  | zero =>
    intro b acc hn hb ha
    have : b = [] := List.eq_nil_of_length_eq_zero (by omega)
    subst this
    rw [getL_nil]
    exact ha
  | succ n ih =>
    intro b acc hn hb ha
    by_cases h0 : b.length = 0
    · have : b = [] := List.eq_nil_of_length_eq_zero h0
      subst this
      rw [getL_nil]
      exact ha
    · by_cases h3 : b.length < 3
      · rw [getL_short b acc h0 h3]
        simp
      · by_cases ht : (b.drop 3).length < len2 b
        · rw [getL_torn b acc h3 ht]
          simp
        · rw [getL_go b acc h3 ht]
          refine ih _ _ (by simp; omega) (fun x hx => hb x (List.mem_of_mem_drop (List.mem_of_mem_drop hx))) ?_
          intro x hx
          rcases List.mem_append.1 hx with hx | hx
          · exact ha x hx
          · obtain rfl := List.mem_singleton.1 hx
            have h := rd_byte hb 0 (by omega)
            exact ⟨h.1, h.2, fun y hy => hb y (List.mem_of_mem_drop (List.mem_of_mem_take hy))⟩
theorem getL_err : ∀ (n : Nat) (b : List Int) (acc : List S26), b.length ≤ n → 0 ≤ (getL b acc).2 := by
  intro n
  induction n with
  | zero =>
    intro b acc hn
    have : b = [] := List.eq_nil_of_length_eq_zero (by omega)
    subst this
    rw [getL_nil]
    exact Int.le_refl _
  | succ n ih =>
    intro b acc hn
    by_cases h0 : b.length = 0
    · have : b = [] := List.eq_nil_of_length_eq_zero h0
      subst this
      rw [getL_nil]
      exact Int.le_refl _
    · by_cases h3 : b.length < 3
      · rw [getL_short b acc h0 h3]
        simp
      · by_cases ht : (b.drop 3).length < len2 b
        · rw [getL_torn b acc h3 ht]
          simp
        · rw [getL_go b acc h3 ht]
          exact ih _ _ (by simp; omega)
theorem getL_len : ∀ (n : Nat) (b : List Int) (acc : List S26), b.length ≤ n → (getL b acc).1.length ≤ acc.length + b.length ∧ ∀ x, x ∈ (getL b acc).1 → x ∈ acc ∨ x.f1.length ≤ b.length := by
  intro n
  induction n with
  | zero =>
    intro b acc hn
    have : b = [] := List.eq_nil_of_length_eq_zero (by omega)
    subst this
    rw [getL_nil]
    exact ⟨by simp, fun x hx => .inl hx⟩
  | succ n ih =>
    intro b acc hn
    by_cases h0 : b.length = 0
    · have : b = [] := List.eq_nil_of_length_eq_zero h0
      subst this
      rw [getL_nil]
      exact ⟨by simp, fun x hx => .inl hx⟩
    · by_cases h3 : b.length < 3
      · rw [getL_short b acc h0 h3]
        simp
      · by_cases ht : (b.drop 3).length < len2 b
        · rw [getL_torn b acc h3 ht]
          simp
        · rw [getL_go b acc h3 ht]
          have h := ih ((b.drop 3).drop (len2 b)) (acc ++ [⟨rd b 0, (b.drop 3).take (len2 b)⟩]) (by simp; omega)
          refine ⟨?_, fun x hx => ?_⟩
          · have := h.1
            simp only [List.length_append, List.length_singleton, List.length_drop] at this
            omega
          · rcases h.2 x hx with h | h
            · rcases List.mem_append.1 h with h | h
              · exact .inl h
              · obtain rfl := List.mem_singleton.1 h
                right
                simp only [List.length_take, List.length_drop]
                omega
            · right
              simp only [List.length_drop] at h
              omega
theorem info48 : (Try.prog.info? 48).map (fun i => (i.zero, i.size, i.bytes)) = some (some (.agg #[.int .i64 0, .int .i64 0]), 2, 16) := by kernel_rfl
/-- A link is appended to the row of the call's own. -/
theorem link_step {ops : Array Oper} {o : Oper} {a : Act} {Q : Exit → Act → World → Prop} {Kc : Act → World → Prop} {E : Prop} (hgd : o.guard = none) (s x : Operand) (ho : o.op = .call { callee := .builtin .append, args := #[s, x], argTypes := #[36, 36] })
    (B : Nat) (w0 W W0 : World) (v : Value) (acc : List (Int × Int)) (p q : Int) (hW : W = W0.alloc (.cells #[.int .i64 p, .int .i64 q] 48)) (hs : a.eval s = v) (hx : a.eval x = .slice (some ⟨W0.heap.size, 0, none⟩) 1 1) (HO : Kd.R kP 48 W0 B (fun _ => True) v acc)
    (HB : Below B w0 W0) (hB : B ≤ W0.heap.size) (hl : acc.length ≤ 1000000)
    (h : ∀ v1 w1, Kd.R kP 48 w1 B (fun _ => True) v1 (acc ++ [(p, q)]) → Below B w0 w1 → W0.grownBy w1 v.ownBlock → Kc (a.put o.dst v1) w1) :
    if Region.wanted o (yielded ops a.tmps) = true then Oper.wp Try.prog o a W Kc Q else E := by
  subst hW
  have hw : Region.wanted o (yielded ops a.tmps) = true := by simp [Region.wanted, hgd]
  have H := Kd.R_append_step (P := Try.prog) (Q := Q) (Kc := Kc) (w0 := w0) (W := W0) kP B hw s x 36 48 (.agg #[.int .i64 0, .int .i64 0]) 16 ho Try.underlying36 info48 rfl (by decide) (by omega) v acc (p, q) [.int .i64 p, .int .i64 q] (fun _ => True) (fun _ => False) hs hx ⟨[.int .i64 p], [.int .i64 q], rfl, rfl, rfl⟩ (fun _ hk => hk.elim) (fun _ _ => trivial) HO HB hB (by omega) (fun v1 w1 ho1 hb1 hg1 _ => h v1 w1 ho1 hb1 hg1)
  rw [if_pos hw] at H ⊢
  exact H
theorem linksL_pass (x : S26) (r : List S26) (acc : List (Int × Int)) (h : x.f0 ≠ 1) : linksL (x :: r) acc = linksL r acc := by rw [linksL, if_pos h]
theorem linksL_bad (x : S26) (r : List S26) (acc : List (Int × Int)) (h : x.f0 = 1) (h2 : x.f1.length ≠ 3 ∨ 1 < rd x.f1 2) : linksL (x :: r) acc = ([], 2) := by rw [linksL, if_neg (by simpa using h), if_pos h2]
theorem linksL_go (x : S26) (r : List S26) (acc : List (Int × Int)) (h : x.f0 = 1) (h2 : x.f1.length = 3) (h3 : rd x.f1 2 ≤ 1) : linksL (x :: r) acc = linksL r (acc ++ [(rd x.f1 0 * 256 + rd x.f1 1, rd x.f1 2)]) := by
  rw [linksL, if_neg (by simpa using h), if_neg (by omega)]
theorem step4 {w w' : World} (hb : Below w.heap.size w w') {p0 p1 p2 p3 : Addr} {v0 v1 v2 v3 : Value} (h : w.cell? p0 = some v0 ∧ w.cell? p1 = some v1 ∧ w.cell? p2 = some v2 ∧ w.cell? p3 = some v3) : w'.cell? p0 = some v0 ∧ w'.cell? p1 = some v1 ∧ w'.cell? p2 = some v2 ∧ w'.cell? p3 = some v3 :=
  ⟨pw_cell_below hb h.1, pw_cell_below hb h.2.1, pw_cell_below hb h.2.2.1, pw_cell_below hb h.2.2.2⟩
theorem rd_item {l : List S26} {i : Nat} (hi : i < l.length) : rd_T26 l (i : Int) = l[i] := by simp [rd_T26, hi]
set_option maxHeartbeats 2000000 in
set_option maxRecDepth 100000 in
theorem links_any (w : World) (A : Option Addr) (c : Nat) (b : List Int) (hr : kB.C w A b.length b) (hc : b.length ≤ c) (hl : b.length ≤ 1000000) (hb : ∀ x, x ∈ b → 0 ≤ x ∧ x < 256) :
    Calls Try.prog 12 #[.slice A b.length c] w fun e w' => ∃ v, e = .returned (.tuple #[v, .int .i64 (repL b).2]) ∧ Kd.R kP 48 w' w.heap.size (fun _ => True) v (repL b).1 ∧ Below w.heap.size w w' := by
  have HR := Aside0.mk hr
  have HB := Aside0.mk hb
  have HC0 := Aside0.mk hc
  have HL0 := Aside0.mk hl
  obtain ⟨g, hg⟩ : ∃ g, g = getL b [] := ⟨_, rfl⟩
  have hge : 0 ≤ g.2 := by
    rw [hg]
    exact getL_err b.length b [] (Nat.le_refl _)
  have HG := Aside0.mk hg
  have hrep : repL b = if g.2 ≠ 0 then ([], g.2) else linksL g.1 [] := by rw [hg]; rfl
  obtain ⟨r, hrr⟩ : ∃ r, r = repL b := ⟨_, rfl⟩
  have HREP : Aside0 (r = if g.2 ≠ 0 then ([], g.2) else linksL g.1 []) := ⟨by rw [hrr]; exact hrep⟩
  rw [← hrr]
  clear hr hb hc hl hg hrr hrep
  have hu26 := Try.underlying26
  go_enter Try.func12, Try.ntmps12
  go_wp2_with fail
  refine (get_any w A c b HR.out HC0.out HL0.out HB.out).mono ?_
  rintro e w1 ⟨v, rfl, hR1, hB1⟩
  rw [← HG.out] at hR1 ⊢
  obtain ⟨A1, c1, rfl⟩ := Kd.R_slice hR1
  obtain ⟨B1, hB1s⟩ : ∃ B, B = w1.heap.size := ⟨_, rfl⟩
  have HBB : Aside0 (w.heap.size ≤ B1 ∧ ∀ W, Below B1 w1 W → Below w.heap.size w W) := ⟨⟨by rw [hB1s]; exact hB1.size, fun W hW => hB1.trans (hW.mono (by rw [hB1s]; exact hB1.size))⟩⟩
  have HBR : Aside0 (Below B1 w1 w1) := ⟨Below.refl _ _⟩
  have HLE : Aside0 (B1 ≤ w1.heap.size) := ⟨by omega⟩
  have hRC := (Kd.R_reads' hR1).2.2
  have HBL : Aside0 (∀ (p : Addr) v, w1.cell? p = some v → p.block < B1) := ⟨fun p v hv => by rw [hB1s]; exact World.block_lt_of_cell? _ _ hv⟩
  have HI : Aside0 (∀ W, Below B1 w1 W → Kd.C k26 W A1 g.1.length g.1) := ⟨fun W hW => Kd.C_below hRC (by rw [← hB1s]; exact hW)⟩
  have hgl := getL_len b.length b [] (Nat.le_refl _)
  have hgb := getL_bytes b.length b [] (Nat.le_refl _) HB.out (by simp)
  rw [← HG.out] at hgl hgb
  have HGB := Aside0.mk hgb
  have HGL := Aside0.mk hgl
  obtain ⟨n, hn⟩ : ∃ n, n = g.1.length := ⟨_, rfl⟩
  have hn5 : (n : Int) ≤ 1000000 := by have h1 := hgl.1; have h2 := HL0.out; rw [List.length_nil] at h1; omega
  have Hn := Aside0.mk hn
  rw [← hn] at HI ⊢
  clear hR1 hB1 hB1s hRC hgl hgb hn
  obtain ⟨e, he⟩ : ∃ e, e = g.2 := ⟨_, rfl⟩
  rw [← he] at hge ⊢
  have He := Aside0.mk he
  clear he
  by_cases h0 : e = 0
  · have h1 : (e != 0) = false := by simp [h0]
    have h2 : (e == 0) = true := by simp [h0]
    have Hr : Aside0 (r = linksL g.1 []) := ⟨by rw [HREP.out, if_neg (by rw [← He.out]; simpa using h0)]⟩
    clear h0
    go_wp2
    go_loopg [6, 19] (n + 1) (fun kq v6 v19 w' => ∃ (k : Nat) (acc : List (Int × Int)), v19 = .int .i64 (k : Int) ∧ Aside0 (Kd.R kP 48 w' B1 (fun _ => True) v6 acc) ∧ Aside0 (Below B1 w1 w') ∧ Aside0 (k ≤ n) ∧ Aside0 (n < k + kq) ∧ Aside0 (acc.length ≤ k) ∧ Aside0 (linksL (g.1.drop k) acc = r))
    case atStart => exact ⟨0, [], by go_num, ⟨Kd.R_nil _ _ _ _ _⟩, HBR, ⟨Nat.zero_le _⟩, ⟨by omega⟩, ⟨Nat.zero_le _⟩, ⟨Hr.out.symm⟩⟩
    case round =>
      obtain ⟨k, acc, rfl, hO, hB, hk, hkq, hal, hls⟩ := hrel
      have hk5 : (k : Int) ≤ 1000000 := by have := hk.out; omega
      by_cases hlt : k < n
      · have hlt' : (k : Int) < (n : Int) := by omega
        have hkl : k < g.1.length := by have := Hn.out; omega
        have hnx : g.1.drop k = g.1[k] :: g.1.drop (k + 1) := List.drop_eq_getElem_cons hkl
        have hle : B1 ≤ wr.heap.size := Nat.le_trans HLE.out hB.out.size
        obtain ⟨ad, A2, c2, rfl, i0, i1, hlc, hiC⟩ := at_T26 (HI.out _ hB.out) (k : Int) (by omega) (by omega)
        rw [rd_item hkl, Int.toNat_natCast] at i0 i1
        rw [rd_item hkl] at hlc hiC
        have hbyte := HGB.out _ (List.getElem_mem hkl)
        obtain ⟨x, hx⟩ : ∃ x, x = g.1[k] := ⟨_, rfl⟩
        rw [← hx] at i0 i1 hlc hiC hbyte hnx
        obtain ⟨f, hf⟩ : ∃ f, gk = f + 1 := ⟨gk - 1, by have := hkq.out; omega⟩
        obtain ⟨m, hm⟩ : ∃ m, m = x.f1.length := ⟨_, rfl⟩
        have HM := Aside0.mk hm
        rw [← hm] at i1 hlc hiC
        have hmm : (m : Int) ≤ 9223372036854775807 := by have := hiC.2.1; omega
        have HNX := Aside0.mk hnx
        have HBY := Aside0.mk hbyte
        have HIC := Aside0.mk hiC
        have HX := Aside0.mk hx
        have HLEW := Aside0.mk hle
        clear hnx hbyte hiC hx hm hlc hle
        by_cases hf0 : x.f0 = 1
        · have hf1 : (x.f0 != 1) = false := by simp [hf0]
          have hf2 : (x.f0 == 1) = true := by simp [hf0]
          have HF0 := Aside0.mk hf0
          clear hf0
          by_cases hm3 : m = 3
          · subst hm3
            have HBYT : Aside0 (∃ a2, A2 = some a2 ∧ ∀ W, Below B1 w1 W → W.cell? a2 = some (.int .u8 (rd x.f1 0)) ∧ W.cell? ⟨a2.block, a2.off + 1, none⟩ = some (.int .u8 (rd x.f1 1)) ∧ W.cell? ⟨a2.block, a2.off + 2, none⟩ = some (.int .u8 (rd x.f1 2))) := ⟨by
              obtain ⟨ad', A2', c2', e1, j0, j1, _, hiC'⟩ := at_T26 (HI.out _ HBR.out) (k : Int) (by omega) (by omega)
              rw [rd_item hkl, ← HX.out] at j0 j1 hiC'
              rw [Int.toNat_natCast] at j0 j1
              cases e1
              have q1 := (hB.out.cell (p := ⟨(ad.add (k * 2)).block, (ad.add (k * 2)).off + 1, none⟩) (HBL.out _ _ j1)).symm.trans i1
              rw [j1] at q1
              injection q1 with q1
              injection q1 with q2 q3 q4
              subst q2
              obtain ⟨a2, rfl, hcc⟩ := hiC'.2.2 (by rw [← HM.out]; omega)
              refine ⟨a2, rfl, fun W hW => ?_⟩
              obtain ⟨_, e1, z0⟩ := Kd.at_int hiC' 0 (by omega) (by rw [← HM.out]; omega)
              cases e1
              obtain ⟨_, e1, z1⟩ := Kd.at_int hiC' 1 (by omega) (by rw [← HM.out]; omega)
              cases e1
              obtain ⟨_, e1, z2⟩ := Kd.at_int hiC' 2 (by omega) (by rw [← HM.out]; omega)
              cases e1
              rw [show (0 : Int).toNat = 0 from rfl, add_zero_] at z0
              rw [show (1 : Int).toNat = 1 from rfl, add_pos a2 1 (by decide)] at z1
              rw [show (2 : Int).toNat = 2 from rfl, add_pos a2 2 (by decide)] at z2
              exact ⟨(hW.cell (HBL.out _ _ z0)).trans z0, (hW.cell (HBL.out _ _ z1)).trans z1, (hW.cell (HBL.out _ _ z2)).trans z2⟩⟩
            obtain ⟨a2, rfl, hby⟩ := HBYT.out
            have HBYC := Aside0.mk hby
            obtain ⟨z0, z1, z2⟩ := hby _ hB.out
            have hbr := HBY.out.2.2
            have r0 := rd_byte hbr 0 (by rw [← HM.out]; omega)
            have r1 := rd_byte hbr 1 (by rw [← HM.out]; omega)
            have r2 := rd_byte hbr 2 (by rw [← HM.out]; omega)
            obtain ⟨x0, hx0⟩ : ∃ y, y = rd x.f1 0 := ⟨_, rfl⟩
            obtain ⟨x1, hx1⟩ : ∃ y, y = rd x.f1 1 := ⟨_, rfl⟩
            obtain ⟨x2, hx2⟩ : ∃ y, y = rd x.f1 2 := ⟨_, rfl⟩
            have HXX := Aside0.mk (And.intro hx0 (And.intro hx1 hx2))
            have r0' : 0 ≤ x0 ∧ x0 < 256 := by rw [hx0]; exact r0
            have r1' : 0 ≤ x1 ∧ x1 < 256 := by rw [hx1]; exact r1
            have r2' : 0 ≤ x2 ∧ x2 < 256 := by rw [hx2]; exact r2
            obtain ⟨b00, b01⟩ := r0'
            obtain ⟨b10, b11⟩ := r1'
            obtain ⟨b20, b21⟩ := r2'
            rw [← hx0] at z0
            rw [← hx1] at z1
            rw [← hx2] at z2
            have hba : Below wr.heap.size wr (wr.alloc (Obj.cells #[.int .i64 x.f0, .slice (some a2) 3 c2] 26)) := below_alloc (Below.refl _ _) _
            have y0 := pw_cell_below hba z0
            have y1 := pw_cell_below hba z1
            have y2 := pw_cell_below hba z2
            have HZ := Aside0.mk (And.intro z0 (And.intro z1 z2))
            clear hba z0 z1 z2
            clear hby hbr r0 r1 r2 hx0 hx1 hx2 HBYT
            by_cases hx2' : 1 < x2
            · have hxb : decide (1 < x2) = true := decide_eq_true hx2'
              have HX2 := Aside0.mk hx2'
              clear hx2'
              go_wp2
              go_ret2
              have e := hls.out
              rw [HNX.out, linksL_bad _ _ _ HF0.out (.inr (by rw [← HXX.out.2.2]; exact HX2.out))] at e
              rw [← e]
              exact ⟨_, rfl, Kd.R_nil _ _ _ _ _, HBB.out.2 _ (hB.out.alloc HLEW.out _)⟩
            · have hxb : decide (1 < x2) = false := decide_eq_false hx2'
              have HX2 := Aside0.mk hx2'
              clear hx2'
              go_wp2
              obtain ⟨wb, hwb⟩ : ∃ wb, wb = wr.alloc (Obj.cells #[.int .i64 x.f0, .slice (some a2) 3 c2] 26) := ⟨_, rfl⟩
              obtain ⟨gb, hgb⟩ : ∃ gb, gb = wr.heap.size := ⟨_, rfl⟩
              have hbb : wb.heap[gb]? = some (.cells #[.int .i64 x.f0, .slice (some a2) 3 c2] 26 (0, 0)) := by rw [hwb, hgb]; exact blk_new _ _
              have hg1 : wb.cell? ⟨gb, 1, none⟩ = some (.slice (some a2) 3 c2) := (blk_cell hbb 1).trans rfl
              have HBw : Aside0 (Below B1 w1 wb) := ⟨by rw [hwb]; exact hB.out.alloc HLEW.out _⟩
              have HOw : Aside0 (Kd.R kP 48 wb B1 (fun _ => True) u6 acc) := ⟨by rw [hwb]; exact Kd.R_alloc hO.out _⟩
              have HBBK := Aside0.mk hbb
              rw [← hwb] at y0 y1 y2 ⊢
              rw [← hgb]
              have hor : Go.bits .or .i64 (x0 * 256) x1 = x0 * 256 + x1 := Bits.or64 8 (x0 * 256) x1 (by omega) (by omega) (by omega) (by omega) (by omega) (by omega)
              have hwx0 : IntKind.i64.wrap x0 = x0 := IntWalk.i64_in _ (by omega)
              have hwx1 : IntKind.i64.wrap x1 = x1 := IntWalk.i64_in _ (by omega)
              have hwx2 : IntKind.i64.wrap x2 = x2 := IntWalk.i64_in _ (by omega)
              have hwx3 : IntKind.i64.wrap (x0 * 256) = x0 * 256 := IntWalk.i64_in _ (by omega)
              have hS0 : wb.cell? ⟨gb, 1, none⟩ = some (.slice (some a2) 3 c2) ∧ wb.cell? a2 = some (.int .u8 x0) ∧ wb.cell? ⟨a2.block, a2.off + 1, none⟩ = some (.int .u8 x1) ∧ wb.cell? ⟨a2.block, a2.off + 2, none⟩ = some (.int .u8 x2) := ⟨hg1, y0, y1, y2⟩
              have hS1 : wb.drew.cell? ⟨gb, 1, none⟩ = some (.slice (some a2) 3 c2) ∧ wb.drew.cell? a2 = some (.int .u8 x0) ∧ wb.drew.cell? ⟨a2.block, a2.off + 1, none⟩ = some (.int .u8 x1) ∧ wb.drew.cell? ⟨a2.block, a2.off + 2, none⟩ = some (.int .u8 x2) := ⟨hg1, y0, y1, y2⟩
              have HS := Aside0.mk hS0
              clear hwb hgb hbb hg1 y0 y1 y2
              have hl1 : (1 : Int) < 3 := by omega
              have hl2 : (2 : Int) < 3 := by omega
              go_region_held3 (fun w' => w'.cell? ⟨gb, 1, none⟩ = some (.slice (some a2) 3 c2) ∧ w'.cell? a2 = some (.int .u8 x0) ∧ w'.cell? ⟨a2.block, a2.off + 1, none⟩ = some (.int .u8 x1) ∧ w'.cell? ⟨a2.block, a2.off + 2, none⟩ = some (.int .u8 x2)) (first | assumption | exact step4 (below_alloc (Below.refl _ _) _) (by assumption))
                (first | ((refine link_step rfl (.tmp 37) (.tmp 56) rfl B1 w1 _ wb.drew u6 acc (x0 * 256 + x1) x2 rfl rfl rfl ?aO ?aB ?aS ?aL ?_); (case aO => exact Kd.R_drew HOw.out); (case aB => exact HBw.out.drew); (case aS => exact Nat.le_trans HLE.out HBw.out.size); (case aL => (have := hal.out; omega)); intro v7 w7 h7 hB7 hG7; have hS'' : w7.cell? ⟨gb, 1, none⟩ = some (.slice (some a2) 3 c2) ∧ w7.cell? a2 = some (.int .u8 x0) ∧ w7.cell? ⟨a2.block, a2.off + 1, none⟩ = some (.int .u8 x1) ∧ w7.cell? ⟨a2.block, a2.off + 2, none⟩ = some (.int .u8 x2) := ⟨(blk_cell (blk_grown (w := wb.drew) HBBK.out hG7 (Kd.R_ne (w := wb.drew) (Kd.R_drew HOw.out) HBBK.out (by decide))) 1).trans rfl, by (have h := HBYC.out w7 hB7); rw [← HXX.out.1, ← HXX.out.2.1, ← HXX.out.2.2] at h; exact h⟩))
              have H7 := Aside0.mk h7
              have HB7 := Aside0.mk hB7
              clear h7 hB7 hG7 hS0 hS1 hS'' hor hwx0 hwx1 hwx2 hwx3
              go_wp2
              go_roundg f
              case measure => omega
              case rel =>
                refine ⟨k + 1, acc ++ [(x0 * 256 + x1, x2)], by go_num, H7, HB7, ⟨by omega⟩, ⟨by have := hkq.out; omega⟩, ⟨by have := hal.out; simp; omega⟩, ⟨?_⟩⟩
                have e := hls.out
                rw [HNX.out, linksL_go _ _ _ HF0.out HM.out.symm (by rw [← HXX.out.2.2]; have := HX2.out; omega), ← HXX.out.1, ← HXX.out.2.1, ← HXX.out.2.2] at e
                exact e
          · have hm4 : ((m : Int) != 3) = true := by rw [bne_iff_ne]; omega
            have hm5 : ((m : Int) == 3) = false := beq_eq_false_iff_ne.2 (by omega)
            have hm6 : (m == 3) = false := beq_eq_false_iff_ne.2 hm3
            have HM3 := Aside0.mk hm3
            clear hm3
            go_wp2
            go_ret2
            have e := hls.out
            rw [HNX.out, linksL_bad _ _ _ HF0.out (.inl (by rw [← HM.out]; exact HM3.out))] at e
            rw [← e]
            exact ⟨_, rfl, Kd.R_nil _ _ _ _ _, HBB.out.2 _ (hB.out.alloc HLEW.out _)⟩
        · have hf1 : (x.f0 != 1) = true := by simpa using hf0
          have hf2 : (x.f0 == 1) = false := by simpa using hf0
          have HF0 := Aside0.mk hf0
          clear hf0
          go_wp2
          go_roundg f
          case measure => omega
          case rel =>
            refine ⟨k + 1, acc, by go_num, ⟨Kd.R_alloc hO.out _⟩, ⟨hB.out.alloc HLEW.out _⟩, ⟨by omega⟩, ⟨by have := hkq.out; omega⟩, ⟨by have := hal.out; omega⟩, ⟨?_⟩⟩
            have e := hls.out
            rw [HNX.out, linksL_pass _ _ _ HF0.out] at e
            exact e
      · have hke : k = g.1.length := by have := hk.out; have := Hn.out; omega
        go_wp2
        go_ret2
        have e := hls.out
        rw [List.drop_eq_nil_of_le (by omega)] at e
        rw [← e]
        exact ⟨_, rfl, Kd.R_lower hO.out HBB.out.1, HBB.out.2 _ hB.out⟩
  · have h1 : (e != 0) = true := by simpa using h0
    have h2 : (e == 0) = false := by simpa using h0
    have Hr : Aside0 (r = ([], e)) := ⟨by rw [HREP.out, if_pos (by rw [← He.out]; exact h0), ← He.out]⟩
    clear h0
    go_wp2
    go_ret2
    rw [Hr.out]
    exact ⟨_, rfl, Kd.R_nil _ _ _ _ _, HBB.out.2 _ HBR.out⟩
end Go.Proofs.Ytgpeogbifpbcdaa.Tlv
