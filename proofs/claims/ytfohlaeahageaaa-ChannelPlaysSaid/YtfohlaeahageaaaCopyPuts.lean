/- The walk of CopyPuts. -/
import Derived.Test.YtfohlaeahageaaaPutsAny
namespace Go.Proofs.Ytfohlaeahageaaa.Edge
open Go.RowKit Go.Proofs.YtfohlaeahageaaaW.PrintWords Go.Proofs.YtfohlaeahageaaaW.PrintMore Go.Proofs.YtfohlaeahageaaaW.PrintLast

theorem below_none {w w1 : World} (h : w.grownBy w1 none) : Below w.heap.size w w1 := ⟨h.os, h.tape, h.output, h.size, fun i hi => h.block i hi (by simp)⟩
/-- A row is appended to nil. -/
theorem copy_segs {ops : Array Oper} {rest : List Oper} {o : Oper} {a : Act} {Q : Exit → Act → World → Prop} (W : World) (hgd : o.guard = none) (s x : Operand) (ho : o.op = .call { callee := .builtin .append, args := #[s, x], argTypes := #[36, 36] })
    (ys : List SegT) (A : Option Addr) (m c : Nat) (hs : a.eval s = .slice none 0 0) (hx : a.eval x = .slice A m c) (HR : kSeg.C W A m ys) (hl : m * 16 ≤ 140737488355328)
    (h : ∀ A1 c1 w1, kSeg.R 68 w1 W.heap.size (fun _ => True) (.slice A1 m c1) ys → Below W.heap.size W w1 → wpList Try.prog ops Q rest (a.put o.dst (.slice A1 m c1)) w1) : wpList Try.prog ops Q (o :: rest) a W :=
  segs_event W W.heap.size hgd s x ho ys A m c _ hs hx (Kd.R_nil _ _ _ _ _) (Nat.le_refl _) HR hl (fun A1 c1 w1 h1 _ hg => h A1 c1 w1 h1 (below_none hg))
/-- A put of a row that is read. -/
theorem put_at {w : World} {A : Option Addr} {n : Nat} {xs : List PutT} (h : kPut.C w A n xs) (i : Nat) (hi : i < xs.length) : ∃ ad B c, A = some ad ∧ w.cell? (ad.add (i * 5)) = some (.string xs[i].1) ∧ w.cell? ⟨(ad.add (i * 5)).block, (ad.add (i * 5)).off + 1, none⟩ = some (.int .i64 xs[i].2.1) ∧ w.cell? ⟨(ad.add (i * 5)).block, (ad.add (i * 5)).off + 2, none⟩ = some (.int .i64 xs[i].2.2.1) ∧ w.cell? ⟨(ad.add (i * 5)).block, (ad.add (i * 5)).off + 3, none⟩ = some (.slice B xs[i].2.2.2.1.length c) ∧ w.cell? ⟨(ad.add (i * 5)).block, (ad.add (i * 5)).off + 4, none⟩ = some (.bool xs[i].2.2.2.2) ∧ xs[i].2.2.2.1.length ≤ c ∧ kSeg.C w B xs[i].2.2.2.1.length xs[i].2.2.2.1 := by
  have hn : xs.length = n := h.1
  obtain ⟨ad, cs, e, hl, hK, hc⟩ := Kd.C_get h xs[i] (i : Int) (by omega) (by omega)
  rw [Int.toNat_natCast] at hK hc
  have e1 : xs.getD i xs[i] = xs[i] := by simp [List.getD_eq_getElem?_getD, hi]
  rw [e1] at hK
  obtain ⟨B, c, e2, hle, hC⟩ := put_K hK
  subst e2
  refine ⟨ad, B, c, e, hc 0 _ rfl, ?_, ?_, ?_, ?_, hle, hC⟩
  · rw [← add_field ad (i * 5) 1 (by decide)]; exact hc 1 _ rfl
  · rw [← add_field ad (i * 5) 2 (by decide)]; exact hc 2 _ rfl
  · rw [← add_field ad (i * 5) 3 (by decide)]; exact hc 3 _ rfl
  · rw [← add_field ad (i * 5) 4 (by decide)]; exact hc 4 _ rfl
theorem box5 {w : World} {g t : Nat} {a b c d e : Value} (h : w.heap[g]? = some (.cells #[a, b, c, d, e] t (0, 0))) : w.cell? ⟨g, 0, none⟩ = some a ∧ w.cell? ⟨g, 1, none⟩ = some b ∧ w.cell? ⟨g, 2, none⟩ = some c ∧ w.cell? ⟨g, 3, none⟩ = some d ∧ w.cell? ⟨g, 4, none⟩ = some e :=
  ⟨(blk_cell h 0).trans rfl, (blk_cell h 1).trans rfl, (blk_cell h 2).trans rfl, (blk_cell h 3).trans rfl, (blk_cell h 4).trans rfl⟩
/-- A put's box, its list copied. -/
theorem copy_put {wr w3 : World} {B : Nat} {v v3 : Value} {xs : List PutT} {ls : List SegT} (o : Obj) (hR : kPut.R 38 wr B (fun _ => True) v xs) (hB : B ≤ wr.heap.size) (hb3 : Below (wr.alloc o).heap.size (wr.alloc o) w3) (h3 : kSeg.R 68 w3 (wr.alloc o).heap.size (fun _ => True) v3 ls) (i : Nat) (u : Value) :
    kPut.R 38 (w3.setCell ⟨wr.heap.size, i, none⟩ u) B (fun _ => True) v xs ∧ kSeg.R 68 (w3.setCell ⟨wr.heap.size, i, none⟩ u) B (fun j => wr.heap.size ≤ j) v3 ls ∧ (∀ j, wr.heap.size ≤ j → True ∧ some j ≠ v.ownBlock) ∧ Below B wr (w3.setCell ⟨wr.heap.size, i, none⟩ u) := by
  have hs : (wr.alloc o).heap.size = wr.heap.size + 1 := by simp
  have hb : Below wr.heap.size wr w3 := ((Below.refl _ _).alloc (Nat.le_refl _) o).trans (hb3.mono (by omega))
  refine ⟨?_, ?_, ?_, ?_⟩
  · exact Kd.R_mono (Kd.R_far (p := ⟨wr.heap.size, i, none⟩) (Kd.R_below (Kd.R_bound hR) hb) (fun j hj => by have h9 : j < wr.heap.size := hj.2.2.1; show j ≠ wr.heap.size; omega) u) (fun _ _ => trivial)
  · exact Kd.R_lower (Kd.R_mono (Kd.R_far (p := ⟨wr.heap.size, i, none⟩) (Kd.R_bound h3) (fun j hj => by have h9 : (wr.alloc o).heap.size ≤ j := hj.2.1; show j ≠ wr.heap.size; omega) u) (fun j hj => by have : (wr.alloc o).heap.size ≤ j := hj.2.1; show wr.heap.size ≤ j; omega)) (by omega)
  · intro j hj
    refine ⟨trivial, fun e => ?_⟩
    obtain ⟨cells, hc⟩ := Kd.R_typed hR j e.symm
    have := blk_lt hc
    omega
  · exact (hb.mono hB).setCell hB _
set_option maxHeartbeats 2000000 in
theorem copy_any (w : World) (A : Option Addr) (n c : Nat) (xs : List PutT) (hr : kPut.C w A n xs) (hl : n * 64 ≤ 140737488355328) (hf : Fits xs) :
    Calls Try.prog 26 #[.slice A n c] w fun e w' => ∃ v, e = .returned v ∧ kPut.R 38 w' w.heap.size (fun _ => True) v xs ∧ Below w.heap.size w w' := by
  have hxn : xs.length = n := hr.1
  have HR := Aside0.mk hr
  have HL := Aside0.mk hl
  have HF := Aside0.mk hf
  have HN := Aside0.mk hxn
  clear hr hl hf
  go_enter Try.func26, Try.ntmps26
  go_wp2
  go_loopg [3, 4] (n + 1) (fun kq v3 v4 w' => ∃ (k : Nat) (A1 : Option Addr) (c1 : Nat), v4 = .int .i64 (k : Int) ∧ v3 = .slice A1 k c1 ∧ Aside0 (kPut.R 38 w' w.heap.size (fun _ => True) (.slice A1 k c1) (xs.take k)) ∧ Aside0 (Below w.heap.size w w') ∧ Aside0 (k ≤ n) ∧ Aside0 (n < kq + k))
  case atStart => exact ⟨0, none, 0, rfl, rfl, ⟨Kd.R_nil _ _ _ _ _⟩, ⟨Below.refl _ _⟩, ⟨by omega⟩, ⟨by omega⟩⟩
  case round =>
    obtain ⟨k, A1, c1, rfl, rfl, hR, hB, hkn, hkq⟩ := hrel
    by_cases h : k < n
    · have hb1 : (k : Int) < (n : Int) := by omega
      have hnb : (n : Int) ≤ 2199023255552 := by have := HL.out; omega
      have hk : k < xs.length := by omega
      obtain ⟨ad, A2, m, rfl, p0, p1, p2, p3, p4, hle, hC⟩ := put_at (Kd.C_below HR.out hB.out) k hk
      obtain ⟨x, hx⟩ : ∃ x, x = xs[k] := ⟨_, rfl⟩
      obtain ⟨nm, a, b, ls, bo⟩ := x
      rw [← hx] at p0 p1 p2 p3 p4 hle hC
      have hfl : ls.length * 16 ≤ 140737488355328 := by have := HF.out _ (List.getElem_mem hk); rw [← hx] at this; exact this
      have HC := Aside0.mk hC
      have HFL := Aside0.mk hfl
      have HX := Aside0.mk hx
      clear hC hfl hx hle
      dsimp only at p0 p1 p2 p3 p4 HC
      obtain ⟨L, hL⟩ : ∃ L, L = ls.length := ⟨_, rfl⟩
      rw [← hL] at p3 HC HFL
      clear hL
      go_wp2_with first | (((with_reducible refine gate_builtin (b := .append) (xs := #[.const (.slice none 0 0), .tmp 17]) rfl ?_); at_builtin; refine copy_segs _ rfl (.const (.slice none 0 0)) (.tmp 17) rfl ls A2 L m rfl rfl ?aC ?aL ?_; (case aC => exact Kd.C_alloc HC.out _); (case aL => exact HFL.out); intro A3 c3 w3 h3 hb3; go_must (have hbx := blk_below (blk_new _ _) hb3; obtain ⟨p30, p31, p32, p33, p34⟩ := box5 hbx; have p3f := blk_frozen hbx 3; have HSZ := Aside0.mk (show w3.heap.size = (w3.setCell ⟨wr.heap.size, 3, none⟩ (.slice A3 L c3)).heap.size by simp); have HW := Aside0.mk (copy_put _ hR.out hB.out.size hb3 h3 3 (.slice A3 L c3)); clear hbx h3 hb3))) | (((with_reducible refine gate_builtin (b := .append) (xs := #[.tmp 20, .tmp 22]) rfl ?_); at_builtin; refine Kd.R_append kPut (w0 := wr) w.heap.size rfl (.tmp 20) (.tmp 22) 27 38 (.agg #[.string ⟨#[]⟩, .int .i64 0, .int .i64 0, .slice none 0 0, .bool false]) 64 rfl Try.underlying27 info38 rfl (by decide) (by omega) (.slice A1 k c1) (xs.take k) (nm, a, b, ls, bo) [.string nm, .int .i64 a, .int .i64 b, .slice A3 L c3, .bool bo] (fun _ => True) (fun j => wr.heap.size ≤ j) rfl ?aX ?aP ?aK ?aF ?aO ?aB ?aS ?aL ?_; (case aX => exact congrArg (fun q => Value.slice (some ⟨q, 0, none⟩) 1 1) HSZ.out); (case aP => exact put_M HW.out.2.1); (case aK => exact HW.out.2.2.1); (case aO => exact HW.out.1); (case aF => exact fun _ _ => trivial); (case aB => exact HW.out.2.2.2); (case aS => exact Nat.le_trans hB.out.size HW.out.2.2.2.size); (case aL => (have := HL.out; simp only [List.length_take]; omega)); intro v4 w4 h4 hb4 hg4 _; go_must (have H4 := Aside0.mk h4; have HB4 := Aside0.mk (hB.out.trans hb4); clear h4 hb4 hg4)))
      obtain ⟨A4, c4, rfl⟩ := Kd.R_slice H4.out
      have e4 : (xs.take k ++ [(nm, a, b, ls, bo)]).length = k + 1 := by simp only [List.length_append, List.length_take, List.length_singleton]; omega
      have e5 : xs.take k ++ [(nm, a, b, ls, bo)] = xs.take (k + 1) := by rw [List.take_succ_eq_append_getElem hk, HX.out]
      rw [e4, e5] at H4
      obtain ⟨mk, hmk⟩ : ∃ mk, gk = mk + 1 := ⟨gk - 1, by have := hkq.out; omega⟩
      go_roundg mk
      case measure => omega
      case rel => exact ⟨k + 1, A4, c4, by go_num, by rw [e4], H4, HB4, ⟨by omega⟩, ⟨by have := hkq.out; omega⟩⟩
    · have hb1 : ¬ (k : Int) < (n : Int) := by omega
      go_wp2
      go_ret
      have e : k = xs.length := by have := hkn.out; omega
      have hr := hR.out
      rw [e, List.take_length] at hr
      rw [e]
      exact ⟨_, rfl, hr, hB.out⟩
theorem R_setLow {α : Type} {d : Kd α} {e B : Nat} {ok : Nat → Prop} {w : World} {v : Value} {xs : List α} (h : d.R e w B ok v xs) (p : Addr) (hp : p.block < B) (u : Value) : d.R e (w.setCell p u) B ok v xs :=
  Kd.R_mono (Kd.R_far (p := p) (Kd.R_bound h) (fun k hk => by have h9 : B ≤ k := hk.2.1; omega) u) (fun _ hk => hk.1)
theorem box4 {w : World} {g t : Nat} {a b c d : Value} (h : w.heap[g]? = some (.cells #[a, b, c, d] t (0, 0))) : w.cell? ⟨g, 0, none⟩ = some a ∧ w.cell? ⟨g, 1, none⟩ = some b ∧ w.cell? ⟨g, 2, none⟩ = some c ∧ w.cell? ⟨g, 3, none⟩ = some d :=
  ⟨(blk_cell h 0).trans rfl, (blk_cell h 1).trans rfl, (blk_cell h 2).trans rfl, (blk_cell h 3).trans rfl⟩
theorem store4 {w : World} {g t : Nat} {a b c d : Value} (h : w.heap[g]? = some (.cells #[a, b, c, d] t (0, 0))) (a' b' c' d' : Value) : ((((w.setCell ⟨g, 0, none⟩ a').setCell ⟨g, 1, none⟩ b').setCell ⟨g, 2, none⟩ c').setCell ⟨g, 3, none⟩ d').heap[g]? = some (.cells #[a', b', c', d'] t (0, 0)) :=
  blk_put (blk_put (blk_put (blk_put h 0 a' rfl) 1 b' rfl) 2 c' rfl) 3 d' rfl
/-- A note as a value. -/
def noteV (x : NoteT) (v : Value) : Value := .agg #[.int .i64 x.1, .int .i64 x.2.1, .bool x.2.2.1, v]
set_option maxHeartbeats 1000000 in
theorem clone_any (w : World) (A : Option Addr) (c : Nat) (x : NoteT) (hr : kPut.C w A x.2.2.2.length x.2.2.2) (hl : x.2.2.2.length * 64 ≤ 140737488355328) (hf : Fits x.2.2.2) :
    Calls Try.prog 29 #[noteV x (.slice A x.2.2.2.length c)] w fun e w' => ∃ A1 c1, e = .returned (noteV x (.slice A1 x.2.2.2.length c1)) ∧ kPut.R 38 w' w.heap.size (fun _ => True) (.slice A1 x.2.2.2.length c1) x.2.2.2 ∧ Below w.heap.size w w' := by
  obtain ⟨nd, ver, ack, xs⟩ := x
  dsimp only at hr hl hf ⊢
  obtain ⟨n, hn⟩ : ∃ n, n = xs.length := ⟨_, rfl⟩
  rw [← hn] at hr hl ⊢
  have HR := Aside0.mk hr
  have HL := Aside0.mk hl
  have HF := Aside0.mk hf
  have HN := Aside0.mk hn
  clear hr hl hf hn
  unfold noteV
  dsimp only
  go_enter Try.func29, Try.ntmps29
  go_wp2_with fail
  refine (puts_any _ A n c xs (Kd.C_alloc (Kd.C_alloc HR.out _) _) HL.out HF.out).mono ?_
  rintro e w3 ⟨v, rfl, hv, hb⟩
  obtain ⟨A1, c1, rfl⟩ := Kd.R_slice hv
  rw [← HN.out] at hv ⊢
  obtain ⟨p00, p01, p02, p03⟩ := box4 (blk_below (blk_alloc (blk_new w _) _) hb)
  have hf0 := blk_frozen (blk_below (blk_alloc (blk_new w _) _) hb) 3
  have hx1 := blk_below (blk_new _ _) hb
  rw [World.size_alloc] at hx1
  obtain ⟨p10, p11, p12, p13⟩ := box4 hx1
  have f10 := blk_frozen hx1 0
  have f11 := blk_frozen hx1 1
  have f12 := blk_frozen hx1 2
  have f13 := blk_frozen hx1 3
  have HV := Aside0.mk hv
  have HB := Aside0.mk hb
  have HX := Aside0.mk hx1
  clear hv hb hx1
  go_wp2
  refine bodyPost_ret (results_cell_row rfl _ _ (w.heap.size + 1) 31 #[.int .i64 nd, .int .i64 ver, .bool ack, .slice A1 n c1] (0, 0) _ rfl (store4 (blk_far HX.out (by simp) _) _ _ _ _) Try.underlying31 rfl (by kernel_rfl)) rfl ?_
  have hs : ((w.alloc (Obj.cells #[Value.int IntKind.i64 nd, Value.int IntKind.i64 ver, Value.bool ack, Value.slice A n c] 31)).alloc (Obj.cells #[Value.int IntKind.i64 0, Value.int IntKind.i64 0, Value.bool false, Value.slice none 0 0] 31)).heap.size = w.heap.size + 2 := by simp
  refine ⟨A1, c1, rfl, Kd.R_lower (R_setLow (R_setLow (R_setLow (R_setLow (R_setLow HV.out _ ?_ _) _ ?_ _) _ ?_ _) _ ?_ _) _ ?_ _) (by rw [hs]; omega), (((((((Below.refl _ _).alloc (Nat.le_refl _) _).alloc (by simp) _).trans (HB.out.mono (by rw [hs]; omega))).setCell ?_ _).setCell ?_ _).setCell ?_ _).setCell ?_ _ |>.setCell ?_ _⟩
  all_goals first | (rw [hs]; simp) | simp
set_option maxHeartbeats 1000000 in
theorem copynote_any (w : World) (A : Option Addr) (c : Nat) (x : NoteT) (hr : kPut.C w A x.2.2.2.length x.2.2.2) (hl : x.2.2.2.length * 64 ≤ 140737488355328) (hf : Fits x.2.2.2) :
    Calls Try.prog 10 #[noteV x (.slice A x.2.2.2.length c)] w fun e w' => ∃ A1 c1, e = .returned (noteV x (.slice A1 x.2.2.2.length c1)) ∧ kPut.R 38 w' w.heap.size (fun _ => True) (.slice A1 x.2.2.2.length c1) x.2.2.2 ∧ Below w.heap.size w w' := by
  obtain ⟨nd, ver, ack, xs⟩ := x
  dsimp only at hr hl hf ⊢
  obtain ⟨n, hn⟩ : ∃ n, n = xs.length := ⟨_, rfl⟩
  rw [← hn] at hr hl ⊢
  have HR := Aside0.mk hr
  have HL := Aside0.mk hl
  have HF := Aside0.mk hf
  have HN := Aside0.mk hn
  clear hr hl hf hn
  unfold noteV
  dsimp only
  go_enter Try.func10, Try.ntmps10
  go_wp2_with fail
  refine (copy_any _ A n c xs (Kd.C_alloc (Kd.C_alloc HR.out _) _) HL.out HF.out).mono ?_
  rintro e w3 ⟨v, rfl, hv, hb⟩
  obtain ⟨A1, c1, rfl⟩ := Kd.R_slice hv
  rw [← HN.out] at hv ⊢
  obtain ⟨p00, p01, p02, p03⟩ := box4 (blk_below (blk_alloc (blk_new w _) _) hb)
  have hf0 := blk_frozen (blk_below (blk_alloc (blk_new w _) _) hb) 3
  have hx1 := blk_below (blk_new _ _) hb
  rw [World.size_alloc] at hx1
  obtain ⟨p10, p11, p12, p13⟩ := box4 hx1
  have f10 := blk_frozen hx1 0
  have f11 := blk_frozen hx1 1
  have f12 := blk_frozen hx1 2
  have f13 := blk_frozen hx1 3
  have HV := Aside0.mk hv
  have HB := Aside0.mk hb
  have HX := Aside0.mk hx1
  clear hv hb hx1
  go_wp2
  refine bodyPost_ret (results_cell_row rfl _ _ (w.heap.size + 1) 31 #[.int .i64 nd, .int .i64 ver, .bool ack, .slice A1 n c1] (0, 0) _ rfl (store4 (blk_far HX.out (by simp) _) _ _ _ _) Try.underlying31 rfl (by kernel_rfl)) rfl ?_
  have hs : ((w.alloc (Obj.cells #[Value.int IntKind.i64 nd, Value.int IntKind.i64 ver, Value.bool ack, Value.slice A n c] 31)).alloc (Obj.cells #[Value.int IntKind.i64 0, Value.int IntKind.i64 0, Value.bool false, Value.slice none 0 0] 31)).heap.size = w.heap.size + 2 := by simp
  refine ⟨A1, c1, rfl, Kd.R_lower (R_setLow (R_setLow (R_setLow (R_setLow (R_setLow HV.out _ ?_ _) _ ?_ _) _ ?_ _) _ ?_ _) _ ?_ _) (by rw [hs]; omega), (((((((Below.refl _ _).alloc (Nat.le_refl _) _).alloc (by simp) _).trans (HB.out.mono (by rw [hs]; omega))).setCell ?_ _).setCell ?_ _).setCell ?_ _).setCell ?_ _ |>.setCell ?_ _⟩
  all_goals first | (rw [hs]; simp) | simp
end Go.Proofs.Ytfohlaeahageaaa.Edge
