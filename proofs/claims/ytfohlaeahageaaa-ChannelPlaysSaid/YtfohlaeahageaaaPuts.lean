/- The walk of Puts: a row of puts copied, each with a list of its own. -/
import Derived.Test.YtfohlaeahageaaaKinds
namespace Go.Proofs.Ytfohlaeahageaaa.Edge
open Go.RowKit Go.Proofs.YtfohlaeahageaaaW.PrintWords Go.Proofs.YtfohlaeahageaaaW.PrintMore Go.Proofs.YtfohlaeahageaaaW.PrintLast

/-- A put: of the call's own (true), or with the list that it had in the world w0. -/
def kTwo (w0 : World) : Kd (PutT × Bool) where
  sz := 5
  E := kPut.E
  K := fun w x cs => cond x.2 (kPut.K w x.1 cs) (kPut.K w0 x.1 cs)
  M := fun w base ok x cs => cond x.2 (kPut.M w base ok x.1 cs) (kPut.K w0 x.1 cs)
  K_len := by
    rintro w ⟨x, _ | _⟩ cs h
    · exact kPut.K_len (w := w0) h
    · exact kPut.K_len (w := w) h
  K_one := by
    rintro w ⟨x, _ | _⟩ cs h
    · exact kPut.K_one (w := w0) h
    · exact kPut.K_one (w := w) h
  K_below := by
    rintro w w1 ⟨x, _ | _⟩ cs hb h
    · exact h
    · exact kPut.K_below hb h
  K_of_M := by
    rintro w base ok ⟨x, _ | _⟩ cs h
    · exact h
    · exact kPut.K_of_M h
  M_mono := by
    rintro w base ok ok' ⟨x, _ | _⟩ cs hok h
    · exact h
    · exact kPut.M_mono hok h
  M_bound := by
    rintro w base ok ⟨x, _ | _⟩ cs h
    · exact h
    · exact kPut.M_bound h
  M_move := by
    rintro w w1 base ok ⟨x, _ | _⟩ cs hm h
    · exact h
    · exact kPut.M_move hm h
  M_lower := by
    rintro w base base' ok ⟨x, _ | _⟩ cs hb h
    · exact h
    · exact kPut.M_lower hb h
def tagF (l : List PutT) : List (PutT × Bool) := l.map fun p => (p, false)
def tagK (l : List PutT) (k : Nat) : List (PutT × Bool) := (l.take k).map (fun p => (p, true)) ++ (l.drop k).map (fun p => (p, false))
theorem tagK_len (l : List PutT) (k : Nat) : (tagK l k).length = l.length := by
  unfold tagK
  simp
  omega
theorem tagK_zero (l : List PutT) : tagK l 0 = tagF l := by simp [tagK, tagF]
theorem tagK_at (l : List PutT) (k : Nat) (hk : k < l.length) (z : PutT × Bool) : (tagK l k).getD k z = (l[k], false) := by
  unfold tagK
  have h : ((l.take k).map (fun p => (p, true))).length = k := by simp; omega
  rw [List.getD_eq_getElem?_getD, List.getElem?_append_right (by omega), h, Nat.sub_self]
  simp [List.getElem?_drop, hk]
theorem tagK_set (l : List PutT) (k : Nat) (hk : k < l.length) : (tagK l k).set k (l[k], true) = tagK l (k + 1) := by
  unfold tagK
  have h : ((l.take k).map (fun p => (p, true))).length = k := by simp; omega
  rw [List.set_append_right _ _ (by omega), h, Nat.sub_self, List.drop_eq_getElem_cons hk, List.take_succ_eq_append_getElem hk, List.map_append, List.map_cons, List.set_cons_zero, List.append_assoc]
  rfl
/-- When all are of the call's own. -/
theorem all_own {w0 w : World} {B : Nat} {ok : Nat → Prop} {v : Value} {l : List PutT} (h : (kTwo w0).R 38 w B ok v (tagK l l.length)) : kPut.R 38 w B ok v l := by
  obtain ⟨h0, inner, ho, hr⟩ := h
  have e : tagK l l.length = l.map (fun p => (p, true)) := by simp [tagK]
  rw [e] at ho hr
  refine ⟨h0, inner, by rw [List.length_map] at ho; exact ho, by have := hr.1; rw [List.length_map] at this; exact this, fun j p hj => ?_⟩
  have h2 := hr.2 j (p, true) (by rw [List.getElem?_map, hj]; rfl)
  exact h2
/-- A row of puts is appended to an empty row of the call's own. -/
theorem puts_event {ops : Array Oper} {rest : List Oper} {o : Oper} {a : Act} {Q : Exit → Act → World → Prop} (w0 W : World) (B : Nat) (hgd : o.guard = none) (s x : Operand) (ho : o.op = .call { callee := .builtin .append, args := #[s, x], argTypes := #[27, 27] })
    (ys : List PutT) (A : Option Addr) (m c : Nat) (v : Value) (hs : a.eval s = v) (hx : a.eval x = .slice A m c) (HO : (kTwo w0).R 38 W B (fun _ => True) v []) (hB : B ≤ W.heap.size) (hbw : Below w0.heap.size w0 W) (HR : kPut.C w0 A m ys) (hl : m * 64 ≤ 140737488355328)
    (h : ∀ A1 c1 w1, (kTwo w0).R 38 w1 B (fun _ => True) (.slice A1 m c1) (tagF ys) → Below B W w1 → W.grownBy w1 v.ownBlock → wpList Try.prog ops Q rest (a.put o.dst (.slice A1 m c1)) w1) : wpList Try.prog ops Q (o :: rest) a W := by
  have HR2 : ReadsRow (fun (x : PutT × Bool) cs => kPut.K w0 x.1 cs ∧ x.2 = false) (kTwo w0).sz W A m (tagF ys) := by
    refine ⟨by unfold tagF; rw [List.length_map]; exact HR.1, HR.2.1, fun hn => ?_⟩
    obtain ⟨ad, e, hc⟩ := HR.2.2 hn
    refine ⟨ad, e, fun j p hj => ?_⟩
    unfold tagF at hj
    rw [List.getElem?_map] at hj
    obtain ⟨q, hq, rfl⟩ := Option.map_eq_some_iff.1 hj
    obtain ⟨cs, h1, h2, h3⟩ := hc j q hq
    exact ⟨cs, h1, ⟨h2, rfl⟩, fun i u hu => pw_cell_below hbw (h3 i u hu)⟩
  refine Kd.R_append_rows (kTwo w0) (w0 := W) B hgd s x 27 38 (.agg #[.string ⟨#[]⟩, .int .i64 0, .int .i64 0, .slice none 0 0, .bool false]) 64 ho Try.underlying27 info38 rfl (by show 0 < 5; decide) (by omega) v [] (tagF ys) A m c (fun _ => True) (fun _ => False) hs hx HO HR2 (fun x cs hx => ?_) (fun _ hk => hk.elim) (fun _ _ => trivial) (Below.refl _ _) hB (by simp; omega) (fun v1 w1 ho1 hb1 hg1 _ => ?_)
  · obtain ⟨x, b⟩ := x
    obtain ⟨h1, h2⟩ := hx
    dsimp only at h2
    subst h2
    exact h1
  obtain ⟨A1, c1, rfl⟩ := Kd.R_slice ho1
  have e : ([] ++ tagF ys : List (PutT × Bool)) = tagF ys := rfl
  have e2 : (tagF ys).length = m := HR2.1
  rw [e, e2] at ho1 ⊢
  exact h A1 c1 w1 ho1 hb1 hg1
set_option maxHeartbeats 1000000 in
theorem clone_puts (w : World) (A : Option Addr) (n c : Nat) (xs : List PutT) (hr : kPut.C w A n xs) (hl : n * 64 ≤ 140737488355328) :
    Calls Try.prog 32 #[.slice A n c] w fun e w' => ∃ A1 c1, e = .returned (.slice A1 n c1) ∧ (kTwo w).R 38 w' w.heap.size (fun _ => True) (.slice A1 n c1) (tagF xs) ∧ Below w.heap.size w w' := by
  have qT : ∀ (w : World) (a : Option Addr) (l c : Nat), (binOp .eql 27 (.slice a l c) (.slice none 0 0)).run Try.prog w = .ok (.bool a.isNone) w := fun w a l c => Lib.run_eql_slice_nil w 27 38 a l c 0 0 Try.underlying27
  have HR := Aside0.mk hr
  have HL := Aside0.mk hl
  clear hr hl
  cases A with
  | none =>
    have hn : n = 0 := by
      rcases Nat.eq_zero_or_pos n with h | h
      · exact h
      · obtain ⟨_, h, _⟩ := HR.out.2.2 h
        cases h
    subst hn
    have hx : xs = [] := List.eq_nil_of_length_eq_zero HR.out.1
    subst hx
    go_enter Try.func32, Try.ntmps32
    go_wp2
    go_ret
    exact ⟨none, 0, rfl, Kd.R_nil _ _ _ _ _, Below.refl _ _⟩
  | some ad =>
    go_enter Try.func32, Try.ntmps32
    go_wp2_with (((with_reducible refine gate_builtin (b := .append) (xs := #[.tmp 5, .tmp 6]) rfl ?_); at_builtin; refine puts_event w _ w.heap.size rfl (.tmp 5) (.tmp 6) rfl xs (some ad) n c (.slice (some ⟨w.heap.size, 0, none⟩) 0 0) rfl rfl ?aO ?aS ?aW ?aC ?aL ?_; (case aO => exact litE (kTwo w) 38 w _ (Nat.le_refl _)); (case aS => simp); (case aW => exact below_alloc (Below.refl _ _) _); (case aC => exact HR.out); (case aL => exact HL.out); intro A1 c1 w1 ho hb1 _; go_must (have HO := Aside0.mk ho; have HB := Aside0.mk ((below_alloc (Below.refl w.heap.size w) _).trans hb1); clear ho hb1)))
    go_ret
    exact ⟨_, _, rfl, HO.out, HB.out⟩
end Go.Proofs.Ytfohlaeahageaaa.Edge
