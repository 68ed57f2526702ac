/- Items in memory: the clone of a row of bytes; jumps in a scope. -/
import Derived.Test.YtgpeogbifpbcdaaPTlvTellsx1
import Derived.Test.YtgpeogbifpbcdaaMask
import Derived.WalkSpells
import Derived.WalkMore
import Derived.Scope
import Derived.Lib.LazyBuf
import Derived.BigRegion
namespace Go.Proofs.Ytgpeogbifpbcdaa.Tlv
open Go.RowKit Go.Proofs.YtgpeogbifpbcdaaW.PrintWords Go.Proofs.YtgpeogbifpbcdaaW.PrintMore Go.Proofs.YtgpeogbifpbcdaaW.PrintLast Go.Proofs.Ytgpeogbifpbcdaa.PTlvTells

abbrev kB : Kd Int := Kd.int .u8
theorem lit0 (w : World) : kB.R 5 (w.alloc (.cells #[] 5)) w.heap.size (fun _ => True) (.slice (some ⟨w.heap.size, 0, none⟩) 0 0) [] := by
  have h := World.ownsRow_lit (base := w.heap.size) (e := 5) (size := 1) w #[] 0 (Nat.le_refl _) (by simp [maxLen]) (by simp)
  exact Kd.R_of_own (by simpa [encs] using h) (fun _ _ => trivial)
set_option maxHeartbeats 1000000 in
theorem clone_any (w : World) (A : Option Addr) (n c : Nat) (xs : List Int) (hr : kB.C w A n xs) (hl : n ≤ 100000000) :
    Calls Try.prog 17 #[.slice A n c] w fun e w' => ∃ v, e = .returned v ∧ kB.R 5 w' w.heap.size (fun _ => True) v xs ∧ Below w.heap.size w w' := by
  have qT : ∀ (w : World) (a : Option Addr) (l c : Nat), (binOp .eql 23 (.slice a l c) (.slice none 0 0)).run Try.prog w = .ok (.bool a.isNone) w := fun w a l c => Lib.run_eql_slice_nil w 23 5 a l c 0 0 Try.underlying23
  have HR := Aside0.mk hr
  clear hr
  cases A with
  | none =>
    have hn : n = 0 := by
      rcases Nat.eq_zero_or_pos n with h | h
      · exact h
      · obtain ⟨_, h, _⟩ := HR.out.2.2 h
        cases h
    subst hn
    have hx : xs = [] := List.eq_nil_of_length_eq_zero HR.out.1
    subst hx
    go_enter Try.func17, Try.ntmps17
    go_wp2
    go_ret
    exact ⟨_, rfl, Kd.R_nil _ _ _ _ _, Below.refl _ _⟩
  | some ad =>
    go_enter Try.func17, Try.ntmps17
    go_wp2_with (((with_reducible refine gate_builtin (b := .append) (xs := #[.tmp 5, .tmp 6]) rfl ?_); at_builtin; refine Kd.R_append_rows kB (w0 := w) w.heap.size rfl (.tmp 5) (.tmp 6) 23 5 (.int .u8 0) 1 rfl Try.underlying23 info5 rfl (by decide) (by omega) (.slice (some ⟨w.heap.size, 0, none⟩) 0 0) [] xs (some ad) n c (fun _ => True) (fun _ => False) rfl rfl ?aO ?aC (fun _ _ h => h) (fun _ h => h.elim) (fun _ _ => trivial) ?aB ?aS ?aL ?_; (case aO => exact lit0 w); (case aC => exact Kd.C_alloc HR.out _); (case aB => exact below_alloc (Below.refl _ _) _); (case aS => simp); (case aL => simp; omega); intro v1 w1 ho hb1 _ _; go_must (have HO := Aside0.mk ho; have HB := Aside0.mk hb1; clear ho hb1)))
    go_ret
    exact ⟨_, rfl, HO.out, HB.out⟩
/-- As Q; by a goto to a label: what J says there. -/
def jumps (J : Nat → Act → World → Prop) (Q : Exit → Act → World → Prop) : Exit → Act → World → Prop
  | .goto l, a, w => J l a w
  | e, a, w => Q e a w
section
variable {Q : Exit → Act → World → Prop} {J : Nat → Act → World → Prop} {a : Act} {w : World}
@[go_sem] theorem jumps_normal : jumps J Q .normal a w = Q .normal a w := rfl
@[go_sem] theorem jumps_exit (id : Nat) : jumps J Q (.exit id) a w = Q (.exit id) a w := rfl
@[go_sem] theorem jumps_ret : jumps J Q .ret a w = Q .ret a w := rfl
@[go_sem] theorem jumps_panic (ch : List PanicEntry) : jumps J Q (.panic ch) a w = Q (.panic ch) a w := rfl
theorem jumps_goto (l : Nat) : jumps J Q (.goto l) a w = J l a w := rfl
end
/-- A scope of several labels: what holds at each jump, and what gets less from jump to jump. -/
theorem wp_scope_gotos {P : Program} {a : Act} {w : World} {Q : Exit → Act → World → Prop} {c : Code} (J : Nat → Nat → Act → World → Prop)
    (first : c.wp P (jumps (fun l a w => ∃ n, J l n a w) Q) a w)
    (pass : ∀ l n a w, J l n a w → ∃ rest, findLabel c l = some rest ∧ rest.wp P (jumps (fun l' a' w' => ∃ n', n' < n ∧ J l' n' a' w') Q) a w) : (Code.scope c).wp P Q a w := by
  intro b k cs
  have key : ∀ n l a w, J l n a w → ∃ rest, findLabel c l = some rest ∧ ∃ e a' w', Q e a' w' ∧ Arrives P (lone (b.at a (.code rest :: .inScope c :: k)) cs w) b k cs e a' w' := by
    intro n
    induction n using Nat.strongRecOn with
    | _ n ih =>
      intro l a w hJ
      obtain ⟨rest, hf, hrest⟩ := pass l n a w hJ
      refine ⟨rest, hf, ?_⟩
      obtain ⟨e, a₁, w₁, hq, harr⟩ := hrest b (.inScope c :: k) cs
      cases e with
      | normal => exact ⟨.normal, a₁, w₁, hq, Steps.trans harr (.one step_inScope)⟩
      | exit id => exact ⟨.exit id, a₁, w₁, hq, fun k' hk => harr k' (by simp [exitTo, hk])⟩
      | goto l' =>
        obtain ⟨n', hlt, hJ'⟩ := hq
        obtain ⟨rest', hf', e₂, a₂, w₂, hq₂, harr₂⟩ := ih n' hlt l' a₁ w₁ hJ'
        have hg : gotoIn l' (.inScope c :: k) = some (.code rest' :: .inScope c :: k) := by simp [gotoIn, hf']
        exact ⟨e₂, a₂, w₂, hq₂, .of_steps (harr _ hg) harr₂⟩
      | ret => exact ⟨_, a₁, w₁, hq, harr⟩
      | panic ch => exact ⟨_, a₁, w₁, hq, harr⟩
      | outgrown => exact ⟨_, a₁, w₁, hq, harr⟩
  obtain ⟨e, a₁, w₁, hq, harr⟩ := first b (.inScope c :: k) cs
  cases e with
  | normal => exact ⟨.normal, a₁, w₁, hq, .head step_scope (Steps.trans harr (.one step_inScope))⟩
  | exit id => exact ⟨.exit id, a₁, w₁, hq, fun k' hk => .head step_scope (harr k' (by simp [exitTo, hk]))⟩
  | goto l' =>
    obtain ⟨n', hJ'⟩ := hq
    obtain ⟨rest', hf', e₂, a₂, w₂, hq₂, harr₂⟩ := key n' l' a₁ w₁ hJ'
    have hg : gotoIn l' (.inScope c :: k) = some (.code rest' :: .inScope c :: k) := by simp [gotoIn, hf']
    exact ⟨e₂, a₂, w₂, hq₂, .of_steps (.head step_scope (harr _ hg)) harr₂⟩
  | ret => exact ⟨_, a₁, w₁, hq, .of_steps (.one step_scope) harr⟩
  | panic ch => exact ⟨_, a₁, w₁, hq, .of_steps (.one step_scope) harr⟩
  | outgrown => exact ⟨_, a₁, w₁, hq, .of_steps (.one step_scope) harr⟩
/-- The same, where what runs from a label may be used on the way to it. -/
theorem wp_scope_gotos2 {P : Program} {a : Act} {w : World} {Q : Exit → Act → World → Prop} {c : Code} (J : Nat → Nat → Act → World → Prop)
    (pass : ∀ l n a w, J l n a w → ∃ rest, findLabel c l = some (.seq .skip rest) ∧ rest.wp P (jumps (fun l' a' w' => ∃ n', n' < n ∧ J l' n' a' w') Q) a w)
    (first : (∀ l n a w rest, findLabel c l = some (.seq .skip rest) → J l n a w → rest.wp P (jumps (fun l a w => ∃ n, J l n a w) Q) a w) → c.wp P (jumps (fun l a w => ∃ n, J l n a w) Q) a w) : (Code.scope c).wp P Q a w := by
  refine wp_scope_gotos J (first ?_) ?_
  · intro l n a w rest hf hJ
    obtain ⟨rest', hf', h⟩ := pass l n a w hJ
    rw [hf] at hf'
    injection hf' with hf'
    injection hf' with _ hf'
    subst hf'
    refine wp_mono h ?_
    intro e a w hq
    cases e with
    | goto l' =>
      obtain ⟨n', _, h⟩ := hq
      exact ⟨n', h⟩
    | normal => exact hq
    | exit id => exact hq
    | ret => exact hq
    | panic ch => exact hq
    | outgrown => exact hq
  · intro l n a w hJ
    obtain ⟨rest', hf', h⟩ := pass l n a w hJ
    exact ⟨_, hf', wp_seq (wp_skip h)⟩
end Go.Proofs.Ytgpeogbifpbcdaa.Tlv
