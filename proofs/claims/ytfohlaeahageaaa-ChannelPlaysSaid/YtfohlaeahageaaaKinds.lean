/- The kinds of segments, puts and notes; rows of segments and puts copied. -/
import Derived.Test.YtfohlaeahageaaaWMore
import Derived.Test.YtfohlaeahageaaaWKept
import Derived.Test.YtfohlaeahageaaaProg
import Derived.Test.YtfohlaeahageaaaMask
import Derived.WalkKit
import Derived.WalkSpells
import Derived.Lib.LazyBuf
import Derived.Deep.RegionHeld3
import Derived.Deep.LoopGhost
import Derived.Deep.QuietTactic
import Derived.BigRegion
import Derived.BigQuiet
import Derived.IntWalk
namespace Go.Proofs.Ytfohlaeahageaaa.Edge
open Go.RowKit Go.Proofs.YtfohlaeahageaaaW.PrintWords Go.Proofs.YtfohlaeahageaaaW.PrintMore Go.Proofs.YtfohlaeahageaaaW.PrintLast

abbrev SegT := Bool × Int
abbrev PutT := ByteArray × Int × Int × List SegT × Bool
abbrev NoteT := Int × Int × Bool × List PutT
abbrev kSeg : Kd SegT := Kd.pair Kd.bool (Kd.int .i64)
abbrev kPut : Kd PutT := Kd.pair Kd.string (Kd.pair (Kd.int .i64) (Kd.pair (Kd.int .i64) (Kd.pair (Kd.slice 68 kSeg) Kd.bool)))
abbrev kNote : Kd NoteT := Kd.pair (Kd.int .i64) (Kd.pair (Kd.int .i64) (Kd.pair Kd.bool (Kd.slice 38 kPut)))
theorem info68 : (Try.prog.info? 68).map (fun i => (i.zero, i.size, i.bytes)) = some (some (.agg #[.bool false, .int .i64 0]), 2, 16) := by kernel_rfl
theorem info38 : (Try.prog.info? 38).map (fun i => (i.zero, i.size, i.bytes)) = some (some (.agg #[.string ⟨#[]⟩, .int .i64 0, .int .i64 0, .slice none 0 0, .bool false]), 5, 64) := by kernel_rfl
theorem info31 : (Try.prog.info? 31).map (fun i => (i.zero, i.size, i.bytes)) = some (some (.agg #[.int .i64 0, .int .i64 0, .bool false, .slice none 0 0]), 4, 48) := by kernel_rfl
theorem add_zero_ (ad : Addr) : ad.add 0 = ad := by simp [Addr.add]
theorem add_field (ad : Addr) (n j : Nat) (hj : 0 < j) : ad.add (n + j) = ⟨(ad.add n).block, (ad.add n).off + j, none⟩ := by
  unfold Addr.add
  rw [if_neg (by omega)]
  split
  · rename_i h
    subst h
    simp
  · simp
    omega
/-- An empty literal of any kind, of the call's own. -/
theorem litE {α : Type} (d : Kd α) (e : TypeId) (w : World) (B : Nat) (hB : B ≤ w.heap.size) : d.R e (w.alloc (.cells #[] e)) B (fun _ => True) (.slice (some ⟨w.heap.size, 0, none⟩) 0 0) [] := by
  have h := World.ownsRow_lit (base := B) (e := e) (size := d.sz) w #[] 0 hB (by simp [maxLen]) (by simp)
  exact ⟨fun _ _ => trivial, [], by simpa using h, by simp, fun j p hj => by simp at hj⟩
/-- A row is appended to an empty row of the call's own. -/
theorem segs_event {ops : Array Oper} {rest : List Oper} {o : Oper} {a : Act} {Q : Exit → Act → World → Prop} (W : World) (B : Nat) (hgd : o.guard = none) (s x : Operand) (ho : o.op = .call { callee := .builtin .append, args := #[s, x], argTypes := #[36, 36] })
    (ys : List SegT) (A : Option Addr) (m c : Nat) (v : Value) (hs : a.eval s = v) (hx : a.eval x = .slice A m c) (HO : kSeg.R 68 W B (fun _ => True) v []) (hB : B ≤ W.heap.size) (HR : kSeg.C W A m ys) (hl : m * 16 ≤ 140737488355328)
    (h : ∀ A1 c1 w1, kSeg.R 68 w1 B (fun _ => True) (.slice A1 m c1) ys → Below B W w1 → W.grownBy w1 v.ownBlock → wpList Try.prog ops Q rest (a.put o.dst (.slice A1 m c1)) w1) : wpList Try.prog ops Q (o :: rest) a W := by
  refine Kd.R_append_rows kSeg (w0 := W) B hgd s x 36 68 (.agg #[.bool false, .int .i64 0]) 16 ho Try.underlying36 info68 rfl (by decide) (by omega) v [] ys A m c (fun _ => True) (fun _ => False) hs hx HO HR (fun _ _ h => h) (fun _ hk => hk.elim) (fun _ _ => trivial) (Below.refl _ _) hB (by simp; omega) (fun v1 w1 ho1 hb1 hg1 _ => ?_)
  obtain ⟨A1, c1, rfl⟩ := Kd.R_slice ho1
  have e : ([] ++ ys : List SegT) = ys := rfl
  have e2 : ys.length = m := HR.1
  rw [e, e2] at ho1 ⊢
  exact h A1 c1 w1 ho1 hb1 hg1
set_option maxHeartbeats 1000000 in
theorem clone_segs (w : World) (A : Option Addr) (n c : Nat) (xs : List SegT) (hr : kSeg.C w A n xs) (hl : n * 16 ≤ 140737488355328) :
    Calls Try.prog 33 #[.slice A n c] w fun e w' => ∃ v, e = .returned v ∧ kSeg.R 68 w' w.heap.size (fun _ => True) v xs ∧ Below w.heap.size w w' := by
  have qT : ∀ (w : World) (a : Option Addr) (l c : Nat), (binOp .eql 36 (.slice a l c) (.slice none 0 0)).run Try.prog w = .ok (.bool a.isNone) w := fun w a l c => Lib.run_eql_slice_nil w 36 68 a l c 0 0 Try.underlying36
  have HR := Aside0.mk hr
  have HL := Aside0.mk hl
  clear hr hl
  cases A with
  | none =>
    have hn : n = 0 := by
      rcases Nat.eq_zero_or_pos n with h | h
      · exact h
      · obtain ⟨_, h, _⟩ := HR.out.2.2 h
        cases h
    subst hn
    have hx : xs = [] := List.eq_nil_of_length_eq_zero HR.out.1
    subst hx
    go_enter Try.func33, Try.ntmps33
    go_wp2
    go_ret
    exact ⟨_, rfl, Kd.R_nil _ _ _ _ _, Below.refl _ _⟩
  | some ad =>
    go_enter Try.func33, Try.ntmps33
    go_wp2_with (((with_reducible refine gate_builtin (b := .append) (xs := #[.tmp 5, .tmp 6]) rfl ?_); at_builtin; refine segs_event _ w.heap.size rfl (.tmp 5) (.tmp 6) rfl xs (some ad) n c (.slice (some ⟨w.heap.size, 0, none⟩) 0 0) rfl rfl ?aO ?aS ?aC ?aL ?_; (case aO => exact litE kSeg 68 w _ (Nat.le_refl _)); (case aS => simp); (case aC => exact Kd.C_alloc HR.out _); (case aL => exact HL.out); intro A1 c1 w1 ho hb1 _; go_must (have HO := Aside0.mk ho; have HB := Aside0.mk ((below_alloc (Below.refl w.heap.size w) _).trans hb1); clear ho hb1)))
    go_ret
    exact ⟨_, rfl, HO.out, HB.out⟩
end Go.Proofs.Ytfohlaeahageaaa.Edge
