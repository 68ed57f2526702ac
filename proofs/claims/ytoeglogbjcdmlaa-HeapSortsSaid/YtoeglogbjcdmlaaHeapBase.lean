/- A heap of pairs in memory: its struct's block and its row of the call's own; what is read there, and what a store into it makes. -/
import Derived.Test.YtoeglogbjcdmlaaPHeapSortsx1
import Derived.Test.YtoeglogbjcdmlaaWMore
import Derived.Test.YtoeglogbjcdmlaaWKept
import Derived.WalkKit
import Derived.WalkSpells
import Derived.Deep.RegionHeld3
import Derived.Deep.LoopGhost
import Derived.BigRegion
import Derived.BigQuiet
namespace Go.Proofs.Ytoeglogbjcdmlaa.Heap
open Go.RowKit Go.Proofs.YtoeglogbjcdmlaaW.PrintWords Go.Proofs.YtoeglogbjcdmlaaW.PrintMore Go.Proofs.YtoeglogbjcdmlaaW.PrintLast Go.Proofs.Ytoeglogbjcdmlaa.PHeapSorts

abbrev kp : Kd (Int × Int) := Kd.pair (Kd.int .i64) (Kd.int .i64)
/-- The heap at block g holds xs: its slice is A, of the capacity c; all is at or above block B. -/
structure Hp (w : World) (B g : Nat) (A : Option Addr) (c : Nat) (xs : List (Int × Int)) : Prop where
  blk : w.heap[g]? = some (.cells #[.slice A xs.length c] 27 (0, 0))
  row : Kd.R kp 40 w B (fun _ => True) (.slice A xs.length c) xs
  le : B ≤ g
theorem Hp.cell {w : World} {B g : Nat} {A : Option Addr} {c : Nat} {xs : List (Int × Int)} (h : Hp w B g A c xs) : w.cell? ⟨g, 0, none⟩ = some (.slice A xs.length c) := (blk_cell h.blk 0).trans rfl
theorem Hp.frozen {w : World} {B g : Nat} {A : Option Addr} {c : Nat} {xs : List (Int × Int)} (h : Hp w B g A c xs) : w.frozen? ⟨g, 0, none⟩ = false := blk_frozen h.blk _
theorem info40 : (Try.prog.info? 40).map (fun i => (i.zero, i.size, i.bytes)) = some (some (.agg #[.int .i64 0, .int .i64 0]), 2, 16) := by kernel_rfl
theorem len_any (w : World) (B g : Nat) (A : Option Addr) (c : Nat) (xs : List (Int × Int)) (h : Hp w B g A c xs) :
    Calls Try.prog 8 #[.pointer (some ⟨g, 0, none⟩)] w fun e w' => e = .returned (.int .i64 xs.length) ∧ w = w' := by
  have hc := h.cell
  go_enter Try.func8, Try.ntmps8
  go_wp2
  go_ret
  exact ⟨rfl, rfl⟩
/-- The block of a slice's row. -/
def ob (A : Option Addr) : Option Nat := (Value.slice A 0 0).ownBlock
theorem ob_eq (A : Option Addr) (n c : Nat) : (Value.slice A n c).ownBlock = ob A := by cases A <;> rfl
/-- What a call on the heap at block g turns: its block and its row's; its row stays or is new. -/
structure Turns (w w' : World) (B g : Nat) (A A' : Option Addr) : Prop where
  bel : Below B w w'
  kept : Kept w w' (fun k => k = g ∨ some k = ob A)
  own : ob A' = ob A ∨ ∃ b, ob A' = some b ∧ w.heap.size ≤ b
theorem Turns.refl (w : World) (B g : Nat) (A : Option Addr) : Turns w w B g A A := ⟨Below.refl _ _, Kept.refl _ _, .inl rfl⟩
theorem Turns.trans {w w1 w2 : World} {B g : Nat} {A A1 A2 : Option Addr} (h : Turns w w1 B g A A1) (k : Turns w1 w2 B g A1 A2) : Turns w w2 B g A A2 := by
  refine ⟨h.bel.trans k.bel, h.kept.then_ k.kept ?_, ?_⟩
  · rintro j (rfl | hj)
    · exact .inl (.inl rfl)
    · rcases h.own with e | ⟨b, e, hb⟩
      · rw [e] at hj
        exact .inl (.inr hj)
      · rw [e] at hj
        obtain rfl := Option.some.inj hj
        exact .inr hb
  · rcases k.own with e | ⟨b, e, hb⟩
    · rw [e]; exact h.own
    · exact .inr ⟨b, e, Nat.le_trans h.bel.size hb⟩
theorem Turns.below {w w1 w2 : World} {B g : Nat} {A A1 : Option Addr} (h : Turns w w1 B g A A1) (hB : B ≤ w1.heap.size) (k : Below w1.heap.size w1 w2) : Turns w w2 B g A A1 :=
  ⟨h.bel.trans (k.mono hB), h.kept.below k, h.own⟩
theorem Hp.below {w w1 : World} {B g : Nat} {A : Option Addr} {c : Nat} {xs : List (Int × Int)} (h : Hp w B g A c xs) (k : Below w.heap.size w w1) : Hp w1 B g A c xs := ⟨blk_below h.blk k, Kd.R_below h.row k, h.le⟩
theorem Hp.size {w : World} {B g : Nat} {A : Option Addr} {c : Nat} {xs : List (Int × Int)} (h : Hp w B g A c xs) : B ≤ w.heap.size := by
  have := blk_lt h.blk
  have := h.le
  omega
theorem Hp.ne {w : World} {B g : Nat} {A : Option Addr} {c : Nat} {xs : List (Int × Int)} (h : Hp w B g A c xs) : some g ≠ ob A := by
  intro e
  obtain ⟨cells, hc⟩ := Kd.R_typed h.row g (by rw [ob_eq]; exact e.symm)
  rw [h.blk] at hc
  simp at hc
theorem Hp.grown {w w1 : World} {B g : Nat} {A : Option Addr} {c : Nat} {xs : List (Int × Int)} (h : Hp w B g A c xs) (hg : w.grownBy w1 (ob A)) : w1.cell? ⟨g, 0, none⟩ = some (.slice A xs.length c) ∧ w1.frozen? ⟨g, 0, none⟩ = false := by
  have hb1 : w1.heap[g]? = some (.cells #[.slice A xs.length c] 27 (0, 0)) := blk_grown h.blk hg h.ne
  exact ⟨(blk_cell hb1 0).trans rfl, blk_frozen hb1 _⟩
/-- Behind an append and the store of the new slice. -/
theorem Hp.grow {w0 w w1 : World} {B g : Nat} {A : Option Addr} {c : Nat} {xs ys : List (Int × Int)} (h : Hp w B g A c xs) {A1 : Option Addr} {c1 : Nat} (hr : Kd.R kp 40 w1 B (fun _ => True) (.slice A1 ys.length c1) ys) (hb : Below B w w1)
    (hg : w.grownBy w1 (ob A)) (hat : ob A1 = ob A ∨ ∃ b, ob A1 = some b ∧ w.heap.size ≤ b) (hT : Turns w0 w B g A A) :
    Hp (w1.setCell ⟨g, 0, none⟩ (.slice A1 ys.length c1)) B g A1 c1 ys ∧ Turns w0 (w1.setCell ⟨g, 0, none⟩ (.slice A1 ys.length c1)) B g A A1 := by
  have hne : some g ≠ ob A := by
    intro e
    obtain ⟨cells, hc⟩ := Kd.R_typed h.row g (by rw [ob_eq]; exact e.symm)
    rw [h.blk] at hc
    simp at hc
  have hb1 : w1.heap[g]? = some (.cells #[.slice A xs.length c] 27 (0, 0)) := blk_grown h.blk hg hne
  have hT2 : Turns w (w1.setCell ⟨g, 0, none⟩ (.slice A1 ys.length c1)) B g A A1 :=
    ⟨hb.setCell h.le _, (Kept.of_grown hg (Kept.refl _ _) (fun k hk => .inl (.inr hk.symm))).setCell (.inl (.inl rfl)) _, hat⟩
  exact ⟨⟨blk_put hb1 0 _ rfl, Kd.R_set hr hb1 (by decide) 0 _, h.le⟩, hT.trans hT2⟩
def ah (p q : Int × Int) : Bool := decide (p.1 < q.1) || (p.1 == q.1 && decide (p.2 < q.2))
def at_ (xs : List (Int × Int)) (i : Nat) : Int × Int := xs.getD i (0, 0)
def swp (xs : List (Int × Int)) (i j : Nat) : List (Int × Int) := (xs.set i (at_ xs j)).set j (at_ xs i)
/-- A pair goes up. -/
def up : Nat → List (Int × Int) → Nat → List (Int × Int)
  | 0, xs, _ => xs
  | f + 1, xs, i => if i = 0 then xs else if ah (at_ xs i) (at_ xs ((i - 1) / 2)) = true then up f (swp xs i ((i - 1) / 2)) ((i - 1) / 2) else xs
theorem ahead_any (p q : Int × Int) (w : World) : Calls Try.prog 9 #[.agg #[.int .i64 p.1, .int .i64 p.2], .agg #[.int .i64 q.1, .int .i64 q.2]] w fun e w' => e = .returned (.bool (ah p q)) ∧ Below w.heap.size w w' := by
  refine heap_pair_ahead.calls p.1 p.2 q.1 q.2 (ah p q) w ?_
  unfold heap_pair_ahead.f ah
  by_cases h1 : p.1 < q.1
  · rw [if_pos h1]; simp [h1]
  · rw [if_neg h1]
    by_cases h2 : p.1 = q.1
    · rw [if_pos h2]; simp [h2]
    · rw [if_neg h2]; simp [h1, h2]
theorem Hp.some_ {w : World} {B g : Nat} {A : Option Addr} {c : Nat} {xs : List (Int × Int)} (h : Hp w B g A c xs) (h0 : 0 < xs.length) : ∃ b, A = some ⟨b, 0, none⟩ := by
  obtain ⟨ad, rfl, _⟩ := (Kd.R_reads' h.row).2.2.2.2 h0
  obtain ⟨b, rfl⟩ := Kd.R_head h.row
  exact ⟨b, rfl⟩
theorem add0 (b k : Nat) : (⟨b, 0, none⟩ : Addr).add k = ⟨b, k, none⟩ := by
  cases k with
  | zero => rfl
  | succ k => simp [Addr.add]
theorem Hp.elem {w : World} {B g b : Nat} {c : Nat} {xs : List (Int × Int)} (h : Hp w B g (some ⟨b, 0, none⟩) c xs) (i : Nat) (hi : i < xs.length) :
    w.cell? ⟨b, i * 2, none⟩ = some (.int .i64 (at_ xs i).1) ∧ w.cell? ⟨b, i * 2 + 1, none⟩ = some (.int .i64 (at_ xs i).2) ∧ w.frozen? ⟨b, i * 2, none⟩ = false ∧ w.frozen? ⟨b, i * 2 + 1, none⟩ = false := by
  obtain ⟨cs, hl, hM, hc⟩ := Kd.R_getA h.row (0, 0) (i : Int) (by omega) (by omega)
  obtain ⟨c1, c2, e1, e2, e3⟩ := hM
  obtain ⟨cells, hb⟩ := Kd.R_typed h.row b rfl
  have e1' : c1 = [.int .i64 (at_ xs i).1] := e2
  have e3' : c2 = [.int .i64 (at_ xs i).2] := e3
  subst e1' e3'
  subst e1
  have a0 := hc 0 _ rfl
  have a1 := hc 1 _ rfl
  rw [add0] at a0 a1
  exact ⟨a0, a1, blk_frozen hb _, blk_frozen hb _⟩
theorem ahead_is (p q : Int × Int) (r : Bool) (h : ah p q = r) (w : World) : Calls Try.prog 9 #[.agg #[.int .i64 p.1, .int .i64 p.2], .agg #[.int .i64 q.1, .int .i64 q.2]] w fun e w' => e = .returned (.bool r) ∧ Below w.heap.size w w' := by
  rw [← h]
  exact ahead_any p q w
/-- What a test of two pairs reads, and what it leaves as it was. -/
def Rd (wr : World) (g b n c1 i u : Nat) (p q : Int × Int) (w' : World) : Prop :=
  Below wr.heap.size wr w' ∧ w'.cell? ⟨g, 0, none⟩ = some (.slice (some ⟨b, 0, none⟩) n c1) ∧ w'.cell? ⟨b, i * 2, none⟩ = some (.int .i64 p.1) ∧ w'.cell? ⟨b, i * 2 + 1, none⟩ = some (.int .i64 p.2) ∧ w'.cell? ⟨b, u * 2, none⟩ = some (.int .i64 q.1) ∧ w'.cell? ⟨b, u * 2 + 1, none⟩ = some (.int .i64 q.2)
theorem Rd.step {wr : World} {g b n c1 i u : Nat} {p q : Int × Int} {w w' : World} (h : Below w.heap.size w w') (x : Rd wr g b n c1 i u p q w) : Rd wr g b n c1 i u p q w' := by
  obtain ⟨h0, h1, h2, h3, h4, h5⟩ := x
  refine ⟨below_step h0 h, ?_, ?_, ?_, ?_, ?_⟩
  all_goals rw [h.cell (World.block_lt_of_cell? _ _ (by assumption))]; assumption
theorem Turns.drew {w w1 : World} {B g : Nat} {A A1 : Option Addr} (h : Turns w w1 B g A A1) : Turns w w1.drew B g A A1 := ⟨h.bel.drew, h.kept.drew, h.own⟩
theorem Hp.drew {w : World} {B g : Nat} {A : Option Addr} {c : Nat} {xs : List (Int × Int)} (h : Hp w B g A c xs) : Hp w.drew B g A c xs := ⟨blk_drew h.blk, Kd.R_drew h.row, h.le⟩
/-- A pair is put in. -/
theorem Hp.put {w : World} {B g b c : Nat} {xs : List (Int × Int)} (h : Hp w B g (some ⟨b, 0, none⟩) c xs) (i : Nat) (hi : i < xs.length) (p : Int × Int) :
    Hp ((w.setCell ⟨b, i * 2, none⟩ (.int .i64 p.1)).setCell ⟨b, i * 2 + 1, none⟩ (.int .i64 p.2)) B g (some ⟨b, 0, none⟩) c (xs.set i p) ∧
      Turns w ((w.setCell ⟨b, i * 2, none⟩ (.int .i64 p.1)).setCell ⟨b, i * 2 + 1, none⟩ (.int .i64 p.2)) B g (some ⟨b, 0, none⟩) (some ⟨b, 0, none⟩) := by
  have hne : g ≠ b := fun e => h.ne (by rw [e]; rfl)
  have hB : B ≤ b := Kd.R_base h.row b rfl
  obtain ⟨e0, e1, _, _⟩ := h.elem i hi
  have hR := (Kd.R_seg h.row (i : Int) (by omega) (by omega) (c := [.int .i64 (at_ xs i).1, .int .i64 (at_ xs i).2]) (seg := [.int .i64 p.1, .int .i64 p.2]) (j := 0) rfl
    (fun j u hj => by
      match j, hj with
      | 0, hj => obtain rfl := Option.some.inj hj; exact e0
      | 1, hj => obtain rfl := Option.some.inj hj; exact e1) (Nat.le_refl _) (x' := p) (okp := fun _ => False) ⟨[.int .i64 p.1], [.int .i64 p.2], rfl, rfl, rfl⟩ (fun _ hk => hk.elim)).1
  refine ⟨⟨?_, ?_, h.le⟩, ⟨((Below.refl B w).setCell hB _).setCell hB _, ((Kept.refl w _).setCell (.inl (.inr rfl)) _).setCell (.inl (.inr rfl)) _, .inl rfl⟩⟩
  · rw [List.length_set]
    exact blk_far (blk_far h.blk hne _) hne _
  · rw [List.length_set]
    exact hR
theorem Hp.swap {w : World} {B g b c : Nat} {xs : List (Int × Int)} (h : Hp w B g (some ⟨b, 0, none⟩) c xs) (i u : Nat) (hi : i < xs.length) (hu : u < xs.length) (p q : Int × Int) (hp : p = at_ xs i) (hq : q = at_ xs u) :
    Hp ((((w.setCell ⟨b, i * 2, none⟩ (.int .i64 q.1)).setCell ⟨b, i * 2 + 1, none⟩ (.int .i64 q.2)).setCell ⟨b, u * 2, none⟩ (.int .i64 p.1)).setCell ⟨b, u * 2 + 1, none⟩ (.int .i64 p.2)).drew B g (some ⟨b, 0, none⟩) c (swp xs i u) ∧
      Turns w ((((w.setCell ⟨b, i * 2, none⟩ (.int .i64 q.1)).setCell ⟨b, i * 2 + 1, none⟩ (.int .i64 q.2)).setCell ⟨b, u * 2, none⟩ (.int .i64 p.1)).setCell ⟨b, u * 2 + 1, none⟩ (.int .i64 p.2)).drew B g (some ⟨b, 0, none⟩) (some ⟨b, 0, none⟩) := by
  obtain ⟨h1, t1⟩ := h.put i hi q
  obtain ⟨h2, t2⟩ := h1.put u (by rw [List.length_set]; exact hu) p
  refine ⟨?_, (t1.trans t2).drew⟩
  unfold swp
  rw [← hp, ← hq]
  exact h2.drew
theorem up_stop (f : Nat) (xs : List (Int × Int)) (i : Nat) (h : i = 0 ∨ ah (at_ xs i) (at_ xs ((i - 1) / 2)) = false) : up f xs i = xs := by
  cases f with
  | zero => rfl
  | succ f =>
    unfold up
    rcases h with h | h
    · rw [if_pos h]
    · rw [h]
      split
      · rfl
      · rfl
theorem up_go (f : Nat) (xs : List (Int × Int)) (i : Nat) (h0 : i ≠ 0) (h : ah (at_ xs i) (at_ xs ((i - 1) / 2)) = true) : up (f + 1) xs i = up f (swp xs i ((i - 1) / 2)) ((i - 1) / 2) := by
  rw [up, if_neg h0, if_pos h]
set_option maxHeartbeats 4000000 in
theorem push_any (w : World) (B g : Nat) (A : Option Addr) (c : Nat) (xs : List (Int × Int)) (k v : Int) (h : Hp w B g A c xs) (hlen : xs.length ≤ 100000) :
    Calls Try.prog 6 #[.pointer (some ⟨g, 0, none⟩), .int .i64 k, .int .i64 v] w fun e w' => e = .returned (.tuple #[]) ∧ ∃ A1 c1, Hp w' B g A1 c1 (up (xs.length + 1) (xs ++ [(k, v)]) xs.length) ∧ Turns w w' B g A A1 := by
  have hc := h.cell
  have hf := h.frozen
  go_enter Try.func6, Try.ntmps6
  have hB := h.size
  have HH := Aside0.mk h
  clear h
  go_wp2_with (((with_reducible refine gate_builtin (b := .append) (xs := #[.tmp 14, .tmp 18]) rfl ?_); at_builtin; refine Kd.R_append kp (w0 := w) B rfl (.tmp 14) (.tmp 18) 25 40 (.agg #[.int .i64 0, .int .i64 0]) 16 rfl Try.underlying25 info40 rfl (by decide) (by omega) (.slice A xs.length c) xs (k, v) [.int .i64 k, .int .i64 v] (fun _ => True) (fun _ => False) rfl rfl ?aP (fun _ h => h.elim) ?aF ?aO ?aB ?aS ?aL ?_; (case aP => exact ⟨[.int .i64 k], [.int .i64 v], rfl, rfl, rfl⟩); (case aO => exact HH.out.row); (case aF => exact fun _ _ => trivial); (case aB => exact Below.refl _ _); (case aS => exact hB); (case aL => omega); intro v1 w1 ho hb1 hg hat; go_must (obtain ⟨A1, c1, e1⟩ := Kd.R_slice ho; subst e1; rw [ob_eq] at hg; rw [ob_eq, ob_eq] at hat; have hgc := HH.out.grown hg; obtain ⟨hc1, hf1⟩ := hgc; have HG := Aside0.mk (HH.out.grow ho hb1 hg hat (Turns.refl _ _ _ _)); clear ho hb1 hg hat)))
  obtain ⟨n, hn⟩ : ∃ n, n = xs.length := ⟨_, rfl⟩
  obtain ⟨r, hr⟩ : ∃ r, r = up (n + 1) (xs ++ [(k, v)]) n := ⟨_, rfl⟩
  obtain ⟨hG, hT⟩ := HG.out
  obtain ⟨b, rfl⟩ := hG.some_ (by simp)
  have HT := Aside0.mk hT
  have HP := Aside0.mk hG
  clear HG hT hG
  rw [← hn] at hlen
  have hlen2 : (xs ++ [(k, v)]).length = n + 1 := by simp [hn]
  rw [hlen2] at HT HP
  clear HH hc hf hc1 hf1 hB
  have e6 : (xs.length : Int) = (n : Int) := by omega
  have e7 : xs.length + 1 = n + 1 := by omega
  simp only [e6, e7]
  go_loopg [6] (n + 1) (fun kq v6 w' => ∃ (i : Nat) (ys : List (Int × Int)), v6 = .int .i64 (i : Int) ∧ Aside0 (Hp w' B g (some ⟨b, 0, none⟩) c1 ys) ∧ Aside0 (Turns w w' B g A (some ⟨b, 0, none⟩)) ∧ Aside0 (ys.length = n + 1) ∧ Aside0 (i ≤ n) ∧ Aside0 (i < kq) ∧ Aside0 (up kq ys i = r))
  case atStart => exact ⟨n, _, rfl, HP, HT, ⟨hlen2⟩, ⟨Nat.le_refl _⟩, ⟨by omega⟩, ⟨hr.symm⟩⟩
  case round =>
    obtain ⟨i, ys, rfl, hP, hT, hL, hi, hk, hu⟩ := hrel
    by_cases h0 : i = 0
    · subst h0
      go_wp2
      go_end0
      have e := hu.out
      rw [up_stop _ _ _ (.inl rfl)] at e
      rw [← hn, ← hr, ← e]
      exact ⟨rfl, _, _, hP.out, hT.out⟩
    · have h1 : (0 : Int) < (i : Int) := by omega
      obtain ⟨u, hu1⟩ : ∃ u, u = (i - 1) / 2 := ⟨_, rfl⟩
      have hin : i ≤ n := hi.out
      have hl := hL.out
      have w2_ : ((i : Int) - 1) / 2 = (u : Int) := by omega
      have b1 : (i : Int) < (n : Int) + 1 := by omega
      have b2 : (u : Int) < (n : Int) + 1 := by omega
      have hc := hP.out.cell
      have hf := hP.out.frozen
      obtain ⟨p0, p1, p2, p3⟩ := hP.out.elem i (by omega)
      obtain ⟨q0, q1, q2, q3⟩ := hP.out.elem u (by omega)
      obtain ⟨p, hp⟩ : ∃ p, p = at_ ys i := ⟨_, rfl⟩
      obtain ⟨q, hq⟩ : ∃ q, q = at_ ys u := ⟨_, rfl⟩
      rw [← hp] at p0 p1
      rw [← hq] at q0 q1
      have Hp_ := Aside0.mk hp
      have Hq_ := Aside0.mk hq
      have Hu_ := Aside0.mk hu1
      rw [hl] at hc
      clear hp hq hu1 hl hin
      go_wp2_with fail
      have hS0 : wr.cell? ⟨g, 0, none⟩ = some (.slice (some ⟨b, 0, none⟩) (n + 1) c1) ∧ wr.cell? ⟨b, i * 2, none⟩ = some (.int .i64 p.1) ∧ wr.cell? ⟨b, i * 2 + 1, none⟩ = some (.int .i64 p.2) ∧ wr.cell? ⟨b, u * 2, none⟩ = some (.int .i64 q.1) ∧ wr.cell? ⟨b, u * 2 + 1, none⟩ = some (.int .i64 q.2) := ⟨hc, p0, p1, q0, q1⟩
      have hB0 : Below wr.heap.size wr wr := Below.refl _ _
      rcases hah : ah p q with _ | _
      all_goals go_region_held3 (fun w' => Below wr.heap.size wr w' ∧ w'.cell? ⟨g, 0, none⟩ = some (.slice (some ⟨b, 0, none⟩) (n + 1) c1) ∧ w'.cell? ⟨b, i * 2, none⟩ = some (.int .i64 p.1) ∧ w'.cell? ⟨b, i * 2 + 1, none⟩ = some (.int .i64 p.2) ∧ w'.cell? ⟨b, u * 2, none⟩ = some (.int .i64 q.1) ∧ w'.cell? ⟨b, u * 2 + 1, none⟩ = some (.int .i64 q.2))
        (first | assumption | exact ⟨hB0, hS0⟩ | exact ⟨hB0.drew, hS0⟩) (first | (go_at_call 9; refine (ahead_is p q _ hah _).mono ?_; rintro e w' ⟨rfl, hb⟩; have hS' := Rd.step (wr := wr) (g := g) (b := b) (n := n + 1) (c1 := c1) (i := i) (u := u) (p := p) (q := q) hb (by assumption); clear hb))
      · go_wp2
        (try simp only [Exit.inBlock, Exit.then])
        refine bodyPost_ret (results_none rfl _ _ _) rfl ?_
        have e := hu.out
        rw [up_stop _ _ _ (.inr (by rw [← Hp_.out, ← Hu_.out, ← Hq_.out]; exact hah))] at e
        rw [← hn, ← hr, ← e]
        exact ⟨rfl, _, _, hP.out.below hS'.1, hT.out.below hP.out.size hS'.1⟩
      · go_wp2_with fail
        obtain ⟨hbb, g0, a0, a1, d0, d1⟩ := hS'
        have z0 : w'.frozen? ⟨b, i * 2, none⟩ = false := by rw [hbb.frozen (World.block_lt_of_cell? _ _ p0)]; exact p2
        have z1 : w'.frozen? ⟨b, i * 2 + 1, none⟩ = false := by rw [hbb.frozen (World.block_lt_of_cell? _ _ p1)]; exact p3
        have z2 : w'.frozen? ⟨b, u * 2, none⟩ = false := by rw [hbb.frozen (World.block_lt_of_cell? _ _ q0)]; exact q2
        have z3 : w'.frozen? ⟨b, u * 2 + 1, none⟩ = false := by rw [hbb.frozen (World.block_lt_of_cell? _ _ q1)]; exact q3
        have HBB := Aside0.mk hbb
        clear hS0 hB0 hbb hc hf p0 p1 p2 p3 q0 q1 q2 q3
        go_region
        go_wp2
        obtain ⟨m, hm⟩ : ∃ m, gk = m + 1 := ⟨gk - 1, by have := hk.out; omega⟩
        obtain ⟨hs, ht⟩ := (hP.out.below HBB.out).swap i u (by have := hL.out; have := hi.out; omega) (by have := hL.out; have := hi.out; have := Hu_.out; omega) p q Hp_.out Hq_.out
        go_roundg m
        case measure => omega
        case rel =>
          refine ⟨u, swp ys i u, by go_num, ⟨hs⟩, ⟨(hT.out.below hP.out.size HBB.out).trans ht⟩, ⟨by have := hL.out; simp [swp, this]⟩, ⟨by have := hi.out; have := Hu_.out; omega⟩, ⟨by have := hk.out; have := Hu_.out; omega⟩, ⟨?_⟩⟩
          have e := hu.out
          rw [hm, up_go _ _ _ h0 (by rw [← Hp_.out, ← Hu_.out, ← Hq_.out]; exact hah), ← Hu_.out] at e
          exact e
end Go.Proofs.Ytoeglogbjcdmlaa.Heap
