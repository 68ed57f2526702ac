/- Two heaps and a row beside each other: what a call on the one leaves of the others. -/
import Derived.Test.YtoeglogbjcdmlaaHeapAlive
namespace Go.Proofs.Ytoeglogbjcdmlaa.Heap
open Go.RowKit Go.Proofs.YtoeglogbjcdmlaaW.PrintWords Go.Proofs.YtoeglogbjcdmlaaW.PrintMore Go.Proofs.YtoeglogbjcdmlaaW.PrintLast

/-- The rows of two heaps are not one. -/
def Apart (A1 A2 : Option Addr) : Prop := ∀ k, ob A1 = some k → ob A2 ≠ some k
theorem Apart.symm {A1 A2 : Option Addr} (h : Apart A1 A2) : Apart A2 A1 := fun k h1 h2 => h k h2 h1
theorem types_ne {w : World} {a b : Nat} {t t' : TypeId} {cs cs' : Array Value} (h : w.heap[a]? = some (.cells cs t (0, 0))) (h' : w.heap[b]? = some (.cells cs' t' (0, 0))) (hne : t ≠ t') : a ≠ b := blk_ne h h' hne
theorem Hp.row_typed {w : World} {B g : Nat} {A : Option Addr} {c : Nat} {xs : List (Int × Int)} (h : Hp w B g A c xs) (k : Nat) (hk : ob A = some k) : ∃ cells, w.heap[k]? = some (.cells cells 40 (0, 0)) := Kd.R_typed h.row k (by rw [ob_eq]; exact hk)
theorem Hp.beside {w w' : World} {B g1 g2 : Nat} {A1 A2 A2' : Option Addr} {c1 c2 : Nat} {xs ys : List (Int × Int)} (h1 : Hp w B g1 A1 c1 xs) (h2 : Hp w B g2 A2 c2 ys) (hg : g1 ≠ g2) (hD : Apart A1 A2) (ht : Turns w w' B g2 A2 A2') : Hp w' B g1 A1 c1 xs ∧ Apart A1 A2' := by
  have e1 : ¬ (g1 = g2 ∨ some g1 = ob A2) := by
    rintro (h | h)
    · exact hg h
    · obtain ⟨cells, hc⟩ := h2.row_typed g1 h.symm
      exact blk_ne h1.blk hc (by decide) rfl
  refine ⟨⟨blk_kept h1.blk ht.kept e1, Kd.R_mono (Kd.R_kept (Kd.R_tight rfl h1.row) ht.kept ?_) (fun _ _ => trivial), h1.le⟩, ?_⟩
  · intro k hk
    rw [ob_eq] at hk
    obtain ⟨cells, hc⟩ := h1.row_typed k hk.symm
    rintro (h | h)
    · subst h
      exact blk_ne h2.blk hc (by decide) rfl
    · exact hD k hk.symm h.symm
  · intro k hk e
    rcases ht.own with e2 | ⟨b, e2, hb⟩
    · rw [e2] at e
      exact hD k hk e
    · rw [e2] at e
      obtain rfl := Option.some.inj e
      have := Kd.R_lt h1.row b (by rw [ob_eq]; exact hk)
      omega
/-- The row of what is there. -/
abbrev Now (w : World) (B : Nat) (v : Value) (zs : List (Int × Int)) : Prop := Kd.R kp 32 w B (fun _ => True) v zs
theorem now_beside {w w' : World} {B g : Nat} {A A' : Option Addr} {c : Nat} {ys zs : List (Int × Int)} {v : Value} (h : Now w B v zs) (h2 : Hp w B g A c ys) (ht : Turns w w' B g A A') : Now w' B v zs := by
  refine Kd.R_mono (Kd.R_kept (Kd.R_tight rfl h) ht.kept ?_) (fun _ _ => trivial)
  intro k hk
  obtain ⟨cells, hc⟩ := Kd.R_typed h k hk.symm
  rintro (h | h)
  · subst h
    exact blk_ne h2.blk hc (by decide) rfl
  · obtain ⟨cells', hc'⟩ := h2.row_typed k h.symm
    exact blk_ne hc' hc (by decide) rfl
theorem Hp.now {w w' : World} {B g : Nat} {A : Option Addr} {c : Nat} {ys zs : List (Int × Int)} {v : Value} (h : Now w B v zs) (h2 : Hp w B g A c ys) (hg : w.grownBy w' v.ownBlock) : Hp w' B g A c ys := by
  refine ⟨blk_grown h2.blk hg ?_, Kd.R_mono (Kd.R_grown (Kd.R_tight rfl h2.row) hg ?_) (fun _ _ => trivial), h2.le⟩
  · intro e
    obtain ⟨cells, hc⟩ := Kd.R_typed h g e.symm
    exact blk_ne h2.blk hc (by decide) rfl
  · intro k hk e
    obtain ⟨cells, hc⟩ := Kd.R_typed h k e.symm
    obtain ⟨cells', hc'⟩ := Kd.R_typed h2.row k hk.symm
    exact blk_ne hc' hc (by decide) rfl
theorem Now.some_ {w : World} {B : Nat} {A : Option Addr} {n c : Nat} {zs : List (Int × Int)} (h : Now w B (.slice A n c) zs) (h0 : 0 < zs.length) : ∃ b, A = some ⟨b, 0, none⟩ := by
  have hn := (Kd.R_reads' h)
  obtain ⟨ad, rfl, _⟩ := hn.2.2.2.2 h0
  obtain ⟨b, rfl⟩ := Kd.R_head h
  exact ⟨b, rfl⟩
theorem Now.elem {w : World} {B b : Nat} {n c : Nat} {zs : List (Int × Int)} (h : Now w B (.slice (some ⟨b, 0, none⟩) n c) zs) (i : Nat) (hi : i < zs.length) : w.cell? ⟨b, i * 2, none⟩ = some (.int .i64 (at_ zs i).1) ∧ w.cell? ⟨b, i * 2 + 1, none⟩ = some (.int .i64 (at_ zs i).2) := by
  have hn := (Kd.R_reads' h).1
  obtain ⟨cs, hl, hM, hc⟩ := Kd.R_getA h (0, 0) (i : Int) (by omega) (by omega)
  obtain ⟨c1, c2, e1, e2, e3⟩ := hM
  have e1' : c1 = [.int .i64 (at_ zs i).1] := e2
  have e3' : c2 = [.int .i64 (at_ zs i).2] := e3
  subst e1' e3'
  subst e1
  have a0 := hc 0 _ rfl
  have a1 := hc 1 _ rfl
  rw [add0] at a0 a1
  exact ⟨a0, a1⟩
/-- The pair at position m is a least one of zs. -/
def Least (zs : List (Int × Int)) (m : Nat) : Prop := m < zs.length ∧ ∀ j, j < zs.length → le (at_ zs m) (at_ zs j)
theorem le_antisymm {p q : Int × Int} (h : le p q) (k : le q p) : p = q := by
  rw [le_iff] at h k
  exact Prod.ext (by omega) (by omega)
theorem least_is {ys zs : List (Int × Int)} (hh : IsHeap ys) (hp : ys.Perm zs) {m : Nat} (hm : Least zs m) : at_ zs m = at_ ys 0 ∧ (rest ys).Perm (zs.take m ++ zs.drop (m + 1)) := by
  have h0 : 0 < ys.length := by rw [hp.length_eq]; have := hm.1; omega
  obtain ⟨a, b⟩ := rest_heap ys hh h0
  have m1 : at_ ys 0 ∈ zs := hp.mem_iff.1 (b.mem_iff.1 (by simp))
  have m2 : at_ zs m ∈ ys := hp.mem_iff.2 (by rw [at_eq zs m hm.1]; exact List.getElem_mem _)
  have e : at_ zs m = at_ ys 0 := by
    obtain ⟨j, hj, hje⟩ := List.mem_iff_getElem.1 m1
    have l1 := hm.2 j hj
    rw [at_eq zs j hj, hje] at l1
    exact le_antisymm l1 (first_least' ys hh _ m2)
  refine ⟨e, ?_⟩
  have hz : zs.Perm (at_ zs m :: (zs.take m ++ zs.drop (m + 1))) := by
    have : zs = zs.take m ++ (at_ zs m :: zs.drop (m + 1)) := by
      rw [at_eq zs m hm.1, ← List.drop_eq_getElem_cons hm.1, List.take_append_drop]
    exact (List.Perm.of_eq this).trans List.perm_middle
  have := (b.trans hp).trans hz
  rw [e] at this
  exact this.cons_inv
end Go.Proofs.Ytoeglogbjcdmlaa.Heap
