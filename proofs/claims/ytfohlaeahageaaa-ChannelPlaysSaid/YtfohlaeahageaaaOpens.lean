/- What comes in, opened into the words of the print: from a value that reads as data to its element kind's own reading (Kd.K), for whole numbers, bools, strings, structs and slices, one in the other; and all arguments read again behind a call that left old memory as it was. Conditions: the types' own rows of the table, as each lemma names them. -/
import Derived.Test.YtfohlaeahageaaaWWords
import Derived.Deep.Slices
import Derived.Carry
import Derived.ProofKit
namespace Go.Proofs.Ytfohlaeahageaaa.Opens
open Go.RowKit Go.Deep Go.WideShapes Go.Proofs.YtfohlaeahageaaaW.PrintWords

/-- Whatever reads as data of type t is of the kind d, and good. -/
def Opn {α : Type} (P : Program) (d : Kd α) (t : TypeId) (good : α → Prop) : Prop :=
  ∀ (H : Type) (enc : TypeId × Value → H) (w : World) (base : Nat) (spare : Nat → Bool) (held : Bool) (fuel : Nat) (cs : List Value) (x : DataW H × List MemPlace),
    DataW.trod enc P w base spare held fuel t cs = some x → ∃ a, d.K w a cs ∧ good a
section
variable {P : Program} {α β : Type}
theorem op_int {t : TypeId} {k : IntKind} (ht : P.underlying t = some (.int k)) : Opn P (Kd.int k) t (fun a => (Lit.int k a).wf = true) := by
  intro H enc w base spare held fuel cs x h
  obtain ⟨n, rfl, _, hw⟩ := DataW.trod_int ht h
  exact ⟨n, rfl, hw⟩
theorem op_bool {t : TypeId} (ht : P.underlying t = some .bool) : Opn P Kd.bool t (fun _ => True) := by
  intro H enc w base spare held fuel cs x h
  obtain ⟨n, rfl, _⟩ := DataW.trod_bool ht h
  exact ⟨n, rfl, trivial⟩
theorem op_string {t : TypeId} (ht : P.underlying t = some .string) : Opn P Kd.string t (fun s => s.size ≤ maxLen) := by
  intro H enc w base spare held fuel cs x h
  obtain ⟨s, rfl, _, hs⟩ := DataW.trod_string ht h
  exact ⟨s, rfl, hs⟩
theorem op_iso {d : Kd α} {t : TypeId} {good : α → Prop} (h : Opn P d t good) (f : β → α) (g : α → β) (hfg : ∀ a, f (g a) = a) : Opn P (Kd.iso d f) t (fun b => good (f b)) := by
  intro H enc w base spare held fuel cs x hx
  obtain ⟨a, hk, hg⟩ := h H enc w base spare held fuel cs x hx
  exact ⟨g a, by show d.K w (f (g a)) cs; rw [hfg]; exact hk, by show good (f (g a)); rw [hfg]; exact hg⟩
theorem op_imp {d : Kd α} {t : TypeId} {good good' : α → Prop} (h : Opn P d t good) (hi : ∀ a, good a → good' a) : Opn P d t good' := by
  intro H enc w base spare held fuel cs x hx
  obtain ⟨a, hk, hg⟩ := h H enc w base spare held fuel cs x hx
  exact ⟨a, hk, hi a hg⟩
/-- Fields in line, from the cell o on. -/
def OpF (P : Program) (d : Kd α) (fs : List Field) (o tot : Nat) (good : α → Prop) : Prop :=
  ∀ (H : Type) (enc : TypeId × Value → H) (w : World) (base : Nat) (spare : Nat → Bool) (held : Bool) (fuel : Nat) (cs : List Value), cs.length = tot →
    (∀ f, f ∈ fs → ∃ x, DataW.trod enc P w base spare held fuel f.type ((cs.drop f.offset).take (P.cellsOf f.type)) = some x) → ∃ a, d.K w a (cs.drop o) ∧ good a
theorem opf_last {d : Kd α} {f : Field} {t : TypeId} {o tot : Nat} {good : α → Prop} (h : Opn P d t good) (ht : f.type = t) (ho : f.offset = o) (hc : P.cellsOf t = d.sz) (hs : o + d.sz = tot) : OpF P d [f] o tot good := by
  intro H enc w base spare held fuel cs hl hf
  obtain ⟨x, hx⟩ := hf f (by simp)
  rw [ht, ho, hc, List.take_of_length_le (by rw [List.length_drop]; omega)] at hx
  exact h H enc w base spare held fuel _ x hx
theorem opf_cons {d : Kd α} {d' : Kd β} {f : Field} {fs : List Field} {t : TypeId} {o tot : Nat} {good : α → Prop} {good' : β → Prop} (h : Opn P d t good) (ht : f.type = t) (ho : f.offset = o) (hc : P.cellsOf t = d.sz)
    (h2 : OpF P d' fs (o + d.sz) tot good') : OpF P (Kd.pair d d') (f :: fs) o tot (fun p => good p.1 ∧ good' p.2) := by
  intro H enc w base spare held fuel cs hl hf
  obtain ⟨x, hx⟩ := hf f (by simp)
  rw [ht, ho, hc] at hx
  obtain ⟨a, ha, hg⟩ := h H enc w base spare held fuel _ x hx
  obtain ⟨b, hb, hg'⟩ := h2 H enc w base spare held fuel cs hl (fun f' hf' => hf f' (by simp [hf']))
  refine ⟨(a, b), ⟨_, _, ?_, ha, hb⟩, hg, hg'⟩
  rw [← List.drop_drop, List.take_append_drop]
theorem op_struct {d : Kd α} {t : TypeId} {fs : Array Field} {good : α → Prop} (ht : P.underlying t = some (.struct fs)) (h : OpF P d fs.toList 0 (P.cellsOf t) good) : Opn P d t good := by
  intro H enc w base spare held fuel cs x hx
  obtain ⟨xs, n, _, _, hl, hlen, hf⟩ := DataW.trod_struct ht hx
  obtain ⟨a, ha, hg⟩ := h H enc w base spare held n cs hl (fun f hfm => by
    obtain ⟨i, hi, he⟩ := List.getElem_of_mem hfm
    have hi' : i < fs.size := by simpa using hi
    have h2 := hf i f (by rw [Array.getElem?_eq_getElem hi']; simpa using he)
    rw [List.getElem?_eq_getElem (by omega)] at h2
    exact ⟨_, h2⟩)
  exact ⟨a, by simpa using ha, hg⟩
theorem op_slice {d : Kd α} {t e : TypeId} {good : α → Prop} (ht : P.underlying t = some (.slice e)) (hc : P.cellsOf e = d.sz) (h : Opn P d e good) : Opn P (Kd.slice e d) t (fun xs => xs.length ≤ maxLen ∧ ∀ x, x ∈ xs → good x) := by
  intro H enc w base spare held fuel cs x hx
  rcases open_slice ht hx with ⟨rfl, _⟩ | ⟨a, len, cap, m, n, D, Pl, rfl, hb, hl, hm, hmm, _, hel⟩
  · exact ⟨[], ⟨none, 0, rfl, Nat.le_refl _, rfl, by simp, fun h => absurd h (by simp)⟩, by simp, fun x hx => by cases hx⟩
  · have hlm : len ≤ m := by rw [hmm]; split <;> omega
    have hex : ∀ i, i < len → ∃ p : α × List Value, w.cells? base (a.add (i * d.sz)) d.sz = some p.2 ∧ d.K w p.1 p.2 ∧ good p.1 := fun i hi => by
      obtain ⟨cs', h1, h2⟩ := hel i (by omega)
      obtain ⟨b, hk, hg⟩ := h H enc w base spare held n cs' _ h2
      rw [hc] at h1
      exact ⟨(b, cs'), h1, hk, hg⟩
    by_cases hz : len = 0
    · subst hz
      exact ⟨[], ⟨some a, cap, rfl, hl, rfl, by simp, fun h => absurd h (by simp)⟩, by simp, fun x hx => by cases hx⟩
    · obtain ⟨p0, _⟩ := hex 0 (by omega)
      haveI : Inhabited (α × List Value) := ⟨p0⟩
      obtain ⟨F, hF⟩ := choose_lt hex
      refine ⟨(List.range len).map fun i => (F i).1, ⟨some a, cap, by simp, by simpa using hl, by simp, ?_, fun _ => ⟨a, rfl, fun j p hj => ?_⟩⟩, ?_, fun x hx => ?_⟩
      · have : cap ≤ 9223372036854775807 := hm
        simp
        omega
      · have hjl : j < len := by
          have := (List.getElem?_eq_some_iff.1 hj).1
          simpa using this
        have hp : p = (F j).1 := by simpa [hjl] using hj.symm
        subst hp
        obtain ⟨h1, h2, _⟩ := hF j hjl
        obtain ⟨_, hlen, hcell⟩ := World.cells?_some h1
        refine ⟨(F j).2, hlen, h2, fun i u hu => ?_⟩
        have hi : i < d.sz := by rw [← hlen]; exact (List.getElem?_eq_some_iff.1 hu).1
        have h3 := hcell i hi
        rw [Go.Deep.add_add] at h3
        rw [h3]
        exact hu
      · have : cap ≤ maxLen := hm
        simp
        omega
      · obtain ⟨j, hj, rfl⟩ := List.mem_map.1 hx
        exact (hF j (List.mem_range.1 hj)).2.2
/-- A value that reads as data of type t. -/
theorem op_val {H : Type} {enc : TypeId × Value → H} {w : World} {base : Nat} {spare : Nat → Bool} {held : Bool} {v : Value} {x : DataW H} {ps : List MemPlace} {d : Kd α} {t : TypeId} {good : α → Prop} (h : Opn P d t good) (hx : DataW.Trod enc P w base spare held t v x ps) :
    ∃ a, d.K w a v.cells.toList ∧ good a := by
  obtain ⟨fuel, hf⟩ := hx
  exact h H enc w base spare held fuel _ _ hf
/-- All arguments read behind the call as before it. -/
theorem trodAll_below {H : Type} {enc : TypeId × Value → H} (hl : laidOutB P = true) {W W' : World} (hb : Below W.heap.size W W') : ∀ {ts : List TypeId} {vs : List Value} {ds : List (DataW H)} {ps : List MemPlace}, ts.all (fun t => P.readableRec t && decide (t < P.types.size)) = true →
    DataW.TrodAll enc P W 0 (fun _ => true) true ts vs ds ps → (∀ x ∈ ps, x.block < W.heap.size) → DataW.TrodAll enc P W' 0 (fun b => decide (b < W.heap.size)) true ts vs ds ps
  | [], [], [], _, _, h, _ => h
  | t :: ts, v :: vs, d :: ds, ps, hr, h, hlt => by
    obtain ⟨p, q, h1, h2, rfl⟩ := h
    simp only [List.all_cons, Bool.and_eq_true, decide_eq_true_eq] at hr
    exact ⟨p, q, Below.trod hl hr.1.1 hr.1.2 h1 hb (fun x hx => hlt x (List.mem_append_left _ hx)), trodAll_below hl hb hr.2 h2 (fun x hx => hlt x (List.mem_append_right _ hx)), rfl⟩
  | [], _ :: _, _, _, _, h, _ => by simp [DataW.TrodAll] at h
  | [], [], _ :: _, _, _, h, _ => by simp [DataW.TrodAll] at h
  | _ :: _, [], _, _, _, h, _ => by simp [DataW.TrodAll] at h
  | _ :: _, _ :: _, [], _, _, h, _ => by simp [DataW.TrodAll] at h
/-- A slice that came in, as a value. -/
theorem slice_val {d : Kd α} {e : TypeId} {w : World} {xs : List α} {v : Value} (hv : ∃ a n c, v = .slice a n c) (h : (Kd.slice e d).K w xs v.cells.toList) : ∃ A c, v = .slice A xs.length c ∧ xs.length ≤ c ∧ d.C w A xs.length xs := by
  obtain ⟨a, n, c, rfl⟩ := hv
  obtain ⟨A, c', he, hl, hc⟩ := h
  simp [Value.cells] at he
  obtain ⟨rfl, rfl, rfl⟩ := he
  exact ⟨a, c, rfl, hl, hc⟩
end
end Go.Proofs.Ytfohlaeahageaaa.Opens
