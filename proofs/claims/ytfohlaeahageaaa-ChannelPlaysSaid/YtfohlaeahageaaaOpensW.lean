/- What comes in, opened with its weights: as YtfohlaeahageaaaOpens, and of each slice that its bytes are within reach. Conditions: the types' own rows of the table, as each lemma names them. -/
import Derived.Test.YtfohlaeahageaaaOpens
import Derived.SizedLaws
namespace Go.Proofs.Ytfohlaeahageaaa.Opens
open Go.RowKit Go.Deep Go.WideShapes Go.Proofs.YtfohlaeahageaaaW.PrintWords

/-- Whatever reads as data of type t, of weights within reach, is of the kind d, and good. -/
def OpnW {α : Type} (P : Program) (d : Kd α) (t : TypeId) (good : α → Prop) : Prop :=
  ∀ (H : Type) (enc : TypeId × Value → H) (w : World) (base : Nat) (spare : Nat → Bool) (held : Bool) (fuel : Nat) (cs : List Value) (x : DataW H × List MemPlace),
    DataW.trod enc P w base spare held fuel t cs = some x → (∀ n, n ∈ x.1.weights P t → n ≤ reachBytes) → ∃ a, d.K w a cs ∧ good a
section
variable {P : Program} {α β : Type}
theorem opw_of {d : Kd α} {t : TypeId} {good : α → Prop} (h : Opn P d t good) : OpnW P d t good := fun H enc w base spare held fuel cs x hx _ => h H enc w base spare held fuel cs x hx
theorem opw_imp {d : Kd α} {t : TypeId} {good good' : α → Prop} (h : OpnW P d t good) (hi : ∀ a, good a → good' a) : OpnW P d t good' := by
  intro H enc w base spare held fuel cs x hx hw
  obtain ⟨a, hk, hg⟩ := h H enc w base spare held fuel cs x hx hw
  exact ⟨a, hk, hi a hg⟩
def OpFW (P : Program) (d : Kd α) (fs : List Field) (o tot : Nat) (good : α → Prop) : Prop :=
  ∀ (H : Type) (enc : TypeId × Value → H) (w : World) (base : Nat) (spare : Nat → Bool) (held : Bool) (fuel : Nat) (cs : List Value), cs.length = tot →
    (∀ f, f ∈ fs → ∃ x : DataW H × List MemPlace, DataW.trod enc P w base spare held fuel f.type ((cs.drop f.offset).take (P.cellsOf f.type)) = some x ∧ ∀ n, n ∈ x.1.weights P f.type → n ≤ reachBytes) → ∃ a, d.K w a (cs.drop o) ∧ good a
theorem opfw_last {d : Kd α} {f : Field} {t : TypeId} {o tot : Nat} {good : α → Prop} (h : OpnW P d t good) (ht : f.type = t) (ho : f.offset = o) (hc : P.cellsOf t = d.sz) (hs : o + d.sz = tot) : OpFW P d [f] o tot good := by
  intro H enc w base spare held fuel cs hl hf
  obtain ⟨x, hx, hw⟩ := hf f (by simp)
  rw [ht] at hw
  rw [ht, ho, hc, List.take_of_length_le (by rw [List.length_drop]; omega)] at hx
  exact h H enc w base spare held fuel _ x hx hw
theorem opfw_cons {d : Kd α} {d' : Kd β} {f : Field} {fs : List Field} {t : TypeId} {o tot : Nat} {good : α → Prop} {good' : β → Prop} (h : OpnW P d t good) (ht : f.type = t) (ho : f.offset = o) (hc : P.cellsOf t = d.sz)
    (h2 : OpFW P d' fs (o + d.sz) tot good') : OpFW P (Kd.pair d d') (f :: fs) o tot (fun p => good p.1 ∧ good' p.2) := by
  intro H enc w base spare held fuel cs hl hf
  obtain ⟨x, hx, hw⟩ := hf f (by simp)
  rw [ht] at hw
  rw [ht, ho, hc] at hx
  obtain ⟨a, ha, hg⟩ := h H enc w base spare held fuel _ x hx hw
  obtain ⟨b, hb, hg'⟩ := h2 H enc w base spare held fuel cs hl (fun f' hf' => hf f' (by simp [hf']))
  refine ⟨(a, b), ⟨_, _, ?_, ha, hb⟩, hg, hg'⟩
  rw [← List.drop_drop, List.take_append_drop]
theorem opw_struct {d : Kd α} {t : TypeId} {fs : Array Field} {good : α → Prop} (ht : P.underlying t = some (.struct fs)) (h : OpFW P d fs.toList 0 (P.cellsOf t) good) : OpnW P d t good := by
  intro H enc w base spare held fuel cs x hx hw
  obtain ⟨xs, n, _, hxe, hl, hlen, hf⟩ := DataW.trod_struct ht hx
  obtain ⟨a, ha, hg⟩ := h H enc w base spare held n cs hl (fun f hfm => by
    obtain ⟨i, hi, he⟩ := List.getElem_of_mem hfm
    have hi' : i < fs.size := by simpa using hi
    have h2 := hf i f (by rw [Array.getElem?_eq_getElem hi']; simpa using he)
    rw [List.getElem?_eq_getElem (by omega)] at h2
    refine ⟨_, h2, fun m hm => hw m ?_⟩
    rw [hxe]
    have e : DataW.weights P t (.agg (xs.map (·.1))) = DataW.weightsEach P (fs.toList.map (·.type)) (xs.map (·.1)) := by simp [DataW.weights, ht]
    rw [e]
    refine DataW.weights_mem_each (j := i) (t := f.type) (d := (xs[i]'(by omega)).1) ?_ ?_ m hm
    · rw [List.getElem?_map, List.getElem?_eq_getElem hi]
      simp [he]
    · rw [List.getElem?_map, List.getElem?_eq_getElem (by omega)]
      rfl)
  exact ⟨a, by simpa using ha, hg⟩
theorem weightsAll_mem {H : Type} {e : TypeId} : ∀ {l : List (DataW H)} {d : DataW H}, d ∈ l → ∀ n, n ∈ d.weights P e → n ∈ DataW.weightsAll P e l
  | x :: l, d, hd, n, hn => by
    simp only [DataW.weightsAll, List.mem_append]
    rcases List.mem_cons.1 hd with rfl | hd
    · exact .inl hn
    · exact .inr (weightsAll_mem hd n hn)
theorem opw_slice {d : Kd α} {t e : TypeId} {good : α → Prop} (ht : P.underlying t = some (.slice e)) (hc : P.cellsOf e = d.sz) (h : OpnW P d e good) : OpnW P (Kd.slice e d) t (fun xs => xs.length ≤ maxLen ∧ xs.length * P.bytesOf e ≤ reachBytes ∧ ∀ x, x ∈ xs → good x) := by
  intro H enc w base spare held fuel cs x hx hw
  rcases open_slice ht hx with ⟨rfl, _⟩ | ⟨a, len, cap, m, n, D, Pl, rfl, hb, hl, hm, hmm, hxe, hel⟩
  · exact ⟨[], ⟨none, 0, rfl, Nat.le_refl _, rfl, by simp, fun h => absurd h (by simp)⟩, by simp, by simp, fun x hx => by cases hx⟩
  · have hlm : len ≤ m := by rw [hmm]; split <;> omega
    have hwt : ∀ v, v ∈ (len + (m - len)) * P.bytesOf e :: (DataW.weightsAll P e ((List.range len).map D) ++ DataW.weightsAll P e ((List.range (m - len)).map fun j => D (len + j))) → v ≤ reachBytes := by
      intro v hv
      refine hw v ?_
      rw [hxe]
      simp only [DataW.weights, ht, List.length_map, List.length_range]
      exact hv
    have hbytes : len * P.bytesOf e ≤ reachBytes := Nat.le_trans (Nat.mul_le_mul_right _ (by omega : len ≤ len + (m - len))) (hwt _ (by simp))
    have hex : ∀ i, i < len → ∃ p : α × List Value, w.cells? base (a.add (i * d.sz)) d.sz = some p.2 ∧ d.K w p.1 p.2 ∧ good p.1 := fun i hi => by
      obtain ⟨cs', h1, h2⟩ := hel i (by omega)
      obtain ⟨b, hk, hg⟩ := h H enc w base spare held n cs' _ h2 (fun v hv => hwt v (by
        refine List.mem_cons_of_mem _ (List.mem_append_left _ (weightsAll_mem (d := D i) ?_ v hv))
        exact List.mem_map.2 ⟨i, List.mem_range.2 hi, rfl⟩))
      rw [hc] at h1
      exact ⟨(b, cs'), h1, hk, hg⟩
    by_cases hz : len = 0
    · subst hz
      exact ⟨[], ⟨some a, cap, rfl, hl, rfl, by simp, fun h => absurd h (by simp)⟩, by simp, by simp, fun x hx => by cases hx⟩
    · obtain ⟨p0, _⟩ := hex 0 (by omega)
      haveI : Inhabited (α × List Value) := ⟨p0⟩
      obtain ⟨F, hF⟩ := choose_lt hex
      refine ⟨(List.range len).map fun i => (F i).1, ⟨some a, cap, by simp, by simpa using hl, by simp, ?_, fun _ => ⟨a, rfl, fun j p hj => ?_⟩⟩, ?_, ?_, fun x hx => ?_⟩
      · have : cap ≤ 9223372036854775807 := hm
        simp
        omega
      · have hjl : j < len := by
          have := (List.getElem?_eq_some_iff.1 hj).1
          simpa using this
        have hp : p = (F j).1 := by simpa [hjl] using hj.symm
        subst hp
        obtain ⟨h1, h2, _⟩ := hF j hjl
        obtain ⟨_, hlen, hcell⟩ := World.cells?_some h1
        refine ⟨(F j).2, hlen, h2, fun i u hu => ?_⟩
        have hi : i < d.sz := by rw [← hlen]; exact (List.getElem?_eq_some_iff.1 hu).1
        have h3 := hcell i hi
        rw [Go.Deep.add_add] at h3
        rw [h3]
        exact hu
      · have : cap ≤ maxLen := hm
        simp
        omega
      · simpa using hbytes
      · obtain ⟨j, hj, rfl⟩ := List.mem_map.1 hx
        exact (hF j (List.mem_range.1 hj)).2.2
/-- An argument, its row of the table and the weights of all. -/
theorem opw_val {H : Type} {enc : TypeId × Value → H} {w : World} {base : Nat} {spare : Nat → Bool} {held : Bool} {v : Value} {x : DataW H} {ps : List MemPlace} {d : Kd α} {t : TypeId} {good : α → Prop} {ts : List TypeId} {ds : List (DataW H)} {j : Nat} (h : OpnW P d t good)
    (hsz : (DataW.weightsEach P ts ds).all (· ≤ reachBytes) = true) (hts : ts[j]? = some t) (hds : ds[j]? = some x) (hx : DataW.Trod enc P w base spare held t v x ps) :
    ∃ a, d.K w a v.cells.toList ∧ good a := by
  obtain ⟨fuel, hf⟩ := hx
  exact h H enc w base spare held fuel _ _ hf (fun n hn => by
    have := List.all_eq_true.1 hsz n (DataW.weights_mem_each hts hds n hn)
    simpa using this)
end
end Go.Proofs.Ytfohlaeahageaaa.Opens
