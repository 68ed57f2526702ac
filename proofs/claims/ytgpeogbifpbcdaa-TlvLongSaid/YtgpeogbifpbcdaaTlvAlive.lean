/- The walk of the law's own 'alive': true. -/
import Derived.Test.YtgpeogbifpbcdaaTlvPut
namespace Go.Proofs.Ytgpeogbifpbcdaa.Tlv
open Go.RowKit Go.Proofs.YtgpeogbifpbcdaaW.PrintWords Go.Proofs.YtgpeogbifpbcdaaW.PrintMore Go.Proofs.YtgpeogbifpbcdaaW.PrintLast Go.Proofs.Ytgpeogbifpbcdaa.PTlvTells

/-- A literal's block, read. -/
theorem C_lit {α : Type} (d : Kd α) {w : World} {b : Nat} {e : TypeId} {cells : List Value} {xs : List α} (hb : w.heap[b]? = some (.cells cells.toArray e (0, 0))) (hr : Reps (d.K w) d.sz xs cells) (hl : xs.length ≤ 9223372036854775807) : d.C w (some ⟨b, 0, none⟩) xs.length xs := by
  refine ⟨rfl, hl, fun _ => ⟨_, rfl, fun j p hj => ⟨(cells.drop (j * d.sz)).take d.sz, d.K_len (hr.2 j p hj), hr.2 j p hj, fun i u hu => ?_⟩⟩⟩
  rw [add_plain, blk_cell hb]
  rw [List.getElem?_take] at hu
  split at hu
  · rw [List.getElem?_drop] at hu
    simpa using hu
  · cases hu
theorem bytes_lit {w : World} {b : Nat} {xs : List Int} (hb : w.heap[b]? = some (.cells (encs (Value.int .u8) xs).toArray 5 (0, 0))) (hl : xs.length ≤ 9223372036854775807) : kB.C w (some ⟨b, 0, none⟩) xs.length xs :=
  C_lit kB hb (Kd.reps_scalar xs) hl
theorem getL_one (t : Int) (d : List Int) (r : List Int) (acc : List S26) (hd : (d.length : Int) < 65536) (h0 : 0 ≤ t) (h1 : t < 256) : getL (enc1 ⟨t, d⟩ ++ r) acc = getL r (acc ++ [⟨t, d⟩]) := by
  have e : enc1 ⟨t, d⟩ ++ r = (t % 256) :: ((d.length : Int) / 256 % 256) :: ((d.length : Int) % 256) :: (d ++ r) := by simp [enc1]
  have hlen : len2 (enc1 ⟨t, d⟩ ++ r) = d.length := by
    rw [e]
    unfold len2
    have r1 : ∀ (a b c : Int) (l : List Int), rd (a :: b :: c :: l) 1 = b := fun a b c l => rfl
    have r2 : ∀ (a b c : Int) (l : List Int), rd (a :: b :: c :: l) 2 = c := fun a b c l => rfl
    rw [r1, r2]
    omega
  have hdrop : (enc1 ⟨t, d⟩ ++ r).drop 3 = d ++ r := by rw [e]; rfl
  have h3 : ¬ (enc1 ⟨t, d⟩ ++ r).length < 3 := by rw [e]; simp
  rw [getL_go _ _ h3 (by rw [hdrop, hlen]; simp), hdrop, hlen, List.drop_left, List.take_left]
  have r0 : rd (enc1 ⟨t, d⟩ ++ r) 0 = t := by
    rw [e]
    have : ∀ (a b c : Int) (l : List Int), rd (a :: b :: c :: l) 0 = a := fun a b c l => rfl
    rw [this]
    omega
  rw [r0]
/-- What was put is got. -/
theorem getL_put : ∀ (l : List S26) (acc : List S26) (r : List Int), (∀ x, x ∈ l → badT x = false ∧ badL x = false) → getL (l.flatMap enc1 ++ r) acc = getL r (acc ++ l)
  | [], acc, r, _ => by simp
  | x :: l, acc, r, h => by
    have h1 := h x (by simp)
    have ht : ¬ (x.f0 < 0 ∨ 255 < x.f0) := by have := h1.1; unfold badT at this; exact of_decide_eq_false this
    have hd : ¬ 65535 < x.f1.length := by have := h1.2; unfold badL at this; exact of_decide_eq_false this
    obtain ⟨t, d⟩ := x
    simp only at ht hd
    rw [List.flatMap_cons, List.append_assoc, getL_one t d _ acc (by omega) (by omega) (by omega), getL_put l _ r (fun y hy => h y (by simp [hy]))]
    simp
theorem putL_ok (l : List S26) (h : ∀ x, x ∈ l → badT x = false ∧ badL x = false) : putL l = (l.flatMap enc1, 0) := by
  unfold putL
  have h1 : l.any badT = false := by rw [List.any_eq_false]; intro x hx; rw [(h x hx).1]; simp
  have h2 : l.any badL = false := by rw [List.any_eq_false]; intro x hx; rw [(h x hx).2]; simp
  rw [h1, h2]
  rfl
theorem enc1_byte (x : S26) (h : ∀ y, y ∈ x.f1 → 0 ≤ y ∧ y < 256) : ∀ y, y ∈ enc1 x → 0 ≤ y ∧ y < 256 := by
  intro y hy
  simp only [enc1, List.cons_append, List.nil_append, List.mem_cons] at hy
  rcases hy with rfl | rfl | rfl | hy
  · omega
  · omega
  · omega
  · exact h y hy
theorem flat_byte (l : List S26) (h : ∀ x, x ∈ l → ∀ y, y ∈ x.f1 → 0 ≤ y ∧ y < 256) : ∀ y, y ∈ l.flatMap enc1 → 0 ≤ y ∧ y < 256 := by
  intro y hy
  obtain ⟨x, hx, hy⟩ := List.mem_flatMap.1 hy
  exact enc1_byte x (h x hx) y hy
theorem flat_len (l : List S26) (m : Nat) (h : ∀ x, x ∈ l → x.f1.length ≤ m) : (l.flatMap enc1).length ≤ l.length * (m + 3) := by
  induction l with
  | nil => simp
  | cons x l ih =>
    rw [List.flatMap_cons, List.length_append, List.length_cons, Nat.add_mul]
    have h1 := ih (fun y hy => h y (by simp [hy]))
    have h2 := h x (by simp)
    have h3 : (enc1 x).length = x.f1.length + 3 := by simp [enc1]
    omega
def one : List S26 := [⟨1, [0, 2, 1]⟩]
theorem one_ok : ∀ x, x ∈ one → badT x = false ∧ badL x = false := by
  intro x hx
  obtain rfl := List.mem_singleton.1 hx
  exact ⟨rfl, rfl⟩
theorem one_flat : one.flatMap enc1 = [1, 0, 3, 0, 2, 1] := rfl
theorem one_rep : repL [1, 0, 3, 0, 2, 1] = ([(2, 1)], 0) := by
  unfold repL
  have h := getL_put one [] [] one_ok
  rw [List.append_nil, one_flat, getL_nil, List.nil_append] at h
  rw [h]
  rfl
set_option maxHeartbeats 2000000 in
set_option maxRecDepth 100000 in
theorem alive_any (w : World) : Calls Try.prog 7 #[] w fun e w' => e = .returned (.bool true) ∧ Below w.heap.size w w' := by
  have hu26 := Try.underlying26
  go_enter Try.func7, Try.ntmps7
  go_wp2_with fail
  refine (get_any w none 0 [] (Kd.C_nil kB w) (Nat.le_refl _) (by simp) (by simp)).mono ?_
  rw [getL_nil]
  rintro e w1 ⟨v1, rfl, hR1, hB1⟩
  obtain ⟨A1, c1, rfl⟩ := Kd.R_slice hR1
  have HB1 := Aside0.mk hB1
  clear hR1 hB1
  simp only [List.length_nil]
  go_wp2_with fail
  obtain ⟨w2, hw2⟩ : ∃ w2, w2 = (w1.alloc (.cells #[.int .u8 0, .int .u8 2, .int .u8 1] 5)).alloc (.cells #[.int .i64 1, .slice (some ⟨w1.heap.size, 0, none⟩) 3 3] 26) := ⟨_, rfl⟩
  have hb2 : Below w1.heap.size w1 w2 := by rw [hw2]; exact below_alloc (below_alloc (Below.refl _ _) _) _
  have hg1 : w2.heap[w1.heap.size]? = some (.cells (encs (Value.int .u8) [0, 2, 1]).toArray 5 (0, 0)) := by rw [hw2]; exact blk_alloc (blk_new w1 _) _
  have hg2 : w2.heap[w1.heap.size + 1]? = some (.cells ([.int .i64 1, .slice (some ⟨w1.heap.size, 0, none⟩) 3 3] : List Value).toArray 26 (0, 0)) := by
    rw [hw2]
    have h := blk_new (w1.alloc (.cells #[.int .u8 0, .int .u8 2, .int .u8 1] 5)) (.cells #[.int .i64 1, .slice (some ⟨w1.heap.size, 0, none⟩) 3 3] 26)
    rw [World.size_alloc] at h
    exact h
  have hC : Kd.C k26 w2 (some ⟨w1.heap.size + 1, 0, none⟩) 1 one := by
    refine C_lit k26 hg2 ?_ (by simp [one])
    exact Reps.snoc (R := k26.K w2) (size := 2) (ps := []) (cs := []) (Reps.none _ _) (p := (⟨1, [0, 2, 1]⟩ : S26)) (c := [.int .i64 1, .slice (some ⟨w1.heap.size, 0, none⟩) 3 3]) (k26_mk w2 (⟨1, [0, 2, 1]⟩ : S26) (A1 := some ⟨w1.heap.size, 0, none⟩) (c1 := 3) (Nat.le_refl _) (bytes_lit hg1 (by simp))) rfl
  have HB2 : Aside0 (Below w.heap.size w w2) := ⟨below_step HB1.out hb2⟩
  have HC := Aside0.mk hC
  rw [← hw2]
  clear hw2 hb2 hg1 hg2 hC
  refine (put_any w2 _ _ _ one HC.out (Nat.le_refl _) (by omega)).mono ?_
  rw [putL_ok one one_ok, one_flat]
  rintro e w3 ⟨v3, rfl, hR3, hB3⟩
  obtain ⟨A3, c3, rfl⟩ := Kd.R_slice hR3
  have hr3 := Kd.R_reads' hR3
  have HR3 := Aside0.mk hr3.2.2
  have HC3 : Aside0 (6 ≤ c3) := ⟨hr3.2.1⟩
  have HB3 : Aside0 (Below w.heap.size w w3) := ⟨below_step HB2.out hB3⟩
  clear hR3 hB3 hr3
  simp only [List.length_cons, List.length_nil, Nat.zero_add, Nat.reduceAdd]
  go_wp2_with fail
  refine (links_any w3 A3 c3 [1, 0, 3, 0, 2, 1] HR3.out HC3.out (by simp) (by intro x hx; simp at hx; omega)).mono ?_
  rw [one_rep]
  rintro e w4 ⟨v4, rfl, hR4, hB4⟩
  obtain ⟨A4, c4, rfl⟩ := Kd.R_slice hR4
  obtain ⟨ad, rfl, l0, l1⟩ := link_at (Kd.R_reads' hR4).2.2 0 (by simp)
  have HB4 : Aside0 (Below w.heap.size w w4) := ⟨below_step HB3.out hB4⟩
  clear hR4 hB4
  simp only [List.length_cons, List.length_nil, Nat.zero_add, Nat.zero_mul, add_zero_, List.getElem_cons_zero] at l0 l1 ⊢
  have hpe := pair_eq 2 1
  have hu48 := Try.underlying48
  go_wp2_with (go_at_call 14; refine (num_any _ _).mono ?_; rintro e w' ⟨rfl, rfl⟩)
  go_ret
  exact ⟨rfl, HB4.out⟩
end Go.Proofs.Ytgpeogbifpbcdaa.Tlv
