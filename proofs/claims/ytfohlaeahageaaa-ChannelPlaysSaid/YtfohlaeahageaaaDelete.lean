/- The walk of slices.Delete of one note. -/
import Derived.Test.YtfohlaeahageaaaCopyPuts
import Derived.Shelf.RegionOpenPlain
import Derived.Deep.RegionLaw
import Derived.Lib.SliceRun
namespace Go.Proofs.Ytfohlaeahageaaa.Edge
open Go.RowKit Go.Proofs.YtfohlaeahageaaaW.PrintWords Go.Proofs.YtfohlaeahageaaaW.PrintMore Go.Proofs.YtfohlaeahageaaaW.PrintLast

theorem zero31 (w : World) : (zeroValue 31).run Try.prog w = .ok (.agg #[.int .i64 0, .int .i64 0, .bool false, .slice none 0 0]) w := by
  obtain ⟨i, hi, hz⟩ := Option.map_eq_some_iff.1 info31
  simp only [Prod.mk.injEq] at hz
  simp [zeroValue, typeInfo, hi, hz.1]
/-- clear of one note. -/
theorem run_clear_note (w : World) (ty : TypeId) (b o c : Nat) (hc : ∀ j, j < 4 → (w.cell? ⟨b, o + j, none⟩).isSome = true) (hf : ∀ j, j < 4 → w.frozen? ⟨b, o + j, none⟩ = false) :
    (Builtin.clear_ #[22] ty #[.slice (some ⟨b, o, none⟩) 1 c]).run Try.prog w = .ok (.tuple #[]) (w.setCells b o [.int .i64 0, .int .i64 0, .bool false, .slice none 0 0]) := by
  have hzc : (Builtin.zeroCells (Value.agg #[.int .i64 0, .int .i64 0, .bool false, .slice none 0 0]).cells 1).toList = [.int .i64 0, .int .i64 0, .bool false, .slice none 0 0] := by kernel_rfl
  have hst := run_storeCells_cells (P := Try.prog) b o [.int .i64 0, .int .i64 0, .bool false, .slice none 0 0] 0 w (by simpa using hc) (by simpa using hf) (by intro v hv; simp at hv; rcases hv with rfl | rfl | rfl <;> rfl)
  simp only [Nat.add_zero] at hst
  simp [Builtin.clear_, run_underlying Try.underlying22, hzc, hst]
set_option maxHeartbeats 4000000 in
theorem delete_any (w : World) (b m c i : Nat) (cur : Array Value) (hb : w.heap[b]? = some (.cells cur 31 (0, 0))) (hs : cur.size = c * 4) (hn : m + 1 ≤ c) (hi : i < m + 1) (hm : c ≤ 9223372036854775807) (h1 : ∀ u, u ∈ cur.toList.take ((m + 1) * 4) → u.oneCell' = true) :
    Calls Try.prog 31 #[.slice (some ⟨b, 0, none⟩) (m + 1) c, .int .i64 (i : Int), .int .i64 ((i : Int) + 1)] w fun e w' => e = .returned (.slice (some ⟨b, 0, none⟩) m c) ∧ (∃ cur', w'.heap[b]? = some (.cells cur' 31 (0, 0)) ∧ cur'.size = cur.size ∧ cur'.toList.take (m * 4) = cur.toList.take (i * 4) ++ (cur.toList.take ((m + 1) * 4)).drop ((i + 1) * 4)) ∧ Kept w w' (fun k => k = b) ∧ Below b w w' := by
  obtain ⟨i0, hi0, hzz⟩ := Option.map_eq_some_iff.1 info31
  simp only [Prod.mk.injEq] at hzz
  have hz1 := hzz.2.1
  have hic : (i : Int) ≤ (c : Int) := by omega
  have hin : (i : Int) < (m : Int) + 1 := by omega
  have hi1 : (0 : Int) ≤ (i : Int) + 1 := by omega
  have hi2 : (i : Int) + 1 ≤ (m : Int) + 1 := by omega
  have hnc : (m : Int) + 1 ≤ (c : Int) := by omega
  have hcm : (c : Int) ≤ 9223372036854775807 := by omega
  clear hzz
  have hlen : cur.toList.length = c * 4 := by rw [Array.length_toList]; exact hs
  obtain ⟨news, hnews⟩ : ∃ news, news = (cur.toList.take ((m + 1) * 4)).drop ((i + 1) * 4) := ⟨_, rfl⟩
  have hnl : news.length = (m - i) * 4 := by
    rw [hnews, List.length_drop, List.length_take, hlen]
    omega
  obtain ⟨A, hA, hsrc⟩ : ∃ A : Addr, (if c = i + 1 then some (⟨b, 0, none⟩ : Addr) else some ⟨b, (i + 1) * 4, none⟩) = some A ∧ ∀ t u, news[t]? = some u → w.drew.cell? (A.add t) = some u := by
    by_cases h : c = i + 1
    · refine ⟨⟨b, 0, none⟩, by simp [h], fun t u hu => ?_⟩
      have h0 : news.length = 0 := by rw [hnl]; omega
      rw [List.length_eq_zero_iff.1 h0] at hu
      simp at hu
    · refine ⟨⟨b, (i + 1) * 4, none⟩, by simp [h], fun t u hu => ?_⟩
      have ht : t < (m - i) * 4 := by rw [← hnl]; exact (List.getElem?_eq_some_iff.1 hu).1
      rw [hnews, List.getElem?_drop, List.getElem?_take, if_pos (by omega), Array.getElem?_toList] at hu
      have e : (⟨b, (i + 1) * 4, none⟩ : Addr).add t = ⟨b, (i + 1) * 4 + t, none⟩ := by unfold Addr.add; split <;> simp_all
      rw [e]
      exact (blk_cell (blk_drew hb) _).trans hu
  have S1 := Aside0.mk hnl
  have S2 := Aside0.mk hsrc
  have S3 : Aside0 (∀ u, u ∈ news → u.oneCell' = true) := ⟨fun u hu => h1 u (by rw [hnews] at hu; exact List.mem_of_mem_drop hu)⟩
  have S4 : Aside0 (∀ t, t < news.length → (w.drew.cell? ⟨b, 0 + i * 4 + t, none⟩).isSome = true ∧ w.drew.frozen? ⟨b, 0 + i * 4 + t, none⟩ = false) := ⟨fun t ht => by
    rw [hnl] at ht
    refine ⟨?_, blk_frozen (blk_drew hb) _⟩
    rw [blk_cell (blk_drew hb), Array.getElem?_eq_getElem (by omega)]
    rfl⟩
  obtain ⟨W1, hW1⟩ : ∃ W1, W1 = w.drew.setCells b (0 + i * 4) news := ⟨_, rfl⟩
  obtain ⟨cur1, hb1, hs1, hl1⟩ := setCells_row (e := 31) news (0 + i * 4) w.drew cur (blk_drew hb) (by rw [hnl]; omega)
  rw [← hW1] at hb1
  have hcl : ∀ ty, (Builtin.clear_ #[22] ty #[.slice (some ⟨b, m * 4, none⟩) 1 (c - m)]).run Try.prog W1 = .ok (.tuple #[]) (W1.setCells b (m * 4) [.int .i64 0, .int .i64 0, .bool false, .slice none 0 0]) :=
    fun ty => run_clear_note W1 ty b (m * 4) (c - m) (fun j hj => by rw [blk_cell hb1, Array.getElem?_eq_getElem (by omega)]; rfl) (fun j hj => blk_frozen hb1 _)
  have HW := Aside0.mk hW1
  have HB := Aside0.mk (And.intro hb1 (And.intro hs1 hl1))
  have HN := Aside0.mk (And.intro hnews (And.intro hlen (And.intro hi hn)))
  clear hW1 hb1 hs1 hl1 hnews hlen hnl hsrc
  go_enter Try.func31, Try.ntmps31
  go_wp2_with fail
  go_region_law (refine step_append_room rfl (.tmp 22) (.tmp 25) 22 rfl 31 i0 4 Try.underlying22 hi0 hz1 b 0 i c (by simp [Act.eval, Act.put]) A (m - i) (c - (i + 1)) news (by simp [Act.eval, Act.put]) S1.out S2.out S3.out (by omega) S4.out ?_; rw [← HW.out])
  have e1 : i + (m - i) = m := by omega
  rw [e1]
  go_wp2_with fail
  go_ret
  obtain ⟨hb1, hs1, hl1⟩ := HB.out
  obtain ⟨hnews, hlen, hi, hn⟩ := HN.out
  have hnl := S1.out
  obtain ⟨cur2, hb2, hs2, hl2⟩ := setCells_row (e := 31) [.int .i64 0, .int .i64 0, .bool false, .slice none 0 0] (m * 4) W1 cur1 hb1 (by show m * 4 + 4 ≤ cur1.size; omega)
  obtain ⟨x1, x2, x3, x4⟩ := setCells_same b news (0 + i * 4) w.drew
  obtain ⟨z1, z2, z3, z4⟩ := setCells_same b [.int .i64 0, .int .i64 0, .bool false, .slice none 0 0] (m * 4) W1
  rw [← HW.out] at x1 x2 x3 x4
  have hfar : ∀ k, k ≠ b → (W1.setCells b (m * 4) [.int .i64 0, .int .i64 0, .bool false, .slice none 0 0]).heap[k]? = w.heap[k]? := fun k hk => by
    rw [setCells_far _ _ k hk, HW.out, setCells_far _ _ k hk]
    rfl
  have hsz : (W1.setCells b (m * 4) [.int .i64 0, .int .i64 0, .bool false, .slice none 0 0]).heap.size = w.heap.size := z4.trans x4
  refine ⟨rfl, ⟨cur2, hb2, hs2.trans hs1, ?_⟩, ⟨by rw [hsz]; exact Nat.le_refl _, fun k _ hk => hfar k hk⟩, ⟨z1.trans x1, z2.trans x2, z3.trans x3, by rw [hsz]; exact Nat.le_refl _, fun k hk => hfar k (by omega)⟩⟩
  have hc1 : cur1.toList.length = c * 4 := by rw [Array.length_toList, hs1]; exact hs
  rw [hl2, List.append_assoc, List.take_append_of_le_length (by rw [List.length_take, hc1]; omega), List.take_take, Nat.min_self, hl1, ← hnews, List.take_append_of_le_length (by rw [List.length_append, List.length_take, hlen, hnl]; omega), Nat.zero_add, List.take_of_length_le (by rw [List.length_append, List.length_take, hlen, hnl]; omega)]
end Go.Proofs.Ytfohlaeahageaaa.Edge
