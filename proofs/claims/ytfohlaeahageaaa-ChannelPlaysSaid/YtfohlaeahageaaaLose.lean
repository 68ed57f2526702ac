/- A channel's Lose, Give, Double. -/
import Derived.Test.YtfohlaeahageaaaChan
namespace Go.Proofs.Ytfohlaeahageaaa.Edge
open Go.RowKit Go.Proofs.YtfohlaeahageaaaW.PrintWords Go.Proofs.YtfohlaeahageaaaW.PrintMore Go.Proofs.YtfohlaeahageaaaW.PrintLast

theorem cut_one {inner : List Value} {i j : Nat} (hi : i * 4 ≤ inner.length) :
    ((inner.take (i * 4) ++ inner.drop ((i + 1) * 4)).drop (j * 4)).take 4 = if j < i then (inner.drop (j * 4)).take 4 else (inner.drop ((j + 1) * 4)).take 4 := by
  have hl : (inner.take (i * 4)).length = i * 4 := by rw [List.length_take]; omega
  split
  · rename_i h
    rw [List.drop_append_of_le_length (by omega), List.take_append_of_le_length (by rw [List.length_drop, hl]; omega), List.drop_take, List.take_take]
    congr 1
    omega
  · rename_i h
    rw [List.drop_append, hl, List.drop_eq_nil_of_le (by omega), List.nil_append, List.drop_drop]
    congr 2
    omega
/-- One note less. -/
theorem del_row {w : World} {B b m c i : Nat} {P : Nat → Prop} {ns : List NoteT} (h : kNote.R 31 w B P (.slice (some ⟨b, 0, none⟩) (m + 1) c) ns) (hi : i < m + 1) :
    ∃ cur : Array Value, w.heap[b]? = some (.cells cur 31 (0, 0)) ∧ cur.size = c * 4 ∧ m + 1 ≤ c ∧ c ≤ 9223372036854775807 ∧ (∀ u, u ∈ cur.toList.take ((m + 1) * 4) → u.oneCell' = true) ∧
      ∀ (w' : World) (cur' : Array Value), Kept w w' (fun k => k = b) → w'.heap[b]? = some (.cells cur' 31 (0, 0)) → cur'.size = cur.size → cur'.toList.take (m * 4) = cur.toList.take (i * 4) ++ (cur.toList.take ((m + 1) * 4)).drop ((i + 1) * 4) → kNote.R 31 w' B P (.slice (some ⟨b, 0, none⟩) m c) (ns.eraseIdx i) := by
  have hn : ns.length = m + 1 := ((Kd.R_reads' h).1).symm
  obtain ⟨h0, inner, ho, hr⟩ := h
  obtain ⟨ho1, ho2⟩ := ho
  rcases ho2 with ⟨hv, _⟩ | ⟨g', cap', cur, hv, hb, hh, hnc, hcm, hcs, ht⟩
  · cases hv
  injection hv with ha _ hc
  injection ha with ha
  injection ha with ha
  subst ha hc
  have hcs' : cur.size = c * 4 := hcs
  have hnc' : m + 1 ≤ c := by rw [hn] at hnc; exact hnc
  have hil : inner.length = (m + 1) * 4 := by rw [hr.1, hn]; rfl
  have hti : cur.toList.take ((m + 1) * 4) = inner := by rw [← ht, hn]; rfl
  refine ⟨cur, hh, hcs', hnc', hcm, ?_, ?_⟩
  · intro u hu
    rw [hti] at hu
    obtain ⟨j, hj, rfl⟩ := List.getElem_of_mem hu
    have hj4 : j / 4 < ns.length := by rw [hn]; omega
    have hM := hr.2 (j / 4) ns[j / 4] (List.getElem?_eq_getElem hj4)
    refine kNote.K_one (kNote.K_of_M hM) _ ?_
    have e : ((inner.drop (j / 4 * kNote.sz)).take kNote.sz)[j % 4]? = some inner[j] := by
      rw [List.getElem?_take, List.getElem?_drop, if_pos (by show j % 4 < 4; omega), List.getElem?_eq_getElem (by show j / 4 * 4 + j % 4 < inner.length; omega)]
      congr 2
      show j / 4 * 4 + j % 4 = j
      omega
    exact List.mem_of_getElem? e
  · intro w' cur' hk hb' hs' hl'
    have hin : cur.toList.take (i * 4) = inner.take (i * 4) := by rw [← hti, List.take_take, Nat.min_eq_left (by omega)]
    rw [hti, hin] at hl'
    refine ⟨h0, inner.take (i * 4) ++ inner.drop ((i + 1) * 4), ⟨?_, .inr ⟨b, c, cur', ?_, hb, hb', ?_, hcm, ?_, ?_⟩⟩, ?_, ?_⟩
    · rw [List.length_append, List.length_take, List.length_drop, hil, List.length_eraseIdx, if_pos (by omega), hn]
      show _ = (m + 1 - 1) * 4
      omega
    · rw [List.length_eraseIdx, if_pos (by omega), hn]
      rfl
    · rw [List.length_eraseIdx, if_pos (by omega), hn]
      omega
    · rw [hs']; exact hcs
    · rw [List.length_eraseIdx, if_pos (by omega), hn]
      exact hl'
    · rw [List.length_append, List.length_take, List.length_drop, hil, List.length_eraseIdx, if_pos (by omega), hn]
      show _ = (m + 1 - 1) * 4
      omega
    · intro j p hj
      have e : ((inner.take (i * 4) ++ inner.drop ((i + 1) * 4)).drop (j * kNote.sz)).take kNote.sz = if j < i then (inner.drop (j * 4)).take 4 else (inner.drop ((j + 1) * 4)).take 4 := cut_one (by omega)
      rw [e]
      rw [List.getElem?_eraseIdx] at hj
      have hM : kNote.M w B (fun k => P k ∧ some k ≠ (Value.slice (some ⟨b, 0, none⟩) (m + 1) c).ownBlock) p (if j < i then (inner.drop (j * 4)).take 4 else (inner.drop ((j + 1) * 4)).take 4) := by
        split at hj
        · rename_i h1
          rw [if_pos h1]
          exact hr.2 j p hj
        · rename_i h1
          rw [if_neg h1]
          exact hr.2 (j + 1) p hj
      exact Kd.M_kept hM hk (fun k hk1 hk2 => hk1.2 (by rw [hk2]; rfl))
set_option maxHeartbeats 2000000 in
theorem lose_no (P : Nat → Prop) (w : World) (g : Nat) (A : Option Addr) (c : Nat) (ns : List NoteT) (i : Int) (h : Ch P 49 w g A c ns) (hi : ¬ (0 ≤ i ∧ i < ns.length)) :
    Calls Try.prog 22 #[.pointer (some ⟨g, 0, none⟩), .int .i64 i] w fun e w' => e = .returned (.bool false) ∧ w = w' := by
  have H := Aside0.mk h
  clear h
  go_enter Try.func22, Try.ntmps22
  go_wp2_with fail
  refine (is_any P _ g A c ns i H.out).mono ?_
  rintro e w' ⟨rfl, rfl⟩
  rw [decide_eq_false hi]
  go_wp2
  go_ret
  exact ⟨rfl, rfl⟩
set_option maxHeartbeats 4000000 in
theorem lose_some (P : Nat → Prop) (w : World) (g : Nat) (A : Option Addr) (c : Nat) (ns : List NoteT) (i : Nat) (h : Ch P 49 w g A c ns) (hi : i < ns.length) (hl : ns.length ≤ 1000) :
    Calls Try.prog 22 #[.pointer (some ⟨g, 0, none⟩), .int .i64 (i : Int)] w fun e w' => e = .returned (.bool true) ∧ Ch P 49 w' g A c (ns.eraseIdx i) ∧ Kept w w' (fun k => k = g ∨ some k = ob A) ∧ Below g w w' := by
  have H := Aside0.mk h
  have hc := h.cell
  have hf := blk_frozen h.blk 0
  obtain ⟨b, rfl⟩ := R_pos h.row (by omega)
  have hob := h.ob b rfl
  obtain ⟨m, hm⟩ : ∃ m, ns.length = m + 1 := ⟨ns.length - 1, by omega⟩
  have hrow := h.row
  rw [hm] at hrow hc
  obtain ⟨cur, hb, hs, hn, hcm, h1, hrec⟩ := del_row hrow (show i < m + 1 by omega)
  have hd : decide (0 ≤ (i : Int) ∧ (i : Int) < ns.length) = true := decide_eq_true ⟨by omega, by omega⟩
  have him : (i : Int) < (m : Int) + 1 := by omega
  have hml : (m : Int) ≤ 1000 := by omega
  have HD := Aside0.mk (And.intro hb (And.intro hs (And.intro hn (And.intro hcm h1))))
  have HR := Aside0.mk hrec
  have HO := Aside0.mk hob
  have HM := Aside0.mk hm
  have HI := Aside0.mk hi
  have HC := Aside0.mk hd
  clear h hrow hb hs hn hcm h1 hrec hob hm hi hl hd
  go_enter Try.func22, Try.ntmps22
  go_wp2_with fail
  refine (is_any P _ g (some ⟨b, 0, none⟩) c ns i H.out).mono ?_
  rintro e w' ⟨rfl, rfl⟩
  rw [HC.out]
  go_wp2_with fail
  refine (delete_any w b m c i cur HD.out.1 HD.out.2.1 HD.out.2.2.1 (by omega) HD.out.2.2.2.1 HD.out.2.2.2.2).mono ?_
  rintro e w' ⟨rfl, ⟨cur', hb', hs', hl'⟩, hk, hbl⟩
  have hr2 := HR.out w' cur' hk hb' hs' hl'
  have hgb : g ≠ b := by have := HO.out.2.1; omega
  have hblk := blk_kept H.out.blk hk hgb
  have hc' := (blk_cell hblk 0).trans rfl
  have hf' := blk_frozen hblk 0
  have HK := Aside0.mk (And.intro hk hbl)
  have H2 := Aside0.mk (And.intro hr2 hblk)
  clear hb' hs' hl' hk hbl hr2 hblk hc hf
  go_wp2
  go_ret
  have e : (ns.eraseIdx i).length = m := by rw [List.length_eraseIdx, if_pos HI.out, HM.out]; rfl
  refine ⟨rfl, ⟨by rw [e]; exact blk_put H2.out.2 0 _ rfl, by rw [e]; exact R_setLow H2.out.1 ⟨g, 0, none⟩ (Nat.lt_succ_self g) _⟩, ?_, ?_⟩
  · exact (HK.out.1.mono (fun k hk => .inr (by rw [hk]; rfl))).setCell (p := ⟨g, 0, none⟩) (.inl (.inl rfl)) _
  · exact (HK.out.2.mono (Nat.le_of_lt HO.out.2.1)).setCell (p := ⟨g, 0, none⟩) (Nat.le_refl g) _
end Go.Proofs.Ytfohlaeahageaaa.Edge
