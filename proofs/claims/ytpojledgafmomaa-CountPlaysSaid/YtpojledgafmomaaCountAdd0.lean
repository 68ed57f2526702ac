/- The walk of Add where the maps are not there yet. -/
import Derived.Test.YtpojledgafmomaaCountAdd
namespace Go.Proofs.Ytpojledgafmomaa.Count
open Go.RowKit Go.Maps Go.Proofs.YtpojledgafmomaaW.PrintWords Go.Proofs.YtpojledgafmomaaW.PrintMore Go.Proofs.YtpojledgafmomaaW.PrintLast

theorem size_alloc (w : World) (o : Obj) : (w.alloc o).heap.size = w.heap.size + 1 := by simp
theorem sd_start (w : World) (B g : Nat) (all v : Int) (m : Nat) (row : Array Value) (h : Ct w B g none (fun _ => 0) (fun _ => 0) all m) :
    Sd w (((((w.alloc (Obj.cells row 30)).alloc (Obj.map #[] 0)).alloc (Obj.map #[] 0)).setCell ⟨g, 0, none⟩ (.map (some (w.heap.size + 1)))).setCell ⟨g, 1, none⟩ (.map (some (w.heap.size + 1 + 1))) |>.setCell ⟨g, 2, none⟩ (.int .i64 v))
      B g (w.heap.size + 1) (w.heap.size + 1 + 1) w.heap.size row (fun _ => 0) (fun _ => 0) v m m := by
  have hlt := blk_lt h.blk
  have hle := h.le
  have e1 := size_alloc w (Obj.cells row 30)
  have e2 := size_alloc (w.alloc (Obj.cells row 30)) (Obj.map #[] 0)
  have c1 : Cm (((w.alloc (Obj.cells row 30)).alloc (Obj.map #[] 0)).alloc (Obj.map #[] 0)) (w.heap.size + 1) 0 (fun _ => 0) := by
    have h1 := Cm.made (w.alloc (Obj.cells row 30))
    rw [e1] at h1
    exact h1.kept (Kept.of_below (below_alloc (Below.refl _ _) (Obj.map #[] 0)) (fun _ => False)) (fun e => e)
  have c2 : Cm (((w.alloc (Obj.cells row 30)).alloc (Obj.map #[] 0)).alloc (Obj.map #[] 0)) (w.heap.size + 1 + 1) 0 (fun _ => 0) := by
    have h1 := Cm.made ((w.alloc (Obj.cells row 30)).alloc (Obj.map #[] 0))
    rw [e2, e1] at h1
    exact h1
  have hg0 : (((w.alloc (Obj.cells row 30)).alloc (Obj.map #[] 0)).alloc (Obj.map #[] 0)).heap[g]? = some (.cells #[.map none, .map none, .int .i64 all] 27 (0, 0)) := blk_alloc (blk_alloc (blk_alloc h.blk _) _) _
  have hx0 : (((w.alloc (Obj.cells row 30)).alloc (Obj.map #[] 0)).alloc (Obj.map #[] 0)).heap[w.heap.size]? = some (.cells row 30 (0, 0)) := blk_alloc (blk_alloc (blk_new w _) _) _
  have hb : Below w.heap.size w (((w.alloc (Obj.cells row 30)).alloc (Obj.map #[] 0)).alloc (Obj.map #[] 0)) := below_alloc (below_alloc (below_alloc (Below.refl _ _) _) _) _
  generalize (((w.alloc (Obj.cells row 30)).alloc (Obj.map #[] 0)).alloc (Obj.map #[] 0)) = wm at c1 c2 hg0 hx0 hb ⊢
  have hxg : w.heap.size ≠ g := by omega
  have hk : Kept wm (((wm.setCell ⟨g, 0, none⟩ (.map (some (w.heap.size + 1)))).setCell ⟨g, 1, none⟩ (.map (some (w.heap.size + 1 + 1)))).setCell ⟨g, 2, none⟩ (.int .i64 v)) (fun k => k = g) :=
    (((Kept.refl wm (fun k => k = g)).setCell (p := ⟨g, 0, none⟩) (.inl rfl) _).setCell (p := ⟨g, 1, none⟩) (.inl rfl) _).setCell (p := ⟨g, 2, none⟩) (.inl rfl) _
  refine ⟨blk_put (blk_put (blk_put hg0 0 _ rfl) 1 _ rfl) 2 _ rfl, blk_far (blk_far (blk_far hx0 hxg _) hxg _) hxg _, (c1.kept hk (by omega)).mono (Nat.zero_le _), (c2.kept hk (by omega)).mono (Nat.zero_le _), by omega, ⟨hle, by omega, by omega⟩, ?_, ?_⟩
  · exact (((hb.mono (by omega : B ≤ w.heap.size)).setCell hle _).setCell hle _).setCell hle _
  · exact (Kept.of_below hb _).then_ hk (fun k e => .inl (.inl e))
set_option maxHeartbeats 4000000 in
theorem add_none (w : World) (B g : Nat) (ends edges : Int → Int) (all : Int) (m : Nat) (A : Option Addr) (cap : Nat) (l : List Int) (at_ en ar mo : Int) (h : Ct w B g none ends edges all m)
    (hr0 : ∀ w', Kept w w' (own g none) → ReadsInt w' .i64 A l.length l) (hll : l.length ≤ 1000) (hm : m ≤ 1000000) (hall : -1000000 ≤ all ∧ all ≤ 1000000) (hen : (Lit.int .i64 en).wf = true) (hlw : ∀ x, x ∈ l → (Lit.int .i64 x).wf = true)
    (hends : ∀ x, -1000000 ≤ ends x ∧ ends x ≤ 1000000) (hedges : ∀ x, -1000000 ≤ edges x ∧ edges x ≤ 1000000) :
    Calls Try.prog 7 #[.pointer (some ⟨g, 0, none⟩), .agg #[.slice A l.length cap, .int .i64 at_, .int .i64 en, .int .i64 ar, .int .i64 mo]] w fun e w' => e = .returned (.tuple #[]) ∧
      ∃ b1 b2, w.heap.size ≤ b1 ∧ w.heap.size ≤ b2 ∧ Ct w' B g (some (b1, b2)) (bump ends en) (l.foldl bump edges) (all + 1) (m + 1 + l.length) ∧ Below B w w' ∧ Kept w w' (own g none) := by
  obtain ⟨he, hf⟩ := h.none_ rfl
  obtain ⟨b1, hb1⟩ : ∃ b1, b1 = w.heap.size + 1 := ⟨_, rfl⟩
  obtain ⟨b2, hb2⟩ : ∃ b2, b2 = w.heap.size + 1 + 1 := ⟨_, rfl⟩
  have hkk : ∀ w', Kept w w' (own g (some (b1, b2))) → Kept w w' (own g none) := fun w' hk => ⟨hk.1, fun i hi hn => hk.2 i hi (by
    rintro (e | ⟨c1, c2, hc, e⟩)
    · exact hn (.inl e)
    · have hc' := Option.some.inj hc
      simp only [Prod.mk.injEq] at hc'
      omega)⟩
  have hr : ∀ w', Kept w w' (own g (some (b1, b2))) → ReadsInt w' .i64 A l.length l := fun w' hk => hr0 w' (hkk w' hk)
  have hu30 := Try.underlying30
  have hK0 : Below w.heap.size w (w.alloc (Obj.cells #[.slice A l.length cap, .int .i64 at_, .int .i64 en, .int .i64 ar, .int .i64 mo] 30)) := below_alloc (Below.refl _ _) _
  have hg0 : (w.alloc (Obj.cells #[.slice A l.length cap, .int .i64 at_, .int .i64 en, .int .i64 ar, .int .i64 mo] 30)).heap[g]? = some (.cells #[.map none, .map none, .int .i64 all] 27 (0, 0)) := blk_alloc h.blk _
  have hc0 : (w.alloc (Obj.cells #[.slice A l.length cap, .int .i64 at_, .int .i64 en, .int .i64 ar, .int .i64 mo] 30)).cell? ⟨g, 0, none⟩ = some (.map none) := (blk_cell hg0 0).trans rfl
  have hc2 : (w.alloc (Obj.cells #[.slice A l.length cap, .int .i64 at_, .int .i64 en, .int .i64 ar, .int .i64 mo] 30)).cell? ⟨g, 2, none⟩ = some (.int .i64 all) := (blk_cell hg0 2).trans rfl
  have hf2 : (w.alloc (Obj.cells #[.slice A l.length cap, .int .i64 at_, .int .i64 en, .int .i64 ar, .int .i64 mo] 30)).frozen? ⟨g, 2, none⟩ = false := blk_frozen hg0 _
  have hx0 : (w.alloc (Obj.cells #[.slice A l.length cap, .int .i64 at_, .int .i64 en, .int .i64 ar, .int .i64 mo] 30)).heap[w.heap.size]? = some (.cells #[.slice A l.length cap, .int .i64 at_, .int .i64 en, .int .i64 ar, .int .i64 mo] 30 (0, 0)) := blk_new _ _
  have hmm := @run_makeMap Try.prog
  have qT : ∀ (w : World) (r : Option Nat), (binOp .eql 25 (.map r) (.map none)).run Try.prog w = .ok (.bool r.isNone) w := fun w r => run_eql_map_nil w 25 3 3 r Try.underlying25
  have hgm : (((w.alloc (Obj.cells #[.slice A l.length cap, .int .i64 at_, .int .i64 en, .int .i64 ar, .int .i64 mo] 30)).alloc (Obj.map #[] 0)).alloc (Obj.map #[] 0)).heap[g]? = some (.cells #[.map none, .map none, .int .i64 all] 27 (0, 0)) := blk_alloc (blk_alloc hg0 _) _
  have hm0 : (((w.alloc (Obj.cells #[.slice A l.length cap, .int .i64 at_, .int .i64 en, .int .i64 ar, .int .i64 mo] 30)).alloc (Obj.map #[] 0)).alloc (Obj.map #[] 0)).cell? ⟨g, 0, none⟩ = some (.map none) := (blk_cell hgm 0).trans rfl
  have hm1 : (((w.alloc (Obj.cells #[.slice A l.length cap, .int .i64 at_, .int .i64 en, .int .i64 ar, .int .i64 mo] 30)).alloc (Obj.map #[] 0)).alloc (Obj.map #[] 0)).cell? ⟨g, 1, none⟩ = some (.map none) := (blk_cell hgm 1).trans rfl
  have hm2 : (((w.alloc (Obj.cells #[.slice A l.length cap, .int .i64 at_, .int .i64 en, .int .i64 ar, .int .i64 mo] 30)).alloc (Obj.map #[] 0)).alloc (Obj.map #[] 0)).cell? ⟨g, 2, none⟩ = some (.int .i64 all) := (blk_cell hgm 2).trans rfl
  have fm0 : (((w.alloc (Obj.cells #[.slice A l.length cap, .int .i64 at_, .int .i64 en, .int .i64 ar, .int .i64 mo] 30)).alloc (Obj.map #[] 0)).alloc (Obj.map #[] 0)).frozen? ⟨g, 0, none⟩ = false := blk_frozen hgm _
  have fm1 : (((w.alloc (Obj.cells #[.slice A l.length cap, .int .i64 at_, .int .i64 en, .int .i64 ar, .int .i64 mo] 30)).alloc (Obj.map #[] 0)).alloc (Obj.map #[] 0)).frozen? ⟨g, 1, none⟩ = false := blk_frozen hgm _
  have fm2 : (((w.alloc (Obj.cells #[.slice A l.length cap, .int .i64 at_, .int .i64 en, .int .i64 ar, .int .i64 mo] 30)).alloc (Obj.map #[] 0)).alloc (Obj.map #[] 0)).frozen? ⟨g, 2, none⟩ = false := blk_frozen hgm _
  have Hb12 : Aside0 (w.heap.size ≤ b1 ∧ w.heap.size ≤ b2) := ⟨by omega, by omega⟩
  have HKK := Aside0.mk hkk
  have HH := Aside0.mk h
  have HQ : Aside0 (Sd w ((((((w.alloc (Obj.cells #[.slice A l.length cap, .int .i64 at_, .int .i64 en, .int .i64 ar, .int .i64 mo] 30)).alloc (Obj.map #[] 0)).alloc (Obj.map #[] 0)).setCell ⟨g, 0, none⟩ (.map (some b1))).setCell ⟨g, 1, none⟩ (.map (some b2))).setCell ⟨g, 2, none⟩ (.int .i64 (all + 1))) B g b1 b2 w.heap.size #[.slice A l.length cap, .int .i64 at_, .int .i64 en, .int .i64 ar, .int .i64 mo] ends edges (all + 1) m m) := ⟨by
    rw [he, hf, hb2, hb1]
    exact sd_start w B g all (all + 1) m _ (by have h' := h; rw [he, hf] at h'; exact h')⟩
  clear hkk h
  go_enter Try.func7, Try.ntmps7
  go_wp2
  rw [← hb2, ← hb1]
  generalize ((((((w.alloc (Obj.cells #[.slice A l.length cap, .int .i64 at_, .int .i64 en, .int .i64 ar, .int .i64 mo] 30)).alloc (Obj.map #[] 0)).alloc (Obj.map #[] 0)).setCell ⟨g, 0, none⟩ (.map (some b1))).setCell ⟨g, 1, none⟩ (.map (some b2))).setCell ⟨g, 2, none⟩ (.int .i64 (all + 1))) = wq at HQ ⊢
  have hQ := HQ
  clear hb1 hb2 he hf
  clear HQ hm0 hm1 hm2 fm0 fm1 fm2 hgm hg0 hc0 hc2 hf2
  have hb := hends en
  have hc0 : wq.cell? ⟨g, 0, none⟩ = some (.map (some b1)) := (blk_cell hQ.out.blk 0).trans rfl
  have hx2 : wq.cell? ⟨w.heap.size, 2, none⟩ = some (.int .i64 en) := (blk_cell hQ.out.box 2).trans rfl
  have hl1 := hQ.out.c1.look en hen
  have hl2 := hQ.out.drew.c1.look en hen
  obtain ⟨e1, he1⟩ : ∃ e1, e1 = ends en + 1 := ⟨_, rfl⟩
  obtain ⟨wn, hrun, hcn, hgn⟩ := hQ.out.drew.c1.store (by unfold maxLen; omega) en (ends en + 1) hen (WalkArith.wf_i64 (by omega))
  have hw1 : IntKind.i64.wrap (ends en + 1) = ends en + 1 := by rw [IntKind.wrap_i64]; omega
  have hSn := Aside0.mk (hQ.out.drew.put1 hgn hcn)
  clear hcn hgn
  go_region
  obtain ⟨L, hL⟩ : ∃ L, L = l.length := ⟨_, rfl⟩
  have HL := Aside0.mk hL
  have hll' : (L : Int) ≤ 1000 := by omega
  have hx3 : wn.cell? ⟨w.heap.size, 0, none⟩ = some (.slice A l.length cap) := (blk_cell hSn.out.box 0).trans rfl
  rw [← hL] at hx3
  have Hb := Aside0.mk hb
  clear hc0 hx2 hl1 hl2 hrun hw1 hb he1
  clear e1
  clear hL
  go_wp2
  clear hx3
  go_loopg [39] (L + 1) (fun kq v39 w' => ∃ (k : Nat), v39 = .int .i64 (k : Int) ∧ Aside0 (Sd w w' B g b1 b2 w.heap.size #[.slice A l.length cap, .int .i64 at_, .int .i64 en, .int .i64 ar, .int .i64 mo] (bump ends en) ((l.take k).foldl bump edges) (all + 1) (m + 1) (m + k)) ∧ Aside0 (k ≤ L) ∧ Aside0 (L < k + kq))
  case atStart => exact ⟨0, by go_num, ⟨hSn.out⟩, ⟨Nat.zero_le _⟩, ⟨by omega⟩⟩
  case round =>
    obtain ⟨k, rfl, hQ, hk, hkq⟩ := hrel
    have hk5 : (k : Int) ≤ 1000 := by have := hk.out; omega
    by_cases hlt : k < L
    · have hlt' : (k : Int) < (L : Int) := by omega
      have hkl : k < l.length := by have := HL.out; omega
      obtain ⟨ad, rfl, hc⟩ := (hr _ hQ.out.kept).at_ (k : Int) (by omega) (by omega)
      obtain ⟨x, hx⟩ : ∃ x, x = l[k] := ⟨_, rfl⟩
      have e : rd l (k : Int) = x := by rw [hx]; simp [rd, hkl]
      rw [e, Int.toNat_natCast] at hc
      have hxw : (Lit.int .i64 x).wf = true := by rw [hx]; exact hlw _ (List.getElem_mem hkl)
      obtain ⟨F, hF⟩ : ∃ F, F = (l.take k).foldl bump edges := ⟨_, rfl⟩
      have hFb : -1000000 ≤ F x ∧ F x ≤ 1001000 := by
        have h1 := bump_bound (l.take k) edges x
        have h2 := hedges x
        rw [← hF, List.length_take] at h1
        omega
      have hS1 := hQ.out
      rw [← hF] at hS1
      have hn : (l.take (k + 1)).foldl bump edges = bump F x := by rw [bump_snoc l k hkl, ← hF, ← hx]
      have HN := Aside0.mk hn
      have hc1 : wr.cell? ⟨g, 1, none⟩ = some (.map (some b2)) := (blk_cell hS1.blk 1).trans rfl
      have hl1 := hS1.c2.look x hxw
      obtain ⟨wn2, hrun, hcn, hgn⟩ := hS1.c2.store (by unfold maxLen; omega) x (F x + 1) hxw (WalkArith.wf_i64 (by omega))
      have hSn2 := Aside0.mk (hS1.put2 hgn hcn)
      obtain ⟨f, hf⟩ : ∃ f, gk = f + 1 := ⟨gk - 1, by have := hkq.out; omega⟩
      clear hS1 hgn hcn hF hn hx e
      go_wp2
      go_roundg f
      case measure => omega
      case rel => exact ⟨k + 1, by go_num, ⟨by rw [HN.out]; exact hSn2.out⟩, ⟨by omega⟩, ⟨by have := hkq.out; omega⟩⟩
    · have hke : k = L := by have := hk.out; omega
      subst hke
      have hS := hQ.out
      go_wp2
      first | (refine bodyPost_ret (results_none rfl _ _ _) rfl ?_) | (refine bodyPost_end (results_none rfl _ _ _) rfl ?_)
      have e : l.take k = l := List.take_of_length_le (by have := HL.out; omega)
      rw [e] at hS
      have e2 : m + k = m + l.length := by have := HL.out; omega
      rw [e2] at hS
      refine ⟨rfl, b1, b2, Hb12.out.1, Hb12.out.2, ⟨hS.blk, hS.le.1, (fun h => by cases h), ?_⟩, hS.bel, HKK.out _ hS.kept⟩
      intro c1 c2 hc
      obtain ⟨rfl, rfl⟩ : b1 = c1 ∧ b2 = c2 := by simpa using hc
      exact ⟨hS.c1.mono (by omega), hS.c2.mono (by omega), hS.ne, hS.le.2.1, hS.le.2.2⟩
end Go.Proofs.Ytpojledgafmomaa.Count
