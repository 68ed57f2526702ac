/- The walk of Add. -/
import Derived.Test.YtpojledgafmomaaCountBase
import Derived.BigRegion
namespace Go.Proofs.Ytpojledgafmomaa.Count
open Go.RowKit Go.Maps Go.Proofs.YtpojledgafmomaaW.PrintWords Go.Proofs.YtpojledgafmomaaW.PrintMore Go.Proofs.YtpojledgafmomaaW.PrintLast

def bump (f : Int → Int) (x : Int) : Int → Int := fun y => if y = x then f x + 1 else f y
/-- Within Add: the counter's block, the box x of the walk, the two maps. -/
structure Sd (w wq : World) (B g b1 b2 x : Nat) (row : Array Value) (E F : Int → Int) (a : Int) (m1 m2 : Nat) : Prop where
  blk : wq.heap[g]? = some (.cells #[.map (some b1), .map (some b2), .int .i64 a] 27 (0, 0))
  box : wq.heap[x]? = some (.cells row 30 (0, 0))
  c1 : Cm wq b1 m1 E
  c2 : Cm wq b2 m2 F
  ne : b1 ≠ b2
  le : B ≤ g ∧ B ≤ b1 ∧ B ≤ b2
  bel : Below B w wq
  kept : Kept w wq (own g (some (b1, b2)))
section
variable {w wq wn : World} {B g b1 b2 x : Nat} {row : Array Value} {E F : Int → Int} {a : Int} {m1 m2 : Nat}
theorem Cm.block {b n : Nat} {f : Int → Int} (h : Cm wq b n f) : ∃ es clock, wq.heap[b]? = some (.map es clock) := by
  obtain ⟨D, ⟨es, clock, e, _⟩, _⟩ := h
  exact ⟨es, clock, e⟩
theorem Cm.ne_cells {b n : Nat} {f : Int → Int} (h : Cm wq b n f) {k : Nat} {cs : Array Value} {t : TypeId} (hk : wq.heap[k]? = some (.cells cs t (0, 0))) : k ≠ b := by
  rintro rfl
  obtain ⟨es, clock, e⟩ := h.block
  rw [hk] at e
  simp at e
theorem Sd.drew (h : Sd w wq B g b1 b2 x row E F a m1 m2) : Sd w wq.drew B g b1 b2 x row E F a m1 m2 := ⟨h.blk, h.box, h.c1, h.c2, h.ne, h.le, h.bel.drew, h.kept.drew⟩
theorem Sd.put1 (h : Sd w wq B g b1 b2 x row E F a m1 m2) (hg : wq.grownBy wn (some b1)) {E' : Int → Int} (hc : Cm wn b1 (m1 + 1) E') : Sd w wn B g b1 b2 x row E' F a (m1 + 1) m2 := by
  have hk : Kept wq wn (fun k => k = b1) := Kept.of_grown hg (Kept.refl _ _) (fun k hk => .inl (Option.some.inj hk).symm)
  refine ⟨blk_kept h.blk hk (h.c1.ne_cells h.blk), blk_kept h.box hk (h.c1.ne_cells h.box), hc, h.c2.kept hk (fun e => h.ne e.symm), h.ne, h.le, ?_, h.kept.then_ hk (fun k e => .inl (.inr ⟨b1, b2, rfl, .inl e⟩))⟩
  exact h.bel.grown hg (Nat.le_trans h.le.1 (Nat.le_of_lt (blk_lt h.blk))) (fun k hk => by rw [← Option.some.inj hk]; exact h.le.2.1)
theorem Sd.put2 (h : Sd w wq B g b1 b2 x row E F a m1 m2) (hg : wq.grownBy wn (some b2)) {F' : Int → Int} (hc : Cm wn b2 (m2 + 1) F') : Sd w wn B g b1 b2 x row E F' a m1 (m2 + 1) := by
  have hk : Kept wq wn (fun k => k = b2) := Kept.of_grown hg (Kept.refl _ _) (fun k hk => .inl (Option.some.inj hk).symm)
  refine ⟨blk_kept h.blk hk (h.c2.ne_cells h.blk), blk_kept h.box hk (h.c2.ne_cells h.box), h.c1.kept hk (fun e => h.ne e), hc, h.ne, h.le, ?_, h.kept.then_ hk (fun k e => .inl (.inr ⟨b1, b2, rfl, .inr e⟩))⟩
  exact h.bel.grown hg (Nat.le_trans h.le.1 (Nat.le_of_lt (blk_lt h.blk))) (fun k hk => by rw [← Option.some.inj hk]; exact h.le.2.2)
theorem Sd.setAll (h : Sd w wq B g b1 b2 x row E F a m1 m2) (v : Int) : Sd w (wq.setCell ⟨g, 2, none⟩ (.int .i64 v)) B g b1 b2 x row E F v m1 m2 := by
  have hxg : x ≠ g := blk_ne h.box h.blk (by decide)
  have hk : Kept wq (wq.setCell ⟨g, 2, none⟩ (.int .i64 v)) (fun k => k = g) := (Kept.refl wq (fun k => k = g)).setCell (p := ⟨g, 2, none⟩) (.inl rfl) _
  exact ⟨blk_put h.blk 2 _ rfl, blk_far h.box hxg _, h.c1.kept hk (fun e => h.c1.ne_cells h.blk e.symm), h.c2.kept hk (fun e => h.c2.ne_cells h.blk e.symm), h.ne, h.le, h.bel.setCell h.le.1 _, h.kept.setCell (.inl (.inl rfl)) _⟩
end
theorem bump_bound (l : List Int) : ∀ (f : Int → Int) (x : Int), f x ≤ (l.foldl bump f) x ∧ (l.foldl bump f) x ≤ f x + l.length := by
  induction l with
  | nil => intro f x; simp
  | cons e r ih =>
    intro f x
    have h := ih (bump f e) x
    have hb : f x ≤ bump f e x ∧ bump f e x ≤ f x + 1 := by
      unfold bump
      split
      · rename_i h
        subst h
        omega
      · omega
    simp only [List.foldl_cons, List.length_cons]
    omega
theorem bump_snoc (l : List Int) (k : Nat) (hk : k < l.length) (f : Int → Int) : (l.take (k + 1)).foldl bump f = bump ((l.take k).foldl bump f) l[k] := by
  rw [List.take_succ_eq_append_getElem hk, List.foldl_append]
  rfl
set_option maxHeartbeats 4000000 in
theorem add_some (w : World) (B g b1 b2 : Nat) (ends edges : Int → Int) (all : Int) (m : Nat) (A : Option Addr) (cap : Nat) (l : List Int) (at_ en ar mo : Int) (h : Ct w B g (some (b1, b2)) ends edges all m)
    (hr : ∀ w', Kept w w' (own g (some (b1, b2))) → ReadsInt w' .i64 A l.length l) (hll : l.length ≤ 1000) (hm : m ≤ 1000000) (hall : -1000000 ≤ all ∧ all ≤ 1000000) (hen : (Lit.int .i64 en).wf = true) (hlw : ∀ x, x ∈ l → (Lit.int .i64 x).wf = true)
    (hends : ∀ x, -1000000 ≤ ends x ∧ ends x ≤ 1000000) (hedges : ∀ x, -1000000 ≤ edges x ∧ edges x ≤ 1000000) :
    Calls Try.prog 7 #[.pointer (some ⟨g, 0, none⟩), .agg #[.slice A l.length cap, .int .i64 at_, .int .i64 en, .int .i64 ar, .int .i64 mo]] w fun e w' => e = .returned (.tuple #[]) ∧
      Ct w' B g (some (b1, b2)) (bump ends en) (l.foldl bump edges) (all + 1) (m + 1 + l.length) ∧ Below B w w' ∧ Kept w w' (own g (some (b1, b2))) := by
  have hu30 := Try.underlying30
  have hK0 : Below w.heap.size w (w.alloc (Obj.cells #[.slice A l.length cap, .int .i64 at_, .int .i64 en, .int .i64 ar, .int .i64 mo] 30)) := below_alloc (Below.refl _ _) _
  have hg0 : (w.alloc (Obj.cells #[.slice A l.length cap, .int .i64 at_, .int .i64 en, .int .i64 ar, .int .i64 mo] 30)).heap[g]? = some (.cells #[.map (some b1), .map (some b2), .int .i64 all] 27 (0, 0)) := blk_alloc h.blk _
  have hc0 : (w.alloc (Obj.cells #[.slice A l.length cap, .int .i64 at_, .int .i64 en, .int .i64 ar, .int .i64 mo] 30)).cell? ⟨g, 0, none⟩ = some (.map (some b1)) := (blk_cell hg0 0).trans rfl
  have hc2 : (w.alloc (Obj.cells #[.slice A l.length cap, .int .i64 at_, .int .i64 en, .int .i64 ar, .int .i64 mo] 30)).cell? ⟨g, 2, none⟩ = some (.int .i64 all) := (blk_cell hg0 2).trans rfl
  have hf2 : (w.alloc (Obj.cells #[.slice A l.length cap, .int .i64 at_, .int .i64 en, .int .i64 ar, .int .i64 mo] 30)).frozen? ⟨g, 2, none⟩ = false := blk_frozen hg0 _
  have hx0 : (w.alloc (Obj.cells #[.slice A l.length cap, .int .i64 at_, .int .i64 en, .int .i64 ar, .int .i64 mo] 30)).heap[w.heap.size]? = some (.cells #[.slice A l.length cap, .int .i64 at_, .int .i64 en, .int .i64 ar, .int .i64 mo] 30 (0, 0)) := blk_new _ _
  have hM := Aside0.mk (h.some_ b1 b2 rfl)
  have hH := Aside0.mk h
  have qT : ∀ (w : World) (r : Option Nat), (binOp .eql 25 (.map r) (.map none)).run Try.prog w = .ok (.bool r.isNone) w := fun w r => run_eql_map_nil w 25 3 3 r Try.underlying25
  have hS : Aside0 (Sd w (w.alloc (Obj.cells #[.slice A l.length cap, .int .i64 at_, .int .i64 en, .int .i64 ar, .int .i64 mo] 30)) B g b1 b2 w.heap.size #[.slice A l.length cap, .int .i64 at_, .int .i64 en, .int .i64 ar, .int .i64 mo] ends edges all m m) :=
    ⟨⟨hg0, hx0, hM.out.1.kept (Kept.of_below hK0 (fun _ => False)) (fun e => e), hM.out.2.1.kept (Kept.of_below hK0 (fun _ => False)) (fun e => e), hM.out.2.2.1, ⟨h.le, hM.out.2.2.2.1, hM.out.2.2.2.2⟩, hK0.mono (Nat.le_trans h.le (Nat.le_of_lt (blk_lt h.blk))), Kept.of_below hK0 _⟩⟩
  clear hx0 h hg0 hK0
  go_enter Try.func7, Try.ntmps7
  go_wp2
  have hQ := Aside0.mk (hS.out.setAll (all + 1))
  clear hS hc0 hc2 hf2
  generalize (w.alloc (Obj.cells #[.slice A l.length cap, .int .i64 at_, .int .i64 en, .int .i64 ar, .int .i64 mo] 30)).setCell ⟨g, 2, none⟩ (.int .i64 (all + 1)) = wq at hQ ⊢
  have hb := hends en
  have hc0 : wq.cell? ⟨g, 0, none⟩ = some (.map (some b1)) := (blk_cell hQ.out.blk 0).trans rfl
  have hx2 : wq.cell? ⟨w.heap.size, 2, none⟩ = some (.int .i64 en) := (blk_cell hQ.out.box 2).trans rfl
  have hl1 := hQ.out.c1.look en hen
  have hl2 := hQ.out.drew.c1.look en hen
  obtain ⟨e1, he1⟩ : ∃ e1, e1 = ends en + 1 := ⟨_, rfl⟩
  obtain ⟨wn, hrun, hcn, hgn⟩ := hQ.out.drew.c1.store (by unfold maxLen; omega) en (ends en + 1) hen (WalkArith.wf_i64 (by omega))
  have hw1 : IntKind.i64.wrap (ends en + 1) = ends en + 1 := by rw [IntKind.wrap_i64]; omega
  have hSn := Aside0.mk (hQ.out.drew.put1 hgn hcn)
  clear hcn hgn
  go_region
  obtain ⟨L, hL⟩ : ∃ L, L = l.length := ⟨_, rfl⟩
  have HL := Aside0.mk hL
  have hll' : (L : Int) ≤ 1000 := by omega
  have hx3 : wn.cell? ⟨w.heap.size, 0, none⟩ = some (.slice A l.length cap) := (blk_cell hSn.out.box 0).trans rfl
  rw [← hL] at hx3
  have Hb := Aside0.mk hb
  clear hc0 hx2 hl1 hl2 hrun hw1 hb he1
  clear e1
  clear hL
  go_wp2
  clear hx3
  go_loopg [39] (L + 1) (fun kq v39 w' => ∃ (k : Nat), v39 = .int .i64 (k : Int) ∧ Aside0 (Sd w w' B g b1 b2 w.heap.size #[.slice A l.length cap, .int .i64 at_, .int .i64 en, .int .i64 ar, .int .i64 mo] (bump ends en) ((l.take k).foldl bump edges) (all + 1) (m + 1) (m + k)) ∧ Aside0 (k ≤ L) ∧ Aside0 (L < k + kq))
  case atStart => exact ⟨0, by go_num, ⟨hSn.out⟩, ⟨Nat.zero_le _⟩, ⟨by omega⟩⟩
  case round =>
    obtain ⟨k, rfl, hQ, hk, hkq⟩ := hrel
    have hk5 : (k : Int) ≤ 1000 := by have := hk.out; omega
    by_cases hlt : k < L
    · have hlt' : (k : Int) < (L : Int) := by omega
      have hkl : k < l.length := by have := HL.out; omega
      obtain ⟨ad, rfl, hc⟩ := (hr _ hQ.out.kept).at_ (k : Int) (by omega) (by omega)
      obtain ⟨x, hx⟩ : ∃ x, x = l[k] := ⟨_, rfl⟩
      have e : rd l (k : Int) = x := by rw [hx]; simp [rd, hkl]
      rw [e, Int.toNat_natCast] at hc
      have hxw : (Lit.int .i64 x).wf = true := by rw [hx]; exact hlw _ (List.getElem_mem hkl)
      obtain ⟨F, hF⟩ : ∃ F, F = (l.take k).foldl bump edges := ⟨_, rfl⟩
      have hFb : -1000000 ≤ F x ∧ F x ≤ 1001000 := by
        have h1 := bump_bound (l.take k) edges x
        have h2 := hedges x
        rw [← hF, List.length_take] at h1
        omega
      have hS1 := hQ.out
      rw [← hF] at hS1
      have hn : (l.take (k + 1)).foldl bump edges = bump F x := by rw [bump_snoc l k hkl, ← hF, ← hx]
      have HN := Aside0.mk hn
      have hc1 : wr.cell? ⟨g, 1, none⟩ = some (.map (some b2)) := (blk_cell hS1.blk 1).trans rfl
      have hl1 := hS1.c2.look x hxw
      obtain ⟨wn2, hrun, hcn, hgn⟩ := hS1.c2.store (by unfold maxLen; omega) x (F x + 1) hxw (WalkArith.wf_i64 (by omega))
      have hSn2 := Aside0.mk (hS1.put2 hgn hcn)
      obtain ⟨f, hf⟩ : ∃ f, gk = f + 1 := ⟨gk - 1, by have := hkq.out; omega⟩
      clear hS1 hgn hcn hF hn hx e
      go_wp2
      go_roundg f
      case measure => omega
      case rel => exact ⟨k + 1, by go_num, ⟨by rw [HN.out]; exact hSn2.out⟩, ⟨by omega⟩, ⟨by have := hkq.out; omega⟩⟩
    · have hke : k = L := by have := hk.out; omega
      subst hke
      have hS := hQ.out
      go_wp2
      first | (refine bodyPost_ret (results_none rfl _ _ _) rfl ?_) | (refine bodyPost_end (results_none rfl _ _ _) rfl ?_)
      have e : l.take k = l := List.take_of_length_le (by have := HL.out; omega)
      rw [e] at hS
      have e2 : m + k = m + l.length := by have := HL.out; omega
      rw [e2] at hS
      refine ⟨rfl, ⟨hS.blk, hS.le.1, (fun h => by cases h), ?_⟩, hS.bel, hS.kept⟩
      intro c1 c2 hc
      obtain ⟨rfl, rfl⟩ : b1 = c1 ∧ b2 = c2 := by simpa using hc
      exact ⟨hS.c1.mono (by omega), hS.c2.mono (by omega), hS.ne, hS.le.2.1, hS.le.2.2⟩
end Go.Proofs.Ytpojledgafmomaa.Count
