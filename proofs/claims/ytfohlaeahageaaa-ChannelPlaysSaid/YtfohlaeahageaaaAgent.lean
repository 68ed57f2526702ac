/- An agent in memory; what a call on it does. -/
import Derived.Test.YtfohlaeahageaaaCopyPuts
namespace Go.Proofs.Ytfohlaeahageaaa.Edge
open Go.RowKit Go.Proofs.YtfohlaeahageaaaW.PrintWords Go.Proofs.YtfohlaeahageaaaW.PrintMore Go.Proofs.YtfohlaeahageaaaW.PrintLast

/-- The agent (its struct's type t) at block g: its node, its version, its puts, in rows of their own. -/
structure Ag (t : Nat) (w : World) (g : Nat) (nd ver : Int) (A : Option Addr) (c : Nat) (ps : List PutT) : Prop where
  blk : w.heap[g]? = some (.cells #[.int .i64 nd, .int .i64 ver, .slice A ps.length c] t (0, 0))
  row : kPut.R 38 w (g + 1) (fun _ => True) (.slice A ps.length c) ps
theorem box3 {w : World} {g t : Nat} {a b c : Value} (h : w.heap[g]? = some (.cells #[a, b, c] t (0, 0))) : w.cell? ⟨g, 0, none⟩ = some a ∧ w.cell? ⟨g, 1, none⟩ = some b ∧ w.cell? ⟨g, 2, none⟩ = some c :=
  ⟨(blk_cell h 0).trans rfl, (blk_cell h 1).trans rfl, (blk_cell h 2).trans rfl⟩
theorem Ag.cells {t : Nat} {w : World} {g : Nat} {nd ver : Int} {A : Option Addr} {c : Nat} {ps : List PutT} (h : Ag t w g nd ver A c ps) : w.cell? ⟨g, 0, none⟩ = some (.int .i64 nd) ∧ w.cell? ⟨g, 1, none⟩ = some (.int .i64 ver) ∧ w.cell? ⟨g, 2, none⟩ = some (.slice A ps.length c) := box3 h.blk
theorem Ag.below {t : Nat} {w w1 : World} {g : Nat} {nd ver : Int} {A : Option Addr} {c : Nat} {ps : List PutT} (h : Ag t w g nd ver A c ps) (hb : Below w.heap.size w w1) : Ag t w1 g nd ver A c ps := ⟨blk_below h.blk hb, Kd.R_below h.row hb⟩
theorem Ag.kept {t : Nat} {w w1 : World} {g : Nat} {nd ver : Int} {A : Option Addr} {c : Nat} {ps : List PutT} {S : Nat → Prop} (h : Ag t w g nd ver A c ps) (hk : Kept w w1 S) (hS : ∀ k, g ≤ k → ¬ S k) : Ag t w1 g nd ver A c ps :=
  ⟨blk_kept h.blk hk (hS g (Nat.le_refl _)), Kd.R_mono (Kd.R_kept (Kd.R_bound h.row) hk (fun k hk => hS k (by have h9 : g + 1 ≤ k := hk.2.1; omega))) (fun _ _ => trivial)⟩
theorem Ag.C {t : Nat} {w : World} {g : Nat} {nd ver : Int} {A : Option Addr} {c : Nat} {ps : List PutT} (h : Ag t w g nd ver A c ps) : kPut.C w A ps.length ps := by
  obtain ⟨A', c', e, _, hC⟩ := Kd.R_reads h.row
  injection e with e1 e2 e3
  subst e1
  exact hC
theorem version_any (w : World) (g : Nat) (nd ver : Int) (A : Option Addr) (c : Nat) (ps : List PutT) (h : Ag 62 w g nd ver A c ps) :
    Calls Try.prog 14 #[.pointer (some ⟨g, 0, none⟩)] w fun e w' => e = .returned (.int .i64 ver) ∧ w = w' := by
  obtain ⟨_, h1, _⟩ := h.cells
  clear h
  go_enter Try.func14, Try.ntmps14
  go_wp2
  go_ret
  exact ⟨rfl, rfl⟩
theorem aputs_any (w : World) (g : Nat) (nd ver : Int) (A : Option Addr) (c : Nat) (ps : List PutT) (h : Ag 62 w g nd ver A c ps) (hl : ps.length * 64 ≤ 140737488355328) (hf : Fits ps) :
    Calls Try.prog 16 #[.pointer (some ⟨g, 0, none⟩)] w fun e w' => ∃ v, e = .returned v ∧ kPut.R 38 w' w.heap.size (fun _ => True) v ps ∧ Below w.heap.size w w' := by
  obtain ⟨_, _, h2⟩ := h.cells
  have HC := Aside0.mk h.C
  have HL := Aside0.mk hl
  have HF := Aside0.mk hf
  clear h hl hf
  go_enter Try.func16, Try.ntmps16
  go_wp2_with fail
  refine (puts_any _ A _ c ps HC.out HL.out HF.out).mono ?_
  rintro e w' ⟨v, rfl, hv, hb⟩
  obtain ⟨A1, c1, rfl⟩ := Kd.R_slice hv
  have HV := Aside0.mk hv
  have HB := Aside0.mk hb
  clear hv hb
  go_wp2
  go_ret
  exact ⟨_, rfl, HV.out, HB.out⟩
theorem new_any (w : World) (nd : Int) : Calls Try.prog 9 #[.int .i64 nd] w fun e w' => e = .returned (.pointer (some ⟨w.heap.size, 0, none⟩)) ∧ Ag 62 w' w.heap.size nd 0 none 0 [] ∧ Below w.heap.size w w' := by
  go_enter Try.func9, Try.ntmps9
  go_wp2
  go_ret
  exact ⟨rfl, ⟨blk_new _ _, Kd.R_nil _ _ _ _ _⟩, (Below.refl _ _).alloc (Nat.le_refl _) _⟩
theorem results_ct {P : Program} {fn : Func} {p u : Tmp} {ty : TypeId} (h : fn.results = #[.cell p ty, .tmp u]) (tmps : Array Value) (w : World) (g : Nat) (t : TypeId) (cs : Array Value) (d : TypeDesc) (b : Value)
    (hp : tmps.getD p undef = .pointer (some ⟨g, 0, none⟩)) (hg : w.heap[g]? = some (.cells cs t (0, 0))) (hb : tmps.getD u undef = b)
    (hu : P.underlying ty = some d) (hd : (match d with | .struct _ | .array _ _ => true | _ => false) = true) (hi : (P.info? ty).map (·.size) = some cs.size) :
    (results fn tmps).run P w = .ok (.tuple #[.agg cs, b]) w := by
  rw [results_cell_tmp h, hp, hb]
  simp [asAddr, run_loadVar_row w g t ty cs (0, 0) d hg hu hd hi, Result.andThen]
theorem with_world {P : Program} {c : Code} {Q : Exit → Act → World → Prop} {a : Act} {w : World} (h : ∀ W, W = w → Code.wp P c Q a W) : Code.wp P c Q a w := h w rfl
theorem two_far {w : World} {g h i j k : Nat} {u v1 v2 : Value} (hne : h ≠ g) (x : w.cell? ⟨h, j, none⟩ = some v1 ∧ w.cell? ⟨h, k, none⟩ = some v2) : (w.setCell ⟨g, i, none⟩ u).cell? ⟨h, j, none⟩ = some v1 ∧ (w.setCell ⟨g, i, none⟩ u).cell? ⟨h, k, none⟩ = some v2 :=
  ⟨(cell_far (a := ⟨h, j, none⟩) (p := ⟨g, i, none⟩) hne u).trans x.1, (cell_far (a := ⟨h, k, none⟩) (p := ⟨g, i, none⟩) hne u).trans x.2⟩
theorem info31s : (Try.prog.info? 31).map (·.size) = some 4 := by kernel_rfl
/-- Two boxes: of the note, and of the result. -/
theorem two_boxes (w : World) (a b c d a' b' c' d' : Value) : ((w.alloc (.cells #[a, b, c, d] 31)).alloc (.cells #[a', b', c', d'] 31)).heap[w.heap.size + 1]? = some (.cells #[a', b', c', d'] 31 (0, 0)) := by
  have := blk_new (w.alloc (.cells #[a, b, c, d] 31)) (.cells #[a', b', c', d'] 31)
  rw [World.size_alloc] at this
  exact this
/-- A note that is not for the agent, or bears an ack. -/
theorem take_no (w : World) (g : Nat) (nd ver : Int) (A A' : Option Addr) (c n c' : Nat) (ps : List PutT) (x0 x1 : Int) (x2 : Bool) (h : Ag 62 w g nd ver A c ps) (hx : x2 = true ∨ x0 ≠ nd) :
    Calls Try.prog 11 #[.pointer (some ⟨g, 0, none⟩), .agg #[.int .i64 x0, .int .i64 x1, .bool x2, .slice A' n c']] w fun e w' => e = .returned (.tuple #[noteV (0, 0, false, []) (.slice none 0 0), .bool false]) ∧ Below w.heap.size w w' := by
  obtain ⟨h0, h1, h2⟩ := h.cells
  have hlt := blk_lt h.blk
  have H := Aside0.mk h
  clear h
  unfold noteV
  dsimp only
  rcases x2 with _ | _
  · have hne : x0 ≠ nd := by
      rcases hx with e | e
      · cases e
      · exact e
    have hd : decide (x0 = nd) = false := by simpa using hne
    have hd2 : (x0 == nd) = false := by simpa using hne
    go_enter Try.func11, Try.ntmps11
    go_wp2_with fail
    go_region
    go_wp2
    refine bodyPost_ret (results_ct rfl _ _ (w.heap.size + 1) 31 #[.int .i64 0, .int .i64 0, .bool false, .slice none 0 0] _ (.bool false) rfl (blk_drew (two_boxes w _ _ _ _ _ _ _ _)) rfl Try.underlying31 rfl info31s) rfl ?_
    exact ⟨rfl, (((Below.refl _ _).alloc (Nat.le_refl _) _).alloc (by simp) _).drew⟩
  · go_enter Try.func11, Try.ntmps11
    go_wp2_with fail
    go_region
    go_wp2
    refine bodyPost_ret (results_ct rfl _ _ (w.heap.size + 1) 31 #[.int .i64 0, .int .i64 0, .bool false, .slice none 0 0] _ (.bool false) rfl (blk_drew (two_boxes w _ _ _ _ _ _ _ _)) rfl Try.underlying31 rfl info31s) rfl ?_
    exact ⟨rfl, (((Below.refl _ _).alloc (Nat.le_refl _) _).alloc (by simp) _).drew⟩
set_option maxHeartbeats 2000000 in
/-- A note that is taken, of no greater version. -/
theorem take_old (w : World) (g : Nat) (nd ver : Int) (A A' : Option Addr) (c n c' : Nat) (ps : List PutT) (x1 : Int) (h : Ag 62 w g nd ver A c ps) (hx : ¬ ver < x1) :
    Calls Try.prog 11 #[.pointer (some ⟨g, 0, none⟩), .agg #[.int .i64 nd, .int .i64 x1, .bool false, .slice A' n c']] w fun e w' => e = .returned (.tuple #[noteV (nd, ver, true, []) (.slice none 0 0), .bool true]) ∧ Below w.heap.size w w' := by
  obtain ⟨h0, h1, h2⟩ := h.cells
  have hlt := blk_lt h.blk
  have H := Aside0.mk h
  clear h
  unfold noteV
  dsimp only
  go_enter Try.func11, Try.ntmps11
  go_wp2_with fail
  go_region
  go_wp2_with fail
  go_region
  go_wp2_with fail
  go_region
  go_wp2
  refine bodyPost_ret (results_ct rfl _ _ (w.heap.size + 1) 31 #[.int .i64 nd, .int .i64 ver, .bool true, .slice none 0 0] _ (.bool true) rfl (blk_drew (blk_drew (blk_drew (two_boxes w _ _ _ _ _ _ _ _)))) rfl Try.underlying31 rfl info31s) rfl ?_
  exact ⟨rfl, (((Below.refl _ _).alloc (Nat.le_refl _) _).alloc (by simp) _).drew.drew.drew⟩
set_option maxHeartbeats 2000000 in
/-- A note that is taken, of a greater version. -/
theorem take_new (w : World) (g : Nat) (nd ver : Int) (A A' : Option Addr) (c n c' : Nat) (ps xs : List PutT) (x1 : Int) (h : Ag 62 w g nd ver A c ps) (hx : ver < x1) (hr : kPut.C w A' n xs) (hl : n * 64 ≤ 140737488355328) (hf : Fits xs) :
    Calls Try.prog 11 #[.pointer (some ⟨g, 0, none⟩), .agg #[.int .i64 nd, .int .i64 x1, .bool false, .slice A' n c']] w fun e w' => e = .returned (.tuple #[noteV (nd, x1, true, []) (.slice none 0 0), .bool true]) ∧ (∃ A1 c1, Ag 62 w' g nd x1 A1 c1 xs) ∧ Kept w w' (fun k => k = g) ∧ Below g w w' := by
  obtain ⟨h0, h1, h2⟩ := h.cells
  have hlt := blk_lt h.blk
  have f1 := blk_frozen h.blk 1
  have f2 := blk_frozen h.blk 2
  have H := Aside0.mk h
  have HR := Aside0.mk hr
  have HL := Aside0.mk hl
  have HF := Aside0.mk hf
  clear h hr hl hf
  unfold noteV
  dsimp only
  go_enter Try.func11, Try.ntmps11
  go_wp2_with fail
  go_region
  go_wp2_with fail
  go_region
  go_wp2_with fail
  refine with_world ?_
  intro W hW
  have hB : Below w.heap.size w W := by rw [hW]; exact (((Below.refl _ _).alloc (Nat.le_refl _) _).alloc (by simp) _).drew.drew
  have hs : W.heap.size = w.heap.size + 2 := by rw [hW]; simp
  have b1 : W.heap[w.heap.size]? = some (.cells #[.int .i64 nd, .int .i64 x1, .bool false, .slice A' n c'] 31 (0, 0)) := by rw [hW]; exact blk_drew (blk_drew (blk_alloc (blk_new _ _) _))
  have b2 : W.heap[w.heap.size + 1]? = some (.cells #[.int .i64 0, .int .i64 0, .bool false, .slice none 0 0] 31 (0, 0)) := by rw [hW]; exact blk_drew (blk_drew (two_boxes w _ _ _ _ _ _ _ _))
  clear hW
  have B1 := Aside0.mk b1
  have B2 := Aside0.mk b2
  have HB := Aside0.mk hB
  have HS := Aside0.mk hs
  have HP : Aside0 (∀ w', Below W.heap.size W w' → (w'.cell? ⟨w.heap.size, 1, none⟩ = some (.int .i64 x1) ∧ w'.cell? ⟨w.heap.size, 3, none⟩ = some (.slice A' n c')) ∧ w'.frozen? ⟨g, 1, none⟩ = false ∧ w'.frozen? ⟨g, 2, none⟩ = false ∧ w'.heap[w.heap.size + 1]? = some (.cells #[.int .i64 0, .int .i64 0, .bool false, .slice none 0 0] 31 (0, 0)) ∧ w'.heap[g]? = some (.cells #[.int .i64 nd, .int .i64 ver, .slice A ps.length c] 62 (0, 0))) := ⟨fun w' hb => by
    obtain ⟨_, e1, _, e3⟩ := box4 (blk_below b1 hb)
    have hag := (H.out.below hB).below hb
    exact ⟨⟨e1, e3⟩, blk_frozen hag.blk 1, blk_frozen hag.blk 2, blk_below b2 hb, hag.blk⟩⟩
  have hS0 := (HP.out W (Below.refl _ _)).1
  have hS1 : W.drew.cell? ⟨w.heap.size, 1, none⟩ = some (.int .i64 x1) ∧ W.drew.cell? ⟨w.heap.size, 3, none⟩ = some (.slice A' n c') := hS0
  have hgw : w.heap.size ≠ g := by omega
  clear h0 h1 h2 f1 f2 b1 b2 hB hs
  go_region_held3 (fun w' => w'.cell? ⟨w.heap.size, 1, none⟩ = some (.int .i64 x1) ∧ w'.cell? ⟨w.heap.size, 3, none⟩ = some (.slice A' n c')) (first | assumption | exact hS0 | exact hS1 | exact two_far hgw (by assumption) | exact two_far hgw (two_far hgw (by assumption)))
    (first | (go_at_call 27; refine (puts_any _ A' n c' xs (Kd.C_below HR.out (by first | exact HB.out | exact HB.out.drew)) HL.out HF.out).mono ?_; rintro e w3 ⟨v, rfl, hv, hb⟩; obtain ⟨A1, c1, rfl⟩ := Kd.R_slice hv; have hb' : Below W.heap.size W w3 := (by first | exact hb | exact (below_drew (Below.refl _ _)).trans hb); obtain ⟨hS', q1, q2, q3, q4⟩ := HP.out w3 hb'; obtain ⟨r0, r1, r2⟩ := box3 q4; have HV := Aside0.mk hv; have HB3 := Aside0.mk hb'; clear hv hb hb'))
  generalize hw4 : (w3.setCell ⟨g, 1, none⟩ (.int .i64 x1)).setCell ⟨g, 2, none⟩ (.slice A1 xs.length c1) = w4
  have hle : w.heap.size ≤ W.heap.size := HB.out.size
  have hgW : g < W.heap.size := Nat.lt_of_lt_of_le hlt hle
  have hb3 : Below w.heap.size w w3 := HB.out.trans (HB3.out.mono hle)
  have hag : Ag 62 w4 g nd x1 A1 c1 xs := by
    rw [← hw4]
    exact ⟨blk_put (blk_put q4 1 _ rfl) 2 _ rfl, Kd.R_lower (R_setLow (R_setLow HV.out ⟨g, 1, none⟩ hgW _) ⟨g, 2, none⟩ hgW _) hgW⟩
  have hkp : Kept w w4 (fun k => k = g) := by
    rw [← hw4]
    have k3 : Kept w w3 (fun k => k = g) := (Kept.refl w (fun k => k = g)).below hb3
    have k4 : Kept w (w3.setCell ⟨g, 1, none⟩ (.int .i64 x1)) (fun k => k = g) := k3.setCell (p := ⟨g, 1, none⟩) (.inl rfl) _
    exact k4.setCell (p := ⟨g, 2, none⟩) (.inl rfl) _
  have hb2 : w4.heap[w.heap.size + 1]? = some (.cells #[.int .i64 0, .int .i64 0, .bool false, .slice none 0 0] 31 (0, 0)) := by
    rw [← hw4]
    exact blk_far (blk_far q3 (by show w.heap.size + 1 ≠ g; omega) _) (by show w.heap.size + 1 ≠ g; omega) _
  obtain ⟨h0, h1, h2⟩ := hag.cells
  obtain ⟨p0, p1, p2, p3⟩ := box4 hb2
  have f0 := blk_frozen hb2 0
  have f1 := blk_frozen hb2 1
  have f2 := blk_frozen hb2 2
  have f3 := blk_frozen hb2 3
  have HAG := Aside0.mk hag
  have HR4 : Aside0 (kPut.R 38 w4 W.heap.size (fun _ => True) (.slice A1 xs.length c1) xs) := ⟨by
    rw [← hw4]
    exact R_setLow (R_setLow HV.out ⟨g, 1, none⟩ hgW _) ⟨g, 2, none⟩ hgW _⟩
  have HBL : Aside0 (Below g w w4) := ⟨by
    rw [← hw4]
    exact ((hb3.mono (Nat.le_of_lt hlt)).setCell (p := ⟨g, 1, none⟩) (Nat.le_refl _) _).setCell (p := ⟨g, 2, none⟩) (Nat.le_refl _) _⟩
  have HKP := Aside0.mk hkp
  have HB2 := Aside0.mk hb2
  have HGW := Aside0.mk (And.intro hlt hgW)
  clear hw4 hag hkp hb2 hb3 q1 q2 q3 q4 r0 r1 r2 hS' hS0 hS1 hle
  go_wp2_with fail
  go_region
  go_wp2
  have hgg : g ≠ w.heap.size + 1 := by have := HGW.out.1; omega
  have hlo : w.heap.size + 1 < W.heap.size := by have := HS.out; omega
  refine bodyPost_ret (results_ct rfl _ _ (w.heap.size + 1) 31 #[.int .i64 nd, .int .i64 x1, .bool true, .slice none 0 0] _ (.bool true) rfl (blk_drew (store4 HB2.out _ _ _ _)) rfl Try.underlying31 rfl info31s) rfl ?_
  refine ⟨rfl, ⟨A1, c1, blk_drew (blk_far (blk_far (blk_far (blk_far HAG.out.blk hgg _) hgg _) hgg _) hgg _), Kd.R_drew (Kd.R_lower (R_setLow (R_setLow (R_setLow (R_setLow HR4.out _ hlo _) _ hlo _) _ hlo _) _ hlo _) HGW.out.2)⟩, ?_, ?_⟩
  · have k0 : Kept w (w4.setCell ⟨w.heap.size + 1, 0, none⟩ (.int .i64 nd)) (fun k => k = g) := HKP.out.setCell (p := ⟨w.heap.size + 1, 0, none⟩) (.inr (Nat.le_succ _)) _
    have k1 : Kept w ((w4.setCell ⟨w.heap.size + 1, 0, none⟩ (.int .i64 nd)).setCell ⟨w.heap.size + 1, 1, none⟩ (.int .i64 x1)) (fun k => k = g) := k0.setCell (p := ⟨w.heap.size + 1, 1, none⟩) (.inr (Nat.le_succ _)) _
    have k2 := k1.setCell (p := ⟨w.heap.size + 1, 2, none⟩) (.inr (Nat.le_succ _)) (.bool true)
    exact (k2.setCell (p := ⟨w.heap.size + 1, 3, none⟩) (.inr (Nat.le_succ _)) (.slice none 0 0)).drew
  · have hg1 : g ≤ w.heap.size + 1 := by have := HGW.out.1; omega
    exact ((((HBL.out.setCell (p := ⟨w.heap.size + 1, 0, none⟩) hg1 _).setCell (p := ⟨w.heap.size + 1, 1, none⟩) hg1 _).setCell (p := ⟨w.heap.size + 1, 2, none⟩) hg1 _).setCell (p := ⟨w.heap.size + 1, 3, none⟩) hg1 _).drew
end Go.Proofs.Ytfohlaeahageaaa.Edge
