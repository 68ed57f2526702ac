/- An agent and the document's own, call by call, their rows' blocks told. -/
import Derived.Test.YtfohlaeahageaaaAgent
namespace Go.Proofs.Ytfohlaeahageaaa.Edge
open Go.RowKit Go.Proofs.YtfohlaeahageaaaW.PrintWords Go.Proofs.YtfohlaeahageaaaW.PrintMore Go.Proofs.YtfohlaeahageaaaW.PrintLast

/-- The agent, its rows' blocks such as P says. -/
structure AgP (P : Nat → Prop) (t : Nat) (w : World) (g : Nat) (nd ver : Int) (A : Option Addr) (c : Nat) (ps : List PutT) : Prop where
  blk : w.heap[g]? = some (.cells #[.int .i64 nd, .int .i64 ver, .slice A ps.length c] t (0, 0))
  row : kPut.R 38 w (g + 1) P (.slice A ps.length c) ps
section
variable {P P' : Nat → Prop} {t : Nat} {w w1 : World} {g : Nat} {nd ver : Int} {A : Option Addr} {c : Nat} {ps : List PutT}
theorem AgP.ag (h : AgP P t w g nd ver A c ps) : Ag t w g nd ver A c ps := ⟨h.blk, Kd.R_mono h.row (fun _ _ => trivial)⟩
theorem AgP.below (h : AgP P t w g nd ver A c ps) (hb : Below w.heap.size w w1) : AgP P t w1 g nd ver A c ps := ⟨blk_below h.blk hb, Kd.R_below h.row hb⟩
theorem AgP.kept {S : Nat → Prop} (h : AgP P t w g nd ver A c ps) (hk : Kept w w1 S) (hS : ∀ k, P k → ¬ S k) (hg : ¬ S g) : AgP P t w1 g nd ver A c ps := ⟨blk_kept h.blk hk hg, Kd.R_kept h.row hk hS⟩
theorem AgP.imp (h : AgP P t w g nd ver A c ps) (hi : ∀ k, P k → k < w.heap.size → P' k) : AgP P' t w g nd ver A c ps := ⟨h.blk, Kd.R_mono (Kd.R_bound h.row) (fun k hk => hi k hk.1 hk.2.2.1)⟩
end
theorem calls_world {P : Program} {f : FuncId} {args : Array Value} {w : World} {Q : Ending → World → Prop} (h : ∀ W, W = w → Calls P f args W Q) : Calls P f args w Q := h w rfl
/-- What an agent answers to a note, and what it then keeps: To, Version, Ack, ok; version, puts. -/
def stepA (nd ver : Int) (ps : List PutT) (x : NoteT) : Int × Int × Bool × Bool × Int × List PutT :=
  if x.2.2.1 = true ∨ x.1 ≠ nd then (0, 0, false, false, ver, ps) else if ver < x.2.1 then (nd, x.2.1, true, true, x.2.1, x.2.2.2) else (nd, ver, true, true, ver, ps)
set_option maxHeartbeats 2000000 in
/-- A note that is taken, of a greater version. -/
theorem take_new2 (w : World) (g : Nat) (nd ver : Int) (A A' : Option Addr) (c n c' : Nat) (ps xs : List PutT) (x1 : Int) (h : Ag 62 w g nd ver A c ps) (hx : ver < x1) (hr : kPut.C w A' n xs) (hl : n * 64 ≤ 140737488355328) (hf : Fits xs) :
    Calls Try.prog 11 #[.pointer (some ⟨g, 0, none⟩), .agg #[.int .i64 nd, .int .i64 x1, .bool false, .slice A' n c']] w fun e w' => e = .returned (.tuple #[noteV (nd, x1, true, []) (.slice none 0 0), .bool true]) ∧ (∃ A1 c1, Ag 62 w' g nd x1 A1 c1 xs ∧ kPut.R 38 w' w.heap.size (fun _ => True) (.slice A1 xs.length c1) xs) ∧ Kept w w' (fun k => k = g) ∧ Below g w w' := by
  obtain ⟨h0, h1, h2⟩ := h.cells
  have hlt := blk_lt h.blk
  have f1 := blk_frozen h.blk 1
  have f2 := blk_frozen h.blk 2
  have H := Aside0.mk h
  have HR := Aside0.mk hr
  have HL := Aside0.mk hl
  have HF := Aside0.mk hf
  clear h hr hl hf
  unfold noteV
  dsimp only
  go_enter Try.func11, Try.ntmps11
  go_wp2_with fail
  go_region
  go_wp2_with fail
  go_region
  go_wp2_with fail
  refine with_world ?_
  intro W hW
  have hB : Below w.heap.size w W := by rw [hW]; exact (((Below.refl _ _).alloc (Nat.le_refl _) _).alloc (by simp) _).drew.drew
  have hs : W.heap.size = w.heap.size + 2 := by rw [hW]; simp
  have b1 : W.heap[w.heap.size]? = some (.cells #[.int .i64 nd, .int .i64 x1, .bool false, .slice A' n c'] 31 (0, 0)) := by rw [hW]; exact blk_drew (blk_drew (blk_alloc (blk_new _ _) _))
  have b2 : W.heap[w.heap.size + 1]? = some (.cells #[.int .i64 0, .int .i64 0, .bool false, .slice none 0 0] 31 (0, 0)) := by rw [hW]; exact blk_drew (blk_drew (two_boxes w _ _ _ _ _ _ _ _))
  clear hW
  have B1 := Aside0.mk b1
  have B2 := Aside0.mk b2
  have HB := Aside0.mk hB
  have HS := Aside0.mk hs
  have HP : Aside0 (∀ w', Below W.heap.size W w' → (w'.cell? ⟨w.heap.size, 1, none⟩ = some (.int .i64 x1) ∧ w'.cell? ⟨w.heap.size, 3, none⟩ = some (.slice A' n c')) ∧ w'.frozen? ⟨g, 1, none⟩ = false ∧ w'.frozen? ⟨g, 2, none⟩ = false ∧ w'.heap[w.heap.size + 1]? = some (.cells #[.int .i64 0, .int .i64 0, .bool false, .slice none 0 0] 31 (0, 0)) ∧ w'.heap[g]? = some (.cells #[.int .i64 nd, .int .i64 ver, .slice A ps.length c] 62 (0, 0))) := ⟨fun w' hb => by
    obtain ⟨_, e1, _, e3⟩ := box4 (blk_below b1 hb)
    have hag := (H.out.below hB).below hb
    exact ⟨⟨e1, e3⟩, blk_frozen hag.blk 1, blk_frozen hag.blk 2, blk_below b2 hb, hag.blk⟩⟩
  have hS0 := (HP.out W (Below.refl _ _)).1
  have hS1 : W.drew.cell? ⟨w.heap.size, 1, none⟩ = some (.int .i64 x1) ∧ W.drew.cell? ⟨w.heap.size, 3, none⟩ = some (.slice A' n c') := hS0
  have hgw : w.heap.size ≠ g := by omega
  clear h0 h1 h2 f1 f2 b1 b2 hB hs
  go_region_held3 (fun w' => w'.cell? ⟨w.heap.size, 1, none⟩ = some (.int .i64 x1) ∧ w'.cell? ⟨w.heap.size, 3, none⟩ = some (.slice A' n c')) (first | assumption | exact hS0 | exact hS1 | exact two_far hgw (by assumption) | exact two_far hgw (two_far hgw (by assumption)))
    (first | (go_at_call 27; refine (puts_any _ A' n c' xs (Kd.C_below HR.out (by first | exact HB.out | exact HB.out.drew)) HL.out HF.out).mono ?_; rintro e w3 ⟨v, rfl, hv, hb⟩; obtain ⟨A1, c1, rfl⟩ := Kd.R_slice hv; have hb' : Below W.heap.size W w3 := (by first | exact hb | exact (below_drew (Below.refl _ _)).trans hb); obtain ⟨hS', q1, q2, q3, q4⟩ := HP.out w3 hb'; obtain ⟨r0, r1, r2⟩ := box3 q4; have HV := Aside0.mk hv; have HB3 := Aside0.mk hb'; clear hv hb hb'))
  generalize hw4 : (w3.setCell ⟨g, 1, none⟩ (.int .i64 x1)).setCell ⟨g, 2, none⟩ (.slice A1 xs.length c1) = w4
  have hle : w.heap.size ≤ W.heap.size := HB.out.size
  have hgW : g < W.heap.size := Nat.lt_of_lt_of_le hlt hle
  have hb3 : Below w.heap.size w w3 := HB.out.trans (HB3.out.mono hle)
  have hag : Ag 62 w4 g nd x1 A1 c1 xs := by
    rw [← hw4]
    exact ⟨blk_put (blk_put q4 1 _ rfl) 2 _ rfl, Kd.R_lower (R_setLow (R_setLow HV.out ⟨g, 1, none⟩ hgW _) ⟨g, 2, none⟩ hgW _) hgW⟩
  have hkp : Kept w w4 (fun k => k = g) := by
    rw [← hw4]
    have k3 : Kept w w3 (fun k => k = g) := (Kept.refl w (fun k => k = g)).below hb3
    have k4 : Kept w (w3.setCell ⟨g, 1, none⟩ (.int .i64 x1)) (fun k => k = g) := k3.setCell (p := ⟨g, 1, none⟩) (.inl rfl) _
    exact k4.setCell (p := ⟨g, 2, none⟩) (.inl rfl) _
  have hb2 : w4.heap[w.heap.size + 1]? = some (.cells #[.int .i64 0, .int .i64 0, .bool false, .slice none 0 0] 31 (0, 0)) := by
    rw [← hw4]
    exact blk_far (blk_far q3 (by show w.heap.size + 1 ≠ g; omega) _) (by show w.heap.size + 1 ≠ g; omega) _
  obtain ⟨h0, h1, h2⟩ := hag.cells
  obtain ⟨p0, p1, p2, p3⟩ := box4 hb2
  have f0 := blk_frozen hb2 0
  have f1 := blk_frozen hb2 1
  have f2 := blk_frozen hb2 2
  have f3 := blk_frozen hb2 3
  have HAG := Aside0.mk hag
  have HR4 : Aside0 (kPut.R 38 w4 W.heap.size (fun _ => True) (.slice A1 xs.length c1) xs) := ⟨by
    rw [← hw4]
    exact R_setLow (R_setLow HV.out ⟨g, 1, none⟩ hgW _) ⟨g, 2, none⟩ hgW _⟩
  have HBL : Aside0 (Below g w w4) := ⟨by
    rw [← hw4]
    exact ((hb3.mono (Nat.le_of_lt hlt)).setCell (p := ⟨g, 1, none⟩) (Nat.le_refl _) _).setCell (p := ⟨g, 2, none⟩) (Nat.le_refl _) _⟩
  have HKP := Aside0.mk hkp
  have HB2 := Aside0.mk hb2
  have HGW := Aside0.mk (And.intro hlt hgW)
  clear hw4 hag hkp hb2 hb3 q1 q2 q3 q4 r0 r1 r2 hS' hS0 hS1 hle
  go_wp2_with fail
  go_region
  go_wp2
  have hgg : g ≠ w.heap.size + 1 := by have := HGW.out.1; omega
  have hlo : w.heap.size + 1 < W.heap.size := by have := HS.out; omega
  refine bodyPost_ret (results_ct rfl _ _ (w.heap.size + 1) 31 #[.int .i64 nd, .int .i64 x1, .bool true, .slice none 0 0] _ (.bool true) rfl (blk_drew (store4 HB2.out _ _ _ _)) rfl Try.underlying31 rfl info31s) rfl ?_
  have hrw := Kd.R_drew (R_setLow (R_setLow (R_setLow (R_setLow HR4.out ⟨w.heap.size + 1, 0, none⟩ hlo (.int .i64 nd)) ⟨w.heap.size + 1, 1, none⟩ hlo (.int .i64 x1)) ⟨w.heap.size + 1, 2, none⟩ hlo (.bool true)) ⟨w.heap.size + 1, 3, none⟩ hlo (.slice none 0 0))
  refine ⟨rfl, ⟨A1, c1, ⟨blk_drew (blk_far (blk_far (blk_far (blk_far HAG.out.blk hgg _) hgg _) hgg _) hgg _), Kd.R_lower hrw HGW.out.2⟩, Kd.R_lower hrw HB.out.size⟩, ?_, ?_⟩
  · have k0 : Kept w (w4.setCell ⟨w.heap.size + 1, 0, none⟩ (.int .i64 nd)) (fun k => k = g) := HKP.out.setCell (p := ⟨w.heap.size + 1, 0, none⟩) (.inr (Nat.le_succ _)) _
    have k1 : Kept w ((w4.setCell ⟨w.heap.size + 1, 0, none⟩ (.int .i64 nd)).setCell ⟨w.heap.size + 1, 1, none⟩ (.int .i64 x1)) (fun k => k = g) := k0.setCell (p := ⟨w.heap.size + 1, 1, none⟩) (.inr (Nat.le_succ _)) _
    have k2 := k1.setCell (p := ⟨w.heap.size + 1, 2, none⟩) (.inr (Nat.le_succ _)) (.bool true)
    exact (k2.setCell (p := ⟨w.heap.size + 1, 3, none⟩) (.inr (Nat.le_succ _)) (.slice none 0 0)).drew
  · have hg1 : g ≤ w.heap.size + 1 := by have := HGW.out.1; omega
    exact ((((HBL.out.setCell (p := ⟨w.heap.size + 1, 0, none⟩) hg1 _).setCell (p := ⟨w.heap.size + 1, 1, none⟩) hg1 _).setCell (p := ⟨w.heap.size + 1, 2, none⟩) hg1 _).setCell (p := ⟨w.heap.size + 1, 3, none⟩) hg1 _).drew
/-- A note that is not for the agent, or bears an ack. -/
theorem rtake_no (w : World) (g : Nat) (nd ver : Int) (A A' : Option Addr) (c n c' : Nat) (ps : List PutT) (x0 x1 : Int) (x2 : Bool) (h : Ag 29 w g nd ver A c ps) (hx : x2 = true ∨ x0 ≠ nd) :
    Calls Try.prog 12 #[.pointer (some ⟨g, 0, none⟩), .agg #[.int .i64 x0, .int .i64 x1, .bool x2, .slice A' n c']] w fun e w' => e = .returned (.tuple #[noteV (0, 0, false, []) (.slice none 0 0), .bool false]) ∧ Below w.heap.size w w' := by
  obtain ⟨h0, h1, h2⟩ := h.cells
  have hlt := blk_lt h.blk
  have H := Aside0.mk h
  clear h
  unfold noteV
  dsimp only
  rcases x2 with _ | _
  · have hne : x0 ≠ nd := by
      rcases hx with e | e
      · cases e
      · exact e
    have hd : decide (x0 = nd) = false := by simpa using hne
    have hd2 : (x0 == nd) = false := by simpa using hne
    go_enter Try.func12, Try.ntmps12
    go_wp2_with fail
    go_region
    go_wp2
    refine bodyPost_ret (results_ct rfl _ _ (w.heap.size + 1) 31 #[.int .i64 0, .int .i64 0, .bool false, .slice none 0 0] _ (.bool false) rfl (blk_drew (two_boxes w _ _ _ _ _ _ _ _)) rfl Try.underlying31 rfl info31s) rfl ?_
    exact ⟨rfl, (((Below.refl _ _).alloc (Nat.le_refl _) _).alloc (by simp) _).drew⟩
  · go_enter Try.func12, Try.ntmps12
    go_wp2_with fail
    go_region
    go_wp2
    refine bodyPost_ret (results_ct rfl _ _ (w.heap.size + 1) 31 #[.int .i64 0, .int .i64 0, .bool false, .slice none 0 0] _ (.bool false) rfl (blk_drew (two_boxes w _ _ _ _ _ _ _ _)) rfl Try.underlying31 rfl info31s) rfl ?_
    exact ⟨rfl, (((Below.refl _ _).alloc (Nat.le_refl _) _).alloc (by simp) _).drew⟩
set_option maxHeartbeats 2000000 in
/-- A note that is taken, of no greater version. -/
theorem rtake_old (w : World) (g : Nat) (nd ver : Int) (A A' : Option Addr) (c n c' : Nat) (ps : List PutT) (x1 : Int) (h : Ag 29 w g nd ver A c ps) (hx : ¬ ver < x1) :
    Calls Try.prog 12 #[.pointer (some ⟨g, 0, none⟩), .agg #[.int .i64 nd, .int .i64 x1, .bool false, .slice A' n c']] w fun e w' => e = .returned (.tuple #[noteV (nd, ver, true, []) (.slice none 0 0), .bool true]) ∧ Below w.heap.size w w' := by
  obtain ⟨h0, h1, h2⟩ := h.cells
  have hlt := blk_lt h.blk
  have H := Aside0.mk h
  clear h
  unfold noteV
  dsimp only
  go_enter Try.func12, Try.ntmps12
  go_wp2_with fail
  go_region
  go_wp2_with fail
  go_region
  go_wp2_with fail
  go_region
  go_wp2
  refine bodyPost_ret (results_ct rfl _ _ (w.heap.size + 1) 31 #[.int .i64 nd, .int .i64 ver, .bool true, .slice none 0 0] _ (.bool true) rfl (blk_drew (blk_drew (blk_drew (two_boxes w _ _ _ _ _ _ _ _)))) rfl Try.underlying31 rfl info31s) rfl ?_
  exact ⟨rfl, (((Below.refl _ _).alloc (Nat.le_refl _) _).alloc (by simp) _).drew.drew.drew⟩
set_option maxHeartbeats 2000000 in
/-- A note that is taken, of a greater version. -/
theorem rtake_new (w : World) (g : Nat) (nd ver : Int) (A A' : Option Addr) (c n c' : Nat) (ps xs : List PutT) (x1 : Int) (h : Ag 29 w g nd ver A c ps) (hx : ver < x1) (hr : ∀ W', Below g w W' → kPut.C W' A' n xs) (hl : n * 64 ≤ 140737488355328) (hf : Fits xs) :
    Calls Try.prog 12 #[.pointer (some ⟨g, 0, none⟩), .agg #[.int .i64 nd, .int .i64 x1, .bool false, .slice A' n c']] w fun e w' => e = .returned (.tuple #[noteV (nd, x1, true, []) (.slice none 0 0), .bool true]) ∧ (∃ A1 c1, Ag 29 w' g nd x1 A1 c1 xs ∧ kPut.R 38 w' w.heap.size (fun _ => True) (.slice A1 xs.length c1) xs) ∧ Kept w w' (fun k => k = g) ∧ Below g w w' := by
  obtain ⟨h0, h1, h2⟩ := h.cells
  have hlt := blk_lt h.blk
  have f1 := blk_frozen h.blk 1
  have f2 := blk_frozen h.blk 2
  have hgw : g ≠ w.heap.size := by omega
  have H := Aside0.mk h
  have HR := Aside0.mk hr
  have HL := Aside0.mk hl
  have HF := Aside0.mk hf
  clear h hr hl hf
  unfold noteV
  dsimp only
  go_enter Try.func12, Try.ntmps12
  go_wp2_with fail
  go_region
  go_wp2_with fail
  go_region
  go_wp2_with fail
  refine calls_world ?_
  intro W hW
  have hB : Below g w W := by rw [hW]; exact (((((Below.refl g w).setCell (p := ⟨g, 1, none⟩) (Nat.le_refl _) _).alloc (by simp; omega) _).alloc (by simp; omega) _).drew.drew)
  have hK : Kept w W (fun k => k = g) := by rw [hW]; exact ((((Kept.refl w (fun k => k = g)).setCell (p := ⟨g, 1, none⟩) (.inl rfl) _).alloc _).alloc _).drew.drew
  have hs : W.heap.size = w.heap.size + 2 := by rw [hW]; simp
  have b2 : W.heap[w.heap.size + 1]? = some (.cells #[.int .i64 0, .int .i64 0, .bool false, .slice none 0 0] 31 (0, 0)) := by
    have e : (w.setCell ⟨g, 1, none⟩ (.int .i64 x1)).heap.size = w.heap.size := by simp
    have t := two_boxes (w.setCell ⟨g, 1, none⟩ (.int .i64 x1)) (.int .i64 nd) (.int .i64 x1) (.bool false) (.slice A' n c') (.int .i64 0) (.int .i64 0) (.bool false) (.slice none 0 0)
    rw [e] at t
    rw [hW]
    exact blk_drew (blk_drew t)
  have bg : W.heap[g]? = some (.cells #[.int .i64 nd, .int .i64 x1, .slice A ps.length c] 29 (0, 0)) := by rw [hW]; exact blk_drew (blk_drew (blk_alloc (blk_alloc (blk_put H.out.blk 1 _ rfl) _) _))
  clear hW h0 h1 h2 f1 f2
  refine (copy_any W A' n c' xs (HR.out W hB) HL.out HF.out).mono ?_
  rintro e w3 ⟨v, rfl, hv, hb⟩
  obtain ⟨A1, c1, rfl⟩ := Kd.R_slice hv
  have hgW : g < W.heap.size := by omega
  have bg3 := blk_below bg hb
  have b23 := blk_below b2 hb
  obtain ⟨g0, g1, g2⟩ := box3 bg3
  have gf2 := blk_frozen bg3 2
  obtain ⟨p0, p1, p2, p3⟩ := box4 b23
  have f0 := blk_frozen b23 0
  have f1 := blk_frozen b23 1
  have f2 := blk_frozen b23 2
  have f3 := blk_frozen b23 3
  have HV := Aside0.mk hv
  have HB := Aside0.mk (hB.trans (hb.mono (Nat.le_of_lt hgW)))
  have HK := Aside0.mk (hK.below hb)
  have HS := Aside0.mk hs
  have HG := Aside0.mk (And.intro bg3 b23)
  have HGW := Aside0.mk (And.intro hlt hgW)
  clear bg b2 bg3 b23 hv hb hB hK hs
  go_wp2_with fail
  go_region
  go_wp2
  have hgg : g ≠ w.heap.size + 1 := by have := HGW.out.1; omega
  have hlo : w.heap.size + 1 < W.heap.size := by have := HS.out; omega
  refine bodyPost_ret (results_ct rfl _ _ (w.heap.size + 1) 31 #[.int .i64 nd, .int .i64 x1, .bool true, .slice none 0 0] _ (.bool true) rfl (blk_drew (store4 (blk_far (p := ⟨g, 2, none⟩) HG.out.2 (Ne.symm hgg) _) _ _ _ _)) rfl Try.underlying31 rfl info31s) rfl ?_
  have hrw := Kd.R_drew (R_setLow (R_setLow (R_setLow (R_setLow (R_setLow HV.out ⟨g, 2, none⟩ HGW.out.2 (.slice A1 xs.length c1)) ⟨w.heap.size + 1, 0, none⟩ hlo (.int .i64 nd)) ⟨w.heap.size + 1, 1, none⟩ hlo (.int .i64 x1)) ⟨w.heap.size + 1, 2, none⟩ hlo (.bool true)) ⟨w.heap.size + 1, 3, none⟩ hlo (.slice none 0 0))
  refine ⟨rfl, ⟨A1, c1, ⟨blk_drew (blk_far (blk_far (blk_far (blk_far (blk_put HG.out.1 2 _ rfl) hgg _) hgg _) hgg _) hgg _), Kd.R_lower hrw HGW.out.2⟩, Kd.R_lower hrw (by have := HS.out; omega)⟩, ?_, ?_⟩
  · have k0 : Kept w (w3.setCell ⟨g, 2, none⟩ (.slice A1 xs.length c1)) (fun k => k = g) := HK.out.setCell (p := ⟨g, 2, none⟩) (.inl rfl) _
    have k1 := k0.setCell (p := ⟨w.heap.size + 1, 0, none⟩) (.inr (Nat.le_succ _)) (.int .i64 nd)
    have k2 := k1.setCell (p := ⟨w.heap.size + 1, 1, none⟩) (.inr (Nat.le_succ _)) (.int .i64 x1)
    have k3 := k2.setCell (p := ⟨w.heap.size + 1, 2, none⟩) (.inr (Nat.le_succ _)) (.bool true)
    exact (k3.setCell (p := ⟨w.heap.size + 1, 3, none⟩) (.inr (Nat.le_succ _)) (.slice none 0 0)).drew
  · have hg1 : g ≤ w.heap.size + 1 := by have := HGW.out.1; omega
    exact (((((HB.out.setCell (p := ⟨g, 2, none⟩) (Nat.le_refl _) _).setCell (p := ⟨w.heap.size + 1, 0, none⟩) hg1 _).setCell (p := ⟨w.heap.size + 1, 1, none⟩) hg1 _).setCell (p := ⟨w.heap.size + 1, 2, none⟩) hg1 _).setCell (p := ⟨w.heap.size + 1, 3, none⟩) hg1 _).drew
/-- Whatever note is taken. -/
theorem take_any (P : Nat → Prop) (w : World) (g : Nat) (nd ver : Int) (A A' : Option Addr) (c c' : Nat) (ps : List PutT) (x : NoteT) (h : AgP P 62 w g nd ver A c ps) (hP : ∀ k, w.heap.size ≤ k → P k) (hr : kPut.C w A' x.2.2.2.length x.2.2.2) (hl : x.2.2.2.length * 64 ≤ 140737488355328) (hf : Fits x.2.2.2) :
    Calls Try.prog 11 #[.pointer (some ⟨g, 0, none⟩), .agg #[.int .i64 x.1, .int .i64 x.2.1, .bool x.2.2.1, .slice A' x.2.2.2.length c']] w fun e w' => e = .returned (.tuple #[.agg #[.int .i64 (stepA nd ver ps x).1, .int .i64 (stepA nd ver ps x).2.1, .bool (stepA nd ver ps x).2.2.1, .slice none 0 0], .bool (stepA nd ver ps x).2.2.2.1]) ∧ (∃ A1 c1, AgP P 62 w' g nd (stepA nd ver ps x).2.2.2.2.1 A1 c1 (stepA nd ver ps x).2.2.2.2.2) ∧ Kept w w' (fun k => k = g) ∧ Below g w w' := by
  obtain ⟨x0, x1, x2, xs⟩ := x
  have hlt := blk_lt h.blk
  unfold stepA
  dsimp only at hr hl hf ⊢
  by_cases h1 : x2 = true ∨ x0 ≠ nd
  · rw [if_pos h1]
    refine (take_no w g nd ver A A' c xs.length c' ps x0 x1 x2 h.ag h1).mono ?_
    rintro e w' ⟨rfl, hb⟩
    exact ⟨rfl, ⟨A, c, h.below hb⟩, Kept.of_below hb _, hb.mono (Nat.le_of_lt hlt)⟩
  · rw [if_neg h1]
    obtain ⟨h2, h3⟩ := not_or.1 h1
    have h2' : x2 = false := by simpa using h2
    have h3' : x0 = nd := by simpa using h3
    subst h2' h3'
    by_cases h4 : ver < x1
    · rw [if_pos h4]
      refine (take_new2 w g x0 ver A A' c xs.length c' ps xs x1 h.ag h4 hr hl hf).mono ?_
      rintro e w' ⟨rfl, ⟨A1, c1, ha, hR⟩, hk, hb⟩
      refine ⟨rfl, ⟨A1, c1, ha.blk, Kd.R_lower (Kd.R_mono (Kd.R_bound hR) (fun k hk => hP k hk.2.1)) hlt⟩, hk, hb⟩
    · rw [if_neg h4]
      refine (take_old w g x0 ver A A' c xs.length c' ps x1 h.ag h4).mono ?_
      rintro e w' ⟨rfl, hb⟩
      exact ⟨rfl, ⟨A, c, h.below hb⟩, Kept.of_below hb _, hb.mono (Nat.le_of_lt hlt)⟩
/-- Whatever note is taken. -/
theorem rtake_any (P : Nat → Prop) (w : World) (g : Nat) (nd ver : Int) (A A' : Option Addr) (c c' : Nat) (ps : List PutT) (x : NoteT) (h : AgP P 29 w g nd ver A c ps) (hP : ∀ k, w.heap.size ≤ k → P k) (hr : ∀ W', Below g w W' → kPut.C W' A' x.2.2.2.length x.2.2.2) (hl : x.2.2.2.length * 64 ≤ 140737488355328) (hf : Fits x.2.2.2) :
    Calls Try.prog 12 #[.pointer (some ⟨g, 0, none⟩), .agg #[.int .i64 x.1, .int .i64 x.2.1, .bool x.2.2.1, .slice A' x.2.2.2.length c']] w fun e w' => e = .returned (.tuple #[.agg #[.int .i64 (stepA nd ver ps x).1, .int .i64 (stepA nd ver ps x).2.1, .bool (stepA nd ver ps x).2.2.1, .slice none 0 0], .bool (stepA nd ver ps x).2.2.2.1]) ∧ (∃ A1 c1, AgP P 29 w' g nd (stepA nd ver ps x).2.2.2.2.1 A1 c1 (stepA nd ver ps x).2.2.2.2.2) ∧ Kept w w' (fun k => k = g) ∧ Below g w w' := by
  obtain ⟨x0, x1, x2, xs⟩ := x
  have hlt := blk_lt h.blk
  unfold stepA
  dsimp only at hr hl hf ⊢
  by_cases h1 : x2 = true ∨ x0 ≠ nd
  · rw [if_pos h1]
    refine (rtake_no w g nd ver A A' c xs.length c' ps x0 x1 x2 h.ag h1).mono ?_
    rintro e w' ⟨rfl, hb⟩
    exact ⟨rfl, ⟨A, c, h.below hb⟩, Kept.of_below hb _, hb.mono (Nat.le_of_lt hlt)⟩
  · rw [if_neg h1]
    obtain ⟨h2, h3⟩ := not_or.1 h1
    have h2' : x2 = false := by simpa using h2
    have h3' : x0 = nd := by simpa using h3
    subst h2' h3'
    by_cases h4 : ver < x1
    · rw [if_pos h4]
      refine (rtake_new w g x0 ver A A' c xs.length c' ps xs x1 h.ag h4 hr hl hf).mono ?_
      rintro e w' ⟨rfl, ⟨A1, c1, ha, hR⟩, hk, hb⟩
      refine ⟨rfl, ⟨A1, c1, ha.blk, Kd.R_lower (Kd.R_mono (Kd.R_bound hR) (fun k hk => hP k hk.2.1)) hlt⟩, hk, hb⟩
    · rw [if_neg h4]
      refine (rtake_old w g x0 ver A A' c xs.length c' ps x1 h.ag h4).mono ?_
      rintro e w' ⟨rfl, hb⟩
      exact ⟨rfl, ⟨A, c, h.below hb⟩, Kept.of_below hb _, hb.mono (Nat.le_of_lt hlt)⟩
end Go.Proofs.Ytfohlaeahageaaa.Edge
