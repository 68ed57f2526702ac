/- A channel in memory; Len, is, Send. -/
import Derived.Test.YtfohlaeahageaaaAgentP
import Derived.Test.YtfohlaeahageaaaDelete
namespace Go.Proofs.Ytfohlaeahageaaa.Edge
open Go.RowKit Go.Proofs.YtfohlaeahageaaaW.PrintWords Go.Proofs.YtfohlaeahageaaaW.PrintMore Go.Proofs.YtfohlaeahageaaaW.PrintLast

/-- The channel (its struct's type t) at block g: the notes that fly, in rows of their own, which are such as P says. -/
structure Ch (P : Nat → Prop) (t : Nat) (w : World) (g : Nat) (A : Option Addr) (c : Nat) (ns : List NoteT) : Prop where
  blk : w.heap[g]? = some (.cells #[.slice A ns.length c] t (0, 0))
  row : kNote.R 31 w (g + 1) P (.slice A ns.length c) ns
/-- The block of a slice's row. -/
def ob (A : Option Addr) : Option Nat := (Value.slice A 0 0).ownBlock
theorem ob_eq (A : Option Addr) (n c : Nat) : (Value.slice A n c).ownBlock = ob A := by cases A <;> rfl
section
variable {P P' : Nat → Prop} {t : Nat} {w w1 : World} {g : Nat} {A : Option Addr} {c : Nat} {ns : List NoteT}
theorem Ch.cell (h : Ch P t w g A c ns) : w.cell? ⟨g, 0, none⟩ = some (.slice A ns.length c) := (blk_cell h.blk 0).trans rfl
theorem Ch.below (h : Ch P t w g A c ns) (hb : Below w.heap.size w w1) : Ch P t w1 g A c ns := ⟨blk_below h.blk hb, Kd.R_below h.row hb⟩
theorem Ch.kept {S : Nat → Prop} (h : Ch P t w g A c ns) (hk : Kept w w1 S) (hS : ∀ k, P k → ¬ S k) (hg : ¬ S g) : Ch P t w1 g A c ns := ⟨blk_kept h.blk hk hg, Kd.R_kept h.row hk hS⟩
theorem Ch.imp (h : Ch P t w g A c ns) (hi : ∀ k, P k → g < k → k < w.heap.size → P' k) : Ch P' t w g A c ns := ⟨h.blk, Kd.R_mono (Kd.R_bound h.row) (fun k hk => hi k hk.1 hk.2.1 hk.2.2.1)⟩
theorem Ch.lt (h : Ch P t w g A c ns) : g < w.heap.size := blk_lt h.blk
/-- Its row's block. -/
theorem Ch.ob (h : Ch P t w g A c ns) (k : Nat) (hk : some k = ob A) : P k ∧ g < k ∧ k < w.heap.size := by
  rw [← ob_eq A ns.length c] at hk
  have := (Kd.R_bound h.row).1 k hk.symm
  exact ⟨this.1, this.2.1, this.2.2.1⟩
theorem Ch.C (h : Ch P t w g A c ns) : kNote.C w A ns.length ns := by
  obtain ⟨A', c', e, _, hC⟩ := Kd.R_reads h.row
  injection e with e1 e2 e3
  subst e1
  exact hC
end
theorem note_M {w : World} {B : Nat} {ok : Nat → Prop} {x : NoteT} {v : Value} (h : kPut.R 38 w B ok v x.2.2.2) : kNote.M w B ok x [.int .i64 x.1, .int .i64 x.2.1, .bool x.2.2.1, v] :=
  ⟨[_], _, rfl, rfl, [_], _, rfl, rfl, [_], [_], rfl, rfl, ⟨v, rfl, h⟩⟩
theorem len_any (P : Nat → Prop) (w : World) (g : Nat) (A : Option Addr) (c : Nat) (ns : List NoteT) (h : Ch P 49 w g A c ns) :
    Calls Try.prog 25 #[.pointer (some ⟨g, 0, none⟩)] w fun e w' => e = .returned (.int .i64 ns.length) ∧ w = w' := by
  have hc := h.cell
  clear h
  go_enter Try.func25, Try.ntmps25
  go_wp2
  go_ret
  exact ⟨rfl, rfl⟩
theorem is_any (P : Nat → Prop) (w : World) (g : Nat) (A : Option Addr) (c : Nat) (ns : List NoteT) (i : Int) (h : Ch P 49 w g A c ns) :
    Calls Try.prog 30 #[.pointer (some ⟨g, 0, none⟩), .int .i64 i] w fun e w' => e = .returned (.bool (decide (0 ≤ i ∧ i < ns.length))) ∧ w = w' := by
  have H := Aside0.mk h
  clear h
  by_cases h0 : 0 ≤ i
  · have hd : decide (0 ≤ i) = true := by simpa using h0
    go_enter Try.func30, Try.ntmps30
    go_wp2_with fail
    refine (len_any P _ g A c ns H.out).mono ?_
    rintro e w' ⟨rfl, rfl⟩
    go_wp2
    go_ret
    refine ⟨?_, rfl⟩
    simp [h0]
  · have hd : decide (0 ≤ i) = false := by simpa using h0
    go_enter Try.func30, Try.ntmps30
    go_wp2
    go_ret
    exact ⟨rfl, rfl⟩
theorem send_end {P : Nat → Prop} {t : Nat} {w w3 w4 : World} {g : Nat} {A A4 : Option Addr} {c n c7 : Nat} {ns : List NoteT} {x : NoteT} (hb3 : Below w.heap.size w w3) (hgb : w4.heap[g]? = some (.cells #[.slice A ns.length c] t (0, 0))) (hb4 : Below (g + 1) w w4) (hg4 : w3.grownBy w4 (Value.slice A n c).ownBlock)
    (ho : kNote.R 31 w4 (g + 1) (fun k => P k ∨ w.heap.size ≤ k) (.slice A4 (ns ++ [x]).length c7) (ns ++ [x])) :
    (∃ A1 c1, Ch (fun k => P k ∨ w.heap.size ≤ k) t (w4.setCell ⟨g, 0, none⟩ (.slice A4 (ns.length + 1) c7)) g A1 c1 (ns ++ [x])) ∧ Kept w (w4.setCell ⟨g, 0, none⟩ (.slice A4 (ns.length + 1) c7)) (fun k => k = g ∨ some k = ob A) ∧ Below g w (w4.setCell ⟨g, 0, none⟩ (.slice A4 (ns.length + 1) c7)) := by
  have e : (ns ++ [x]).length = ns.length + 1 := by simp
  rw [e] at ho
  refine ⟨⟨A4, c7, ⟨by rw [e]; exact blk_put hgb 0 _ rfl, by rw [e]; exact R_setLow ho ⟨g, 0, none⟩ (Nat.lt_succ_self g) _⟩⟩, ?_, ?_⟩
  · have k3 : Kept w w3 (fun k => k = g ∨ some k = ob A) := Kept.of_below hb3 _
    have k4 : Kept w w4 (fun k => k = g ∨ some k = ob A) := Kept.of_grown hg4 k3 (fun k hk => .inl (.inr (by rw [← ob_eq A n c]; exact hk.symm)))
    exact k4.setCell (p := ⟨g, 0, none⟩) (.inl (.inl rfl)) _
  · exact (hb4.mono (Nat.le_succ g)).setCell (p := ⟨g, 0, none⟩) (Nat.le_refl g) _
theorem clone_lit (w : World) (A : Option Addr) (c : Nat) (x0 x1 : Int) (x2 : Bool) (xs : List PutT) (hr : kPut.C w A xs.length xs) (hl : xs.length * 64 ≤ 140737488355328) (hf : Fits xs) :
    Calls Try.prog 29 #[.agg #[.int .i64 x0, .int .i64 x1, .bool x2, .slice A xs.length c]] w fun e w' => ∃ A1 c1, e = .returned (.agg #[.int .i64 x0, .int .i64 x1, .bool x2, .slice A1 xs.length c1]) ∧ kPut.R 38 w' w.heap.size (fun _ => True) (.slice A1 xs.length c1) xs ∧ Below w.heap.size w w' :=
  clone_any w A c (x0, x1, x2, xs) hr hl hf
set_option maxHeartbeats 4000000 in
theorem send_some (P : Nat → Prop) (w : World) (g : Nat) (A A' : Option Addr) (c c' : Nat) (ns : List NoteT) (x : NoteT) (h : Ch P 49 w g A c ns) (hr : kPut.C w A' x.2.2.2.length x.2.2.2) (hl : x.2.2.2.length * 64 ≤ 140737488355328) (hf : Fits x.2.2.2) (hlen : ns.length < 1000) :
    Calls Try.prog 18 #[.pointer (some ⟨g, 0, none⟩), noteV x (.slice A' x.2.2.2.length c')] w fun e w' => e = .returned (.tuple #[]) ∧ (∃ A1 c1, Ch (fun k => P k ∨ w.heap.size ≤ k) 49 w' g A1 c1 (ns ++ [x])) ∧ Kept w w' (fun k => k = g ∨ some k = ob A) ∧ Below g w w' := by
  have hc := h.cell
  have hff := blk_frozen h.blk 0
  have hlt := h.lt
  have H := Aside0.mk h
  have HR := Aside0.mk hr
  have HL := Aside0.mk hl
  have HF := Aside0.mk hf
  clear h hr hl hf
  obtain ⟨x0, x1, x2, xs⟩ := x
  unfold noteV
  dsimp only at HR HL HF ⊢
  obtain ⟨n, hn⟩ : ∃ n, n = ns.length := ⟨_, rfl⟩
  have HN := Aside0.mk hn
  rw [← hn] at hc hlen
  have hlen' : (n : Int) < 1000 := by omega
  clear hn
  go_enter Try.func18, Try.ntmps18
  go_wp2_with fail
  refine with_world ?_
  intro W hW
  have hB : Below w.heap.size w W := by rw [hW]; exact (Below.refl _ _).alloc (Nat.le_refl _) _
  have hs : W.heap.size = w.heap.size + 1 := by rw [hW]; simp
  have b1 : W.heap[w.heap.size]? = some (.cells #[.int .i64 x0, .int .i64 x1, .bool x2, .slice A' xs.length c'] 31 (0, 0)) := by rw [hW]; exact blk_new _ _
  clear hW hc hff
  have HB := Aside0.mk hB
  have HS := Aside0.mk hs
  have HP : Aside0 (∀ w', Below W.heap.size W w' → w'.cell? ⟨g, 0, none⟩ = some (.slice A n c) ∧ w'.frozen? ⟨g, 0, none⟩ = false ∧ w'.cell? ⟨w.heap.size, 0, none⟩ = some (.int .i64 x0) ∧ w'.cell? ⟨w.heap.size, 1, none⟩ = some (.int .i64 x1) ∧ w'.cell? ⟨w.heap.size, 2, none⟩ = some (.bool x2) ∧ w'.cell? ⟨w.heap.size, 3, none⟩ = some (.slice A' xs.length c')) := ⟨fun w' hb => by
    have hag := (H.out.below hB).below hb
    rw [HN.out]
    exact ⟨hag.cell, blk_frozen hag.blk 0, box4 (blk_below b1 hb)⟩⟩
  obtain ⟨c0, c1, c2, c3, c4, c5⟩ := HP.out W (Below.refl _ _)
  obtain ⟨d0, d1, d2, d3, d4, d5⟩ := HP.out W.drew (Below.refl _ _).drew
  clear hB hs b1
  go_region_law (first | (go_simp; go_at_call 29; refine (clone_lit _ A' c' x0 x1 x2 xs (Kd.C_below HR.out (by first | exact HB.out | exact HB.out.drew)) HL.out HF.out).mono ?_; rintro e w3 ⟨A2, c6, rfl, hv, hb⟩; have hb' : Below W.heap.size W w3 := (by first | exact hb | exact (below_drew (Below.refl _ _)).trans hb); obtain ⟨q0, q1, q2, q3, q4, q5⟩ := HP.out w3 hb'; have q0a : ∀ o, (w3.alloc o).cell? ⟨g, 0, none⟩ = some (.slice A n c) := fun o => Lib.cell?_alloc_some o q0; have HV := Aside0.mk hv; have HB3 := Aside0.mk (HB.out.trans (hb'.mono HB.out.size)); have HV2 := Aside0.mk (note_M (x := (x0, x1, x2, xs)) (Kd.R_lower (base' := g + 1) (Kd.R_mono (ok' := fun k => w.heap.size ≤ k) (Kd.R_bound hv) (fun k hk => by have h9 : _ ≤ k := hk.2.1; have := HB.out.size; first | exact Nat.le_trans HB.out.size h9 | exact Nat.le_trans HB.out.drew.size h9)) (by first | (have := HB.out.size; omega) | (have := HB.out.drew.size; exact Nat.le_trans hlt this)))); clear hv hb hb') | (refine Kd.R_append_step kNote (w0 := w) (g + 1) (by simp [Region.wanted]) (.tmp 18) (.tmp 21) 22 31 (.agg #[.int .i64 0, .int .i64 0, .bool false, .slice none 0 0]) 48 rfl Try.underlying22 info31 rfl (by decide) (by omega) (.slice A n c) ns (x0, x1, x2, xs) [.int .i64 x0, .int .i64 x1, .bool x2, .slice A2 xs.length c6] (fun k => P k ∨ w.heap.size ≤ k) (fun k => w.heap.size ≤ k) rfl rfl HV2.out ?aK ?aF ?aO ?aB ?aS ?aL ?_; (case aK => exact fun k hk => ⟨.inr hk, fun e => by rw [ob_eq] at e; have := (H.out.ob k e).2.2; omega⟩); (case aF => exact fun k hk => .inr (Nat.le_trans HB3.out.size hk)); (case aO => rw [HN.out]; exact Kd.R_mono (Kd.R_below H.out.row HB3.out) (fun _ hk => .inl hk)); (case aB => exact HB3.out.mono hlt); (case aS => exact Nat.le_trans hlt HB3.out.size); (case aL => rw [← HN.out]; omega); intro v1 w4 ho hb4 hg4 hat; obtain ⟨A4, c7, rfl⟩ := Kd.R_slice ho; have hgb := blk_grown (H.out.below HB3.out).blk hg4 (fun e => by rw [ob_eq] at e; have := (H.out.ob g e).2.1; omega); have q6 := (blk_cell hgb 0).trans rfl; have q7 := blk_frozen hgb 0; have HO := Aside0.mk ho; have HG := Aside0.mk (And.intro hgb (And.intro hb4 hg4)); clear ho hb4 hg4 hat hgb))
  all_goals go_end0
  all_goals exact ⟨rfl, send_end HB3.out HG.out.1 HG.out.2.1 HG.out.2.2 HO.out⟩
theorem copynote_lit (w : World) (A : Option Addr) (c : Nat) (x0 x1 : Int) (x2 : Bool) (xs : List PutT) (hr : kPut.C w A xs.length xs) (hl : xs.length * 64 ≤ 140737488355328) (hf : Fits xs) :
    Calls Try.prog 10 #[.agg #[.int .i64 x0, .int .i64 x1, .bool x2, .slice A xs.length c]] w fun e w' => ∃ A1 c1, e = .returned (.agg #[.int .i64 x0, .int .i64 x1, .bool x2, .slice A1 xs.length c1]) ∧ kPut.R 38 w' w.heap.size (fun _ => True) (.slice A1 xs.length c1) xs ∧ Below w.heap.size w w' :=
  copynote_any w A c (x0, x1, x2, xs) hr hl hf
set_option maxHeartbeats 4000000 in
theorem rsend_some (P : Nat → Prop) (w : World) (g : Nat) (A A' : Option Addr) (c c' : Nat) (ns : List NoteT) (x : NoteT) (h : Ch P 52 w g A c ns) (hr : kPut.C w A' x.2.2.2.length x.2.2.2) (hl : x.2.2.2.length * 64 ≤ 140737488355328) (hf : Fits x.2.2.2) (hlen : ns.length < 1000) :
    Calls Try.prog 19 #[.pointer (some ⟨g, 0, none⟩), noteV x (.slice A' x.2.2.2.length c')] w fun e w' => e = .returned (.tuple #[]) ∧ (∃ A1 c1, Ch (fun k => P k ∨ w.heap.size ≤ k) 52 w' g A1 c1 (ns ++ [x])) ∧ Kept w w' (fun k => k = g ∨ some k = ob A) ∧ Below g w w' := by
  have hc := h.cell
  have hff := blk_frozen h.blk 0
  have hlt := h.lt
  have H := Aside0.mk h
  have HR := Aside0.mk hr
  have HL := Aside0.mk hl
  have HF := Aside0.mk hf
  clear h hr hl hf
  obtain ⟨x0, x1, x2, xs⟩ := x
  unfold noteV
  dsimp only at HR HL HF ⊢
  obtain ⟨n, hn⟩ : ∃ n, n = ns.length := ⟨_, rfl⟩
  have HN := Aside0.mk hn
  rw [← hn] at hc hlen
  have hlen' : (n : Int) < 1000 := by omega
  clear hn
  go_enter Try.func19, Try.ntmps19
  go_wp2_with fail
  refine with_world ?_
  intro W hW
  have hB : Below w.heap.size w W := by rw [hW]; exact (Below.refl _ _).alloc (Nat.le_refl _) _
  have hs : W.heap.size = w.heap.size + 1 := by rw [hW]; simp
  have b1 : W.heap[w.heap.size]? = some (.cells #[.int .i64 x0, .int .i64 x1, .bool x2, .slice A' xs.length c'] 31 (0, 0)) := by rw [hW]; exact blk_new _ _
  clear hW hc hff
  have HB := Aside0.mk hB
  have HS := Aside0.mk hs
  have HP : Aside0 (∀ w', Below W.heap.size W w' → w'.cell? ⟨g, 0, none⟩ = some (.slice A n c) ∧ w'.frozen? ⟨g, 0, none⟩ = false ∧ w'.cell? ⟨w.heap.size, 0, none⟩ = some (.int .i64 x0) ∧ w'.cell? ⟨w.heap.size, 1, none⟩ = some (.int .i64 x1) ∧ w'.cell? ⟨w.heap.size, 2, none⟩ = some (.bool x2) ∧ w'.cell? ⟨w.heap.size, 3, none⟩ = some (.slice A' xs.length c')) := ⟨fun w' hb => by
    have hag := (H.out.below hB).below hb
    rw [HN.out]
    exact ⟨hag.cell, blk_frozen hag.blk 0, box4 (blk_below b1 hb)⟩⟩
  obtain ⟨c0, c1, c2, c3, c4, c5⟩ := HP.out W (Below.refl _ _)
  obtain ⟨d0, d1, d2, d3, d4, d5⟩ := HP.out W.drew (Below.refl _ _).drew
  clear hB hs b1
  go_region_law (first | (go_simp; go_at_call 10; refine (copynote_lit _ A' c' x0 x1 x2 xs (Kd.C_below HR.out (by first | exact HB.out | exact HB.out.drew)) HL.out HF.out).mono ?_; rintro e w3 ⟨A2, c6, rfl, hv, hb⟩; have hb' : Below W.heap.size W w3 := (by first | exact hb | exact (below_drew (Below.refl _ _)).trans hb); obtain ⟨q0, q1, q2, q3, q4, q5⟩ := HP.out w3 hb'; have q0a : ∀ o, (w3.alloc o).cell? ⟨g, 0, none⟩ = some (.slice A n c) := fun o => Lib.cell?_alloc_some o q0; have HV := Aside0.mk hv; have HB3 := Aside0.mk (HB.out.trans (hb'.mono HB.out.size)); have HV2 := Aside0.mk (note_M (x := (x0, x1, x2, xs)) (Kd.R_lower (base' := g + 1) (Kd.R_mono (ok' := fun k => w.heap.size ≤ k) (Kd.R_bound hv) (fun k hk => by have h9 : _ ≤ k := hk.2.1; have := HB.out.size; first | exact Nat.le_trans HB.out.size h9 | exact Nat.le_trans HB.out.drew.size h9)) (by first | (have := HB.out.size; omega) | (have := HB.out.drew.size; exact Nat.le_trans hlt this)))); clear hv hb hb') | (refine Kd.R_append_step kNote (w0 := w) (g + 1) (by simp [Region.wanted]) (.tmp 14) (.tmp 17) 22 31 (.agg #[.int .i64 0, .int .i64 0, .bool false, .slice none 0 0]) 48 rfl Try.underlying22 info31 rfl (by decide) (by omega) (.slice A n c) ns (x0, x1, x2, xs) [.int .i64 x0, .int .i64 x1, .bool x2, .slice A2 xs.length c6] (fun k => P k ∨ w.heap.size ≤ k) (fun k => w.heap.size ≤ k) rfl rfl HV2.out ?aK ?aF ?aO ?aB ?aS ?aL ?_; (case aK => exact fun k hk => ⟨.inr hk, fun e => by rw [ob_eq] at e; have := (H.out.ob k e).2.2; omega⟩); (case aF => exact fun k hk => .inr (Nat.le_trans HB3.out.size hk)); (case aO => rw [HN.out]; exact Kd.R_mono (Kd.R_below H.out.row HB3.out) (fun _ hk => .inl hk)); (case aB => exact HB3.out.mono hlt); (case aS => exact Nat.le_trans hlt HB3.out.size); (case aL => rw [← HN.out]; omega); intro v1 w4 ho hb4 hg4 hat; obtain ⟨A4, c7, rfl⟩ := Kd.R_slice ho; have hgb := blk_grown (H.out.below HB3.out).blk hg4 (fun e => by rw [ob_eq] at e; have := (H.out.ob g e).2.1; omega); have q6 := (blk_cell hgb 0).trans rfl; have q7 := blk_frozen hgb 0; have HO := Aside0.mk ho; have HG := Aside0.mk (And.intro hgb (And.intro hb4 hg4)); clear ho hb4 hg4 hat hgb))
  all_goals go_end0
  all_goals exact ⟨rfl, send_end HB3.out HG.out.1 HG.out.2.1 HG.out.2.2 HO.out⟩
theorem send_full (P : Nat → Prop) (w : World) (g : Nat) (A A' : Option Addr) (c n c' : Nat) (ns : List NoteT) (x0 x1 : Int) (x2 : Bool) (h : Ch P 49 w g A c ns) (hlen : ¬ ns.length < 1000) :
    Calls Try.prog 18 #[.pointer (some ⟨g, 0, none⟩), .agg #[.int .i64 x0, .int .i64 x1, .bool x2, .slice A' n c']] w fun e w' => e = .returned (.tuple #[]) ∧ Below w.heap.size w w' := by
  have hc := h.cell
  have hlt := h.lt
  have hlen' : ¬ (ns.length : Int) < 1000 := by omega
  clear h
  go_enter Try.func18, Try.ntmps18
  go_wp2
  go_end0
  exact ⟨rfl, (Below.refl _ _).alloc (Nat.le_refl _) _⟩
theorem rsend_full (P : Nat → Prop) (w : World) (g : Nat) (A A' : Option Addr) (c n c' : Nat) (ns : List NoteT) (x0 x1 : Int) (x2 : Bool) (h : Ch P 52 w g A c ns) (hlen : ¬ ns.length < 1000) :
    Calls Try.prog 19 #[.pointer (some ⟨g, 0, none⟩), .agg #[.int .i64 x0, .int .i64 x1, .bool x2, .slice A' n c']] w fun e w' => e = .returned (.tuple #[]) ∧ Below w.heap.size w w' := by
  have hc := h.cell
  have hlt := h.lt
  have hlen' : ¬ (ns.length : Int) < 1000 := by omega
  clear h
  go_enter Try.func19, Try.ntmps19
  go_wp2
  go_end0
  exact ⟨rfl, (Below.refl _ _).alloc (Nat.le_refl _) _⟩
end Go.Proofs.Ytfohlaeahageaaa.Edge
