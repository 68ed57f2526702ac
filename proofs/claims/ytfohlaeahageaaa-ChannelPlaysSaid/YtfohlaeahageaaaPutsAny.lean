/- The walk of channel.Puts. -/
import Derived.Test.YtfohlaeahageaaaPuts
import Derived.Test.YtfohlaeahageaaaWApart
namespace Go.Proofs.Ytfohlaeahageaaa.Edge
open Go.RowKit Go.Proofs.YtfohlaeahageaaaW.PrintWords Go.Proofs.YtfohlaeahageaaaW.PrintMore Go.Proofs.YtfohlaeahageaaaW.PrintLast

theorem put_M {w : World} {B : Nat} {ok : Nat → Prop} {x : PutT} {v : Value} (h : kSeg.R 68 w B ok v x.2.2.2.1) : kPut.M w B ok x [.string x.1, .int .i64 x.2.1, .int .i64 x.2.2.1, v, .bool x.2.2.2.2] :=
  ⟨[_], _, rfl, rfl, [_], _, rfl, rfl, [_], _, rfl, rfl, [_], [_], rfl, ⟨v, rfl, h⟩, rfl⟩
theorem put_K {w : World} {x : PutT} {cs : List Value} (h : kPut.K w x cs) : ∃ A c, cs = [.string x.1, .int .i64 x.2.1, .int .i64 x.2.2.1, .slice A x.2.2.2.1.length c, .bool x.2.2.2.2] ∧ x.2.2.2.1.length ≤ c ∧ kSeg.C w A x.2.2.2.1.length x.2.2.2.1 := by
  obtain ⟨c0, _, rfl, e0, c1, _, rfl, e1, c2, _, rfl, e2, c3, c4, rfl, ⟨A, c, e3, hl, hC⟩, e4⟩ := h
  have e0' : c0 = [.string x.1] := e0
  have e1' : c1 = [.int .i64 x.2.1] := e1
  have e2' : c2 = [.int .i64 x.2.2.1] := e2
  have e4' : c4 = [.bool x.2.2.2.2] := e4
  subst e0' e1' e2' e3 e4'
  exact ⟨A, c, rfl, hl, hC⟩
theorem put_C {w : World} {x : PutT} {A : Option Addr} {c : Nat} (hl : x.2.2.2.1.length ≤ c) (h : kSeg.C w A x.2.2.2.1.length x.2.2.2.1) : kPut.K w x [.string x.1, .int .i64 x.2.1, .int .i64 x.2.2.1, .slice A x.2.2.2.1.length c, .bool x.2.2.2.2] :=
  ⟨[_], _, rfl, rfl, [_], _, rfl, rfl, [_], _, rfl, rfl, [_], [_], rfl, ⟨A, c, rfl, hl, h⟩, rfl⟩
theorem R_pos {α : Type} {d : Kd α} {e B n c : Nat} {ok : Nat → Prop} {w : World} {A : Option Addr} {xs : List α} (h : d.R e w B ok (.slice A n c) xs) (h0 : 0 < xs.length) : ∃ b, A = some ⟨b, 0, none⟩ := by
  obtain ⟨ad, rfl, _⟩ := (Kd.R_reads' h).2.2.2.2 (by have := (Kd.R_reads' h).1; omega)
  obtain ⟨b, rfl⟩ := Kd.R_head h
  exact ⟨b, rfl⟩
/-- The lists' lengths fit. -/
def Fits (xs : List PutT) : Prop := ∀ x, x ∈ xs → x.2.2.2.1.length * 16 ≤ 140737488355328
/-- A put of the half-way row. -/
theorem two_at {w0 w : World} {B gb c : Nat} {l : List PutT} {k : Nat} (h : (kTwo w0).R 38 w B (fun _ => True) (.slice (some ⟨gb, 0, none⟩) l.length c) (tagK l k)) (hk : k < l.length) :
    ∃ A m, w.cell? ⟨gb, k * 5 + 3, none⟩ = some (.slice A l[k].2.2.2.1.length m) ∧ kSeg.C w0 A l[k].2.2.2.1.length l[k].2.2.2.1 ∧ w.frozen? ⟨gb, k * 5 + 3, none⟩ = false := by
  obtain ⟨cs, hl, hM, hc⟩ := Kd.R_getA h (l[k], false) (k : Int) (by omega) (by omega)
  rw [Int.toNat_natCast, tagK_at l k hk] at hM
  have hK : kPut.K w0 l[k] cs := hM
  obtain ⟨A, m, e, _, hC⟩ := put_K hK
  obtain ⟨cells, hb⟩ := Kd.R_typed h gb rfl
  subst e
  have h3 := hc 3 _ rfl
  rw [add_plain] at h3
  exact ⟨A, m, h3, hC, blk_frozen hb _⟩
/-- Its list has been made anew. -/
theorem two_set {w0 w w1 : World} {B gb c : Nat} {l : List PutT} {k : Nat} {v : Value} (h : (kTwo w0).R 38 w B (fun _ => True) (.slice (some ⟨gb, 0, none⟩) l.length c) (tagK l k)) (hk : k < l.length) (hb : Below w.heap.size w w1) (hB : B ≤ w.heap.size) (hv : kSeg.R 68 w1 w.heap.size (fun _ => True) v l[k].2.2.2.1) :
    (kTwo w0).R 38 (w1.setCell ⟨gb, k * 5 + 3, none⟩ v) B (fun _ => True) (.slice (some ⟨gb, 0, none⟩) l.length c) (tagK l (k + 1)) := by
  have hlt : gb < w.heap.size := by
    obtain ⟨cells, hc⟩ := Kd.R_typed h gb rfl
    exact blk_lt hc
  have h1 := Kd.R_below h hb
  obtain ⟨cs, hl, hM, hc⟩ := Kd.R_getA h1 (l[k], false) (k : Int) (by omega) (by omega)
  rw [Int.toNat_natCast, tagK_at l k hk] at hM
  have hK : kPut.K w0 l[k] cs := hM
  obtain ⟨A, m, e, _, hC⟩ := put_K hK
  have hR := (Kd.R_seg h1 (k : Int) (by omega) (by omega) (c := cs) (seg := [v]) (j := 3) hl
    (fun j u hj => by have := hc j u hj; rw [add_plain] at this; exact this) (by show 3 + 1 ≤ 5; decide) (x' := (l[k], true)) (okp := fun j => w.heap.size ≤ j)
    (by
      subst e
      exact put_M (Kd.R_lower (Kd.R_mono (Kd.R_bound hv) (fun j hj => hj.2.1)) hB)) (fun j hj => ⟨trivial, by have : w.heap.size ≤ j := hj; omega⟩)).1
  rw [Int.toNat_natCast, tagK_set l k hk] at hR
  exact hR
set_option maxHeartbeats 2000000 in
theorem puts_any (w : World) (A : Option Addr) (n c : Nat) (xs : List PutT) (hr : kPut.C w A n xs) (hl : n * 64 ≤ 140737488355328) (hf : Fits xs) :
    Calls Try.prog 27 #[.slice A n c] w fun e w' => ∃ v, e = .returned v ∧ kPut.R 38 w' w.heap.size (fun _ => True) v xs ∧ Below w.heap.size w w' := by
  have hxn : xs.length = n := hr.1
  subst hxn
  have HR := Aside0.mk hr
  have HL := Aside0.mk hl
  have HF := Aside0.mk hf
  clear hr hl hf
  go_enter Try.func27, Try.ntmps27
  go_wp2_with fail
  refine (clone_puts w A xs.length c xs HR.out HL.out).mono ?_
  rintro e w' ⟨A1, c1, rfl, h0, hb⟩
  have H0 := Aside0.mk (show (kTwo w).R 38 w' w.heap.size (fun _ => True) (.slice A1 xs.length c1) (tagK xs 0) by rw [tagK_zero]; exact h0)
  have HB := Aside0.mk hb
  clear h0 hb
  go_wp2
  obtain ⟨n, hn⟩ : ∃ n, n = xs.length := ⟨_, rfl⟩
  rw [← hn]
  have HN := Aside0.mk hn
  clear hn
  go_loopg [8] (n + 1) (fun kq v8 w' => ∃ (k : Nat), v8 = .int .i64 (k : Int) ∧ Aside0 ((kTwo w).R 38 w' w.heap.size (fun _ => True) (.slice A1 xs.length c1) (tagK xs k)) ∧ Aside0 (Below w.heap.size w w') ∧ Aside0 (k ≤ n) ∧ Aside0 (n < kq + k))
  case atStart => exact ⟨0, rfl, H0, HB, ⟨by omega⟩, ⟨by omega⟩⟩
  case round =>
    obtain ⟨k, rfl, hR, hB, hkn, hkq⟩ := hrel
    by_cases h : k < n
    · have hb1 : (k : Int) < (n : Int) := by omega
      have hnb : (n : Int) ≤ 2199023255552 := by have := HL.out; have := HN.out; omega
      have hr := hR.out
      have hxl := HN.out
      obtain ⟨gb, rfl⟩ := R_pos hr (by rw [tagK_len]; omega)
      have hk : k < xs.length := by omega
      obtain ⟨A2, m, hc2, hC, hfz⟩ := two_at hr hk
      obtain ⟨ls, hls⟩ : ∃ ls, ls = xs[k].2.2.2.1 := ⟨_, rfl⟩
      have hfl : ls.length * 16 ≤ 140737488355328 := by rw [hls]; exact HF.out _ (List.getElem_mem hk)
      rw [← hls] at hc2 hC
      have HC := Aside0.mk (Kd.C_below hC hB.out)
      have HK := Aside0.mk hk
      have HFL := Aside0.mk hfl
      have HLS := Aside0.mk hls
      clear hC hfl hls hr hxl
      go_wp2_with fail
      refine (clone_segs _ A2 _ m ls HC.out HFL.out).mono ?_
      rintro e w2 ⟨v2, rfl, hv2, hb2⟩
      obtain ⟨A3, c3, rfl⟩ := Kd.R_slice hv2
      have hfz2 : w2.frozen? ⟨gb, k * 5 + 3, none⟩ = false := by rw [hb2.frozen (World.block_lt_of_cell? _ _ hc2)]; exact hfz
      have hc22 := pw_cell_below hb2 hc2
      have hle : w.heap.size ≤ wr.heap.size := hB.out.size
      have HS := Aside0.mk (two_set hR.out HK.out hb2 hle (by rw [← HLS.out]; exact hv2))
      have HB2 := Aside0.mk ((hB.out.trans (hb2.mono hle)).setCell (Kd.R_base hR.out gb rfl) (p := ⟨gb, k * 5 + 3, none⟩) (.slice A3 ls.length c3))
      clear hv2 hb2 hle hc2 hfz
      go_wp2
      obtain ⟨mk, hmk⟩ : ∃ mk, gk = mk + 1 := ⟨gk - 1, by have := hkq.out; omega⟩
      go_roundg mk
      case measure => omega
      case rel => exact ⟨k + 1, by go_num, HS, HB2, ⟨by omega⟩, ⟨by have := hkq.out; omega⟩⟩
    · have hb1 : ¬ (k : Int) < (n : Int) := by omega
      go_wp2
      go_ret
      have e : k = xs.length := by have := hkn.out; have := HN.out; omega
      subst e
      rw [HN.out]
      exact ⟨_, rfl, all_own hR.out, hB.out⟩
end Go.Proofs.Ytfohlaeahageaaa.Edge
