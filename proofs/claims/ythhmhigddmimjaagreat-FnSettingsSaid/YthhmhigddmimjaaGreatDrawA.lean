import Derived.Test.YthhmhigddmimjaaGreatCore
import Derived.Test.YthhmhigddmimjaaGreatText
import Derived.BigRegion
import Derived.Laws.BytesArg
import Derived.Deep.AppendLies
import Derived.Test.YthhmhigddmimjaaGreatClone
import Derived.Deep.Upon
import Derived.Test.YthhmhigddmimjaaGreatFlowD
/-
  Draws: the source of numbers.
-/
namespace Go.Proofs.YthhmhigddmimjaaGreat
open Go.ChangeShapes Go.WideShapes Go.ChangeAt Go.RowKit

def byts (bs : List UInt8) : List Value := bs.map fun b => .int .u8 (b.toNat : Int)
theorem byts_length (bs : List UInt8) : (byts bs).length = bs.length := by simp [byts]
theorem Sl.byt {w : World} {A : Option Addr} {n k : Nat} {bs : List UInt8} {x : UInt8} (h : Sl w 1 A n (byts bs)) (hk : bs[k]? = some x) :
    ∃ b o, A = some ⟨b, o, none⟩ ∧ b < w.heap.size ∧ w.cell? ⟨b, o + k, none⟩ = some (.int .u8 (x.toNat : Int)) := by
  have hkl : k < bs.length := (List.getElem?_eq_some_iff.1 hk).1
  have h1 := h.1
  rw [byts_length] at h1
  obtain ⟨b, o, e, hb, hr⟩ := h.2 (by omega)
  exact ⟨b, o, e, hb, hr k _ (by simp [byts, hk])⟩
theorem Sl.blen {w : World} {A : Option Addr} {n : Nat} {bs : List UInt8} (h : Sl w 1 A n (byts bs)) : bs.length = n := by
  have h1 := h.1; rw [byts_length] at h1; omega
/-- The block of a source. -/
def SrcBlk (w : World) (S : Nat) (C : Value) (a d : Int) : Prop := w.heap[S]? = some (.cells #[C, .int .i64 a, .int .i64 d] 115 (0, 0))
theorem SrcBlk.lt {w : World} {S : Nat} {C : Value} {a d : Int} (h : SrcBlk w S C a d) : S < w.heap.size := (Array.getElem?_eq_some_iff.1 h).1
theorem SrcBlk.k0 {w : World} {S : Nat} {C : Value} {a d : Int} (h : SrcBlk w S C a d) : w.cell? ⟨S, 0, none⟩ = some C := by rw [cell_of_row w S 0 _ _ _ h]; rfl
theorem SrcBlk.k1 {w : World} {S : Nat} {C : Value} {a d : Int} (h : SrcBlk w S C a d) : w.cell? ⟨S, 1, none⟩ = some (.int .i64 a) := by rw [cell_of_row w S 1 _ _ _ h]; rfl
theorem SrcBlk.k2 {w : World} {S : Nat} {C : Value} {a d : Int} (h : SrcBlk w S C a d) : w.cell? ⟨S, 2, none⟩ = some (.int .i64 d) := by rw [cell_of_row w S 2 _ _ _ h]; rfl
theorem SrcBlk.fr {w : World} {S : Nat} {C : Value} {a d : Int} (h : SrcBlk w S C a d) (j : Nat) : w.frozen? ⟨S, j, none⟩ = false := by
  unfold SrcBlk at h
  simp [World.frozen?, h]
theorem SrcBlk.gr {w w' : World} {S : Nat} {C : Value} {a d : Int} (h : SrcBlk w S C a d) (g : Gr w w') : SrcBlk w' S C a d := (g.below.block S h.lt).trans h
theorem SrcBlk.put1 {w : World} {S : Nat} {C : Value} {a d : Int} (h : SrcBlk w S C a d) (a' : Int) : SrcBlk (w.setCell ⟨S, 1, none⟩ (.int .i64 a')) S C a' d := by
  unfold SrcBlk at h ⊢
  simp [World.setCell, Array.getElem?_modify, h]
theorem SrcBlk.put2 {w : World} {S : Nat} {C : Value} {a d : Int} (h : SrcBlk w S C a d) (d' : Int) : SrcBlk (w.setCell ⟨S, 2, none⟩ (.int .i64 d')) S C a d' := by
  unfold SrcBlk at h ⊢
  simp [World.setCell, Array.getElem?_modify, h]
theorem chg_put {w : World} {S : Nat} (j : Nat) (v : Value) : Chg (fun k => k = S) w (w.setCell ⟨S, j, none⟩ v) :=
  ⟨rfl, rfl, rfl, by simp, fun k _ hne => by
    have : ¬ S = k := fun e => hne e.symm
    simp [World.setCell, Array.getElem?_modify, this]⟩
theorem chg_cell' {S : Nat → Prop} {w w' : World} {p : Addr} {v : Value} (h : Chg S w w') (hc : w.cell? p = some v) (hn : ¬ S p.block) : w'.cell? p = some v := by
  exact (World.cell?_of_block (h.block p.block (lt_of_cell hc) hn)).trans hc
/-- A source stands at S; nothing of w0 has turned. -/
structure Drw (w0 w : World) (S : Nat) : Prop where
  gr : Gr w0 w
  base : w0.heap.size ≤ S
  blk : ∃ A m c bs, ∃ a d : Int, SlAt w0 1 A m c (byts bs) ∧ SrcBlk w S (.slice A m c) a d ∧ (0 ≤ a ∧ a ≤ m) ∧ 0 ≤ d ∧ d ≤ 2147483646
theorem Drw.grow {w0 w w' : World} {S : Nat} (h : Drw w0 w S) (g : Gr w w') : Drw w0 w' S := by
  obtain ⟨A, m, c, bs, a, d, h1, h2, h3, h4⟩ := h.blk
  exact ⟨h.gr.trans g, h.base, A, m, c, bs, a, d, h1, h2.gr g, h3, h4⟩
theorem Drw.lt {w0 w : World} {S : Nat} (h : Drw w0 w S) : S < w.heap.size := by
  obtain ⟨A, m, c, bs, a, d, h1, h2, h3, h4⟩ := h.blk
  exact h2.lt
theorem tmod_bnd {x y : Int} (hx : 0 ≤ x) (hy : 0 < y) : 0 ≤ x.tmod y ∧ x.tmod y < y := by
  rw [Int.tmod_eq_emod_of_nonneg hx]
  exact ⟨Int.emod_nonneg _ (Int.ne_of_gt hy), Int.emod_lt_of_pos _ hy⟩
/-- A number from 0 to n - 1, and 0 if n is 1 or less. -/
def Upto (n x : Int) : Prop := 0 ≤ x ∧ (1 < n → x < n) ∧ (n ≤ 1 → x = 0)
theorem emod_bnd (x : Int) {y : Int} (hy : 0 < y) : 0 ≤ x % y ∧ x % y < y := ⟨Int.emod_nonneg _ (Int.ne_of_gt hy), Int.emod_lt_of_pos _ hy⟩
set_option maxHeartbeats 1600000 in
theorem l01Next_any {w0 w : World} {S : Nat} (n : Int) (h : Drw w0 w S) (hn : n ≤ 1000000000) :
    Calls Tryz.prog 102 #[.pointer (some ⟨S, 0, none⟩), .int .i64 n] w fun e w' => ∃ x : Int, e = .returned (.int .i64 x) ∧ Upto n x ∧ Drw w0 w' S ∧ Chg (fun k => k = S) w w' := by
  by_cases h1 : n ≤ 1
  · have H := Lib.hid h
    clear h
    go_enter Tryz.func102, Tryz.ntmps102
    go_wp2_with fail
    go_ret
    exact ⟨0, rfl, ⟨by omega, by omega, fun _ => rfl⟩, H.out, Chg.refl _ _⟩
  · obtain ⟨gr, base, A, m, c, bs, a, d, hC, hB, ha, hd⟩ := h
    have hm := hC.small
    obtain ⟨e, he⟩ : ∃ e, e = (d * 48271 + 7).tmod 2147483647 := ⟨_, rfl⟩
    have heb : 0 ≤ e ∧ e ≤ 2147483646 := by
      have := tmod_bnd (x := d * 48271 + 7) (y := 2147483647) (by omega) (by omega)
      omega
    obtain ⟨q, hq⟩ : ∃ q, q = e.tdiv 19 := ⟨_, rfl⟩
    have hqb : 0 ≤ q ∧ q ≤ 2147483646 := by rw [hq, Int.tdiv_eq_ediv_of_nonneg heb.1]; omega
    have k2 := hB.k2
    have f2 := hB.fr 2
    have HB := Lib.hid hB
    have HC := Lib.hid hC
    have Hgr := Lib.hid gr
    have he' := he.symm
    have hq' := hq.symm
    clear hB hC gr he hq
    go_enter Tryz.func102, Tryz.ntmps102
    go_wp2_with fail
    generalize hw1 : World.setCell w _ _ = w1
    have hB1 : SrcBlk w1 S (.slice A m c) a e := by rw [← hw1]; exact HB.out.put2 e
    have hc1 : Chg (fun k => k = S) w w1 := by rw [← hw1]; exact chg_put _ _
    have hg1 : Gr w0 w1 := Hgr.out.of_chg hc1 (fun k hk => by omega)
    clear hw1 k2 f2 HB
    have r0 := hB1.k0
    have r1 := hB1.k1
    go_quiet (fail)
    generalize hw2 : World.drewN w1 _ = w2
    have hx12 : Gr w1 w2 := by rw [← hw2]; exact (Gr.refl _).drewN _
    have hB2 := hB1.gr hx12
    have hc2 : Chg (fun k => k = S) w w2 := hc1.trans (hx12.chg _)
    have hg2 := hg1.trans hx12
    clear hw2 hx12 hB1 hc1 hg1 r0 r1
    by_cases hlt : a < m
    · obtain ⟨v, hv⟩ : ∃ v, bs[a.toNat]? = some v := ⟨_, List.getElem?_eq_getElem (by rw [HC.out.sl.blen]; omega)⟩
      obtain ⟨b, o, rfl, hb, x0⟩ := HC.out.sl.byt hv
      replace x0 := hg2.has x0
      have hvb : (v.toNat : Int) ≤ 255 := by have := v.toNat_lt; omega
      have hv0 : 0 ≤ (v.toNat : Int) := by omega
      generalize (v.toNat : Int) = y at x0 hvb hv0
      obtain ⟨a', rfl⟩ : ∃ a' : Nat, a = (a' : Int) := ⟨a.toNat, by omega⟩
      rw [Int.toNat_natCast] at x0
      have r0 := hB2.k0
      have r1 := hB2.k1
      clear hv
      go_wp2_with fail
      go_quiet (fail)
      generalize hw3 : World.drewN w2 _ = w3
      have hx23 : Gr w2 w3 := by rw [← hw3]; exact (Gr.refl _).drewN _
      have hB3 := hB2.gr hx23
      have hc3 : Chg (fun k => k = S) w w3 := hc2.trans (hx23.chg _)
      have hg3 := hg2.trans hx23
      replace x0 := hx23.has x0
      have q1 := hB3.k1
      have f1 := hB3.fr 1
      have hB4 := hB3.put1 ((a' : Int) + 1)
      have hc4 := hc3.trans (chg_put (w := w3) (S := S) 1 (.int .i64 ((a' : Int) + 1)))
      have hg4 := hg3.of_chg (chg_put (w := w3) (S := S) 1 (.int .i64 ((a' : Int) + 1))) (fun k hk => by omega)
      have hx4 := chg_cell' (chg_put (w := w3) (S := S) 1 (.int .i64 ((a' : Int) + 1))) x0 (by simp only; have := HC.out.sl; omega)
      have HB4 := Lib.hid hB4
      have Hc4 := Lib.hid hc4
      have Hg4 := Lib.hid hg4
      have Hx4 := Lib.hid hx4
      clear hw3 hx23 hB3 hc3 hg3 r0 r1 hB2 hc2 hg2 x0 hB4 hc4 hg4 hx4
      by_cases hn256 : n ≤ 256
      · obtain ⟨z, hz⟩ : ∃ z, z = ((a' : Int) + 1).tmod 2 := ⟨_, rfl⟩
        have hz' := hz.symm
        clear hz
        by_cases hz0 : z = 0
        · subst hz0
          go_wp2_with fail
          generalize hw4 : World.setCell w3 _ _ = w4
          have hB4 : SrcBlk w4 S (.slice (some ⟨b, o, none⟩) m c) ((a' : Int) + 1) e := by rw [← hw4]; exact HB4.out
          have hx4 : w4.cell? ⟨b, o + a', none⟩ = some (.int .u8 y) := by rw [← hw4]; exact Hx4.out
          have hc4 : Chg (fun k => k = S) w w4 := by rw [← hw4]; exact Hc4.out
          have hg4 : Gr w0 w4 := by rw [← hw4]; exact Hg4.out
          have r0 := hB4.k0
          have r1 := hB4.k1
          clear hw4 HB4 Hx4 Hc4 Hg4 q1 f1
          go_quiet (fail)
          go_wp2_with fail
          go_ret
          obtain ⟨t1, t2⟩ := emod_bnd (y) (y := n) (by omega)
          exact ⟨_, rfl, ⟨t1, fun _ => t2, fun h => by omega⟩, ⟨hg4.drewN _, base, _, _, _, _, _, _, HC.out, hB4.gr ((Gr.refl _).drewN _), ⟨by omega, by omega⟩, by omega, by omega⟩, hc4.trans (((Gr.refl _).drewN _).chg _)⟩
        · have hzb : (z == 0) = false := by simp [hz0]
          go_wp2_with fail
          go_ret
          obtain ⟨t1, t2⟩ := emod_bnd (q + y) (y := n) (by omega)
          exact ⟨_, rfl, ⟨t1, fun _ => t2, fun h => by omega⟩, ⟨Hg4.out, base, _, _, _, _, _, _, HC.out, HB4.out, ⟨by omega, by omega⟩, by omega, by omega⟩, Hc4.out⟩
      · have tn : decide (n ≤ 256) = false := by simp; omega
        go_wp2_with fail
        go_ret
        obtain ⟨t1, t2⟩ := emod_bnd (q + y) (y := n) (by omega)
        exact ⟨_, rfl, ⟨t1, fun _ => t2, fun h => by omega⟩, ⟨Hg4.out, base, _, _, _, _, _, _, HC.out, HB4.out, ⟨by omega, by omega⟩, by omega, by omega⟩, Hc4.out⟩
    · go_wp2_with fail
      go_ret
      obtain ⟨t1, t2⟩ := emod_bnd (q) (y := n) (by omega)
      exact ⟨_, rfl, ⟨t1, fun _ => t2, fun h => by omega⟩, ⟨hg2, base, _, _, _, _, _, _, HC.out, hB2, ⟨by omega, by omega⟩, by omega, by omega⟩, hc2⟩
theorem l01From_any {A : Option Addr} {m c : Nat} (bs : List UInt8) (w : World) (hC : SlAt w 1 A m c (byts bs)) :
    Calls Tryz.prog 68 #[.slice A m c] w fun e w' => ∃ S, e = .returned (.pointer (some ⟨S, 0, none⟩)) ∧ w.heap.size ≤ S ∧ Drw w w' S := by
  have HC := Lib.hid hC
  have hm := hC.small
  clear hC
  go_enter Tryz.func68, Tryz.ntmps68
  go_wp2_with fail
  generalize hw0 : World.alloc w _ = w0
  have hB0 : SrcBlk w0 w.heap.size (.slice A m c) 0 50311 := by rw [← hw0]; exact heap_alloc_new w _
  have hg0 : Gr w w0 := by rw [← hw0]; exact (Gr.refl _).alloc _
  obtain ⟨S, hS⟩ : ∃ S, S = w.heap.size := ⟨_, rfl⟩
  rw [← hS] at hB0 ⊢
  have hSb : w.heap.size ≤ S := by omega
  have HB0 := Lib.hid hB0
  clear hw0 hB0 hS
  go_loopw [4] (fun i wr => ∃ k : Nat, k ≤ m ∧ i = .int .i64 k ∧ (∃ d : Int, SrcBlk wr S (.slice A m c) 0 d ∧ 0 ≤ d ∧ d ≤ 2147483646) ∧ Gr w wr) (fun i _ => m - (intOf i).toNat)
  case atStart => exact ⟨0, Nat.zero_le _, rfl, ⟨_, HB0.out, by omega, by omega⟩, hg0⟩
  case round =>
    obtain ⟨k, hk, rfl, ⟨d, hB, hd0, hd1⟩, hgr⟩ := hrel
    by_cases hlt : k < m
    · by_cases h64 : k < 64
      · obtain ⟨v, hv⟩ : ∃ v, bs[k]? = some v := ⟨_, List.getElem?_eq_getElem (by rw [HC.out.sl.blen]; omega)⟩
        obtain ⟨b, o, rfl, hb, x0⟩ := HC.out.sl.byt hv
        replace x0 := hgr.has x0
        have hvb : (v.toNat : Int) ≤ 255 := by have := v.toNat_lt; omega
        have hv0 : 0 ≤ (v.toNat : Int) := by omega
        generalize (v.toNat : Int) = y at x0 hvb hv0
        obtain ⟨e, he⟩ : ∃ e, e = (d * 41 + y).tmod 2147483647 := ⟨_, rfl⟩
        have heb : 0 ≤ e ∧ e ≤ 2147483646 := by
          have := tmod_bnd (x := d * 41 + y) (y := 2147483647) (by omega) (by omega)
          omega
        have he' := he.symm
        have hw1 : IntKind.i64.wrap (d * 41) = d * 41 := IntWalk.i64_in _ (by omega)
        have hw2 : IntKind.i64.wrap (d * 41 + y) = d * 41 + y := IntWalk.i64_in _ (by omega)
        have hw3 : IntKind.i64.wrap e = e := IntWalk.i64_in _ (by omega)
        have k2 := hB.k2
        have f2 := hB.fr 2
        have HB1 := Lib.hid (hB.put2 e)
        have hg1 := hgr.of_chg (chg_put (w := wr) (S := S) 2 (.int .i64 e)) (fun k hk => by omega)
        have Hg1 := Lib.hid hg1
        have t1 : (k : Int) < (m : Int) := by omega
        have t0 : (0 : Int) ≤ (k : Int) := by omega
        clear hv he hB HB0 hg1
        go_wp2_with fail
        go_region
        go_wp2_with fail
        go_roundw
        case rel => exact ⟨k + 1, by omega, by go_num, ⟨e, HB1.out.gr (Gr.refl _).drew, heb.1, heb.2⟩, Hg1.out.drew⟩
        case measure => simp [intOf]; omega
      · have t1 : decide ((k : Int) < 64) = false := by simp; omega
        have t2 : decide ((k : Int) < (m : Int)) = true := by simp; omega
        go_wp2_with fail
        go_ret
        exact ⟨S, rfl, hSb, ⟨hgr, hSb, _, _, _, _, _, _, HC.out, hB, by omega, hd0, hd1⟩⟩
    · obtain rfl : k = m := by omega
      go_wp2_with fail
      go_ret
      exact ⟨S, rfl, hSb, ⟨hgr, hSb, _, _, _, _, _, _, HC.out, hB, by omega, hd0, hd1⟩⟩
end Go.Proofs.YthhmhigddmimjaaGreat
/-
  Draws: nodes and pipes.
-/
namespace Go.Proofs.YthhmhigddmimjaaGreat
open Go.ChangeShapes Go.WideShapes Go.ChangeAt Go.RowKit

theorem rb_cell {w : World} {b j : Nat} {cs : Array Value} {t : TypeId} {v : Value} (h : w.heap[b]? = some (.cells cs t (0, 0))) (hj : cs[j]? = some v) : w.cell? ⟨b, j, none⟩ = some v := by
  rw [cell_of_row w b j cs t _ h, hj]
theorem rb_frozen {w : World} {b : Nat} {cs : Array Value} {t : TypeId} (h : w.heap[b]? = some (.cells cs t (0, 0))) (j : Nat) : w.frozen? ⟨b, j, none⟩ = false := by
  simp [World.frozen?, h]
theorem rb_lt {w : World} {b : Nat} {ob : Obj} (h : w.heap[b]? = some ob) : b < w.heap.size := (Array.getElem?_eq_some_iff.1 h).1
theorem rb_chg {w w' : World} {P : Nat → Prop} {b : Nat} {ob : Obj} (h : w.heap[b]? = some ob) (hc : Chg P w w') (hn : ¬ P b) : w'.heap[b]? = some ob := (hc.block b (rb_lt h) hn).trans h
theorem Drw.set {w0 w : World} {S R j : Nat} {v : Value} (h : Drw w0 w S) (hR : w0.heap.size ≤ R) (hne : R ≠ S) : Drw w0 (w.setCell ⟨R, j, none⟩ v) S := by
  obtain ⟨A, m, c, bs, a, d, h1, h2, h3, h4⟩ := h.blk
  refine ⟨h.gr.setCell hR _, h.base, A, m, c, bs, a, d, h1, ?_, h3, h4⟩
  exact rb_chg (P := fun k => k = R) h2 (chg_put _ _) (fun e => hne e.symm)
theorem Chg.fresh {P : Nat → Prop} {w w1 : World} {R j : Nat} {v : Value} (h : Chg P w w1) (hR : w.heap.size ≤ R) : Chg P w (w1.setCell ⟨R, j, none⟩ v) :=
  ⟨h.os, h.tape, h.output, by simp; exact h.size, fun k hk hn => by
    have : ¬ R = k := by omega
    have e : (w1.setCell ⟨R, j, none⟩ v).heap[k]? = w1.heap[k]? := by simp [World.setCell, Array.getElem?_modify, this]
    exact e.trans (h.block k hk hn)⟩
theorem Upto.lt {n x : Int} (h : Upto n x) (hn : 1 < n) : 0 ≤ x ∧ x < n := ⟨h.1, h.2.1 hn⟩
set_option maxHeartbeats 1600000 in
theorem l02DrawPipe_any {w0 w : World} {S : Nat} (a b : Int) (h : Drw w0 w S) :
    Calls Tryz.prog 138 #[.pointer (some ⟨S, 0, none⟩), .int .i64 a, .int .i64 b] w fun e w' => ∃ p : GPipe, e = .returned (.agg #[.int .i64 p.src, .int .i64 p.dst, .int .i64 p.k, .int .i64 p.vol, .int .i64 p.lim]) ∧ Drw w0 w' S ∧ Chg (fun k => k = S) w w' := by
  have hlt := h.lt
  have hbw := h.gr.size
  have H := Lib.hid h
  clear h
  go_enter Tryz.func138, Tryz.ntmps138
  go_wp2_with fail
  generalize hw1 : World.alloc w _ = w1
  have hR : w1.heap[w.heap.size]? = some (.cells #[.int .i64 0, .int .i64 0, .int .i64 0, .int .i64 0, .int .i64 0] 95 (0, 0)) := by rw [← hw1]; exact heap_alloc_new w _
  have hg1 : Gr w w1 := by rw [← hw1]; exact (Gr.refl _).alloc _
  obtain ⟨R, hRe⟩ : ∃ R, R = w.heap.size := ⟨_, rfl⟩
  rw [← hRe] at hR ⊢
  have hRS : R ≠ S := by omega
  have hRw : w.heap.size ≤ R := by omega
  have hRw0 : w0.heap.size ≤ R := by omega
  have HR := Lib.hid hR
  clear hw1 hRe hR
  refine (l01Next_any 2 (H.out.grow hg1) (by omega)).mono ?_
  rintro e w2 ⟨x, rfl, hx, hd2, hc2⟩
  obtain ⟨x0, x1⟩ := hx.lt (by omega)
  have Hd2 := Lib.hid hd2
  have HR2 := Lib.hid (rb_chg HR.out hc2 hRS)
  have hcc2 := (hg1.chg (fun k => k = S)).trans hc2
  clear hx hd2 HR hc2
  by_cases hx2 : x = 0
  all_goals
    (first | (have hxb : (x == 0) = true := by simp [hx2]) | (have hxb : (x == 0) = false := by simp [hx2]))
    go_wp2_with fail
    refine (l01Next_any 9 Hd2.out (by omega)).mono ?_
    rintro e w3 ⟨y, rfl, hy, hd3, hc3⟩
    obtain ⟨y0, y1⟩ := hy.lt (by omega)
    have Hd3 := Lib.hid hd3
    have HR3 := Lib.hid (rb_chg HR2.out hc3 hRS)
    clear hy hd3
    go_wp2_with fail
    refine (l01Next_any 100 Hd3.out (by omega)).mono ?_
    rintro e w4 ⟨z, rfl, hz, hd4, hc4⟩
    obtain ⟨z0, z1⟩ := hz.lt (by omega)
    have Hd4 := Lib.hid hd4
    have HR4 := Lib.hid (rb_chg HR3.out hc4 hRS)
    clear hz hd4
    go_wp2_with fail
    refine (l01Next_any 200 Hd4.out (by omega)).mono ?_
    rintro e w5 ⟨u, rfl, hu, hd5, hc5⟩
    obtain ⟨u0, u1⟩ := hu.lt (by omega)
    have Hd5 := Lib.hid hd5
    have hR5 := rb_chg HR4.out hc5 hRS
    have hcc5 := ((hcc2.trans hc3).trans hc4).trans hc5
    have c0 := rb_cell (j := 0) hR5 rfl
    have c1 := rb_cell (j := 1) hR5 rfl
    have c2 := rb_cell (j := 2) hR5 rfl
    have c3 := rb_cell (j := 3) hR5 rfl
    have c4 := rb_cell (j := 4) hR5 rfl
    have f0 := rb_frozen hR5 0
    have f1 := rb_frozen hR5 1
    have f2 := rb_frozen hR5 2
    have f3 := rb_frozen hR5 3
    have f4 := rb_frozen hR5 4
    have HR5 := Lib.hid hR5
    clear hu hd5 hR5 hc3 hc4 hc5 hcc2
    go_wp2_with fail
    refine bodyPost_ret (results_cell_row Tryz.results138 _ _ R 95 #[.int .i64 _, .int .i64 _, .int .i64 _, .int .i64 _, .int .i64 _] (0, 0) _ rfl (by simp [World.setCell, Array.getElem?_modify, HR5.out]; exact ⟨rfl, rfl, rfl, rfl, rfl⟩) Tryz.underlying95 rfl (by kernel_rfl)) rfl ⟨⟨_, _, _, _, _⟩, rfl, ?_, ?_⟩
    · exact ((((Hd5.out.set hRw0 hRS).set hRw0 hRS).set hRw0 hRS).set hRw0 hRS).set hRw0 hRS
    · exact ((((hcc5.fresh hRw).fresh hRw).fresh hRw).fresh hRw).fresh hRw
end Go.Proofs.YthhmhigddmimjaaGreat
/-
  Draws: numbers in decimal, nodes.
-/
namespace Go.Proofs.YthhmhigddmimjaaGreat
open Go.ChangeShapes Go.WideShapes Go.ChangeAt Go.RowKit

set_option maxRecDepth 100000 in
theorem l01Dec_any (n : Int) (w : World) (hn : 0 ≤ n ∧ n < 10) :
    Calls Tryz.prog 167 #[.int .i64 n] w fun e w' => ∃ s : ByteArray, e = .returned (.string s) ∧ s.size = 1 ∧ Gr w w' := by
  have t1 : decide (n < 10) = true := by simp; omega
  have hg : Gr w (w.alloc (.cells #[.int .u8 (48 + n)] 5)) := (Gr.refl _).alloc _
  have hcv := run_convert_bytes_arg (P := Tryz.prog) (w.alloc (.cells #[.int .u8 (48 + n)] 5)) 46 5 Tryz.underlying46 Tryz.underlying5 w.heap.size 0 1 1 [48 + n] rfl (fun i hi => by
    have : i = 0 := by omega
    subst this
    simp [go_sem]) 9 Tryz.underlying9
  have hsz : (strOfNums [48 + n]).size = 1 := strOfNums_size _
  generalize strOfNums [48 + n] = s at hcv hsz
  go_enter Tryz.func167, Tryz.ntmps167
  go_wp2_with fail
  go_ret
  exact ⟨s, rfl, hsz, hg⟩
set_option maxHeartbeats 1600000 in
theorem l02DrawNode_any {w0 w : World} {S : Nat} (i : Int) (h : Drw w0 w S) (hi : 0 ≤ i ∧ i < 10) :
    Calls Tryz.prog 155 #[.pointer (some ⟨S, 0, none⟩), .int .i64 i] w fun e w' => ∃ x : GNode, e = .returned (.agg #[.string x.name, .int .i64 x.low, .int .i64 x.high]) ∧ x.name.size ≤ maxLen ∧ Drw w0 w' S ∧ Chg (fun k => k = S) w w' := by
  have hlt := h.lt
  have hbw := h.gr.size
  have H := Lib.hid h
  clear h
  go_enter Tryz.func155, Tryz.ntmps155
  go_wp2_with fail
  generalize hw1 : World.alloc w _ = w1
  have hR : w1.heap[w.heap.size]? = some (.cells #[.string ByteArray.empty, .int .i64 0, .int .i64 0] 62 (0, 0)) := by rw [← hw1]; exact heap_alloc_new w _
  have hg1 : Gr w w1 := by rw [← hw1]; exact (Gr.refl _).alloc _
  obtain ⟨R, hRe⟩ : ∃ R, R = w.heap.size := ⟨_, rfl⟩
  rw [← hRe] at hR ⊢
  have hRS : R ≠ S := by omega
  have hRw : w.heap.size ≤ R := by omega
  have hRw0 : w0.heap.size ≤ R := by omega
  have HR := Lib.hid hR
  clear hw1 hRe hR
  refine (l01Next_any 4000 (H.out.grow hg1) (by omega)).mono ?_
  rintro e w2 ⟨x, rfl, hx, hd2, hc2⟩
  obtain ⟨x0, x1⟩ := hx.lt (by omega)
  have Hd2 := Lib.hid hd2
  have HR2 := Lib.hid (rb_chg HR.out hc2 hRS)
  have hcc2 := (hg1.chg (fun k => k = S)).trans hc2
  clear hx hd2 HR hc2
  go_wp2_with fail
  refine (l01Dec_any i _ hi).mono ?_
  rintro e w3 ⟨s, rfl, hs, hg3⟩
  have hs1 : 1 + s.size ≤ maxLen := by unfold maxLen; omega
  have Hd3 := Lib.hid (Hd2.out.grow hg3)
  have HR3 := Lib.hid ((hg3.below.block R (rb_lt HR2.out)).trans HR2.out)
  have hcc3 := hcc2.trans (hg3.chg (fun k => k = S))
  clear HR2 Hd2 hcc2 hg3
  go_wp2_with fail
  have hss : (({ data := #[110] } : ByteArray) ++ s).size ≤ maxLen := by
    rw [ByteArray.size_append]
    exact hs1
  generalize (({ data := #[110] } : ByteArray) ++ s) = nm at hss ⊢
  refine (l01Next_any 60000 Hd3.out (by omega)).mono ?_
  rintro e w4 ⟨y, rfl, hy, hd4, hc4⟩
  obtain ⟨y0, y1⟩ := hy.lt (by omega)
  have Hd4 := Lib.hid hd4
  have hR4 := rb_chg HR3.out hc4 hRS
  have hcc4 := hcc3.trans hc4
  have c0 := rb_cell (j := 0) hR4 rfl
  have c1 := rb_cell (j := 1) hR4 rfl
  have c2 := rb_cell (j := 2) hR4 rfl
  have f0 := rb_frozen hR4 0
  have f1 := rb_frozen hR4 1
  have f2 := rb_frozen hR4 2
  have HR4 := Lib.hid hR4
  clear hy hd4 hR4 hc4 hcc3 HR3 Hd3
  go_wp2_with fail
  refine bodyPost_ret (results_cell_row Tryz.results155 _ _ R 62 #[.string nm, .int .i64 x, .int .i64 (x + 2000 + y)] (0, 0) _ rfl (by simp [World.setCell, Array.getElem?_modify, HR4.out]) Tryz.underlying62 rfl (by kernel_rfl)) rfl ⟨⟨nm, x, x + 2000 + y⟩, rfl, hss, ?_, ?_⟩
  · exact ((Hd4.out.set hRw0 hRS).set hRw0 hRS).set hRw0 hRS
  · exact ((hcc4.fresh hRw).fresh hRw).fresh hRw
end Go.Proofs.YthhmhigddmimjaaGreat
/-
  Draws: valid networks.
-/
namespace Go.Proofs.YthhmhigddmimjaaGreat
open Go.ChangeShapes Go.WideShapes Go.ChangeAt Go.RowKit

theorem Drw.grown {w0 w w' : World} {S : Nat} {row : Option Nat} (h : Drw w0 w S) (hg : w.grownBy w' row) (hr : ∀ j, row = some j → w0.heap.size ≤ j ∧ j ≠ S) : Drw w0 w' S := by
  obtain ⟨A, m, c, bs, a, d, h1, h2, h3, h4⟩ := h.blk
  refine ⟨h.gr.grown hg (fun j hj => (hr j hj).1), h.base, A, m, c, bs, a, d, h1, ?_, h3, h4⟩
  exact (hg.block S h2.lt (fun e => (hr S e.symm).2 rfl)).trans h2
theorem Chg.grown' {P : Nat → Prop} {w w1 w2 : World} {row : Option Nat} (h : Chg P w w1) (hg : w1.grownBy w2 row) (hr : ∀ j, row = some j → w.heap.size ≤ j) : Chg P w w2 :=
  ⟨hg.os.trans h.os, hg.tape.trans h.tape, hg.output.trans h.output, Nat.le_trans h.size hg.size, fun k hk hn =>
    (hg.block k (Nat.lt_of_lt_of_le hk h.size) (fun e => by have := hr k e.symm; omega)).trans (h.block k hk hn)⟩
theorem flat_snoc' {α : Type} (f : α → List Value) (l : List α) (x : α) : (l ++ [x]).flatMap f = l.flatMap f ++ f x := by simp
theorem own_eq' {w : World} {base : Nat} {e : TypeId} {size n : Nat} {v : Value} {xs ys : List Value} (h : w.ownsRow base e size v n xs) (he : xs = ys) : w.ownsRow base e size v n ys := he ▸ h
theorem own_low {w : World} {base : Nat} {e : TypeId} {size n k : Nat} {v : Value} {xs : List Value} (h : w.ownsRow base e size v n xs) (hk : v.ownBlock = some k) : base ≤ k := by
  rcases h.2 with ⟨hv, _⟩ | ⟨g, cap, cur, hv, hb, _⟩
  · rw [hv] at hk; simp [Value.ownBlock] at hk
  · rw [hv] at hk; simp [Value.ownBlock] at hk; omega
/-- The rows of a network that is being drawn; the result's block stands at R, still empty. -/
structure NetSt (w0 w wr : World) (S R g c k h d u : Nat) : Prop where
  ne : g ≠ h
  nodes : ∃ ns : List GNode, wr.ownsRow (R + 1) 62 3 (.slice (some ⟨g, 0, none⟩) k c) k (ns.flatMap GNode.cells) ∧ ∀ x ∈ ns, x.name.size ≤ maxLen
  pipes : ∃ ps : List GPipe, wr.ownsRow (R + 1) 95 5 (.slice (some ⟨h, 0, none⟩) u d) u (ps.flatMap GPipe.cells)
  dr : Drw w0 wr S
  ch : Chg (fun j => j = S) w wr
  res : wr.heap[R]? = some (.cells #[.slice none 0 0, .slice none 0 0] 32 (0, 0))
section
variable {w0 w wr w' : World} {S R g c k h d u : Nat}
theorem NetSt.next (q : NetSt w0 w wr S R g c k h d u) (hSR : S < R) (hd : Drw w0 w' S) (hc : Chg (fun j => j = S) wr w') : NetSt w0 w w' S R g c k h d u := by
  obtain ⟨ns, hn, hs⟩ := q.nodes
  obtain ⟨ps, hp⟩ := q.pipes
  exact ⟨q.ne, ⟨ns, own_chg hn hc (fun j hj e => by have := own_low hn hj; omega), hs⟩, ⟨ps, own_chg hp hc (fun j hj e => by have := own_low hp hj; omega)⟩, hd, q.ch.trans hc, rb_chg q.res hc (by omega)⟩
theorem NetSt.addN (q : NetSt w0 w wr S R g c k h d u) (hw : w.heap.size ≤ R) (hw0 : w0.heap.size ≤ R) (hSR : S < R) {ns : List GNode} {x : GNode} {ob : Obj} {g' cap : Nat} (hs : ∀ x ∈ ns, x.name.size ≤ maxLen) (hx : x.name.size ≤ maxLen)
    (hown : w'.ownsRow (R + 1) 62 3 (.slice (some ⟨g', 0, none⟩) (k + 1) cap) (k + 1) (ns.flatMap GNode.cells ++ x.cells)) (hg : (wr.alloc ob).grownBy w' (some g)) (hat : some g = some g' ∨ g' = wr.heap.size + 1) : NetSt w0 w w' S R g' cap (k + 1) h d u := by
  obtain ⟨ns0, hn, _⟩ := q.nodes
  obtain ⟨ps, hp⟩ := q.pipes
  have hgb := own_low hn (k := g) rfl
  have hhl := (World.ownsRow.lt hp h rfl).2
  refine ⟨?_, ⟨ns ++ [x], own_eq' hown (flat_snoc' _ _ _).symm, fun y hy => ?_⟩, ⟨ps, (hp.alloc _).kept hg (Or.inr fun e => q.ne (Option.some.inj e).symm)⟩, (q.dr.grow ((Gr.refl _).alloc _)).grown hg (fun j hj => by injection hj with hj; omega), (q.ch.trans (((Gr.refl _).alloc _).chg _)).grown' hg (fun j hj => by injection hj with hj; omega), ?_⟩
  · rcases hat with e | e
    · injection e with e; rw [← e]; exact q.ne
    · omega
  · rcases List.mem_append.1 hy with hy | hy
    · exact hs y hy
    · rw [List.mem_singleton.1 hy]; exact hx
  · have h1 : (wr.alloc ob).heap[R]? = some (.cells #[.slice none 0 0, .slice none 0 0] 32 (0, 0)) := (((Gr.refl wr).alloc ob).below.block R (rb_lt q.res)).trans q.res
    exact (hg.block R (rb_lt h1) (fun e => by injection e with e; omega)).trans h1
theorem NetSt.addP (q : NetSt w0 w wr S R g c k h d u) (hw : w.heap.size ≤ R) (hw0 : w0.heap.size ≤ R) (hSR : S < R) {ps : List GPipe} {x : GPipe} {ob : Obj} {h' cap : Nat}
    (hown : w'.ownsRow (R + 1) 95 5 (.slice (some ⟨h', 0, none⟩) (u + 1) cap) (u + 1) (ps.flatMap GPipe.cells ++ x.cells)) (hg : (wr.alloc ob).grownBy w' (some h)) (hat : some h = some h' ∨ h' = wr.heap.size + 1) : NetSt w0 w w' S R g c k h' cap (u + 1) := by
  obtain ⟨ns, hn, hs⟩ := q.nodes
  obtain ⟨ps0, hp⟩ := q.pipes
  have hhb := own_low hp (k := h) rfl
  have hgl := (World.ownsRow.lt hn g rfl).2
  refine ⟨?_, ⟨ns, (hn.alloc _).kept hg (Or.inr fun e => q.ne (Option.some.inj e)), hs⟩, ⟨ps ++ [x], own_eq' hown (flat_snoc' _ _ _).symm⟩, (q.dr.grow ((Gr.refl _).alloc _)).grown hg (fun j hj => by injection hj with hj; omega), (q.ch.trans (((Gr.refl _).alloc _).chg _)).grown' hg (fun j hj => by injection hj with hj; omega), ?_⟩
  · rcases hat with e | e
    · injection e with e; rw [← e]; exact q.ne
    · omega
  · have h1 : (wr.alloc ob).heap[R]? = some (.cells #[.slice none 0 0, .slice none 0 0] 32 (0, 0)) := (((Gr.refl wr).alloc ob).below.block R (rb_lt q.res)).trans q.res
    exact (hg.block R (rb_lt h1) (fun e => by injection e with e; omega)).trans h1
end
set_option maxHeartbeats 6400000 in
set_option maxRecDepth 100000 in
theorem l02Draw_any {w0 w : World} {S : Nat} (h : Drw w0 w S) :
    Calls Tryz.prog 137 #[.pointer (some ⟨S, 0, none⟩)] w fun e w' => ∃ A1 n1 c1 A2 n2 c2 n, e = .returned (.agg #[.slice A1 n1 c1, .slice A2 n2 c2]) ∧ OwnNet w' w.heap.size A1 n1 c1 A2 n2 c2 n ∧ (1 ≤ n1 ∧ n1 ≤ 7 ∧ n2 ≤ 9) ∧ Drw w0 w' S ∧ Chg (fun k => k = S) w w' := by
  obtain ⟨i0, hi0, hz0, hz1, hz2⟩ := info_parts infoNode
  obtain ⟨i1, hi1, hv0, hv1, hv2⟩ := info_parts infoPipe
  have hlt := h.lt
  have hbw := h.gr.size
  have H := Lib.hid h
  clear h
  go_enter Tryz.func137, Tryz.ntmps137
  go_wp2_with fail
  generalize hw1 : World.alloc w _ = w1
  have hR : w1.heap[w.heap.size]? = some (.cells #[.slice none 0 0, .slice none 0 0] 32 (0, 0)) := by rw [← hw1]; exact heap_alloc_new w _
  have hg1 : Gr w w1 := by rw [← hw1]; exact (Gr.refl _).alloc _
  obtain ⟨R, hRe⟩ : ∃ R, R = w.heap.size := ⟨_, rfl⟩
  rw [← hRe] at hR ⊢
  have hSR : S < R := by omega
  have hRw : w.heap.size ≤ R := by omega
  have hRw0 : w0.heap.size ≤ R := by omega
  have HR := Lib.hid hR
  clear hw1 hRe hR
  refine (l01Next_any 7 (H.out.grow hg1) (by omega)).mono ?_
  rintro e w2 ⟨x, rfl, hx, hd2, hc2⟩
  obtain ⟨x0, x1⟩ := hx.lt (by omega)
  obtain ⟨N, hN⟩ : ∃ N : Nat, (N : Int) = 1 + x := ⟨(1 + x).toNat, by omega⟩
  have hN' := hN.symm
  have hN1 : 1 ≤ N := by omega
  have hN7 : N ≤ 7 := by omega
  have hR2 := rb_chg HR.out hc2 (by omega)
  have hcc2 := (hg1.chg (fun k => k = S)).trans hc2
  have hs2 := rb_lt hR2
  clear hx HR hc2 hN
  go_wp2_with fail
  generalize hw3 : World.alloc (World.alloc w2 _) _ = w3
  have hg3 : Gr w2 w3 := by rw [← hw3]; exact ((Gr.refl _).alloc _).alloc _
  have on0 : w3.ownsRow w2.heap.size 62 3 (.slice (some ⟨w2.heap.size, 0, none⟩) 0 0) 0 [] := by
    rw [← hw3]; exact (World.ownsRow_lit w2 (e := 62) (size := 3) #[] 0 (Nat.le_refl _) (by unfold maxLen; omega) rfl).alloc _
  have op0 : w3.ownsRow w2.heap.size 95 5 (.slice (some ⟨w2.heap.size + 1, 0, none⟩) 0 0) 0 [] := by
    have q := World.ownsRow_lit (w2.alloc (.cells #[] 62)) (e := 95) (size := 5) #[] 0 (Nat.le_refl _) (by unfold maxLen; omega) rfl
    rw [World.size_alloc, hw3] at q
    exact own_base q (by omega)
  have st0 : NetSt w0 w w3 S R w2.heap.size 0 0 (w2.heap.size + 1) 0 0 := ⟨by omega, ⟨[], own_base on0 hs2, fun x hx => by cases hx⟩, ⟨[], own_base op0 hs2⟩, hd2.grow hg3, hcc2.trans (hg3.chg _), (hg3.below.block R hs2).trans hR2⟩
  have St0 := Lib.hid st0
  clear hw3 hg3 on0 op0 st0 hd2 hR2 hcc2 hs2
  go_loopw [4, 5, 6] (fun nd pp i wr => ∃ k : Nat, k ≤ N ∧ i = .int .i64 k ∧ ∃ g c h d u, u ≤ k ∧ nd = .slice (some ⟨g, 0, none⟩) k c ∧ pp = .slice (some ⟨h, 0, none⟩) u d ∧ NetSt w0 w wr S R g c k h d u) (fun _ _ i _ => N - (intOf i).toNat)
  case atStart => exact ⟨0, Nat.zero_le _, rfl, _, _, _, _, _, Nat.le_refl _, rfl, rfl, St0.out⟩
  case round =>
    obtain ⟨k, hk, rfl, g, c, h, d, u, hu, rfl, rfl, st⟩ := hrel
    have St := Lib.hid st
    clear st St0
    by_cases hkN : k < N
    · go_wp2_with fail
      refine (l02DrawNode_any (k : Int) St.out.dr (by omega)).mono ?_
      rintro e w4 ⟨x, rfl, hxs, hd4, hc4⟩
      have St4 := Lib.hid (St.out.next hSR hd4 hc4)
      obtain ⟨ns, hns, hnn⟩ := St4.out.nodes
      have Hns := Lib.hid hns
      have Hnn := Lib.hid hnn
      have hb4 := rb_lt St4.out.res
      clear hns hnn hd4 hc4 St
      by_cases hk0 : k = 0
      all_goals
        (first | (have tb : decide (0 < k) = false := decide_eq_false (by omega)) | (have tb : decide (0 < k) = true := decide_eq_true (by omega)))
        (first | (have tc : decide ((0 : Int) < (k : Int)) = false := decide_eq_false (by omega)) | (have tc : decide ((0 : Int) < (k : Int)) = true := decide_eq_true (by omega)))
        clear hk0
        go_wp2_with (at_builtin; (refine wpList_append_lies _ rfl _ _ _ rfl (R + 1) 62 i0 _ 3 32 Tryz.underlying29 hi0 hz0 hz1 hz2 rfl (by omega) _ k _ rfl (Hns.out.alloc _) ⟨w4.heap.size, 0, none⟩ 1 1 [.string x.name, .int .i64 x.low, .int .i64 x.high] rfl rfl (World.news_of_block (cs := #[.string x.name, .int .i64 x.low, .int .i64 x.high]) (t := 62) (fr := (0, 0)) (heap_alloc_new w4 _)) (by simp [Value.oneCell']) (by omega) (by unfold maxLen; omega) (by omega) (by simp; omega) (w4.heap.size + 1) (by simp) ?_; intro g5 cap5 w5 ho5 hg5 hat5 hlt5))
        have St5 := Lib.hid (St4.out.addN hRw hRw0 hSR Hnn.out hxs ho5 hg5 hat5)
        clear ho5 hg5 hat5 hlt5 St4 Hns Hnn
      · go_roundw
        case rel => exact ⟨k + 1, by omega, by go_num, _, _, _, _, _, by omega, rfl, rfl, St5.out⟩
        case measure => simp [intOf]; omega
      · refine (l01Next_any 16 St5.out.dr (by omega)).mono ?_
        rintro e w6 ⟨y, rfl, hy, hd6, hc6⟩
        obtain ⟨y0, y1⟩ := hy.lt (by omega)
        have St6 := Lib.hid (St5.out.next hSR hd6 hc6)
        clear hy hd6 hc6 St5
        by_cases hy0 : y = 0
        · have ty : decide ((0 : Int) < y) = false := by simp; omega
          go_wp2_with fail
          go_roundw
          case rel => exact ⟨k + 1, by omega, by go_num, _, _, _, _, _, by omega, rfl, rfl, St6.out⟩
          case measure => simp [intOf]; omega
        · have ty : decide ((0 : Int) < y) = true := by simp; omega
          go_wp2_with fail
          refine (l01Next_any (k : Int) St6.out.dr (by omega)).mono ?_
          rintro e w7 ⟨z, rfl, hz, hd7, hc7⟩
          have St7 := Lib.hid (St6.out.next hSR hd7 hc7)
          clear hz hd7 hc7 St6
          go_wp2_with fail
          refine (l02DrawPipe_any z (k : Int) St7.out.dr).mono ?_
          rintro e w8 ⟨p, rfl, hd8, hc8⟩
          have St8 := Lib.hid (St7.out.next hSR hd8 hc8)
          obtain ⟨ps, hps⟩ := St8.out.pipes
          have Hps := Lib.hid hps
          have hb8 := rb_lt St8.out.res
          clear hd8 hc8 St7 hps
          go_wp2_with (at_builtin; (refine wpList_append_lies _ rfl _ _ _ rfl (R + 1) 95 i1 _ 5 40 Tryz.underlying30 hi1 hv0 hv1 hv2 rfl (by omega) _ u _ rfl (Hps.out.alloc _) ⟨w8.heap.size, 0, none⟩ 1 1 [.int .i64 p.src, .int .i64 p.dst, .int .i64 p.k, .int .i64 p.vol, .int .i64 p.lim] rfl rfl (World.news_of_block (cs := #[.int .i64 p.src, .int .i64 p.dst, .int .i64 p.k, .int .i64 p.vol, .int .i64 p.lim]) (t := 95) (fr := (0, 0)) (heap_alloc_new w8 _)) (by simp [Value.oneCell']) (by omega) (by unfold maxLen; omega) (by omega) (by simp; omega) (w8.heap.size + 1) (by simp) ?_; intro g9 cap9 w9 ho9 hg9 hat9 hlt9))
          have St9 := Lib.hid (St8.out.addP hRw hRw0 hSR ho9 hg9 hat9)
          clear ho9 hg9 hat9 hlt9 St8 Hps
          go_wp2_with fail
          go_roundw
          case rel => exact ⟨k + 1, by omega, by go_num, _, _, _, _, _, by omega, rfl, rfl, St9.out⟩
          case measure => simp [intOf]; omega
    · obtain rfl : k = N := by omega
      go_wp2_with fail
      refine (l01Next_any 3 St.out.dr (by omega)).mono ?_
      rintro e w4 ⟨y, rfl, hy, hd4, hc4⟩
      obtain ⟨y0, y1⟩ := hy.lt (by omega)
      have St4 := Lib.hid (St.out.next hSR hd4 hc4)
      obtain ⟨J, hJ⟩ : ∃ J : Nat, y = (J : Int) := ⟨y.toNat, by omega⟩
      subst hJ
      clear hy hd4 hc4 St
      go_wp2_with fail
      go_loopw [5, 7] (fun pp i wq => ∃ j : Nat, j ≤ J ∧ i = .int .i64 j ∧ ∃ h d u, u + j ≤ 9 ∧ pp = .slice (some ⟨h, 0, none⟩) u d ∧ NetSt w0 w wq S R g c k h d u) (fun _ i _ => (intOf i).toNat)
      case atStart => exact ⟨J, Nat.le_refl _, rfl, _, _, _, by omega, rfl, St4.out⟩
      case round =>
        obtain ⟨j, hj, rfl, h', d', u', hu', rfl, st⟩ := hrel
        have St := Lib.hid st
        clear st St4
        have hwn : w.heap.size ≤ R + 1 := by omega
        have ex : ∀ wz, NetSt w0 w wz S R g c k h' d' u' → Drw w0 ((wz.setCell ⟨R, 0, none⟩ (.slice (some ⟨g, 0, none⟩) k c)).setCell ⟨R, 1, none⟩ (.slice (some ⟨h', 0, none⟩) u' d')) S ∧ Chg (fun j => j = S) w ((wz.setCell ⟨R, 0, none⟩ (.slice (some ⟨g, 0, none⟩) k c)).setCell ⟨R, 1, none⟩ (.slice (some ⟨h', 0, none⟩) u' d')) ∧ ∃ n, OwnNet ((wz.setCell ⟨R, 0, none⟩ (.slice (some ⟨g, 0, none⟩) k c)).setCell ⟨R, 1, none⟩ (.slice (some ⟨h', 0, none⟩) u' d')) w.heap.size (some ⟨g, 0, none⟩) k c (some ⟨h', 0, none⟩) u' d' n := by
          intro wz q
          obtain ⟨ns, hn, hs⟩ := q.nodes
          obtain ⟨ps, hp⟩ := q.pipes
          have hcc : Chg (fun j => j = R) wz ((wz.setCell ⟨R, 0, none⟩ (.slice (some ⟨g, 0, none⟩) k c)).setCell ⟨R, 1, none⟩ (.slice (some ⟨h', 0, none⟩) u' d')) := (chg_put _ _).trans (chg_put _ _)
          exact ⟨(q.dr.set hRw0 (by omega)).set hRw0 (by omega), (q.ch.fresh hRw).fresh hRw, ⟨ns, ps⟩, own_base (own_chg hn hcc (fun j hj e => by have := own_low hn hj; omega)) hwn, own_base (own_chg hp hcc (fun j hj e => by have := own_low hp hj; omega)) hwn, hs, by omega, by omega⟩
        have Ex := Lib.hid ex
        clear ex
        by_cases hgo : 0 < j ∧ 1 < k
        · have t1 : decide ((0 : Int) < (j : Int)) = true := by simp; omega
          have t2 : decide ((1 : Int) < (k : Int)) = true := by simp; omega
          have hk0 : ¬ ((k : Int) = 0) := by omega
          have hj1 : 0 < j := hgo.1
          have hk1 : 1 < k := hgo.2
          clear hgo
          go_wp2_with fail
          refine (l01Next_any (k : Int) St.out.dr (by omega)).mono ?_
          rintro e w5 ⟨a, rfl, ha, hd5, hc5⟩
          obtain ⟨a0, a1⟩ := ha.lt (by omega)
          have St5 := Lib.hid (St.out.next hSR hd5 hc5)
          clear ha hd5 hc5 St
          go_wp2_with fail
          refine (l01Next_any ((k : Int) - 1) St5.out.dr (by omega)).mono ?_
          rintro e w6 ⟨b, rfl, hb, hd6, hc6⟩
          have b0 := hb.1
          have b1 : b ≤ 7 := by
            rcases Int.lt_or_le 1 ((k : Int) - 1) with h | h
            · have := hb.2.1 h; omega
            · have := hb.2.2 h; omega
          have St6 := Lib.hid (St5.out.next hSR hd6 hc6)
          clear hb hd6 hc6 St5
          go_wp2_with fail
          refine (l02DrawPipe_any a _ St6.out.dr).mono ?_
          rintro e w8 ⟨p, rfl, hd8, hc8⟩
          have St8 := Lib.hid (St6.out.next hSR hd8 hc8)
          obtain ⟨ps, hps⟩ := St8.out.pipes
          have Hps := Lib.hid hps
          have hb8 := rb_lt St8.out.res
          clear hd8 hc8 St6 hps
          go_wp2_with (at_builtin; (refine wpList_append_lies _ rfl _ _ _ rfl (R + 1) 95 i1 _ 5 40 Tryz.underlying30 hi1 hv0 hv1 hv2 rfl (by omega) _ u' _ rfl (Hps.out.alloc _) ⟨w8.heap.size, 0, none⟩ 1 1 [.int .i64 p.src, .int .i64 p.dst, .int .i64 p.k, .int .i64 p.vol, .int .i64 p.lim] rfl rfl (World.news_of_block (cs := #[.int .i64 p.src, .int .i64 p.dst, .int .i64 p.k, .int .i64 p.vol, .int .i64 p.lim]) (t := 95) (fr := (0, 0)) (heap_alloc_new w8 _)) (by simp [Value.oneCell']) (by omega) (by unfold maxLen; omega) (by omega) (by simp; omega) (w8.heap.size + 1) (by simp) ?_; intro g9 cap9 w9 ho9 hg9 hat9 hlt9))
          have St9 := Lib.hid (St8.out.addP hRw hRw0 hSR ho9 hg9 hat9)
          clear ho9 hg9 hat9 hlt9 St8 Hps
          go_wp2_with fail
          go_roundw
          case rel => exact ⟨j - 1, by omega, by go_num, _, _, _, by omega, rfl, St9.out⟩
          case measure => simp [intOf]; omega
        · have hR9 := St.out.res
          have c0 := rb_cell (j := 0) hR9 rfl
          have c1 := rb_cell (j := 1) hR9 rfl
          have f0 := rb_frozen hR9 0
          have f1 := rb_frozen hR9 1
          have HR9 := Lib.hid hR9
          obtain ⟨q1, q2, n, q3⟩ := Ex.out _ St.out
          have Q1 := Lib.hid q1
          have Q2 := Lib.hid q2
          have Q3 := Lib.hid q3
          have hbp : ((wr.setCell ⟨R, 0, none⟩ (.slice (some ⟨g, 0, none⟩) k c)).setCell ⟨R, 1, none⟩ (.slice (some ⟨h', 0, none⟩) u' d')).heap[R]? = some (.cells #[.slice (some ⟨g, 0, none⟩) k c, .slice (some ⟨h', 0, none⟩) u' d'] 32 (0, 0)) := by simp [World.setCell, Array.getElem?_modify, hR9]
          have Hbp := Lib.hid hbp
          clear hR9 q1 q2 q3 Ex hbp
          by_cases hj0 : 0 < j
          all_goals
            (first
              | (have t1 : decide (0 < j) = true := decide_eq_true (by omega)
                 have t2 : decide (1 < k) = false := decide_eq_false (by omega)
                 have t3 : k ≤ 1 := by omega)
              | (have t1 : decide (0 < j) = false := decide_eq_false (by omega)
                 have t3 : j = 0 := by omega
                 subst t3))
            clear hgo hj0
            go_wp2_with fail
            (try simp only [Exit.inBlock, Exit.then])
            refine bodyPost_ret (results_cell_row Tryz.results137 _ _ R 32 #[.slice (some ⟨g, 0, none⟩) k c, .slice (some ⟨h', 0, none⟩) u' d'] (0, 0) _ ?_ Hbp.out Tryz.underlying32 rfl (by kernel_rfl)) ?_ ?_
            · rfl
            · rfl
            exact ⟨_, _, _, _, _, _, n, rfl, Q3.out, ⟨by omega, by omega, by omega⟩, Q1.out, Q2.out⟩
end Go.Proofs.YthhmhigddmimjaaGreat
/-
  Draws: networks with more pipes than a tree.
-/
namespace Go.Proofs.YthhmhigddmimjaaGreat
open Go.ChangeShapes Go.WideShapes Go.ChangeAt Go.RowKit

/-- Nothing is appended. -/
theorem wpList_append_zero {P : Program} {w : World} {ops : Array Oper} {rest : List Oper} {o : Oper} {a : Act} {Q : Exit → Act → World → Prop} (hgd : o.guard = none) (s x : Operand) (t e : TypeId) (i : TypeInfo)
    (ho : o.op = .call { callee := .builtin .append, args := #[s, x], argTypes := #[t, t] }) (ht : P.underlying t = some (.slice e)) (hi : P.info? e = some i)
    (A B : Option Addr) (n c d : Nat) (hle : n ≤ c) (hs : a.eval s = .slice A n c) (hx : a.eval x = .slice B 0 d)
    (h : wpList P ops Q rest (a.put o.dst (.slice A n c)) w) : wpList P ops Q (o :: rest) a w := by
  refine wpList_plain hgd fun K hK => ?_
  have hsrc : Src P i.size t (.slice B 0 d) 0 [] w := by
    cases B with
    | none => exact Src.ofNil w ht d
    | some b => exact Src.ofSlice w ht b 0 d [] (by simp) (fun j u hj => by cases hj) (fun u hu => by cases hu)
  have hrun := run_append_nothing (P := P) w t t o.type e i ht hi A n c hle (.slice B 0 d) hsrc
  unfold Oper.wp
  simp [execOp, ho, resolve, invoke, builtin, hs, hx, hrun, Result.andThen]
  exact hK _ _ h
theorem pipes_one (ps : List GPipe) : ∀ u ∈ ps.flatMap GPipe.cells, u.oneCell' = true := by
  intro u hu
  obtain ⟨p, _, hp⟩ := List.mem_flatMap.1 hu
  simp only [GPipe.cells, List.mem_cons, List.not_mem_nil, or_false] at hp
  rcases hp with rfl | rfl | rfl | rfl | rfl <;> rfl
theorem net_end {w0 w wz : World} {S R g c k h d u : Nat} (hRw : w.heap.size ≤ R) (hRw0 : w0.heap.size ≤ R) (hSR : S < R) (hk : k ≤ 1048576) (hu : u ≤ 1048576) (q : NetSt w0 w wz S R g c k h d u) :
    Drw w0 ((wz.setCell ⟨R, 0, none⟩ (.slice (some ⟨g, 0, none⟩) k c)).setCell ⟨R, 1, none⟩ (.slice (some ⟨h, 0, none⟩) u d)) S ∧ Chg (fun j => j = S) w ((wz.setCell ⟨R, 0, none⟩ (.slice (some ⟨g, 0, none⟩) k c)).setCell ⟨R, 1, none⟩ (.slice (some ⟨h, 0, none⟩) u d)) ∧ ∃ n, OwnNet ((wz.setCell ⟨R, 0, none⟩ (.slice (some ⟨g, 0, none⟩) k c)).setCell ⟨R, 1, none⟩ (.slice (some ⟨h, 0, none⟩) u d)) w.heap.size (some ⟨g, 0, none⟩) k c (some ⟨h, 0, none⟩) u d n := by
  obtain ⟨ns, hn, hs⟩ := q.nodes
  obtain ⟨ps, hp⟩ := q.pipes
  have hcc : Chg (fun j => j = R) wz ((wz.setCell ⟨R, 0, none⟩ (.slice (some ⟨g, 0, none⟩) k c)).setCell ⟨R, 1, none⟩ (.slice (some ⟨h, 0, none⟩) u d)) := (chg_put _ _).trans (chg_put _ _)
  exact ⟨(q.dr.set hRw0 (by omega)).set hRw0 (by omega), (q.ch.fresh hRw).fresh hRw, ⟨ns, ps⟩, own_base (own_chg hn hcc (fun j hj e => by have := own_low hn hj; omega)) (by omega), own_base (own_chg hp hcc (fun j hj e => by have := own_low hp hj; omega)) (by omega), hs, hk, hu⟩
set_option maxHeartbeats 6400000 in
set_option maxRecDepth 100000 in
theorem l05DrawLoops_any {w0 w : World} {S : Nat} (h : Drw w0 w S) :
    Calls Tryz.prog 122 #[.pointer (some ⟨S, 0, none⟩)] w fun e w' => ∃ A1 n1 c1 A2 n2 c2 n, e = .returned (.agg #[.slice A1 n1 c1, .slice A2 n2 c2]) ∧ OwnNet w' w.heap.size A1 n1 c1 A2 n2 c2 n ∧ (1 ≤ n1 ∧ n1 ≤ 7 ∧ n2 ≤ 12) ∧ Drw w0 w' S ∧ Chg (fun k => k = S) w w' := by
  obtain ⟨i1, hi1, hv0, hv1, hv2⟩ := info_parts infoPipe
  have hlt := h.lt
  have hbw := h.gr.size
  have H := Lib.hid h
  clear h
  go_enter Tryz.func122, Tryz.ntmps122
  go_wp2_with fail
  generalize hw1 : World.alloc w _ = w1
  have hR : w1.heap[w.heap.size]? = some (.cells #[.slice none 0 0, .slice none 0 0] 32 (0, 0)) := by rw [← hw1]; exact heap_alloc_new w _
  have hg1 : Gr w w1 := by rw [← hw1]; exact (Gr.refl _).alloc _
  have hs1 : w1.heap.size = w.heap.size + 1 := by rw [← hw1]; simp
  obtain ⟨R, hRe⟩ : ∃ R, R = w.heap.size := ⟨_, rfl⟩
  rw [← hRe] at hR ⊢
  have hSR : S < R := by omega
  have hRw : w.heap.size ≤ R := by omega
  have hR1 : w1.heap.size = R + 1 := by omega
  have hRw0 : w0.heap.size ≤ R := by omega
  have HR := Lib.hid hR
  clear hw1 hRe hR
  refine (l02Draw_any (H.out.grow hg1)).mono ?_
  rintro e w2 ⟨A1, n1, c1, A2, n2, c2, n, rfl, hown, ⟨hn1, hn7, hn9⟩, hd2, hc2⟩
  obtain ⟨g, rfl, hgb, hgl⟩ := own_form hown.nodes (by omega)
  have hR2 := rb_chg HR.out hc2 (by omega)
  have hcc2 := (hg1.chg (fun k => k = S)).trans hc2
  have hs2 := rb_lt hR2
  have HO := Lib.hid hown
  have hD2 := Lib.hid hd2
  have HR2 := Lib.hid hR2
  have c12 := hown.at_.c2
  clear HR hc2 hown hd2 hR2
  obtain ⟨M, hM⟩ : ∃ M, M = w2.heap.size := ⟨_, rfl⟩
  have hMS : M ≠ S := by omega
  obtain ⟨w3, hw3⟩ : ∃ w3, w3 = (w2.alloc (.cells #[.slice (some ⟨g, 0, none⟩) n1 c1, .slice A2 n2 c2] 32)).alloc (.cells #[] 95) := ⟨_, rfl⟩
  have hg3 : Gr w2 w3 := by rw [hw3]; exact ((Gr.refl _).alloc _).alloc _
  have hs3 : w3.heap.size = M + 2 := by rw [hw3, hM]; simp
  have hM3 : w3.heap[M]? = some (.cells #[.slice (some ⟨g, 0, none⟩) n1 c1, .slice A2 n2 c2] 32 (0, 0)) := by
    rw [hw3, hM]
    exact (((Gr.refl _).alloc _).below.block _ (by simp)).trans (heap_alloc_new w2 _)
  have op3 : w3.ownsRow (M + 1) 95 5 (.slice (some ⟨M + 1, 0, none⟩) 0 0) 0 [] := by
    have q := World.ownsRow_lit (w2.alloc (.cells #[.slice (some ⟨g, 0, none⟩) n1 c1, .slice A2 n2 c2] 32)) (e := 95) (size := 5) #[] 0 (Nat.le_refl _) (by unfold maxLen; omega) rfl
    rw [World.size_alloc, ← hw3, ← hM] at q
    exact q
  have hR3 := (hg3.below.block R hs2).trans HR2.out
  have hnod := own_base (own_gr HO.out.nodes hg3) (base' := R + 1) (by omega)
  have Hnod := Lib.hid hnod
  have hd3 := hD2.out.grow hg3
  have hcc3 := hcc2.trans (hg3.chg (fun k => k = S))
  have HD3 := Lib.hid hd3
  have HR3 := Lib.hid hR3
  have Op3 := Lib.hid op3
  have HM3 := Lib.hid hM3
  have Hnm := Lib.hid HO.out.names
  have Hw3 := Lib.hid hw3
  have HMe := Lib.hid hM
  have hMR : R < M := by omega
  have hgM : g < M := by omega
  clear hw3 hM hgl hs2
  clear hnod hd3 hR3 op3 hM3
  by_cases hz : n2 = 0
  · subst hz
    have st4 : NetSt w0 w w3 S R g c1 n1 (M + 1) 0 0 := ⟨by omega, ⟨n.nodes, Hnod.out, Hnm.out⟩, ⟨[], own_base Op3.out (by omega)⟩, HD3.out, hcc3, HR3.out⟩
    have hM4 := HM3.out
    have hhM : M + 1 ≠ M := by omega
    go_wp2_with (at_builtin; (refine wpList_append_zero rfl _ _ _ _ i1 rfl Tryz.underlying30 hi1 _ _ 0 0 _ (Nat.le_refl _) rfl rfl ?_))
    rw [← Hw3.out, ← HMe.out]
    have St4 := Lib.hid st4
    have HM4 := Lib.hid hM4
    clear st4 hM4
    refine (l01Next_any 3 St4.out.dr (by omega)).mono ?_
    rintro e w5 ⟨y, rfl, hy, hd5, hc5⟩
    obtain ⟨y0, y1⟩ := hy.lt (by omega)
    have St5 := Lib.hid (St4.out.next hSR hd5 hc5)
    have HM5 := Lib.hid (rb_chg HM4.out hc5 (by omega))
    obtain ⟨J, hJ⟩ : ∃ J : Nat, y = (J : Int) := ⟨y.toNat, by omega⟩
    subst hJ
    clear hy hd5 hc5 St4 HM4
    go_wp2_with fail
    go_loopw [5, 6] (fun pp i wq => ∃ j : Nat, j ≤ J ∧ i = .int .i64 j ∧ ∃ h d u, u + j ≤ 11 ∧ pp = .slice (some ⟨h, 0, none⟩) u d ∧ h ≠ M ∧ wq.heap[M]? = some (.cells #[.slice (some ⟨g, 0, none⟩) n1 c1, .slice A2 0 c2] 32 (0, 0)) ∧ NetSt w0 w wq S R g c1 n1 h d u) (fun _ i _ => (intOf i).toNat)
    case atStart => exact ⟨J, Nat.le_refl _, rfl, _, _, _, by omega, rfl, hhM, HM5.out, St5.out⟩
    case round =>
      obtain ⟨j, hj, rfl, h', d', u', hu', rfl, hhM', hM, st⟩ := hrel
      have St := Lib.hid st
      have HM := Lib.hid hM
      clear st hM St5 HM5
      have hwn : w.heap.size ≤ R + 1 := by omega
      by_cases hgo : 0 < j ∧ 1 < n1
      · have hj1 : 0 < j := hgo.1
        have hk1 : 1 < n1 := hgo.2
        have t1 : decide ((0 : Int) < (j : Int)) = true := by simp; omega
        have t2 : decide ((1 : Int) < (n1 : Int)) = true := by simp; omega
        have hk0 : ¬ ((n1 : Int) = 0) := by omega
        clear hgo
        go_wp2_with fail
        refine (l01Next_any (n1 : Int) St.out.dr (by omega)).mono ?_
        rintro e w6 ⟨a, rfl, ha, hd6, hc6⟩
        obtain ⟨a0, a1⟩ := ha.lt (by omega)
        have St6 := Lib.hid (St.out.next hSR hd6 hc6)
        have HM6 := Lib.hid (rb_chg HM.out hc6 (by omega))
        clear ha hd6 hc6 St HM
        go_wp2_with fail
        refine (l01Next_any ((n1 : Int) - 1) St6.out.dr (by omega)).mono ?_
        rintro e w7 ⟨b, rfl, hb, hd7, hc7⟩
        have b0 := hb.1
        have b1 : b ≤ 7 := by
          rcases Int.lt_or_le 1 ((n1 : Int) - 1) with h | h
          · have := hb.2.1 h; omega
          · have := hb.2.2 h; omega
        have St7 := Lib.hid (St6.out.next hSR hd7 hc7)
        have HM7 := Lib.hid (rb_chg HM6.out hc7 (by omega))
        clear hb hd7 hc7 St6 HM6
        go_wp2_with fail
        refine (l02DrawPipe_any a _ St7.out.dr).mono ?_
        rintro e w8 ⟨p, rfl, hd8, hc8⟩
        have St8 := Lib.hid (St7.out.next hSR hd8 hc8)
        have HM8 := Lib.hid (rb_chg HM7.out hc8 (by omega))
        obtain ⟨ps, hps⟩ := St8.out.pipes
        have Hps := Lib.hid hps
        have hb8 := rb_lt St8.out.res
        have hm8 := rb_lt HM8.out
        clear hd8 hc8 St7 HM7 hps
        go_wp2_with (at_builtin; (refine wpList_append_lies _ rfl _ _ _ rfl (R + 1) 95 i1 _ 5 40 Tryz.underlying30 hi1 hv0 hv1 hv2 rfl (by omega) _ u' _ rfl (Hps.out.alloc _) ⟨w8.heap.size, 0, none⟩ 1 1 [.int .i64 p.src, .int .i64 p.dst, .int .i64 p.k, .int .i64 p.vol, .int .i64 p.lim] rfl rfl (World.news_of_block (cs := #[.int .i64 p.src, .int .i64 p.dst, .int .i64 p.k, .int .i64 p.vol, .int .i64 p.lim]) (t := 95) (fr := (0, 0)) (heap_alloc_new w8 _)) (by simp [Value.oneCell']) (by omega) (by unfold maxLen; omega) (by omega) (by simp; omega) (w8.heap.size + 1) (by simp) ?_; intro g9 cap9 w9 ho9 hg9 hat9 hlt9))
        have St9 := Lib.hid (St8.out.addP hRw hRw0 hSR ho9 hg9 hat9)
        have hM9 : w9.heap[M]? = some (.cells #[.slice (some ⟨g, 0, none⟩) n1 c1, .slice A2 0 c2] 32 (0, 0)) := by
          have h1 := (((Gr.refl w8).alloc (.cells #[.int .i64 p.src, .int .i64 p.dst, .int .i64 p.k, .int .i64 p.vol, .int .i64 p.lim] 95)).below.block M hm8).trans HM8.out
          exact (hg9.block M (rb_lt h1) (fun e => hhM' (Option.some.inj e).symm)).trans h1
        have HM9 := Lib.hid hM9
        have hhM9 : g9 ≠ M := by
          rcases hat9 with e | e
          · intro e2; exact hhM' ((Option.some.inj e).trans e2)
          · omega
        clear ho9 hg9 hat9 hlt9 St8 Hps HM8 hM9
        go_wp2_with fail
        go_roundw
        case rel => exact ⟨j - 1, by omega, by go_num, _, _, _, by omega, rfl, hhM9, HM9.out, St9.out⟩
        case measure => simp [intOf]; omega
      · have hR9 := St.out.res
        have c0 := rb_cell (j := 0) hR9 rfl
        have c1' := rb_cell (j := 1) hR9 rfl
        have f0 := rb_frozen hR9 0
        have f1 := rb_frozen hR9 1
        have m0 := rb_cell (j := 0) HM.out rfl
        have m1 := rb_cell (j := 1) HM.out rfl
        obtain ⟨q1, q2, nn, q3⟩ := net_end hRw hRw0 hSR (by omega) (by omega) St.out
        have Q1 := Lib.hid q1
        have Q2 := Lib.hid q2
        have Q3 := Lib.hid q3
        have hbp : ((wr.setCell ⟨R, 0, none⟩ (.slice (some ⟨g, 0, none⟩) n1 c1)).setCell ⟨R, 1, none⟩ (.slice (some ⟨h', 0, none⟩) u' d')).heap[R]? = some (.cells #[.slice (some ⟨g, 0, none⟩) n1 c1, .slice (some ⟨h', 0, none⟩) u' d'] 32 (0, 0)) := by simp [World.setCell, Array.getElem?_modify, hR9]
        have Hbp := Lib.hid hbp
        clear hR9 q1 q2 q3 hbp
        by_cases hj0 : 0 < j
        all_goals
          (first
            | (have t1 : decide (0 < j) = true := decide_eq_true (by omega)
               have t2 : decide (1 < n1) = false := decide_eq_false (by omega)
               have t3 : n1 ≤ 1 := by omega)
            | (have t1 : decide (0 < j) = false := decide_eq_false (by omega)
               have t3 : j = 0 := by omega
               subst t3))
          clear hgo hj0
          go_wp2_with fail
          (try simp only [Exit.inBlock, Exit.then])
          refine bodyPost_ret (results_cell_row Tryz.results122 _ _ R 32 #[.slice (some ⟨g, 0, none⟩) n1 c1, .slice (some ⟨h', 0, none⟩) u' d'] (0, 0) _ ?_ Hbp.out Tryz.underlying32 rfl (by kernel_rfl)) ?_ ?_
          · rfl
          · rfl
          exact ⟨_, _, _, _, _, _, nn, rfl, Q3.out, ⟨by omega, by omega, by omega⟩, Q1.out, Q2.out⟩
  · obtain ⟨bq, rfl, hbb, hbl⟩ := own_form HO.out.pipes (by omega)
    have hnews := ((Sl.of_own HO.out.pipes).gr hg3).cells
    have hlenp : (n.pipes.flatMap GPipe.cells).length = n2 * 5 := HO.out.pipes.1
    have Hnews := Lib.hid hnews
    have Hlenp := Lib.hid hlenp
    clear hnews hlenp hbb hbl
    go_wp2_with (at_builtin; (rw [← Hw3.out, ← HMe.out]; refine wpList_append_lies _ rfl _ _ _ rfl (M + 1) 95 i1 _ 5 40 Tryz.underlying30 hi1 hv0 hv1 hv2 rfl (by omega) _ 0 _ rfl Op3.out ⟨bq, 0, none⟩ n2 c2 (n.pipes.flatMap GPipe.cells) rfl Hlenp.out Hnews.out (pipes_one _) (by omega) (by unfold maxLen; omega) (by omega) (by omega) (M + 2) hs3 ?_; intro h4 cap4 w4 ho4 hg4 hat4 hlt4; rw [Nat.zero_add, List.nil_append] at ho4; rw [Nat.zero_add]))
    have hgr4 : ∀ j, (Value.slice (some ⟨M + 1, 0, none⟩) 0 0).ownBlock = some j → j = M + 1 := fun j hj => (Option.some.inj hj).symm
    have hh4 : h4 = M + 1 ∨ h4 = M + 2 := by
      rcases hat4 with e | e
      · exact Or.inl (Option.some.inj e).symm
      · exact Or.inr e
    have st4 : NetSt w0 w w4 S R g c1 n1 h4 cap4 n2 := ⟨by omega, ⟨n.nodes, Hnod.out.kept hg4 (Or.inr fun e => by have := hgr4 g e.symm; omega), Hnm.out⟩, ⟨n.pipes, own_base ho4 (by omega)⟩, HD3.out.grown hg4 (fun j hj => by have := hgr4 j hj; omega), hcc3.grown' hg4 (fun j hj => by have := hgr4 j hj; omega), (hg4.block R (by omega) (fun e => by have := hgr4 R e.symm; omega)).trans HR3.out⟩
    have hM4 := (hg4.block M (by omega) (fun e => by have := hgr4 M e.symm; omega)).trans HM3.out
    have hhM : h4 ≠ M := by omega
    clear ho4 hg4 hat4 hlt4 hgr4 hh4
    have St4 := Lib.hid st4
    have HM4 := Lib.hid hM4
    clear st4 hM4
    refine (l01Next_any 3 St4.out.dr (by omega)).mono ?_
    rintro e w5 ⟨y, rfl, hy, hd5, hc5⟩
    obtain ⟨y0, y1⟩ := hy.lt (by omega)
    have St5 := Lib.hid (St4.out.next hSR hd5 hc5)
    have HM5 := Lib.hid (rb_chg HM4.out hc5 (by omega))
    obtain ⟨J, hJ⟩ : ∃ J : Nat, y = (J : Int) := ⟨y.toNat, by omega⟩
    subst hJ
    clear hy hd5 hc5 St4 HM4
    go_wp2_with fail
    go_loopw [5, 6] (fun pp i wq => ∃ j : Nat, j ≤ J ∧ i = .int .i64 j ∧ ∃ h d u, u + j ≤ 11 ∧ pp = .slice (some ⟨h, 0, none⟩) u d ∧ h ≠ M ∧ wq.heap[M]? = some (.cells #[.slice (some ⟨g, 0, none⟩) n1 c1, .slice (some ⟨bq, 0, none⟩) n2 c2] 32 (0, 0)) ∧ NetSt w0 w wq S R g c1 n1 h d u) (fun _ i _ => (intOf i).toNat)
    case atStart => exact ⟨J, Nat.le_refl _, rfl, _, _, _, by omega, rfl, hhM, HM5.out, St5.out⟩
    case round =>
      obtain ⟨j, hj, rfl, h', d', u', hu', rfl, hhM', hM, st⟩ := hrel
      have St := Lib.hid st
      have HM := Lib.hid hM
      clear st hM St5 HM5
      have hwn : w.heap.size ≤ R + 1 := by omega
      by_cases hgo : 0 < j ∧ 1 < n1
      · have hj1 : 0 < j := hgo.1
        have hk1 : 1 < n1 := hgo.2
        have t1 : decide ((0 : Int) < (j : Int)) = true := by simp; omega
        have t2 : decide ((1 : Int) < (n1 : Int)) = true := by simp; omega
        have hk0 : ¬ ((n1 : Int) = 0) := by omega
        clear hgo
        go_wp2_with fail
        refine (l01Next_any (n1 : Int) St.out.dr (by omega)).mono ?_
        rintro e w6 ⟨a, rfl, ha, hd6, hc6⟩
        obtain ⟨a0, a1⟩ := ha.lt (by omega)
        have St6 := Lib.hid (St.out.next hSR hd6 hc6)
        have HM6 := Lib.hid (rb_chg HM.out hc6 (by omega))
        clear ha hd6 hc6 St HM
        go_wp2_with fail
        refine (l01Next_any ((n1 : Int) - 1) St6.out.dr (by omega)).mono ?_
        rintro e w7 ⟨b, rfl, hb, hd7, hc7⟩
        have b0 := hb.1
        have b1 : b ≤ 7 := by
          rcases Int.lt_or_le 1 ((n1 : Int) - 1) with h | h
          · have := hb.2.1 h; omega
          · have := hb.2.2 h; omega
        have St7 := Lib.hid (St6.out.next hSR hd7 hc7)
        have HM7 := Lib.hid (rb_chg HM6.out hc7 (by omega))
        clear hb hd7 hc7 St6 HM6
        go_wp2_with fail
        refine (l02DrawPipe_any a _ St7.out.dr).mono ?_
        rintro e w8 ⟨p, rfl, hd8, hc8⟩
        have St8 := Lib.hid (St7.out.next hSR hd8 hc8)
        have HM8 := Lib.hid (rb_chg HM7.out hc8 (by omega))
        obtain ⟨ps, hps⟩ := St8.out.pipes
        have Hps := Lib.hid hps
        have hb8 := rb_lt St8.out.res
        have hm8 := rb_lt HM8.out
        clear hd8 hc8 St7 HM7 hps
        go_wp2_with (at_builtin; (refine wpList_append_lies _ rfl _ _ _ rfl (R + 1) 95 i1 _ 5 40 Tryz.underlying30 hi1 hv0 hv1 hv2 rfl (by omega) _ u' _ rfl (Hps.out.alloc _) ⟨w8.heap.size, 0, none⟩ 1 1 [.int .i64 p.src, .int .i64 p.dst, .int .i64 p.k, .int .i64 p.vol, .int .i64 p.lim] rfl rfl (World.news_of_block (cs := #[.int .i64 p.src, .int .i64 p.dst, .int .i64 p.k, .int .i64 p.vol, .int .i64 p.lim]) (t := 95) (fr := (0, 0)) (heap_alloc_new w8 _)) (by simp [Value.oneCell']) (by omega) (by unfold maxLen; omega) (by omega) (by simp; omega) (w8.heap.size + 1) (by simp) ?_; intro g9 cap9 w9 ho9 hg9 hat9 hlt9))
        have St9 := Lib.hid (St8.out.addP hRw hRw0 hSR ho9 hg9 hat9)
        have hM9 : w9.heap[M]? = some (.cells #[.slice (some ⟨g, 0, none⟩) n1 c1, .slice (some ⟨bq, 0, none⟩) n2 c2] 32 (0, 0)) := by
          have h1 := (((Gr.refl w8).alloc (.cells #[.int .i64 p.src, .int .i64 p.dst, .int .i64 p.k, .int .i64 p.vol, .int .i64 p.lim] 95)).below.block M hm8).trans HM8.out
          exact (hg9.block M (rb_lt h1) (fun e => hhM' (Option.some.inj e).symm)).trans h1
        have HM9 := Lib.hid hM9
        have hhM9 : g9 ≠ M := by
          rcases hat9 with e | e
          · intro e2; exact hhM' ((Option.some.inj e).trans e2)
          · omega
        clear ho9 hg9 hat9 hlt9 St8 Hps HM8 hM9
        go_wp2_with fail
        go_roundw
        case rel => exact ⟨j - 1, by omega, by go_num, _, _, _, by omega, rfl, hhM9, HM9.out, St9.out⟩
        case measure => simp [intOf]; omega
      · have hR9 := St.out.res
        have c0 := rb_cell (j := 0) hR9 rfl
        have c1' := rb_cell (j := 1) hR9 rfl
        have f0 := rb_frozen hR9 0
        have f1 := rb_frozen hR9 1
        have m0 := rb_cell (j := 0) HM.out rfl
        have m1 := rb_cell (j := 1) HM.out rfl
        obtain ⟨q1, q2, nn, q3⟩ := net_end hRw hRw0 hSR (by omega) (by omega) St.out
        have Q1 := Lib.hid q1
        have Q2 := Lib.hid q2
        have Q3 := Lib.hid q3
        have hbp : ((wr.setCell ⟨R, 0, none⟩ (.slice (some ⟨g, 0, none⟩) n1 c1)).setCell ⟨R, 1, none⟩ (.slice (some ⟨h', 0, none⟩) u' d')).heap[R]? = some (.cells #[.slice (some ⟨g, 0, none⟩) n1 c1, .slice (some ⟨h', 0, none⟩) u' d'] 32 (0, 0)) := by simp [World.setCell, Array.getElem?_modify, hR9]
        have Hbp := Lib.hid hbp
        clear hR9 q1 q2 q3 hbp
        by_cases hj0 : 0 < j
        all_goals
          (first
            | (have t1 : decide (0 < j) = true := decide_eq_true (by omega)
               have t2 : decide (1 < n1) = false := decide_eq_false (by omega)
               have t3 : n1 ≤ 1 := by omega)
            | (have t1 : decide (0 < j) = false := decide_eq_false (by omega)
               have t3 : j = 0 := by omega
               subst t3))
          clear hgo hj0
          go_wp2_with fail
          (try simp only [Exit.inBlock, Exit.then])
          refine bodyPost_ret (results_cell_row Tryz.results122 _ _ R 32 #[.slice (some ⟨g, 0, none⟩) n1 c1, .slice (some ⟨h', 0, none⟩) u' d'] (0, 0) _ ?_ Hbp.out Tryz.underlying32 rfl (by kernel_rfl)) ?_ ?_
          · rfl
          · rfl
          exact ⟨_, _, _, _, _, _, nn, rfl, Q3.out, ⟨by omega, by omega, by omega⟩, Q1.out, Q2.out⟩
end Go.Proofs.YthhmhigddmimjaaGreat
/-
  Draws: chords: the reference's forest ends and leaves numbers.
-/
namespace Go.Proofs.YthhmhigddmimjaaGreat
open Go.ChangeShapes Go.WideShapes Go.ChangeAt Go.RowKit

theorem bools_len (l : List Bool) : (bools l).length = l.length := by simp [bools]
theorem own_blen {w : World} {base : Nat} {e : TypeId} {n : Nat} {v : Value} {zs : List Bool} (h : w.ownsRow base e 1 v n (bools zs)) : zs.length = n := by
  have h1 := h.1; rw [bools_len] at h1; omega
end Go.Proofs.YthhmhigddmimjaaGreat
