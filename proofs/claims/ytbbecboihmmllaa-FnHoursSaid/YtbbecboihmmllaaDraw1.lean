/-
  Draws: the source of numbers.
-/
import Derived.Test.YtbbecboihmmllaaCore
import Derived.Test.YtbbecboihmmllaaText
import Derived.BigRegion
namespace Go.Proofs.Ytbbecboihmmllaa
open Go.ChangeShapes Go.WideShapes Go.ChangeAt Go.RowKit

def byts (bs : List UInt8) : List Value := bs.map fun b => .int .u8 (b.toNat : Int)
theorem byts_length (bs : List UInt8) : (byts bs).length = bs.length := by simp [byts]
theorem Sl.byt {w : World} {A : Option Addr} {n k : Nat} {bs : List UInt8} {x : UInt8} (h : Sl w 1 A n (byts bs)) (hk : bs[k]? = some x) :
    ∃ b o, A = some ⟨b, o, none⟩ ∧ b < w.heap.size ∧ w.cell? ⟨b, o + k, none⟩ = some (.int .u8 (x.toNat : Int)) := by
  have hkl : k < bs.length := (List.getElem?_eq_some_iff.1 hk).1
  have h1 := h.1
  rw [byts_length] at h1
  obtain ⟨b, o, e, hb, hr⟩ := h.2 (by omega)
  exact ⟨b, o, e, hb, hr k _ (by simp [byts, hk])⟩
theorem Sl.blen {w : World} {A : Option Addr} {n : Nat} {bs : List UInt8} (h : Sl w 1 A n (byts bs)) : bs.length = n := by
  have h1 := h.1; rw [byts_length] at h1; omega
/-- The block of a source. -/
def SrcBlk (w : World) (S : Nat) (C : Value) (a d : Int) : Prop := w.heap[S]? = some (.cells #[C, .int .i64 a, .int .i64 d] 66 (0, 0))
theorem SrcBlk.lt {w : World} {S : Nat} {C : Value} {a d : Int} (h : SrcBlk w S C a d) : S < w.heap.size := (Array.getElem?_eq_some_iff.1 h).1
theorem SrcBlk.k0 {w : World} {S : Nat} {C : Value} {a d : Int} (h : SrcBlk w S C a d) : w.cell? ⟨S, 0, none⟩ = some C := by rw [cell_of_row w S 0 _ _ _ h]; rfl
theorem SrcBlk.k1 {w : World} {S : Nat} {C : Value} {a d : Int} (h : SrcBlk w S C a d) : w.cell? ⟨S, 1, none⟩ = some (.int .i64 a) := by rw [cell_of_row w S 1 _ _ _ h]; rfl
theorem SrcBlk.k2 {w : World} {S : Nat} {C : Value} {a d : Int} (h : SrcBlk w S C a d) : w.cell? ⟨S, 2, none⟩ = some (.int .i64 d) := by rw [cell_of_row w S 2 _ _ _ h]; rfl
theorem SrcBlk.fr {w : World} {S : Nat} {C : Value} {a d : Int} (h : SrcBlk w S C a d) (j : Nat) : w.frozen? ⟨S, j, none⟩ = false := by
  unfold SrcBlk at h
  simp [World.frozen?, h]
theorem SrcBlk.gr {w w' : World} {S : Nat} {C : Value} {a d : Int} (h : SrcBlk w S C a d) (g : Gr w w') : SrcBlk w' S C a d := (g.below.block S h.lt).trans h
theorem SrcBlk.put1 {w : World} {S : Nat} {C : Value} {a d : Int} (h : SrcBlk w S C a d) (a' : Int) : SrcBlk (w.setCell ⟨S, 1, none⟩ (.int .i64 a')) S C a' d := by
  unfold SrcBlk at h ⊢
  simp [World.setCell, Array.getElem?_modify, h]
theorem SrcBlk.put2 {w : World} {S : Nat} {C : Value} {a d : Int} (h : SrcBlk w S C a d) (d' : Int) : SrcBlk (w.setCell ⟨S, 2, none⟩ (.int .i64 d')) S C a d' := by
  unfold SrcBlk at h ⊢
  simp [World.setCell, Array.getElem?_modify, h]
theorem chg_put {w : World} {S : Nat} (j : Nat) (v : Value) : Chg (fun k => k = S) w (w.setCell ⟨S, j, none⟩ v) :=
  ⟨rfl, rfl, rfl, by simp, fun k _ hne => by
    have : ¬ S = k := fun e => hne e.symm
    simp [World.setCell, Array.getElem?_modify, this]⟩
theorem chg_cell' {S : Nat → Prop} {w w' : World} {p : Addr} {v : Value} (h : Chg S w w') (hc : w.cell? p = some v) (hn : ¬ S p.block) : w'.cell? p = some v := by
  exact (World.cell?_of_block (h.block p.block (lt_of_cell hc) hn)).trans hc
/-- A source stands at S; nothing of w0 has turned. -/
structure Drw (w0 w : World) (S : Nat) : Prop where
  gr : Gr w0 w
  base : w0.heap.size ≤ S
  blk : ∃ A m c bs, ∃ a d : Int, SlAt w0 1 A m c (byts bs) ∧ SrcBlk w S (.slice A m c) a d ∧ (0 ≤ a ∧ a ≤ m) ∧ 0 ≤ d ∧ d ≤ 2147483646
theorem Drw.grow {w0 w w' : World} {S : Nat} (h : Drw w0 w S) (g : Gr w w') : Drw w0 w' S := by
  obtain ⟨A, m, c, bs, a, d, h1, h2, h3, h4⟩ := h.blk
  exact ⟨h.gr.trans g, h.base, A, m, c, bs, a, d, h1, h2.gr g, h3, h4⟩
theorem Drw.lt {w0 w : World} {S : Nat} (h : Drw w0 w S) : S < w.heap.size := by
  obtain ⟨A, m, c, bs, a, d, h1, h2, h3, h4⟩ := h.blk
  exact h2.lt
theorem tmod_bnd {x y : Int} (hx : 0 ≤ x) (hy : 0 < y) : 0 ≤ x.tmod y ∧ x.tmod y < y := by
  rw [Int.tmod_eq_emod_of_nonneg hx]
  exact ⟨Int.emod_nonneg _ (Int.ne_of_gt hy), Int.emod_lt_of_pos _ hy⟩
/-- A number from 0 to n - 1, and 0 if n is 1 or less. -/
def Upto (n x : Int) : Prop := 0 ≤ x ∧ (1 < n → x < n) ∧ (n ≤ 1 → x = 0)
theorem emod_bnd (x : Int) {y : Int} (hy : 0 < y) : 0 ≤ x % y ∧ x % y < y := ⟨Int.emod_nonneg _ (Int.ne_of_gt hy), Int.emod_lt_of_pos _ hy⟩
set_option maxHeartbeats 1600000 in
theorem l01Next_any {w0 w : World} {S : Nat} (n : Int) (h : Drw w0 w S) (hn : n ≤ 1000000000) :
    Calls Try.prog 37 #[.pointer (some ⟨S, 0, none⟩), .int .i64 n] w fun e w' => ∃ x : Int, e = .returned (.int .i64 x) ∧ Upto n x ∧ Drw w0 w' S ∧ Chg (fun k => k = S) w w' := by
  by_cases h1 : n ≤ 1
  · have H := Lib.hid h
    clear h
    go_enter Try.func37, Try.ntmps37
    go_wp2_with fail
    go_ret
    exact ⟨0, rfl, ⟨by omega, by omega, fun _ => rfl⟩, H.out, Chg.refl _ _⟩
  · obtain ⟨gr, base, A, m, c, bs, a, d, hC, hB, ha, hd⟩ := h
    have hm := hC.small
    obtain ⟨e, he⟩ : ∃ e, e = (d * 48271 + 7).tmod 2147483647 := ⟨_, rfl⟩
    have heb : 0 ≤ e ∧ e ≤ 2147483646 := by
      have := tmod_bnd (x := d * 48271 + 7) (y := 2147483647) (by omega) (by omega)
      omega
    obtain ⟨q, hq⟩ : ∃ q, q = e.tdiv 19 := ⟨_, rfl⟩
    have hqb : 0 ≤ q ∧ q ≤ 2147483646 := by rw [hq, Int.tdiv_eq_ediv_of_nonneg heb.1]; omega
    have k2 := hB.k2
    have f2 := hB.fr 2
    have HB := Lib.hid hB
    have HC := Lib.hid hC
    have Hgr := Lib.hid gr
    have he' := he.symm
    have hq' := hq.symm
    clear hB hC gr he hq
    go_enter Try.func37, Try.ntmps37
    go_wp2_with fail
    generalize hw1 : World.setCell w _ _ = w1
    have hB1 : SrcBlk w1 S (.slice A m c) a e := by rw [← hw1]; exact HB.out.put2 e
    have hc1 : Chg (fun k => k = S) w w1 := by rw [← hw1]; exact chg_put _ _
    have hg1 : Gr w0 w1 := Hgr.out.of_chg hc1 (fun k hk => by omega)
    clear hw1 k2 f2 HB
    have r0 := hB1.k0
    have r1 := hB1.k1
    go_quiet (fail)
    generalize hw2 : World.drewN w1 _ = w2
    have hx12 : Gr w1 w2 := by rw [← hw2]; exact (Gr.refl _).drewN _
    have hB2 := hB1.gr hx12
    have hc2 : Chg (fun k => k = S) w w2 := hc1.trans (hx12.chg _)
    have hg2 := hg1.trans hx12
    clear hw2 hx12 hB1 hc1 hg1 r0 r1
    by_cases hlt : a < m
    · obtain ⟨v, hv⟩ : ∃ v, bs[a.toNat]? = some v := ⟨_, List.getElem?_eq_getElem (by rw [HC.out.sl.blen]; omega)⟩
      obtain ⟨b, o, rfl, hb, x0⟩ := HC.out.sl.byt hv
      replace x0 := hg2.has x0
      have hvb : (v.toNat : Int) ≤ 255 := by have := v.toNat_lt; omega
      have hv0 : 0 ≤ (v.toNat : Int) := by omega
      generalize (v.toNat : Int) = y at x0 hvb hv0
      obtain ⟨a', rfl⟩ : ∃ a' : Nat, a = (a' : Int) := ⟨a.toNat, by omega⟩
      rw [Int.toNat_natCast] at x0
      have r0 := hB2.k0
      have r1 := hB2.k1
      clear hv
      go_wp2_with fail
      go_quiet (fail)
      generalize hw3 : World.drewN w2 _ = w3
      have hx23 : Gr w2 w3 := by rw [← hw3]; exact (Gr.refl _).drewN _
      have hB3 := hB2.gr hx23
      have hc3 : Chg (fun k => k = S) w w3 := hc2.trans (hx23.chg _)
      have hg3 := hg2.trans hx23
      replace x0 := hx23.has x0
      have q1 := hB3.k1
      have f1 := hB3.fr 1
      have hB4 := hB3.put1 ((a' : Int) + 1)
      have hc4 := hc3.trans (chg_put (w := w3) (S := S) 1 (.int .i64 ((a' : Int) + 1)))
      have hg4 := hg3.of_chg (chg_put (w := w3) (S := S) 1 (.int .i64 ((a' : Int) + 1))) (fun k hk => by omega)
      have hx4 := chg_cell' (chg_put (w := w3) (S := S) 1 (.int .i64 ((a' : Int) + 1))) x0 (by simp only; have := HC.out.sl; omega)
      have HB4 := Lib.hid hB4
      have Hc4 := Lib.hid hc4
      have Hg4 := Lib.hid hg4
      have Hx4 := Lib.hid hx4
      clear hw3 hx23 hB3 hc3 hg3 r0 r1 hB2 hc2 hg2 x0 hB4 hc4 hg4 hx4
      by_cases hn256 : n ≤ 256
      · obtain ⟨z, hz⟩ : ∃ z, z = ((a' : Int) + 1).tmod 2 := ⟨_, rfl⟩
        have hz' := hz.symm
        clear hz
        by_cases hz0 : z = 0
        · subst hz0
          go_wp2_with fail
          generalize hw4 : World.setCell w3 _ _ = w4
          have hB4 : SrcBlk w4 S (.slice (some ⟨b, o, none⟩) m c) ((a' : Int) + 1) e := by rw [← hw4]; exact HB4.out
          have hx4 : w4.cell? ⟨b, o + a', none⟩ = some (.int .u8 y) := by rw [← hw4]; exact Hx4.out
          have hc4 : Chg (fun k => k = S) w w4 := by rw [← hw4]; exact Hc4.out
          have hg4 : Gr w0 w4 := by rw [← hw4]; exact Hg4.out
          have r0 := hB4.k0
          have r1 := hB4.k1
          clear hw4 HB4 Hx4 Hc4 Hg4 q1 f1
          go_quiet (fail)
          go_wp2_with fail
          go_ret
          obtain ⟨t1, t2⟩ := emod_bnd (y) (y := n) (by omega)
          exact ⟨_, rfl, ⟨t1, fun _ => t2, fun h => by omega⟩, ⟨hg4.drewN _, base, _, _, _, _, _, _, HC.out, hB4.gr ((Gr.refl _).drewN _), ⟨by omega, by omega⟩, by omega, by omega⟩, hc4.trans (((Gr.refl _).drewN _).chg _)⟩
        · have hzb : (z == 0) = false := by simp [hz0]
          go_wp2_with fail
          go_ret
          obtain ⟨t1, t2⟩ := emod_bnd (q + y) (y := n) (by omega)
          exact ⟨_, rfl, ⟨t1, fun _ => t2, fun h => by omega⟩, ⟨Hg4.out, base, _, _, _, _, _, _, HC.out, HB4.out, ⟨by omega, by omega⟩, by omega, by omega⟩, Hc4.out⟩
      · have tn : decide (n ≤ 256) = false := by simp; omega
        go_wp2_with fail
        go_ret
        obtain ⟨t1, t2⟩ := emod_bnd (q + y) (y := n) (by omega)
        exact ⟨_, rfl, ⟨t1, fun _ => t2, fun h => by omega⟩, ⟨Hg4.out, base, _, _, _, _, _, _, HC.out, HB4.out, ⟨by omega, by omega⟩, by omega, by omega⟩, Hc4.out⟩
    · go_wp2_with fail
      go_ret
      obtain ⟨t1, t2⟩ := emod_bnd (q) (y := n) (by omega)
      exact ⟨_, rfl, ⟨t1, fun _ => t2, fun h => by omega⟩, ⟨hg2, base, _, _, _, _, _, _, HC.out, hB2, ⟨by omega, by omega⟩, by omega, by omega⟩, hc2⟩
theorem l01From_any {A : Option Addr} {m c : Nat} (bs : List UInt8) (w : World) (hC : SlAt w 1 A m c (byts bs)) :
    Calls Try.prog 17 #[.slice A m c] w fun e w' => ∃ S, e = .returned (.pointer (some ⟨S, 0, none⟩)) ∧ w.heap.size ≤ S ∧ Drw w w' S := by
  have HC := Lib.hid hC
  have hm := hC.small
  clear hC
  go_enter Try.func17, Try.ntmps17
  go_wp2_with fail
  generalize hw0 : World.alloc w _ = w0
  have hB0 : SrcBlk w0 w.heap.size (.slice A m c) 0 50311 := by rw [← hw0]; exact heap_alloc_new w _
  have hg0 : Gr w w0 := by rw [← hw0]; exact (Gr.refl _).alloc _
  obtain ⟨S, hS⟩ : ∃ S, S = w.heap.size := ⟨_, rfl⟩
  rw [← hS] at hB0 ⊢
  have hSb : w.heap.size ≤ S := by omega
  have HB0 := Lib.hid hB0
  clear hw0 hB0 hS
  go_loopw [4] (fun i wr => ∃ k : Nat, k ≤ m ∧ i = .int .i64 k ∧ (∃ d : Int, SrcBlk wr S (.slice A m c) 0 d ∧ 0 ≤ d ∧ d ≤ 2147483646) ∧ Gr w wr) (fun i _ => m - (intOf i).toNat)
  case atStart => exact ⟨0, Nat.zero_le _, rfl, ⟨_, HB0.out, by omega, by omega⟩, hg0⟩
  case round =>
    obtain ⟨k, hk, rfl, ⟨d, hB, hd0, hd1⟩, hgr⟩ := hrel
    by_cases hlt : k < m
    · by_cases h64 : k < 64
      · obtain ⟨v, hv⟩ : ∃ v, bs[k]? = some v := ⟨_, List.getElem?_eq_getElem (by rw [HC.out.sl.blen]; omega)⟩
        obtain ⟨b, o, rfl, hb, x0⟩ := HC.out.sl.byt hv
        replace x0 := hgr.has x0
        have hvb : (v.toNat : Int) ≤ 255 := by have := v.toNat_lt; omega
        have hv0 : 0 ≤ (v.toNat : Int) := by omega
        generalize (v.toNat : Int) = y at x0 hvb hv0
        obtain ⟨e, he⟩ : ∃ e, e = (d * 41 + y).tmod 2147483647 := ⟨_, rfl⟩
        have heb : 0 ≤ e ∧ e ≤ 2147483646 := by
          have := tmod_bnd (x := d * 41 + y) (y := 2147483647) (by omega) (by omega)
          omega
        have he' := he.symm
        have hw1 : IntKind.i64.wrap (d * 41) = d * 41 := IntWalk.i64_in _ (by omega)
        have hw2 : IntKind.i64.wrap (d * 41 + y) = d * 41 + y := IntWalk.i64_in _ (by omega)
        have hw3 : IntKind.i64.wrap e = e := IntWalk.i64_in _ (by omega)
        have k2 := hB.k2
        have f2 := hB.fr 2
        have HB1 := Lib.hid (hB.put2 e)
        have hg1 := hgr.of_chg (chg_put (w := wr) (S := S) 2 (.int .i64 e)) (fun k hk => by omega)
        have Hg1 := Lib.hid hg1
        have t1 : (k : Int) < (m : Int) := by omega
        have t0 : (0 : Int) ≤ (k : Int) := by omega
        clear hv he hB HB0 hg1
        go_wp2_with fail
        go_region
        go_wp2_with fail
        go_roundw
        case rel => exact ⟨k + 1, by omega, by go_num, ⟨e, HB1.out.gr (Gr.refl _).drew, heb.1, heb.2⟩, Hg1.out.drew⟩
        case measure => simp [intOf]; omega
      · have t1 : decide ((k : Int) < 64) = false := by simp; omega
        have t2 : decide ((k : Int) < (m : Int)) = true := by simp; omega
        go_wp2_with fail
        go_ret
        exact ⟨S, rfl, hSb, ⟨hgr, hSb, _, _, _, _, _, _, HC.out, hB, by omega, hd0, hd1⟩⟩
    · obtain rfl : k = m := by omega
      go_wp2_with fail
      go_ret
      exact ⟨S, rfl, hSb, ⟨hgr, hSb, _, _, _, _, _, _, HC.out, hB, by omega, hd0, hd1⟩⟩
end Go.Proofs.Ytbbecboihmmllaa
