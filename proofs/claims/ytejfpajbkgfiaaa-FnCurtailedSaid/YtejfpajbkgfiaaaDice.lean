/-
  The laws' dice.
-/
import Derived.Test.YtejfpajbkgfiaaaLawKs
import Derived.Test.YtejfpajbkgfiaaaDraw2
import Derived.Laws.Bits64b
set_option linter.unusedSimpArgs false
set_option linter.unusedVariables false
namespace Go.Proofs.Ytejfpajbkgfiaaa
open Go.ChangeShapes Go.WideShapes Go.ChangeAt Go.RowKit

/-- A dice's block: the code, where it stands, a number. -/
def DiceAt (w : World) (D : Nat) (A : Option Addr) (m c : Nat) (i h : Int) : Prop := w.heap[D]? = some (.cells #[.slice A m c, .int .i64 i, .int .u64 h] 95 (0, 0))
theorem u64_bnd (z : Int) : 0 ≤ IntKind.u64.wrap z ∧ IntKind.u64.wrap z < 18446744073709551616 := by
  rw [IntKind.wrap_u64]
  omega
theorem mask_bnd {z : Int} (h : 0 ≤ z ∧ z < 18446744073709551616) : 0 ≤ bits .and .u64 z 16777215 ∧ bits .and .u64 z 16777215 ≤ 16777215 := by
  obtain ⟨a, ha⟩ : ∃ a : Nat, z = (a : Int) := ⟨z.toNat, by omega⟩
  subst ha
  have e := bits_and_u64_nat a 16777215 (by omega) (by omega)
  have h1 : a &&& 16777215 ≤ 16777215 := Nat.and_le_right
  rw [show ((16777215 : Nat) : Int) = 16777215 from rfl] at e
  rw [e]
  omega
theorem DiceAt.lt {w : World} {D : Nat} {A : Option Addr} {m c : Nat} {i h : Int} (q : DiceAt w D A m c i h) : D < w.heap.size := rb_lt q
theorem DiceAt.gr {w w' : World} {D : Nat} {A : Option Addr} {m c : Nat} {i h : Int} (q : DiceAt w D A m c i h) (g : Gr w w') : DiceAt w' D A m c i h := (g.below.block D q.lt).trans q
theorem DiceAt.put2 {w : World} {D : Nat} {A : Option Addr} {m c : Nat} {i h : Int} (q : DiceAt w D A m c i h) (v : Int) : DiceAt (w.setCell ⟨D, 2, none⟩ (.int .u64 v)) D A m c i v := by
  unfold DiceAt at q ⊢
  simp [World.setCell, Array.getElem?_modify, q]
theorem DiceAt.put1 {w : World} {D : Nat} {A : Option Addr} {m c : Nat} {i h : Int} (q : DiceAt w D A m c i h) (v : Int) : DiceAt (w.setCell ⟨D, 1, none⟩ (.int .i64 v)) D A m c v h := by
  unfold DiceAt at q ⊢
  simp [World.setCell, Array.getElem?_modify, q]
set_option maxHeartbeats 1600000 in
theorem roll_any {A : Option Addr} {m c : Nat} (bs : List UInt8) (sd : Int) (w : World) (hC : SlAt w 1 A m c (byts bs)) :
    Calls Try.prog 43 #[.slice A m c, .int .u64 sd] w fun e w' => ∃ D h, e = .returned (.pointer (some ⟨D, 0, none⟩)) ∧ w.heap.size ≤ D ∧ DiceAt w' D A m c 0 h ∧ Gr w w' := by
  have HC := Lib.hid hC
  have hm := hC.small
  clear hC
  go_enter Try.func43, Try.ntmps43
  go_wp2_with fail
  generalize hw1 : World.alloc w _ = w1
  have hB : ∃ h, DiceAt w1 w.heap.size A m c 0 h := ⟨_, by rw [← hw1]; exact heap_alloc_new w _⟩
  have hg1 : Gr w w1 := by rw [← hw1]; exact (Gr.refl _).alloc _
  obtain ⟨D, hD⟩ : ∃ D, D = w.heap.size := ⟨_, rfl⟩
  rw [← hD] at hB ⊢
  have hDw : w.heap.size ≤ D := by omega
  have HB := Lib.hid hB
  clear hw1 hB hD
  go_loopw [6] (fun i wr => ∃ k : Nat, k ≤ m ∧ i = .int .i64 k ∧ (∃ h, DiceAt wr D A m c 0 h) ∧ Gr w wr) (fun i _ => m - (intOf i).toNat)
  case atStart => exact ⟨0, Nat.zero_le _, rfl, HB.out, hg1⟩
  case round =>
    obtain ⟨k, hk, rfl, ⟨h, hd⟩, hgr⟩ := hrel
    by_cases hlt : k < m
    · obtain ⟨v, hv⟩ : ∃ v, bs[k]? = some v := ⟨_, List.getElem?_eq_getElem (by rw [HC.out.sl.blen]; omega)⟩
      obtain ⟨b, o, rfl, hb, x0⟩ := HC.out.sl.byt hv
      replace x0 := hgr.has x0
      have hvb : (v.toNat : Int) ≤ 255 := by have := v.toNat_lt; omega
      have hv0 : 0 ≤ (v.toNat : Int) := by omega
      generalize (v.toNat : Int) = y at x0 hvb hv0
      have k2 := rb_cell (j := 2) hd rfl
      have f2 := rb_frozen hd 2
      have ex : ∀ v : Int, DiceAt (wr.drew.setCell ⟨D, 2, none⟩ (.int .u64 v)) D (some ⟨b, o, none⟩) m c 0 v ∧ Gr w (wr.drew.setCell ⟨D, 2, none⟩ (.int .u64 v)) := fun v => ⟨(hd.gr (Gr.refl wr).drew).put2 v, hgr.drew.setCell hDw _⟩
      have Ex := Lib.hid ex
      have t1 : (k : Int) < (m : Int) := by omega
      have t0 : (0 : Int) ≤ (k : Int) := by omega
      clear hv hd ex HB
      go_wp2_with fail
      go_region
      go_wp2_with fail
      go_roundw
      case rel => exact ⟨k + 1, by omega, by go_num, ⟨_, (Ex.out _).1⟩, (Ex.out _).2⟩
      case measure => simp [intOf]; omega
    · obtain rfl : m = k := by omega
      go_wp2_with fail
      go_ret
      exact ⟨D, h, rfl, hDw, hd, hgr⟩
set_option maxHeartbeats 1600000 in
theorem below_any {w0 w : World} {D : Nat} {A : Option Addr} {m c : Nat} {i h : Int} (bs : List UInt8) (n : Int) (hn : 1 ≤ n ∧ n ≤ 1000) (hC : SlAt w0 1 A m c (byts bs)) (hD0 : w0.heap.size ≤ D) (hg : Gr w0 w) (hi : 0 ≤ i) (hd : DiceAt w D A m c i h) :
    Calls Try.prog 44 #[.pointer (some ⟨D, 0, none⟩), .int .i64 n] w fun e w' => ∃ x i' h' : Int, e = .returned (.int .i64 x) ∧ (0 ≤ x ∧ x < n) ∧ 0 ≤ i' ∧ DiceAt w' D A m c i' h' ∧ Chg (fun k => k = D) w w' := by
  have HC := Lib.hid hC
  have hm := hC.small
  have k2 := rb_cell (j := 2) hd rfl
  have f2 := rb_frozen hd 2
  have Hd := Lib.hid hd
  have Hg := Lib.hid hg
  clear hC hd hg
  obtain ⟨H1, hH1⟩ : ∃ z, IntKind.u64.wrap (h * 6364136223846793005) = z := ⟨_, rfl⟩
  obtain ⟨H2, hH2⟩ : ∃ z, IntKind.u64.wrap (H1 + 1442695040888963407) = z := ⟨_, rfl⟩
  have hb2 := u64_bnd (H1 + 1442695040888963407)
  rw [hH2] at hb2
  obtain ⟨X, hX⟩ : ∃ z, bits .and .u64 (H2 / 8589934592) 16777215 = z := ⟨_, rfl⟩
  have hbx := mask_bnd (z := H2 / 8589934592) (by omega)
  rw [hX] at hbx
  obtain ⟨X0, X1⟩ := hbx
  obtain ⟨h20, h21⟩ := hb2
  go_enter Try.func44, Try.ntmps44
  go_wp2_with fail
  generalize hw1 : World.setCell w _ _ = w1
  have hd1 : DiceAt w1 D A m c i H2 := by rw [← hw1]; exact Hd.out.put2 H2
  have hc1 : Chg (fun k => k = D) w w1 := by rw [← hw1]; exact chg_put _ _
  have hg1 : Gr w0 w1 := Hg.out.of_chg hc1 (fun k hk => by omega)
  clear hw1 k2 f2
  have r0 := rb_cell (j := 0) hd1 rfl
  have r1 := rb_cell (j := 1) hd1 rfl
  have HD1 := Lib.hid hd1
  clear hd1
  go_quiet (fail)
  generalize hw2 : World.drewN w1 _ = w2
  have hx12 : Gr w1 w2 := by rw [← hw2]; exact (Gr.refl _).drewN _
  have HD2 := Lib.hid (HD1.out.gr hx12)
  have hc2 : Chg (fun k => k = D) w w2 := hc1.trans (hx12.chg _)
  have hg2 := hg1.trans hx12
  clear hw2 hx12 HD1 hc1 hg1 r0 r1 hH1 hH2 hX
  by_cases hlt : i < m
  · obtain ⟨v, hv⟩ : ∃ v, bs[i.toNat]? = some v := ⟨_, List.getElem?_eq_getElem (by rw [HC.out.sl.blen]; omega)⟩
    obtain ⟨b, o, rfl, hb, x0⟩ := HC.out.sl.byt hv
    replace x0 := hg2.has x0
    have hvb : (v.toNat : Int) ≤ 255 := by have := v.toNat_lt; omega
    have hv0 : 0 ≤ (v.toNat : Int) := by omega
    generalize (v.toNat : Int) = y at x0 hvb hv0
    obtain ⟨a', rfl⟩ : ∃ a' : Nat, i = (a' : Int) := ⟨i.toNat, by omega⟩
    rw [Int.toNat_natCast] at x0
    have r0 := rb_cell (j := 0) HD2.out rfl
    have r1 := rb_cell (j := 1) HD2.out rfl
    clear hv
    go_wp2_with fail
    go_quiet (fail)
    generalize hw3 : World.drewN w2 _ = w3
    have hx23 : Gr w2 w3 := by rw [← hw3]; exact (Gr.refl _).drewN _
    have hd3 := HD2.out.gr hx23
    have q1 := rb_cell (j := 1) hd3 rfl
    have f1 := rb_frozen hd3 1
    have HD4 := Lib.hid (hd3.put1 ((a' : Int) + 1))
    have Hc4 := Lib.hid ((hc2.trans (hx23.chg _)).trans (chg_put (w := w3) (S := D) 1 (.int .i64 ((a' : Int) + 1))))
    clear hw3 hx23 hd3 r0 r1 HD2 hc2 hg2 x0
    go_wp2_with fail
    go_ret
    obtain ⟨t1, t2⟩ := emod_bnd (X + y) (y := n) (by omega)
    exact ⟨_, _, _, rfl, ⟨t1, t2⟩, by omega, HD4.out, Hc4.out⟩
  · go_wp2_with fail
    go_ret
    obtain ⟨t1, t2⟩ := emod_bnd X (y := n) (by omega)
    first
      | exact ⟨_, _, _, rfl, ⟨t1, t2⟩, hi, HD2.out, hc2⟩
      | exact ⟨_, rfl, ⟨t1, t2⟩, _, hi, ⟨_, HD2.out⟩, hc2⟩
      | exact ⟨_, rfl, ⟨t1, t2⟩, ⟨_, hi, ⟨_, HD2.out⟩⟩, hc2⟩
end Go.Proofs.Ytejfpajbkgfiaaa
