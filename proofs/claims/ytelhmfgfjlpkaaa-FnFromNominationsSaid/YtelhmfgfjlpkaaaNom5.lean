/-
  Amounts of nominations, both sides. Printed by gen_nom5.py.
-/
import Derived.Test.YtelhmfgfjlpkaaaNom4
import Derived.Test.YtelhmfgfjlpkaaaText
import Derived.Test.YtelhmfgfjlpkaaaScales
import Derived.Deep.RegionHeld3
import Derived.Deep.CutRange
set_option linter.unusedSimpArgs false
set_option linter.unusedVariables false
namespace Go.Proofs.Ytelhmfgfjlpkaaa
open Go.ChangeShapes Go.WideShapes Go.ChangeAt Go.RowKit

set_option maxHeartbeats 6400000 in
set_option maxRecDepth 100000 in
theorem amountsIn_any {A3 A4 : Option Addr} {n3 c3 n4 c4 : Nat} (bk : List GCon) (l : List GNom) (h : Int) (w : World) (hB : SlAt w 8 A3 n3 c3 (bk.flatMap GCon.cells)) (hL : SlAt w 4 A4 n4 c4 (l.flatMap GNom.cells)) (hok : nomsOk bk l = true) :
    Calls Try.prog 69 #[.slice A3 n3 c3, .slice A4 n4 c4, .int .i64 h] w fun e w' => ∃ A c, e = .returned (.slice A n3 c) ∧ w'.ownsRow w.heap.size 2 1 (.slice A n3 c) n3 (ints (amL bk l h)) ∧ Gr w w' := by
  obtain ⟨i0, hi0, hz0, hz1, hz2⟩ := info_parts infoInt64
  have hm3 := hB.small
  have hm4 := hL.small
  have hl3 := hB.sl.len GCon.cells_len (by omega)
  have hl4 := hL.sl.len GNom.cells_len (by omega)
  have Hl3 := Lib.hid hl3
  have Hl4 := Lib.hid hl4
  have HL := Lib.hid hL
  have Hok := Lib.hid hok
  clear hB hL hok hl3 hl4
  go_enter Try.func69, Try.ntmps69
  go_wp2_with (at_make; refine wpList_make_full _ rfl _ _ _ rfl w.heap.size 2 i0 _ 1 Try.underlying36 hi0 hz0 hz1 .i64 .i64 _ _ n3 rfl rfl rfl rfl (by rw [hz2]; omega) (by unfold maxLen; omega) (by simp) ?_; intro WN hown HG)
  have hg0 : Gr w WN := Gr.of_grown HG
  have ez : (madeCells (Value.int .i64 0).cells (n3 * 1)).toList = ints (amTo bk l h 0) := by rw [amTo_zero, Hl3.out]; exact made_ints n3
  rw [ez] at hown
  have hlt0 : w.heap.size < WN.heap.size := (World.ownsRow.lt hown w.heap.size (by simp [Value.ownBlock])).2
  clear ez HG hi0 hz0 hz1 hz2
  go_loopw [15] (fun i wr => ∃ k : Nat, k ≤ n4 ∧ i = .int .i64 k ∧ wr.ownsRow w.heap.size 2 1 (.slice (some ⟨w.heap.size, 0, none⟩) n3 n3) n3 (ints (amTo bk l h k)) ∧ Gr w wr ∧ WN.heap.size ≤ wr.heap.size) (fun i _ => n4 - (intOf i).toNat)
  case atStart => exact ⟨0, Nat.zero_le _, rfl, hown, hg0, Nat.le_refl _⟩
  case round =>
    obtain ⟨k, hk, rfl, hownr, hgr, hsz⟩ := hrel
    clear hown
    by_cases hlt : k < n4
    · obtain ⟨x, hx⟩ : ∃ x, l[k]? = some x := ⟨_, List.getElem?_eq_getElem (by have := Hl4.out; omega)⟩
      obtain ⟨b, o, rfl, hb, e0, e1, e2, e3⟩ := HL.out.sl.nom hx
      replace e0 := hgr.has e0
      replace e1 := hgr.has e1
      replace e2 := hgr.has e2
      replace e3 := hgr.has e3
      obtain ⟨⟨s1, s2'⟩, _⟩ := nomOk_all ((nomsOk_all Hok.out).2 k x hx)
      have s2 : x.contract < (n3 : Int) := by have := Hl3.out; omega
      have hst := amTo_step (b := bk) (h := h) hx
      have Hst := Lib.hid hst
      have hal : (amTo bk l h k).length = n3 := by rw [amTo_len]; exact Hl3.out
      have hget := get_of_lt (l := amTo bk l h k) (k := x.contract.toNat) (by omega)
      have Hget := Lib.hid hget
      have Hown := Lib.hid hownr
      have t1 : (k : Int) < (n4 : Int) := by omega
      have t0 : (0 : Int) ≤ (k : Int) := by omega
      clear hx hst hal hget s2' hownr
      go_upto_region 5 with fail
      obtain ⟨w4, hw4⟩ : ∃ W, W = wr.alloc (.cells #[.int .i64 x.contract, .int .i64 x.hour, .int .i64 x.sent, .int .i64 x.amount] 120) := ⟨_, rfl⟩
      have hg4 : Gr wr w4 := by rw [hw4]; exact (Gr.refl _).alloc _
      have x0 : w4.cell? ⟨wr.heap.size, 0, none⟩ = some (.int .i64 x.contract) := by rw [hw4]; simp [go_sem]
      have x1 : w4.cell? ⟨wr.heap.size, 1, none⟩ = some (.int .i64 x.hour) := by rw [hw4]; simp [go_sem]
      have x3 : w4.cell? ⟨wr.heap.size, 3, none⟩ = some (.int .i64 x.amount) := by rw [hw4]; simp [go_sem]
      rw [← hw4]
      have hgr4 := hgr.trans hg4
      have hsz4 := hg4.size
      have hown4 := own_gr Hown.out hg4
      obtain ⟨d0, f0⟩ := own_int hown4 Hget.out
      have R := own_set_int hown4 x.contract.toNat x.amount
      have HR := Lib.hid R
      have Hown4 := Lib.hid hown4
      clear hw4 e0 e1 e2 e3 R hown4
      cases tc : x.hour == h with
      | true =>
        go_wp2_with fail
        go_roundw
        case rel => exact ⟨k + 1, by omega, by go_num, by rw [Hst.out, amStep, if_pos (by simpa using tc)]; exact HR.out.1, hgr4.grown HR.out.2 (fun _ e => by injection e with e; omega), by have c := HR.out.2.size; omega⟩
        case measure => simp [intOf]; omega
      | false =>
        go_wp2_with fail
        go_roundw
        case rel => exact ⟨k + 1, by omega, by go_num, by rw [Hst.out, amStep, if_neg (by simpa using tc)]; exact Hown4.out, hgr4, by omega⟩
        case measure => simp [intOf]; omega
    · obtain rfl : k = n4 := by omega
      have Hownr := Lib.hid hownr
      clear hownr
      go_wp2_with fail
      go_ret
      refine ⟨_, _, rfl, ?_, hgr⟩
      rw [amL, Hl4.out]
      exact Hownr.out
set_option maxHeartbeats 6400000 in
set_option maxRecDepth 100000 in
theorem l21Amounts_any {A3 A4 : Option Addr} {n3 c3 n4 c4 : Nat} (bk : List GCon) (l : List GNom) (h : Int) (w : World) (hB : SlAt w 8 A3 n3 c3 (bk.flatMap GCon.cells)) (hL : SlAt w 4 A4 n4 c4 (l.flatMap GNom.cells)) (hok : nomsOk bk l = true) :
    Calls Try.prog 72 #[.slice A3 n3 c3, .slice A4 n4 c4, .int .i64 h] w fun e w' => ∃ A c, e = .returned (.slice A n3 c) ∧ w'.ownsRow w.heap.size 2 1 (.slice A n3 c) n3 (ints (amL bk l h)) ∧ Gr w w' := by
  obtain ⟨i0, hi0, hz0, hz1, hz2⟩ := info_parts infoInt64
  have hm3 := hB.small
  have hm4 := hL.small
  have hl3 := hB.sl.len GCon.cells_len (by omega)
  have hl4 := hL.sl.len GNom.cells_len (by omega)
  have Hl3 := Lib.hid hl3
  have Hl4 := Lib.hid hl4
  have HL := Lib.hid hL
  have Hok := Lib.hid hok
  clear hB hL hok hl3 hl4
  go_enter Try.func72, Try.ntmps72
  go_wp2_with (at_make; refine wpList_make_full _ rfl _ _ _ rfl w.heap.size 2 i0 _ 1 Try.underlying36 hi0 hz0 hz1 .i64 .i64 _ _ n3 rfl rfl rfl rfl (by rw [hz2]; omega) (by unfold maxLen; omega) (by simp) ?_; intro WN hown HG)
  have hg0 : Gr w WN := Gr.of_grown HG
  have ez : (madeCells (Value.int .i64 0).cells (n3 * 1)).toList = ints (amTo bk l h 0) := by rw [amTo_zero, Hl3.out]; exact made_ints n3
  rw [ez] at hown
  have hlt0 : w.heap.size < WN.heap.size := (World.ownsRow.lt hown w.heap.size (by simp [Value.ownBlock])).2
  clear ez HG hi0 hz0 hz1 hz2
  go_loopw [8] (fun i wr => ∃ k : Nat, k ≤ n4 ∧ i = .int .i64 k ∧ wr.ownsRow w.heap.size 2 1 (.slice (some ⟨w.heap.size, 0, none⟩) n3 n3) n3 (ints (amTo bk l h k)) ∧ Gr w wr ∧ WN.heap.size ≤ wr.heap.size) (fun i _ => n4 - (intOf i).toNat)
  case atStart => exact ⟨0, Nat.zero_le _, rfl, hown, hg0, Nat.le_refl _⟩
  case round =>
    obtain ⟨k, hk, rfl, hownr, hgr, hsz⟩ := hrel
    clear hown
    by_cases hlt : k < n4
    · obtain ⟨x, hx⟩ : ∃ x, l[k]? = some x := ⟨_, List.getElem?_eq_getElem (by have := Hl4.out; omega)⟩
      obtain ⟨b, o, rfl, hb, e0, e1, e2, e3⟩ := HL.out.sl.nom hx
      replace e0 := hgr.has e0
      replace e1 := hgr.has e1
      replace e2 := hgr.has e2
      replace e3 := hgr.has e3
      obtain ⟨⟨s1, s2'⟩, _⟩ := nomOk_all ((nomsOk_all Hok.out).2 k x hx)
      have s2 : x.contract < (n3 : Int) := by have := Hl3.out; omega
      have hst := amTo_step (b := bk) (h := h) hx
      have Hst := Lib.hid hst
      have hal : (amTo bk l h k).length = n3 := by rw [amTo_len]; exact Hl3.out
      have hget := get_of_lt (l := amTo bk l h k) (k := x.contract.toNat) (by omega)
      have Hget := Lib.hid hget
      have Hown := Lib.hid hownr
      have t1 : (k : Int) < (n4 : Int) := by omega
      have t0 : (0 : Int) ≤ (k : Int) := by omega
      clear hx hst hal hget s2' hownr
      cases tc : x.hour == h with
      | true =>
        go_wp2_with fail
        obtain ⟨d0, f0⟩ := own_int Hown.out Hget.out
        have R := own_set_int Hown.out x.contract.toNat x.amount
        have HR := Lib.hid R
        clear R
        refine wp_region_last (fun w' => w' = wr.drew) (fun w' => w' = (wr.setCell ⟨w.heap.size, x.contract.toNat, none⟩ (.int .i64 x.amount)).drew) (by kernel_rfl) (by kernel_rfl) (by decide) rfl ?_
        repeat (first
            | ((with_reducible refine wpText_skip ?_ ?_)
               · rfl
               simp only [Act.put, List.setIfInBounds_toArray, List.set_cons_zero, List.set_cons_succ])
            | ((with_reducible refine wpText_yield (v := ?_) ?_ ?_ ?_)
               rotate_left
               · rfl
               · intro W hW; first | (go_simp; done) | (go_simp; with_reducible rfl)
               simp only [Act.put, List.setIfInBounds_toArray, List.set_cons_zero, List.set_cons_succ])
            | ((with_reducible refine wpText_yield1 (v := ?_) ?_ ?_ ?_)
               rotate_left
               · rfl
               · intro W hW; first | (go_simp; done) | (go_simp; with_reducible rfl)
               simp only [Act.put, List.setIfInBounds_toArray, List.set_cons_zero, List.set_cons_succ]))
        (first
            | ((with_reducible refine wpText_do1 undef ?_ ?_ ?_)
               · rfl
               · intro W hW K hK
                 subst hW
                 go_simp
                 exact hK _ rfl
               simp only [Act.put]))
        rintro w5 rfl
        go_wp2_with fail
        go_roundw
        case rel => exact ⟨k + 1, by omega, by go_num, by rw [Hst.out, amStep, if_pos (by simpa using tc)]; exact HR.out.1.drew, (hgr.grown HR.out.2 (fun _ e => by injection e with e; omega)).drew, by have c := HR.out.2.size; simp at c; simp; omega⟩
        case measure => simp [intOf]; omega
      | false =>
        go_wp2_with fail
        go_roundw
        case rel => exact ⟨k + 1, by omega, by go_num, by rw [Hst.out, amStep, if_neg (by simpa using tc)]; exact Hown.out, hgr, by omega⟩
        case measure => simp [intOf]; omega
    · obtain rfl : k = n4 := by omega
      have Hownr := Lib.hid hownr
      clear hownr
      go_wp2_with fail
      go_ret
      refine ⟨_, _, rfl, ?_, hgr⟩
      rw [amL, Hl4.out]
      exact Hownr.out
def amRes (n : GNet) (bk : List GCon) (l : List GNom) (h : Int) : List Int := if amCode n bk l h = 0 then amL bk l h else []
theorem AmountsIn_any {A1 A2 A3 A4 : Option Addr} {n1 c1 n2 c2 n3 c3 n4 c4 : Nat} (n : GNet) (bk : List GCon) (l : List GNom) (h : Int) (w : World) (hA : NetAt w A1 n1 c1 A2 n2 c2 n) (hB : SlAt w 8 A3 n3 c3 (bk.flatMap GCon.cells)) (hL : SlAt w 4 A4 n4 c4 (l.flatMap GNom.cells)) :
    Calls Try.prog 31 #[.agg #[.slice A1 n1 c1, .slice A2 n2 c2], .slice A3 n3 c3, .slice A4 n4 c4, .int .i64 h] w fun e w' => ∃ A m c, e = .returned (.tuple #[.slice A m c, .int .i64 (amCode n bk l h)]) ∧ m ≤ 1048576 ∧ w'.ownsRow w.heap.size 2 1 (.slice A m c) m (ints (amRes n bk l h)) ∧ Gr w w' := by
  have hm3 := hB.small
  have HA := Lib.hid hA
  have HB := Lib.hid hB
  have HL := Lib.hid hL
  clear hA hB hL
  go_enter Try.func31, Try.ntmps31
  go_wp2_with fail
  refine (checkNominations_any n bk l _ (HA.out.gr ((Gr.refl _).alloc _)) (HB.out.gr ((Gr.refl _).alloc _)) (HL.out.gr ((Gr.refl _).alloc _))).mono ?_
  rintro e w1 ⟨rfl, hg1⟩
  have hg0 : Gr w w1 := ((Gr.refl _).alloc _).trans hg1
  clear hg1
  by_cases hc : nmCode n bk l = 0
  · have Hc := Lib.hid hc
    have tb : (nmCode n bk l != 0) = false := by simp [hc]
    have tb2 : (nmCode n bk l == 0) = true := by simp [hc]
    clear hc
    go_wp2_with fail
    refine (isHour_any h _).mono ?_
    rintro e w2 ⟨rfl, rfl⟩
    cases hs : inB 0 h 47 with
    | true =>
      have Hs := Lib.hid hs
      have He := Lib.hid (show amCode n bk l h = 0 by rw [amCode, if_pos Hc.out, if_pos hs])
      clear hs
      have hg2 := hg0
      go_wp2_with fail
      refine (amountsIn_any bk l h _ (HB.out.gr hg2) (HL.out.gr hg2) (nmCode_zero Hc.out).2).mono ?_
      rintro e w3 ⟨A, c, rfl, ho, hg3⟩
      have Ho := Lib.hid ho
      clear ho
      go_wp2_with fail
      go_ret2
      refine ⟨A, n3, c, by rw [He.out]; rfl, hm3, ?_, hg2.trans hg3⟩
      rw [amRes, if_pos He.out]
      exact own_base Ho.out hg2.size
    | false =>
      have Hs := Lib.hid hs
      have He := Lib.hid (show amCode n bk l h = 2 by rw [amCode, if_pos Hc.out, if_neg (by simp [hs])])
      clear hs
      have hg2 := hg0
      go_wp2_with fail
      go_ret2
      refine ⟨none, 0, 0, by rw [He.out]; rfl, by omega, ?_, hg2⟩
      rw [amRes, if_neg (by rw [He.out]; decide)]
      exact World.ownsRow_nil _ _ _ _
  · have Hc := Lib.hid hc
    have tb : (nmCode n bk l != 0) = true := by simp [hc]
    have tb2 : (nmCode n bk l == 0) = false := by simp [hc]
    clear hc
    go_wp2_with fail
    go_ret2
    have e : amCode n bk l h = nmCode n bk l := by rw [amCode, if_neg Hc.out]
    refine ⟨none, 0, 0, by rw [e]; rfl, by omega, ?_, hg0⟩
    rw [amRes, if_neg (by rw [e]; exact Hc.out)]
    exact World.ownsRow_nil _ _ _ _
theorem spAmountsIn_any {A1 A2 A3 A4 : Option Addr} {n1 c1 n2 c2 n3 c3 n4 c4 : Nat} (n : GNet) (bk : List GCon) (l : List GNom) (h : Int) (w : World) (hA : NetAt w A1 n1 c1 A2 n2 c2 n) (hB : SlAt w 8 A3 n3 c3 (bk.flatMap GCon.cells)) (hL : SlAt w 4 A4 n4 c4 (l.flatMap GNom.cells)) :
    Calls Try.prog 32 #[.agg #[.slice A1 n1 c1, .slice A2 n2 c2], .slice A3 n3 c3, .slice A4 n4 c4, .int .i64 h] w fun e w' => ∃ A m c, e = .returned (.tuple #[.slice A m c, .int .i64 (amCode n bk l h)]) ∧ m ≤ 1048576 ∧ w'.ownsRow w.heap.size 2 1 (.slice A m c) m (ints (amRes n bk l h)) ∧ Gr w w' := by
  have hm3 := hB.small
  have HA := Lib.hid hA
  have HB := Lib.hid hB
  have HL := Lib.hid hL
  clear hA hB hL
  go_enter Try.func32, Try.ntmps32
  go_wp2_with fail
  refine (l21Code_any n bk l _ (HA.out.gr ((Gr.refl _).alloc _)) (HB.out.gr ((Gr.refl _).alloc _)) (HL.out.gr ((Gr.refl _).alloc _))).mono ?_
  rintro e w1 ⟨rfl, hg1⟩
  have hg0 : Gr w w1 := ((Gr.refl _).alloc _).trans hg1
  clear hg1
  by_cases hc : nmCode n bk l = 0
  · have Hc := Lib.hid hc
    have tb : (nmCode n bk l != 0) = false := by simp [hc]
    have tb2 : (nmCode n bk l == 0) = true := by simp [hc]
    clear hc
    go_wp2_with fail
    refine (l20Hour_any h _).mono ?_
    rintro e w2 ⟨rfl, rfl⟩
    cases hs : inB 0 h 47 with
    | true =>
      have Hs := Lib.hid hs
      have He := Lib.hid (show amCode n bk l h = 0 by rw [amCode, if_pos Hc.out, if_pos hs])
      clear hs
      have hg2 := hg0
      go_wp2_with fail
      refine (l21Amounts_any bk l h _ (HB.out.gr hg2) (HL.out.gr hg2) (nmCode_zero Hc.out).2).mono ?_
      rintro e w3 ⟨A, c, rfl, ho, hg3⟩
      have Ho := Lib.hid ho
      clear ho
      go_wp2_with fail
      go_ret2
      refine ⟨A, n3, c, by rw [He.out]; rfl, hm3, ?_, hg2.trans hg3⟩
      rw [amRes, if_pos He.out]
      exact own_base Ho.out hg2.size
    | false =>
      have Hs := Lib.hid hs
      have He := Lib.hid (show amCode n bk l h = 2 by rw [amCode, if_pos Hc.out, if_neg (by simp [hs])])
      clear hs
      have hg2 := hg0
      go_wp2_with fail
      go_ret2
      refine ⟨none, 0, 0, by rw [He.out]; rfl, by omega, ?_, hg2⟩
      rw [amRes, if_neg (by rw [He.out]; decide)]
      exact World.ownsRow_nil _ _ _ _
  · have Hc := Lib.hid hc
    have tb : (nmCode n bk l != 0) = true := by simp [hc]
    have tb2 : (nmCode n bk l == 0) = false := by simp [hc]
    clear hc
    go_wp2_with fail
    go_ret2
    have e : amCode n bk l h = nmCode n bk l := by rw [amCode, if_neg Hc.out]
    refine ⟨none, 0, 0, by rw [e]; rfl, by omega, ?_, hg0⟩
    rw [amRes, if_neg (by rw [e]; exact Hc.out)]
    exact World.ownsRow_nil _ _ _ _
end Go.Proofs.Ytelhmfgfjlpkaaa
