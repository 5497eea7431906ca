/-
  Conflicts: IsConflict and IsMinimal of the program and the reference.
-/
import Derived.Test.YtaicmgbmlkhagaaConf
import Derived.Test.YtaicmgbmlkhagaaDel
namespace Go.Proofs.Ytaicmgbmlkhagaa
open Go.ChangeShapes Go.WideShapes Go.ChangeAt Go.RowKit

noncomputable def isConfB (n : GNet) (l : List GTr) (s : List Int) : Bool := (csCode n l s == 0) && confB n l s
set_option maxRecDepth 100000 in
theorem IsConflict_any {A1 A2 A3 A4 : Option Addr} {n1 c1 n2 c2 n3 c3 n4 c4 : Nat} (n : GNet) (l : List GTr) (s : List Int) (w : World) (hA : NetAt w A1 n1 c1 A2 n2 c2 n) (hL : SlAt w 4 A3 n3 c3 (l.flatMap GTr.cells)) (hS : SlAt w 1 A4 n4 c4 (ints s)) :
    Calls Try.prog 50 #[.agg #[.slice A1 n1 c1, .slice A2 n2 c2], .slice A3 n3 c3, .slice A4 n4 c4] w fun e w' => e = .returned (.bool (isConfB n l s)) ∧ Gr w w' := by
  have HA := Lib.hid hA
  have hm3 := hL.small
  have hl3 := hL.sl.len GTr.cells_len (by omega)
  have hl4 := hS.sl.ilen
  have HL := Lib.hid hL
  have HS := Lib.hid hS
  have Hl3 := Lib.hid hl3
  have Hl4 := Lib.hid hl4
  clear hA hL hS hl3 hl4
  go_enter Try.func50, Try.ntmps50
  go_wp2_with fail
  refine (checkSet_any n l s _ (HA.out.gr ((Gr.refl _).alloc _)) (HL.out.gr ((Gr.refl _).alloc _)) (HS.out.gr ((Gr.refl _).alloc _))).mono ?_
  rintro e w1 ⟨rfl, hg1⟩
  have hg0 : Gr w w1 := ((Gr.refl _).alloc _).trans hg1
  have b0 : w1.cell? ⟨w.heap.size, 0, none⟩ = some (.slice A1 n1 c1) := hg1.has (by simp [go_sem])
  have b1 : w1.cell? ⟨w.heap.size, 1, none⟩ = some (.slice A2 n2 c2) := hg1.has (by simp [go_sem])
  clear hg1
  by_cases hc : csCode n l s = 0
  · have Hc := Lib.hid hc
    have Hn := Lib.hid (trCode_zero (csCode_zero hc).1).1
    have Hok1 : Hid (trsOk n1 l = true) := Lib.hid (by rw [← HA.out.l1]; exact (trCode_zero (csCode_zero hc).1).2)
    have Hs := Lib.hid (setOk_nd (csCode_zero hc).2)
    have tb : (csCode n l s != 0) = false := by simp [hc]
    have tc : (csCode n l s == 0) = true := by simp [hc]
    clear hc
    go_wp2_with fail
    refine (isConflict_any n l s _ (HA.out.gr hg0) (HL.out.gr hg0) (HS.out.gr hg0) Hok1.out Hs.out).mono ?_
    rintro e w2 ⟨rfl, hg2⟩
    go_wp2_with fail
    go_ret
    exact ⟨ret_bool (by rw [isConfB, Hc.out]; simp), hg0.trans hg2⟩
  · have Hc := Lib.hid hc
    have tb : (csCode n l s != 0) = true := by simp [hc]
    have tc : (csCode n l s == 0) = false := by simp [hc]
    clear hc
    go_wp2_with fail
    go_ret
    exact ⟨ret_bool (by rw [isConfB, tc, Bool.false_and]), hg0⟩
set_option maxRecDepth 100000 in
theorem spIsConflict_any {A1 A2 A3 A4 : Option Addr} {n1 c1 n2 c2 n3 c3 n4 c4 : Nat} (n : GNet) (l : List GTr) (s : List Int) (w : World) (hA : NetAt w A1 n1 c1 A2 n2 c2 n) (hL : SlAt w 4 A3 n3 c3 (l.flatMap GTr.cells)) (hS : SlAt w 1 A4 n4 c4 (ints s)) :
    Calls Try.prog 49 #[.agg #[.slice A1 n1 c1, .slice A2 n2 c2], .slice A3 n3 c3, .slice A4 n4 c4] w fun e w' => e = .returned (.bool (isConfB n l s)) ∧ Gr w w' := by
  have HA := Lib.hid hA
  have hm3 := hL.small
  have hl3 := hL.sl.len GTr.cells_len (by omega)
  have hl4 := hS.sl.ilen
  have HL := Lib.hid hL
  have HS := Lib.hid hS
  have Hl3 := Lib.hid hl3
  have Hl4 := Lib.hid hl4
  clear hA hL hS hl3 hl4
  go_enter Try.func49, Try.ntmps49
  go_wp2_with fail
  refine (l26Code_any n l s _ (HA.out.gr ((Gr.refl _).alloc _)) (HL.out.gr ((Gr.refl _).alloc _)) (HS.out.gr ((Gr.refl _).alloc _))).mono ?_
  rintro e w1 ⟨rfl, hg1⟩
  have hg0 : Gr w w1 := ((Gr.refl _).alloc _).trans hg1
  have b0 : w1.cell? ⟨w.heap.size, 0, none⟩ = some (.slice A1 n1 c1) := hg1.has (by simp [go_sem])
  have b1 : w1.cell? ⟨w.heap.size, 1, none⟩ = some (.slice A2 n2 c2) := hg1.has (by simp [go_sem])
  clear hg1
  by_cases hc : csCode n l s = 0
  · have Hc := Lib.hid hc
    have Hn := Lib.hid (trCode_zero (csCode_zero hc).1).1
    have Hok1 : Hid (trsOk n1 l = true) := Lib.hid (by rw [← HA.out.l1]; exact (trCode_zero (csCode_zero hc).1).2)
    have Hs := Lib.hid (setOk_nd (csCode_zero hc).2)
    have tb : (csCode n l s != 0) = false := by simp [hc]
    have tc : (csCode n l s == 0) = true := by simp [hc]
    clear hc
    go_wp2_with fail
    refine (l26Fit_any n l s _ (HA.out.gr hg0) (HL.out.gr hg0) (HS.out.gr hg0) Hok1.out Hs.out).mono ?_
    rintro e w2 ⟨rfl, hg2⟩
    have Hv : Hid (isConfB n l s = confB n l s) := Lib.hid (by rw [isConfB, Hc.out]; simp)
    go_wp2_with fail
    go_ret
    exact ⟨ret_bool (by rw [Hv.out]), hg0.trans hg2⟩
  · have Hc := Lib.hid hc
    have tb : (csCode n l s != 0) = true := by simp [hc]
    have tc : (csCode n l s == 0) = false := by simp [hc]
    clear hc
    go_wp2_with fail
    go_ret
    exact ⟨ret_bool (by rw [isConfB, tc, Bool.false_and]), hg0⟩
def withoutL (s : List Int) (x : Int) : List Int := s.filter fun z => decide (z ≠ x)
theorem filter_take_hit {s : List Int} {k : Nat} {z x : Int} (hz : s[k]? = some z) (h : ¬ z = x) : withoutL (s.take (k + 1)) x = withoutL (s.take k) x ++ [z] := by
  rw [withoutL, List.take_add_one, hz, Option.toList_some, List.filter_append]; simp [h, withoutL]
theorem filter_take_miss {s : List Int} {k : Nat} {z x : Int} (hz : s[k]? = some z) (h : z = x) : withoutL (s.take (k + 1)) x = withoutL (s.take k) x := by
  rw [withoutL, List.take_add_one, hz, Option.toList_some, List.filter_append]; simp [h, withoutL]
set_option maxHeartbeats 1000000 in
set_option maxRecDepth 100000 in
theorem l26Without_any {A : Option Addr} {m c : Nat} (s : List Int) (x : Int) (w : World) (hS : SlAt w 1 A m c (ints s)) :
    Calls Try.prog 96 #[.slice A m c, .int .i64 x] w fun e w' => ∃ B q d, e = .returned (.slice B q d) ∧ q ≤ m ∧ w'.ownsRow w.heap.size 2 1 (.slice B q d) q (ints (withoutL s x)) ∧ Gr w w' := by
  obtain ⟨i0, hi0, hz0, hz1, hz2⟩ := info_parts infoInt64
  have hm := hS.small
  have hl := hS.sl.ilen
  have HS := Lib.hid hS
  have Hl := Lib.hid hl
  clear hS hl
  go_enter Try.func96, Try.ntmps96
  go_wp2_with fail
  go_loopw [5, 6] (fun o i wr => ∃ k : Nat, k ≤ m ∧ i = .int .i64 k ∧ (∃ B q d, o = .slice B q d ∧ q ≤ k ∧ wr.ownsRow w.heap.size 2 1 (.slice B q d) q (ints (withoutL (s.take k) x))) ∧ Gr w wr) (fun _ i _ => m - (intOf i).toNat)
  case atStart => exact ⟨0, Nat.zero_le _, rfl, ⟨_, _, _, rfl, Nat.le_refl _, World.ownsRow_lit w #[] 0 (Nat.le_refl _) (by unfold maxLen; omega) rfl⟩, (Gr.refl _).alloc _⟩
  case round =>
    obtain ⟨k, hk, rfl, ⟨B, q, d, rfl, hq, hown⟩, hgr⟩ := hrel
    have Hown := Lib.hid hown
    have hsz := hgr.size
    clear hown
    by_cases hlt : k < m
    · obtain ⟨z, hz⟩ : ∃ z, s[k]? = some z := ⟨_, List.getElem?_eq_getElem (by have := Hl.out; omega)⟩
      obtain ⟨b, o, rfl, hb, r0⟩ := (HS.out.sl.gr hgr).int hz
      have t1 : (k : Int) < (m : Int) := by omega
      have t0 : (0 : Int) ≤ (k : Int) := by omega
      by_cases e : z = x
      · have Hst := Lib.hid (filter_take_miss hz e)
        have te : (z != x) = false := by simp [e]
        clear hz e
        go_wp2_with fail
        go_roundw
        case rel => exact ⟨k + 1, by omega, by go_num, ⟨_, _, _, rfl, by omega, by rw [Hst.out]; exact Hown.out⟩, hgr⟩
        case measure => simp [intOf]; omega
      · have Hst := Lib.hid (filter_take_hit hz e)
        have te : (z != x) = true := by simp [e]
        clear hz e
        go_wp2_with (at_builtin; refine wpList_append_own _ rfl _ _ _ rfl w.heap.size 2 i0 _ 1 8 Try.underlying26 hi0 hz0 hz1 hz2 rfl (by omega) _ q _ rfl (Hown.out.alloc _) ⟨wr.heap.size, 0, none⟩ 1 1 [.int .i64 z] rfl rfl (World.news_of_block (cs := #[.int .i64 z]) (t := 2) (fr := (0, 0)) (heap_alloc_new wr _)) (by simp [Value.oneCell']) (by unfold maxLen; omega) (by omega) (by simp; omega) ?_; intro v' w1 hown hg _)
        have hsh := own_shape hown
        obtain ⟨A', c', rfl⟩ := hsh
        have Ho := Lib.hid hown
        clear hown
        go_wp2_with fail
        go_roundw
        case rel =>
          refine ⟨k + 1, by omega, by go_num, ⟨_, _, _, rfl, by omega, ?_⟩, ?_⟩
          · rw [Hst.out, ints_snoc]; exact Ho.out
          · exact (hgr.alloc _).grown hg (fun j hj => own_base_le Hown.out hj)
        case measure => simp [intOf]; omega
    · obtain rfl : k = m := by omega
      go_wp2_with fail
      go_ret
      refine ⟨_, _, _, rfl, hq, ?_, hgr⟩
      have h := Hown.out
      rw [List.take_of_length_le (by rw [Hl.out]; exact Nat.le_refl _)] at h
      exact h
theorem minB_bad {n : GNet} {l : List GTr} {s : List Int} (h : ¬ csCode n l s = 0) : minB n l s = false := by
  have : (csCode n l s == 0) = false := by simp [h]
  rw [minB, this, Bool.false_and]
theorem minB_no {n : GNet} {l : List GTr} {s : List Int} (h : confB n l s = false) : minB n l s = false := by
  rw [minB, h]; simp
theorem minB_hit {n : GNet} {l : List GTr} {s : List Int} {k : Nat} (hk : k < s.length) (h : confB n l (cutAt s k) = true) : minB n l s = false := by
  rw [minB, all_range_not (p := fun i => !confB n l (cutAt s i)) hk (by simp [h])]; simp
theorem minB_all {n : GNet} {l : List GTr} {s : List Int} (hc : csCode n l s = 0) (h0 : confB n l s = true) (h : ∀ j, j < s.length → confB n l (cutAt s j) = false) : minB n l s = true := by
  have ha : ((List.range s.length).all fun i => !confB n l (cutAt s i)) = true := all_range.2 fun j hj => by simp [h j hj]
  rw [minB, h0, ha, hc]; rfl
set_option maxHeartbeats 2000000 in
set_option maxRecDepth 100000 in
theorem IsMinimal_any {A1 A2 A3 A4 : Option Addr} {n1 c1 n2 c2 n3 c3 n4 c4 : Nat} (n : GNet) (l : List GTr) (s : List Int) (w : World) (hA : NetAt w A1 n1 c1 A2 n2 c2 n) (hL : SlAt w 4 A3 n3 c3 (l.flatMap GTr.cells)) (hS : SlAt w 1 A4 n4 c4 (ints s)) :
    Calls Try.prog 52 #[.agg #[.slice A1 n1 c1, .slice A2 n2 c2], .slice A3 n3 c3, .slice A4 n4 c4] w fun e w' => e = .returned (.bool (minB n l s)) ∧ Gr w w' := by
  have hm4 := hS.small
  have HA := Lib.hid hA
  have hm3 := hL.small
  have hl3 := hL.sl.len GTr.cells_len (by omega)
  have hl4 := hS.sl.ilen
  have HL := Lib.hid hL
  have HS := Lib.hid hS
  have Hl3 := Lib.hid hl3
  have Hl4 := Lib.hid hl4
  clear hA hL hS hl3 hl4
  go_enter Try.func52, Try.ntmps52
  go_wp2_with fail
  refine (checkSet_any n l s _ (HA.out.gr ((Gr.refl _).alloc _)) (HL.out.gr ((Gr.refl _).alloc _)) (HS.out.gr ((Gr.refl _).alloc _))).mono ?_
  rintro e w1 ⟨rfl, hg1⟩
  have hg0 : Gr w w1 := ((Gr.refl _).alloc _).trans hg1
  have b0 : w1.cell? ⟨w.heap.size, 0, none⟩ = some (.slice A1 n1 c1) := hg1.has (by simp [go_sem])
  have b1 : w1.cell? ⟨w.heap.size, 1, none⟩ = some (.slice A2 n2 c2) := hg1.has (by simp [go_sem])
  clear hg1
  by_cases hc : csCode n l s = 0
  · have Hc := Lib.hid hc
    have Hn := Lib.hid (trCode_zero (csCode_zero hc).1).1
    have Hok1 : Hid (trsOk n1 l = true) := Lib.hid (by rw [← HA.out.l1]; exact (trCode_zero (csCode_zero hc).1).2)
    have Hs := Lib.hid (setOk_nd (csCode_zero hc).2)
    have tb : (csCode n l s != 0) = false := by simp [hc]
    have tc : (csCode n l s == 0) = true := by simp [hc]
    clear hc
    go_wp2_with fail
    refine (isConflict_any n l s _ (HA.out.gr hg0) (HL.out.gr hg0) (HS.out.gr hg0) Hok1.out Hs.out).mono ?_
    rintro e w2 ⟨rfl, hg2⟩
    have hgw := hg0.trans hg2
    replace b0 := hg2.has b0
    replace b1 := hg2.has b1
    cases hf : confB n l s with
    | false =>
      have Hf := Lib.hid hf
      clear hf
      go_wp2_with fail
      go_ret
      exact ⟨ret_bool (minB_no Hf.out).symm, hgw⟩
    | true =>
      have Hf := Lib.hid hf
      clear hf
      go_wp2_with fail
      go_loopw [22] (fun i wr => ∃ k : Nat, k ≤ n4 ∧ i = .int .i64 k ∧ (∀ j, j < k → confB n l (cutAt s j) = false) ∧ Gr w2 wr) (fun i _ => n4 - (intOf i).toNat)
      case atStart => exact ⟨0, Nat.zero_le _, rfl, fun j hj => by omega, Gr.refl _⟩
      case round =>
        obtain ⟨k, hk, rfl, hno, hgr⟩ := hrel
        have Hno := Lib.hid hno
        clear hno
        by_cases hlt : k < n4
        · have hgx := hgw.trans hgr
          have d0 := hgr.has b0
          have d1 := hgr.has b1
          have t1 : (k : Int) < (n4 : Int) := by omega
          have t0 : (0 : Int) ≤ (k : Int) := by omega
          have Hsub := Lib.hid (Hs.out.sub (cutAt_sub s k))
          have hwk : IntKind.i64.wrap ((k : Int) + 1) = (k : Int) + 1 := IntWalk.i64_in _ (by omega)
          go_wp2_with fail
          go_region_held3 (fun w' => Gr wr w' ∧ w'.cell? ⟨w.heap.size, 0, none⟩ = some (.slice A1 n1 c1) ∧ w'.cell? ⟨w.heap.size, 1, none⟩ = some (.slice A2 n2 c2))
            (first | exact ⟨(Gr.refl _).drew, d0, d1⟩ | exact ⟨by assumption, (by assumption : Gr wr _).has d0, (by assumption : Gr wr _).has d1⟩)
            (first
              | (go_at_call 98; refine (cloneInt_any (ints s) _ hm4 (HS.out.gr hgx.drew).sl (ints_one s)).mono ?_; rintro e w5 ⟨A', c', rfl, ho, hg5⟩; obtain ⟨g, rfl, hgb, _⟩ := own_form ho (by omega); have Ho := Lib.hid ho; clear ho; have hx : Gr wr w5 := (Gr.refl _).drew.trans hg5; have hgb' : wr.heap.size ≤ g := hgb; clear hgb)
              | (go_at_call 97; refine (deleteInt_any s k _ _ Ho.out hlt hm4 (by push_cast; rfl)).mono ?_; rintro e w6 ⟨rfl, ho6, hg6⟩; have Ho6 := Lib.hid ho6; clear ho6; have hy : Gr wr w6 := hx.grown hg6 (fun j hj => by injection hj with hj; omega))
              | (go_at_call 95; refine (isConflict_any n l (cutAt s k) _ (HA.out.gr (hgx.trans hy)) (HL.out.gr (hgx.trans hy)) (SlAt.of_own Ho6.out (by omega)) Hok1.out Hsub.out).mono ?_; rintro e w7 ⟨rfl, hg7⟩; have hz : Gr wr w7 := hy.trans hg7))
          cases hf : confB n l (cutAt s k) with
          | true =>
            have Hb := Lib.hid (minB_hit (by rw [Hl4.out]; exact hlt) hf)
            clear hf
            go_wp2_with fail
            go_ret
            exact ⟨ret_bool Hb.out.symm, hgx.trans hz⟩
          | false =>
            have Hb := Lib.hid hf
            clear hf
            go_wp2_with fail
            go_roundw
            case rel => exact ⟨k + 1, by omega, by go_num, nb_next Hb.out Hno.out, hgr.trans hz⟩
            case measure => simp [intOf]; omega
        · obtain rfl : k = n4 := by omega
          have Hb := Lib.hid (minB_all Hc.out Hf.out (by rw [Hl4.out]; exact Hno.out))
          go_wp2_with fail
          go_ret
          exact ⟨ret_bool Hb.out.symm, hgw.trans hgr⟩
  · have Hb := Lib.hid (minB_bad (n := n) (l := l) (s := s) hc)
    have Hc := Lib.hid hc
    have tb : (csCode n l s != 0) = true := by simp [hc]
    have tc : (csCode n l s == 0) = false := by simp [hc]
    clear hc
    go_wp2_with fail
    go_ret
    exact ⟨ret_bool Hb.out.symm, hg0⟩
set_option maxHeartbeats 2000000 in
set_option maxRecDepth 100000 in
theorem spIsMinimal_any {A1 A2 A3 A4 : Option Addr} {n1 c1 n2 c2 n3 c3 n4 c4 : Nat} (n : GNet) (l : List GTr) (s : List Int) (w : World) (hA : NetAt w A1 n1 c1 A2 n2 c2 n) (hL : SlAt w 4 A3 n3 c3 (l.flatMap GTr.cells)) (hS : SlAt w 1 A4 n4 c4 (ints s)) :
    Calls Try.prog 51 #[.agg #[.slice A1 n1 c1, .slice A2 n2 c2], .slice A3 n3 c3, .slice A4 n4 c4] w fun e w' => e = .returned (.bool (minB n l s)) ∧ Gr w w' := by
  have hm4 := hS.small
  have HA := Lib.hid hA
  have hm3 := hL.small
  have hl3 := hL.sl.len GTr.cells_len (by omega)
  have hl4 := hS.sl.ilen
  have HL := Lib.hid hL
  have HS := Lib.hid hS
  have Hl3 := Lib.hid hl3
  have Hl4 := Lib.hid hl4
  clear hA hL hS hl3 hl4
  go_enter Try.func51, Try.ntmps51
  go_wp2_with fail
  refine (spIsConflict_any n l s _ (HA.out.gr ((Gr.refl _).alloc _)) (HL.out.gr ((Gr.refl _).alloc _)) (HS.out.gr ((Gr.refl _).alloc _))).mono ?_
  rintro e w1 ⟨rfl, hg1⟩
  have hg0 : Gr w w1 := ((Gr.refl _).alloc _).trans hg1
  have b0 : w1.cell? ⟨w.heap.size, 0, none⟩ = some (.slice A1 n1 c1) := hg1.has (by simp [go_sem])
  have b1 : w1.cell? ⟨w.heap.size, 1, none⟩ = some (.slice A2 n2 c2) := hg1.has (by simp [go_sem])
  clear hg1
  by_cases hc : csCode n l s = 0
  · have Hc := Lib.hid hc
    have Hn := Lib.hid (trCode_zero (csCode_zero hc).1).1
    have Hok1 : Hid (trsOk n1 l = true) := Lib.hid (by rw [← HA.out.l1]; exact (trCode_zero (csCode_zero hc).1).2)
    have Hs := Lib.hid (setOk_nd (csCode_zero hc).2)
    have tb : (csCode n l s != 0) = false := by simp [hc]
    have tc : (csCode n l s == 0) = true := by simp [hc]
    clear hc
    cases hf : confB n l s with
    | false =>
      have Hf := Lib.hid hf
      have hv : isConfB n l s = false := by rw [isConfB, hf, Bool.and_false]
      clear hf
      go_wp2_with fail
      go_ret
      exact ⟨ret_bool (minB_no Hf.out).symm, hg0⟩
    | true =>
      have Hf := Lib.hid hf
      have hv : isConfB n l s = true := by rw [isConfB, hf, tc]; rfl
      clear hf
      go_wp2_with fail
      go_loopw [7] (fun i wr => ∃ k : Nat, k ≤ n4 ∧ i = .int .i64 k ∧ (∀ j, j < k → confB n l (cutAt s j) = false) ∧ Gr w1 wr) (fun i _ => n4 - (intOf i).toNat)
      case atStart => exact ⟨0, Nat.zero_le _, rfl, fun j hj => by omega, Gr.refl _⟩
      case round =>
        obtain ⟨k, hk, rfl, hno, hgr⟩ := hrel
        have Hno := Lib.hid hno
        clear hno
        by_cases hlt : k < n4
        · have hgx := hg0.trans hgr
          have d0 := hgr.has b0
          have d1 := hgr.has b1
          have t1 : (k : Int) < (n4 : Int) := by omega
          have t0 : (0 : Int) ≤ (k : Int) := by omega
          have Hsub := Lib.hid (Hs.out.sub (cutAt_sub s k))
          obtain ⟨z, hz⟩ : ∃ z, s[k]? = some z := ⟨_, List.getElem?_eq_getElem (by have := Hl4.out; omega)⟩
          have Hwo : Hid (withoutL s z = cutAt s k) := Lib.hid (without_eq Hs.out.1 hz)
          obtain ⟨b, o, rfl, hb, r0⟩ := (HS.out.sl.gr hgx).int hz
          clear hz
          go_wp2_with fail
          go_region_held3 (fun w' => Gr wr w' ∧ w'.cell? ⟨w.heap.size, 0, none⟩ = some (.slice A1 n1 c1) ∧ w'.cell? ⟨w.heap.size, 1, none⟩ = some (.slice A2 n2 c2) ∧ w'.cell? ⟨b, o + k, none⟩ = some (.int .i64 z))
            (first | exact ⟨(Gr.refl _).drew, d0, d1, r0⟩ | exact ⟨by assumption, (by assumption : Gr wr _).has d0, (by assumption : Gr wr _).has d1, (by assumption : Gr wr _).has r0⟩)
            (first
              | (go_at_call 96; refine (l26Without_any s z _ (HS.out.gr hgx.drew)).mono ?_; rintro e w5 ⟨B5, q5, d5, rfl, hq5, ho, hg5⟩; rw [Hwo.out] at ho; have Ho := Lib.hid ho; clear ho; have hx : Gr wr w5 := (Gr.refl _).drew.trans hg5)
              | (go_at_call 93; refine (l26Fit_any n l (cutAt s k) _ (HA.out.gr (hgx.trans hx)) (HL.out.gr (hgx.trans hx)) (SlAt.of_own Ho.out (by omega)) Hok1.out Hsub.out).mono ?_; rintro e w7 ⟨rfl, hg7⟩; have hz : Gr wr w7 := hx.trans hg7))
          cases hf : confB n l (cutAt s k) with
          | true =>
            have Hb := Lib.hid (minB_hit (by rw [Hl4.out]; exact hlt) hf)
            clear hf
            go_wp2_with fail
            go_ret
            exact ⟨ret_bool Hb.out.symm, hgx.trans hz⟩
          | false =>
            have Hb := Lib.hid hf
            clear hf
            go_wp2_with fail
            go_roundw
            case rel => exact ⟨k + 1, by omega, by go_num, nb_next Hb.out Hno.out, hgr.trans hz⟩
            case measure => simp [intOf]; omega
        · obtain rfl : k = n4 := by omega
          have Hb := Lib.hid (minB_all Hc.out Hf.out (by rw [Hl4.out]; exact Hno.out))
          go_wp2_with fail
          go_ret
          exact ⟨ret_bool Hb.out.symm, hg0.trans hgr⟩
  · have Hb := Lib.hid (minB_bad (n := n) (l := l) (s := s) hc)
    have Hc := Lib.hid hc
    have tb : (csCode n l s != 0) = true := by simp [hc]
    have tc : (csCode n l s == 0) = false := by simp [hc]
    clear hc
    have hv : isConfB n l s = false := by rw [isConfB, tc, Bool.false_and]
    go_wp2_with fail
    go_ret
    exact ⟨ret_bool Hb.out.symm, hg0⟩
end Go.Proofs.Ytaicmgbmlkhagaa
