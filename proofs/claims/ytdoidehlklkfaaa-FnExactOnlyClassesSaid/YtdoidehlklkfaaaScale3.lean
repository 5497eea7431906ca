/-
  ScaleTransports and OnlyClasses: the contracts.
-/
import Derived.Test.YtdoidehlklkfaaaScale2
namespace Go.Proofs.Ytdoidehlklkfaaa
open Go.ChangeShapes Go.WideShapes Go.ChangeAt Go.RowKit

def scCode (n : GNet) (l : List GTr) (sc : List Int) : Int := if trCode n l = 0 then (if scOk sc then 0 else 2) else trCode n l
def scRes (n : GNet) (l : List GTr) (sc : List Int) : List GTr := if scCode n l sc = 0 then scaled sc l else []
def onCode (n : GNet) (l : List GTr) (q : Int) : Int := if trCode n l = 0 then (if inB 0 q 4 then 0 else 2) else trCode n l
def onRes (n : GNet) (l : List GTr) (q : Int) : List GTr := if onCode n l q = 0 then scaled (onlyScales q) l else []
def onlyOne (q : Int) (x : GTr) : GTr := ⟨x.entry, x.exit, if q ≤ x.cls then 0 else x.amount, x.cls⟩
theorem only_scaled {nn q : Int} {l : List GTr} (h : trsOk nn l = true) : l.map (onlyOne q) = scaled (onlyScales q) l := by
  unfold scaled
  refine List.map_congr_left fun x hx => ?_
  obtain ⟨k, hk⟩ := List.mem_iff_getElem?.1 hx
  obtain ⟨_, _, _, p4, p5⟩ := trOk_all ((trsOk_all h).2 k x hk)
  unfold onlyOne scaleOne scaleAmt
  have e : (onlyScales q).getD x.cls.toNat 0 = if x.cls < q then 100 else 0 := by
    have h4 : x.cls.toNat < 4 := by omega
    have hc : ((x.cls.toNat : Nat) : Int) = x.cls := Int.toNat_of_nonneg p5.1
    simp [onlyScales, h4, hc]
  rw [e]
  by_cases hc : x.cls < q
  · rw [if_neg (by omega), if_pos hc, Int.mul_ediv_cancel _ (by decide)]
  · rw [if_pos (by omega), if_neg hc]; simp

theorem set_get_same {α : Type} {l : List α} {k : Nat} {x : α} (h : l[k]? = some x) : l.set k x = l := by
  apply List.ext_getElem?
  intro j
  rw [List.getElem?_set]
  by_cases e : k = j
  · subst e
    rw [if_pos rfl, if_pos (List.getElem?_eq_some_iff.1 h).1, h]
  · rw [if_neg e]
set_option maxRecDepth 100000 in
theorem ScaleTransports_any {A1 A2 A3 A4 : Option Addr} {n1 c1 n2 c2 n3 c3 n4 c4 : Nat} (n : GNet) (l : List GTr) (sc : List Int) (w : World) (hA : NetAt w A1 n1 c1 A2 n2 c2 n) (hL : SlAt w 4 A3 n3 c3 (l.flatMap GTr.cells)) (hS : SlAt w 1 A4 n4 c4 (ints sc)) :
    Calls Try.prog 48 #[.agg #[.slice A1 n1 c1, .slice A2 n2 c2], .slice A3 n3 c3, .slice A4 n4 c4] w fun e w' => ∃ A m c, e = .returned (.tuple #[.slice A m c, .int .i64 (scCode n l sc)]) ∧ m ≤ 1048576 ∧ w'.ownsRow w.heap.size 86 4 (.slice A m c) m ((scRes n l sc).flatMap GTr.cells) ∧ Gr w w' := by
  have HA := Lib.hid hA
  have HL := Lib.hid hL
  have hm3 := hL.small
  have HS := Lib.hid hS
  clear hA hL hS
  go_enter Try.func48, Try.ntmps48
  go_wp2_with fail
  refine (checkTransports_any _ _ _ _ _ _ _ _ _ n l _ (HA.out.gr ((Gr.refl _).alloc _)) (HL.out.gr ((Gr.refl _).alloc _)).sl HL.out.small).mono ?_
  rintro e w1 ⟨rfl, hg1⟩
  have hg0 : Gr w w1 := ((Gr.refl _).alloc _).trans hg1
  by_cases hc : trCode n l = 0
  · have Hc := Lib.hid hc
    have tb : (trCode n l != 0) = false := by simp [hc]
    have tc : (trCode n l == 0) = true := by simp [hc]
    clear hc
    go_wp2_with fail
    refine (areScales_any sc _ (HS.out.gr hg0)).mono ?_
    rintro e w2 ⟨rfl, rfl⟩
    cases hs : scOk sc with
    | true =>
      have Hs := Lib.hid hs
      have e0 : scCode n l sc = 0 := by rw [scCode, if_pos Hc.out, if_pos hs]
      have He := Lib.hid e0
      clear hs e0
      go_wp2_with fail
      refine (scaledTransports_any _ l sc _ (HL.out.gr hg0) (HS.out.gr hg0) (trCode_zero Hc.out).2 Hs.out).mono ?_
      rintro e w3 ⟨A, c, rfl, ho, hg3⟩
      have Ho := Lib.hid ho
      clear ho
      go_wp2_with fail
      go_ret2
      refine ⟨A, n3, c, by rw [He.out]; rfl, hm3, ?_, hg0.trans hg3⟩
      rw [scRes, if_pos He.out]
      exact own_base Ho.out hg0.size
    | false =>
      have e0 : scCode n l sc = 2 := by rw [scCode, if_pos Hc.out, if_neg (by simp [hs])]
      have He := Lib.hid e0
      clear hs e0
      go_wp2_with fail
      go_ret2
      refine ⟨none, 0, 0, by rw [He.out]; rfl, by omega, ?_, hg0⟩
      rw [scRes, if_neg (by rw [He.out]; decide)]
      exact World.ownsRow_nil _ _ _ _
  · have Hc := Lib.hid hc
    have tb : (trCode n l != 0) = true := by simp [hc]
    have tc : (trCode n l == 0) = false := by simp [hc]
    clear hc
    go_wp2_with fail
    go_ret2
    have e : scCode n l sc = trCode n l := by rw [scCode, if_neg Hc.out]
    refine ⟨none, 0, 0, by rw [e]; rfl, by omega, ?_, hg0⟩
    rw [scRes, if_neg (by rw [e]; exact Hc.out)]
    exact World.ownsRow_nil _ _ _ _
set_option maxRecDepth 100000 in
theorem OnlyClasses_any {A1 A2 A3 : Option Addr} {n1 c1 n2 c2 n3 c3 : Nat} (n : GNet) (l : List GTr) (q : Int) (w : World) (hA : NetAt w A1 n1 c1 A2 n2 c2 n) (hL : SlAt w 4 A3 n3 c3 (l.flatMap GTr.cells)) (_wf : (Lit.int .i64 q).wf = true) :
    Calls Try.prog 43 #[.agg #[.slice A1 n1 c1, .slice A2 n2 c2], .slice A3 n3 c3, .int .i64 q] w fun e w' => ∃ A m c, e = .returned (.tuple #[.slice A m c, .int .i64 (onCode n l q)]) ∧ m ≤ 1048576 ∧ w'.ownsRow w.heap.size 86 4 (.slice A m c) m ((onRes n l q).flatMap GTr.cells) ∧ Gr w w' := by
  have HA := Lib.hid hA
  have HL := Lib.hid hL
  have hm3 := hL.small
  clear hA hL
  go_enter Try.func43, Try.ntmps43
  go_wp2_with fail
  refine (checkTransports_any _ _ _ _ _ _ _ _ _ n l _ (HA.out.gr ((Gr.refl _).alloc _)) (HL.out.gr ((Gr.refl _).alloc _)).sl HL.out.small).mono ?_
  rintro e w1 ⟨rfl, hg1⟩
  have hg0 : Gr w w1 := ((Gr.refl _).alloc _).trans hg1
  by_cases hc : trCode n l = 0
  · have Hc := Lib.hid hc
    have tb : (trCode n l != 0) = false := by simp [hc]
    have tc : (trCode n l == 0) = true := by simp [hc]
    clear hc
    go_wp2_with fail
    refine (within_any _ _ _ _).mono ?_
    rintro e w2 ⟨rfl, rfl⟩
    cases hs : inB 0 q 4 with
    | true =>
      have Hs := Lib.hid hs
      have e0 : onCode n l q = 0 := by rw [onCode, if_pos Hc.out, if_pos hs]
      have He := Lib.hid e0
      clear hs e0
      go_wp2_with fail
      refine (cloneTr_any (l.flatMap GTr.cells) _ hm3 (HL.out.gr hg0).sl (flat_one GTr.one l)).mono ?_
      rintro e w2 ⟨A', c', rfl, hown, hg2⟩
      have Hown := Lib.hid hown
      clear hown
      have hlen := HL.out.sl.len GTr.cells_len (by omega)
      have Hlen := Lib.hid hlen
      clear hlen
      go_wp2_with fail
      go_loopw [24] (fun i wr => ∃ k : Nat, k ≤ n3 ∧ i = .int .i64 k ∧ wr.ownsRow w1.heap.size 86 4 (.slice A' n3 c') n3 ((mapTo (onlyOne q) l k).flatMap GTr.cells) ∧ Gr w1 wr) (fun i _ => n3 - (intOf i).toNat)
      case atStart => exact ⟨0, Nat.zero_le _, rfl, by rw [mapTo_zero]; exact Hown.out, hg2⟩
      case round =>
        obtain ⟨k, hk, rfl, hownr, hgr⟩ := hrel
        by_cases hlt : k < n3
        · obtain ⟨x, hx⟩ : ∃ x, l[k]? = some x := ⟨_, List.getElem?_eq_getElem (by have := Hlen.out; omega)⟩
          obtain ⟨g, rfl, hgb, hgl⟩ := own_form hownr (by omega)
          obtain ⟨d0, d1, d2, d3, f0, f1, f2, f3⟩ := own_tr hownr (mapTo_get (onlyOne q) l hx)
          have t1 : (k : Int) < (n3 : Int) := by omega
          have t0 : (0 : Int) ≤ (k : Int) := by omega
          by_cases hcl : q ≤ x.cls
          · have R := own_set_tr_amount hownr 0 (mapTo_get (onlyOne q) l hx)
            have eR : (mapTo (onlyOne q) l k).set k ⟨x.entry, x.exit, 0, x.cls⟩ = mapTo (onlyOne q) l (k + 1) := by
              rw [← mapTo_set (onlyOne q) l hx]; simp [onlyOne, hcl]
            rw [eR] at R
            have HR := Lib.hid R
            clear hx hownr R eR d0 d1 f0 f1
            go_wp2_with fail
            go_roundw
            case rel => exact ⟨k + 1, by omega, by go_num, HR.out.1, hgr.grown HR.out.2 (fun _ e => by injection e with e; omega)⟩
            case measure => simp [intOf]; omega
          · have eR : mapTo (onlyOne q) l (k + 1) = mapTo (onlyOne q) l k := by
              rw [← mapTo_set (onlyOne q) l hx]
              have : onlyOne q x = x := by simp [onlyOne, hcl]
              rw [this]
              exact set_get_same (mapTo_get (onlyOne q) l hx)
            have HR := Lib.hid hownr
            have HeR := Lib.hid eR
            clear hx hownr eR d0 d1 f0 f1
            go_wp2_with fail
            go_roundw
            case rel => exact ⟨k + 1, by omega, by go_num, by rw [HeR.out]; exact HR.out, hgr⟩
            case measure => simp [intOf]; omega
        · obtain rfl : k = n3 := by omega
          have Hownr := Lib.hid hownr
          clear hownr
          go_wp2_with fail
          go_ret2
          refine ⟨_, _, _, by rw [He.out]; rfl, hm3, ?_, hg0.trans hgr⟩
          have h := Hownr.out
          rw [mapTo_full _ _ _ (by rw [Hlen.out]; exact Nat.le_refl _), only_scaled (trCode_zero Hc.out).2] at h
          rw [onRes, if_pos He.out]
          exact own_base h hg0.size
    | false =>
      have e0 : onCode n l q = 2 := by rw [onCode, if_pos Hc.out, if_neg (by simp [hs])]
      have He := Lib.hid e0
      clear hs e0
      go_wp2_with fail
      go_ret2
      refine ⟨none, 0, 0, by rw [He.out]; rfl, by omega, ?_, hg0⟩
      rw [onRes, if_neg (by rw [He.out]; decide)]
      exact World.ownsRow_nil _ _ _ _
  · have Hc := Lib.hid hc
    have tb : (trCode n l != 0) = true := by simp [hc]
    have tc : (trCode n l == 0) = false := by simp [hc]
    clear hc
    go_wp2_with fail
    go_ret2
    have e : onCode n l q = trCode n l := by rw [onCode, if_neg Hc.out]
    refine ⟨none, 0, 0, by rw [e]; rfl, by omega, ?_, hg0⟩
    rw [onRes, if_neg (by rw [e]; exact Hc.out)]
    exact World.ownsRow_nil _ _ _ _
set_option maxRecDepth 100000 in
theorem spScaleTransports_any {A1 A2 A3 A4 : Option Addr} {n1 c1 n2 c2 n3 c3 n4 c4 : Nat} (n : GNet) (l : List GTr) (sc : List Int) (w : World) (hA : NetAt w A1 n1 c1 A2 n2 c2 n) (hL : SlAt w 4 A3 n3 c3 (l.flatMap GTr.cells)) (hS : SlAt w 1 A4 n4 c4 (ints sc)) :
    Calls Try.prog 47 #[.agg #[.slice A1 n1 c1, .slice A2 n2 c2], .slice A3 n3 c3, .slice A4 n4 c4] w fun e w' => ∃ A m c, e = .returned (.tuple #[.slice A m c, .int .i64 (scCode n l sc)]) ∧ m ≤ 1048576 ∧ w'.ownsRow w.heap.size 86 4 (.slice A m c) m ((scRes n l sc).flatMap GTr.cells) ∧ Gr w w' := by
  have HA := Lib.hid hA
  have HL := Lib.hid hL
  have hm3 := hL.small
  have HS := Lib.hid hS
  clear hA hL hS
  go_enter Try.func47, Try.ntmps47
  go_wp2_with fail
  refine (l24Code_any n l _ (HA.out.gr ((Gr.refl _).alloc _)) (HL.out.gr ((Gr.refl _).alloc _))).mono ?_
  rintro e w1 ⟨rfl, hg1⟩
  have hg0 : Gr w w1 := ((Gr.refl _).alloc _).trans hg1
  by_cases hc : trCode n l = 0
  · have Hc := Lib.hid hc
    have tb : (trCode n l != 0) = false := by simp [hc]
    have tc : (trCode n l == 0) = true := by simp [hc]
    clear hc
    go_wp2_with fail
    refine (l24Scales_any sc _ (HS.out.gr hg0)).mono ?_
    rintro e w2 ⟨rfl, rfl⟩
    cases hs : scOk sc with
    | true =>
      have Hs := Lib.hid hs
      have e0 : scCode n l sc = 0 := by rw [scCode, if_pos Hc.out, if_pos hs]
      have He := Lib.hid e0
      clear hs e0
      go_wp2_with fail
      refine (l24Scale_any _ l sc _ (HL.out.gr hg0) (HS.out.gr hg0) (trCode_zero Hc.out).2 Hs.out).mono ?_
      rintro e w3 ⟨A, c, rfl, ho, hg3⟩
      have Ho := Lib.hid ho
      clear ho
      go_wp2_with fail
      go_ret2
      refine ⟨A, n3, c, by rw [He.out]; rfl, hm3, ?_, hg0.trans hg3⟩
      rw [scRes, if_pos He.out]
      exact own_base Ho.out hg0.size
    | false =>
      have e0 : scCode n l sc = 2 := by rw [scCode, if_pos Hc.out, if_neg (by simp [hs])]
      have He := Lib.hid e0
      clear hs e0
      go_wp2_with fail
      go_ret2
      refine ⟨none, 0, 0, by rw [He.out]; rfl, by omega, ?_, hg0⟩
      rw [scRes, if_neg (by rw [He.out]; decide)]
      exact World.ownsRow_nil _ _ _ _
  · have Hc := Lib.hid hc
    have tb : (trCode n l != 0) = true := by simp [hc]
    have tc : (trCode n l == 0) = false := by simp [hc]
    clear hc
    go_wp2_with fail
    go_ret2
    have e : scCode n l sc = trCode n l := by rw [scCode, if_neg Hc.out]
    refine ⟨none, 0, 0, by rw [e]; rfl, by omega, ?_, hg0⟩
    rw [scRes, if_neg (by rw [e]; exact Hc.out)]
    exact World.ownsRow_nil _ _ _ _
set_option maxRecDepth 100000 in
theorem spOnlyClasses_any {A1 A2 A3 : Option Addr} {n1 c1 n2 c2 n3 c3 : Nat} (n : GNet) (l : List GTr) (q : Int) (w : World) (hA : NetAt w A1 n1 c1 A2 n2 c2 n) (hL : SlAt w 4 A3 n3 c3 (l.flatMap GTr.cells)) (_wf : (Lit.int .i64 q).wf = true) :
    Calls Try.prog 42 #[.agg #[.slice A1 n1 c1, .slice A2 n2 c2], .slice A3 n3 c3, .int .i64 q] w fun e w' => ∃ A m c, e = .returned (.tuple #[.slice A m c, .int .i64 (onCode n l q)]) ∧ m ≤ 1048576 ∧ w'.ownsRow w.heap.size 86 4 (.slice A m c) m ((onRes n l q).flatMap GTr.cells) ∧ Gr w w' := by
  have HA := Lib.hid hA
  have HL := Lib.hid hL
  have hm3 := hL.small
  clear hA hL
  go_enter Try.func42, Try.ntmps42
  go_wp2_with fail
  refine (l24Code_any n l _ (HA.out.gr ((Gr.refl _).alloc _)) (HL.out.gr ((Gr.refl _).alloc _))).mono ?_
  rintro e w1 ⟨rfl, hg1⟩
  have hg0 : Gr w w1 := ((Gr.refl _).alloc _).trans hg1
  by_cases hc : trCode n l = 0
  · have Hc := Lib.hid hc
    have tb : (trCode n l != 0) = false := by simp [hc]
    have tc : (trCode n l == 0) = true := by simp [hc]
    clear hc
    go_wp2_with fail
    refine (l01In_any _ _ _ _).mono ?_
    rintro e w2 ⟨rfl, rfl⟩
    cases hs : inB 0 q 4 with
    | true =>
      have Hs := Lib.hid hs
      have e0 : onCode n l q = 0 := by rw [onCode, if_pos Hc.out, if_pos hs]
      have He := Lib.hid e0
      clear hs e0
      go_wp2_with fail
      refine (l24Only_any q _).mono ?_
      rintro e w2 ⟨A4, c4, rfl, ho4, hg2⟩
      have Ho4 := Lib.hid ho4
      clear ho4
      go_wp2_with fail
      refine (l24Scale_any _ l (onlyScales q) _ (HL.out.gr (hg0.trans hg2)) (SlAt.of_own Ho4.out (by omega)) (trCode_zero Hc.out).2 (onlyScales_ok q)).mono ?_
      rintro e w3 ⟨A, c, rfl, ho, hg3⟩
      have Ho := Lib.hid ho
      clear ho
      go_wp2_with fail
      go_ret2
      refine ⟨A, n3, c, by rw [He.out]; rfl, hm3, ?_, (hg0.trans hg2).trans hg3⟩
      rw [onRes, if_pos He.out]
      exact own_base Ho.out (hg0.trans hg2).size
    | false =>
      have e0 : onCode n l q = 2 := by rw [onCode, if_pos Hc.out, if_neg (by simp [hs])]
      have He := Lib.hid e0
      clear hs e0
      go_wp2_with fail
      go_ret2
      refine ⟨none, 0, 0, by rw [He.out]; rfl, by omega, ?_, hg0⟩
      rw [onRes, if_neg (by rw [He.out]; decide)]
      exact World.ownsRow_nil _ _ _ _
  · have Hc := Lib.hid hc
    have tb : (trCode n l != 0) = true := by simp [hc]
    have tc : (trCode n l == 0) = false := by simp [hc]
    clear hc
    go_wp2_with fail
    go_ret2
    have e : onCode n l q = trCode n l := by rw [onCode, if_neg Hc.out]
    refine ⟨none, 0, 0, by rw [e]; rfl, by omega, ?_, hg0⟩
    rw [onRes, if_neg (by rw [e]; exact Hc.out)]
    exact World.ownsRow_nil _ _ _ _
end Go.Proofs.Ytdoidehlklkfaaa
