import Derived.Test.YthhmhigddmimjaaGreatPlainA
import Derived.Test.YthhmhigddmimjaaGreatRouteA
import Derived.Test.YthhmhigddmimjaaGreatOrd
import Derived.Test.YthhmhigddmimjaaGreatDrawA
import Derived.BigRegion
import Derived.Test.YthhmhigddmimjaaGreatLawKs
import Derived.Deep.CutRange
/-
  Flow lists: the tests and what flows out of the nodes, of both sides. Printed by gen_out.py.
-/
set_option linter.unusedSimpArgs false
set_option linter.unusedVariables false
namespace Go.Proofs.YthhmhigddmimjaaGreat
open Go.ChangeShapes Go.WideShapes Go.ChangeAt Go.RowKit

theorem isFlowList_any {A1 A2 A : Option Addr} {n1 c1 n2 c2 m c : Nat} (zs : List Int) (w : World) (hL : SlAt w 1 A m c (ints zs)) (hm1 : n2 ≤ 1048576) :
    Calls Tryz.prog 76 #[.agg #[.slice A1 n1 c1, .slice A2 n2 c2], .slice A m c] w fun e w' => e = .returned (.bool (supOk n2 zs)) ∧ Gr w w' := by
  have hlen := hL.sl.ilen
  have Hlen := Lib.hid hlen
  have hm := hL.small
  have HL := Lib.hid hL
  clear hL hlen
  by_cases h : m = n2
  · subst h
    go_enter Tryz.func76, Tryz.ntmps76
    go_wp2_with fail
    refine (allWithin_any zs _ _ _ (HL.out.gr ((Gr.refl _).alloc _))).mono ?_
    rintro e w1 ⟨rfl, rfl⟩
    go_wp2_with fail
    go_ret
    exact ⟨ret_bool (by simp [supOk, Hlen.out]), (Gr.refl _).alloc _⟩
  · have t : ((m : Int) == (n2 : Int)) = false := by simp; omega
    go_enter Tryz.func76, Tryz.ntmps76
    go_wp2_with fail
    go_ret
    exact ⟨ret_bool (by simp [supOk, Hlen.out, h]), (Gr.refl _).alloc _⟩
theorem l05List_any {A1 A2 A : Option Addr} {n1 c1 n2 c2 m c : Nat} (zs : List Int) (w : World) (hL : SlAt w 1 A m c (ints zs)) (_hm1 : n2 ≤ 1048576) :
    Calls Tryz.prog 149 #[.agg #[.slice A1 n1 c1, .slice A2 n2 c2], .slice A m c] w fun e w' => e = .returned (.bool (supOk n2 zs)) ∧ Gr w w' := by
  have hlen := hL.sl.ilen
  have Hlen := Lib.hid hlen
  have hm := hL.small
  have HL := Lib.hid (hL.gr ((Gr.refl _).alloc (.cells #[.slice A1 n1 c1, .slice A2 n2 c2] 32)))
  clear hL hlen
  go_enter Tryz.func149, Tryz.ntmps149
  go_wp2_with fail
  obtain ⟨w0, hw0⟩ : ∃ w0, w0 = w.alloc (.cells #[.slice A1 n1 c1, .slice A2 n2 c2] 32) := ⟨_, rfl⟩
  have hg0 : Gr w w0 := by rw [hw0]; exact (Gr.refl _).alloc _
  have b1 : w0.cell? ⟨w.heap.size, 1, none⟩ = some (.slice A2 n2 c2) := by rw [hw0]; simp [go_sem]
  rw [← hw0] at HL ⊢
  clear hw0
  go_loop [5] (fun i => ∃ k : Nat, k ≤ m ∧ i = .int .i64 k ∧ ∀ q, q < k → ∀ y, zs[q]? = some y → inB (-30000) y 30000 = true) (fun i => m - (intOf i).toNat)
  case atStart => exact ⟨0, Nat.zero_le _, rfl, fun j h => absurd h (by omega)⟩
  case round =>
    obtain ⟨k, hk, rfl, hno⟩ := hrel
    have Hno := Lib.hid hno
    clear hno
    by_cases hlt : k < m
    · obtain ⟨x, hx⟩ : ∃ x, zs[k]? = some x := ⟨_, List.getElem?_eq_getElem (by have := Hlen.out; omega)⟩
      obtain ⟨b, o, rfl, hb, e0⟩ := HL.out.sl.int hx
      have Hx := Lib.hid hx
      clear hx
      go_wp2_with fail
      refine (l05Flow_any _ _).mono ?_
      rintro e w' ⟨rfl, rfl⟩
      cases hok : inB (-30000) x 30000 with
      | true =>
        have Hokx := Lib.hid hok
        go_wp2_with fail
        go_round
        case rel => exact ⟨k + 1, by omega, by go_num, all_step (p := fun z => inB (-30000) z 30000) Hx.out Hokx.out Hno.out⟩
        case measure => simp [intOf]; omega
      | false =>
        have Hokx := Lib.hid hok
        go_wp2_with fail
        go_ret
        refine ⟨ret_bool ?_, hg0⟩
        have := all_not (p := fun z => inB (-30000) z 30000) Hx.out Hokx.out
        simp only [supOk, this, Bool.and_false]
    · obtain rfl : k = m := by omega
      have hall := all_of (p := fun z => inB (-30000) z 30000) (l := zs) (by rw [Hlen.out]; exact Hno.out)
      have Hall := Lib.hid hall
      clear hall
      go_wp2_with fail
      go_ret
      refine ⟨ret_bool ?_, hg0⟩
      rw [supOk, Hall.out, Hlen.out, Bool.and_true]
      by_cases e : k = n2 <;> simp [e] <;> omega
set_option maxHeartbeats 1600000 in
set_option maxRecDepth 100000 in
theorem l05Out_any {A1 A2 A3 : Option Addr} {n1 c1 n2 c2 c3 : Nat} (n : GNet) (fl : List Int) (w : World) (hA : NetAt w A1 n1 c1 A2 n2 c2 n) (hL : SlAt w 1 A3 n2 c3 (ints fl)) (hn : netOk n = true) (hf : flOk n fl = true) :
    Calls Tryz.prog 124 #[.agg #[.slice A1 n1 c1, .slice A2 n2 c2], .slice A3 n2 c3] w fun e w' => ∃ A c, e = .returned (.slice A n1 c) ∧ w'.ownsRow w.heap.size 2 1 (.slice A n1 c) n1 (ints (outL n fl)) ∧ Gr w w' := by
  obtain ⟨i0, hi0, hz0, hz1, hz2⟩ := info_parts infoInt64
  have hm1 := hA.m1
  have hm2 := hA.m2
  have hl1 := hA.l1
  have hl2 := hA.l2
  have h40 : n2 ≤ 40 := by have := (netOk_all hn).1.2.2; rw [hl2] at this; exact this
  have HA := Lib.hid hA
  have HL := Lib.hid hL
  have Hn := Lib.hid hn
  have Hf := Lib.hid hf
  have Hl1 := Lib.hid hl1
  have Hl2 := Lib.hid hl2
  clear hA hL hn hf hl1 hl2
  go_enter Tryz.func124, Tryz.ntmps124
  go_wp2_with (at_make; refine wpList_make_full _ rfl _ _ _ rfl w.heap.size 2 i0 _ 1 Tryz.underlying26 hi0 hz0 hz1 .i64 .i64 _ _ n1 rfl rfl rfl rfl (by rw [hz2]; omega) (by unfold maxLen; omega) (by simp) ?_; intro w0 hown hg; have hgb : Gr (w.alloc (.cells #[.slice A1 n1 c1, .slice A2 n2 c2] 32)) w0 := Gr.of_grown hg; have b1 : w0.cell? ⟨w.heap.size, 1, none⟩ = some (.slice A2 n2 c2) := hgb.has (by simp [go_sem]); have Hown0 := Lib.hid hown; clear hown)
  have hown := Hown0.out
  have hg0 : Gr w w0 := ((Gr.refl _).alloc _).trans hgb
  have ez : (madeCells (Value.int .i64 0).cells (n1 * 1)).toList = ints (outTo n fl 0) := by rw [outTo_zero, Hl1.out]; exact made_ints n1
  rw [ez] at hown
  have hlt0 : w.heap.size + 1 < w0.heap.size := (World.ownsRow.lt hown (w.heap.size + 1) (by simp [Value.ownBlock])).2
  have eg : (w.alloc (.cells #[.slice A1 n1 c1, .slice A2 n2 c2] 32)).heap.size = w.heap.size + 1 := by simp
  rw [eg] at hown
  clear ez hg hi0 hz0 hz1 hz2 eg hgb Hown0
  go_loopw [6] (fun i wr => ∃ k : Nat, k ≤ n2 ∧ i = .int .i64 k ∧ wr.ownsRow w.heap.size 2 1 (.slice (some ⟨w.heap.size + 1, 0, none⟩) n1 n1) n1 (ints (outTo n fl k)) ∧ Gr w wr ∧ w0.heap.size ≤ wr.heap.size ∧ wr.cell? ⟨w.heap.size, 1, none⟩ = some (.slice A2 n2 c2)) (fun i _ => n2 - (intOf i).toNat)
  case atStart => exact ⟨0, Nat.zero_le _, rfl, hown, hg0, Nat.le_refl _, b1⟩
  case round =>
    obtain ⟨k, hk, rfl, hownr, hgr, hsz, c1'⟩ := hrel
    clear hown b1
    by_cases hlt : k < n2
    · obtain ⟨p, hp⟩ : ∃ p, n.pipes[k]? = some p := ⟨_, List.getElem?_eq_getElem (by have := Hl2.out; omega)⟩
      obtain ⟨x, hx⟩ : ∃ x, fl[k]? = some x := ⟨_, List.getElem?_eq_getElem (by have := HL.out.sl.ilen; omega)⟩
      obtain ⟨b, o, hAA, hb, e0, e1, e2, e3, e4⟩ := HA.out.pipes.pp hp
      subst hAA
      obtain ⟨b', o', hAA, hb', x0⟩ := HL.out.sl.int hx
      subst hAA
      replace e0 := hgr.has e0
      replace e1 := hgr.has e1
      replace e2 := hgr.has e2
      replace e3 := hgr.has e3
      replace e4 := hgr.has e4
      replace x0 := hgr.has x0
      have ho := pipeOk_all ((netOk_all Hn.out).2 k p hp)
      rw [Hl1.out] at ho
      have s1 : 0 ≤ p.src := ho.1.1
      have s2 : p.src < (n1 : Int) := by have := ho.1.2; omega
      have s1' : 0 ≤ p.dst := ho.2.1.1
      have s2' : p.dst < (n1 : Int) := by have := ho.2.1.2; omega
      have hne : p.src.toNat ≠ p.dst.toNat := by
        have e2 : (eds n.pipes)[k]? = some (edOf p) := by rw [eds, List.getElem?_map, hp]; rfl
        exact ((eds_ok Hn.out).at_ k _ e2).2.2.1
      have hxb : -30000 ≤ x ∧ x ≤ 30000 := (flOk_all Hf.out).2 x (List.mem_of_getElem? hx)
      have hst := outTo_step Hn.out hp hx
      have hv := outK_bnd Hf.out k p.src.toNat
      have hv1 := outK_bnd Hf.out k p.dst.toNat
      have hget := outTo_get (n := n) (fl := fl) (k := k) (v := p.src.toNat) (by have := Hl1.out; omega)
      have hget2 := outTo_get (n := n) (fl := fl) (k := k) (v := p.dst.toNat) (by have := Hl1.out; omega)
      obtain ⟨v, hvv⟩ : ∃ v, v = outK n fl k p.src.toNat := ⟨_, rfl⟩
      obtain ⟨v1, hvv1⟩ : ∃ v1, v1 = outK n fl k p.dst.toNat := ⟨_, rfl⟩
      rw [← hvv] at hv hget hst
      rw [← hvv1] at hv1 hget2 hst
      obtain ⟨acc, hacc⟩ : ∃ acc, acc = outTo n fl k := ⟨_, rfl⟩
      rw [← hacc] at hownr hget hget2 hst
      obtain ⟨acc1, hacc1⟩ : ∃ acc1, acc1 = acc.set p.src.toNat (v + x) := ⟨_, rfl⟩
      have hget1 : acc1[p.dst.toNat]? = some v1 := by rw [hacc1, List.getElem?_set_ne hne]; exact hget2
      rw [← hacc1] at hst
      have HeR := Lib.hid hst.symm
      have Hacc1 := Lib.hid hacc1
      have Hown := Lib.hid hownr
      have Hget := Lib.hid hget
      have Hget1 := Lib.hid hget1
      have t1 : (k : Int) < (n2 : Int) := by omega
      have t0 : (0 : Int) ≤ (k : Int) := by omega
      clear hp hx hownr hst hacc hvv hget hget2 hvv1 hacc1 hget1 ho hne
      go_wp2_with fail
      obtain ⟨w2, hw2⟩ : ∃ w2, w2 = wr := ⟨_, rfl⟩
      have hg2 : Gr wr w2 := by rw [hw2]; exact Gr.refl _
      rw [← hw2] at e0 e1 x0 c1' ⊢
      clear hw2 e2 e3 e4
      have hgz := hgr.size
      have hown2 := own_gr Hown.out hg2
      obtain ⟨d0, f0⟩ := own_int hown2 Hget.out
      have R := own_set_int hown2 p.src.toNat (v + x)
      rw [← Hacc1.out] at R
      have HR := Lib.hid R
      clear R hown2
      have hwr : IntKind.i64.wrap (v + x) = v + x := IntWalk.i64_in _ (by omega)
      refine wp_region_last (fun w' => w' = w2.drew) (fun w' => w' = (w2.setCell ⟨w.heap.size + 1, p.src.toNat, none⟩ (.int .i64 (v + x))).drew) (by kernel_rfl) (by kernel_rfl) (by decide) rfl ?_
      repeat (first
            | ((with_reducible refine wpText_skip ?_ ?_)
               · rfl
               simp only [Act.put, List.setIfInBounds_toArray, List.set_cons_zero, List.set_cons_succ])
            | ((with_reducible refine wpText_yield (v := ?_) ?_ ?_ ?_)
               rotate_left
               · rfl
               · intro W hW; first | (go_simp; done) | (go_simp; with_reducible rfl)
               simp only [Act.put, List.setIfInBounds_toArray, List.set_cons_zero, List.set_cons_succ])
            | ((with_reducible refine wpText_yield1 (v := ?_) ?_ ?_ ?_)
               rotate_left
               · rfl
               · intro W hW; first | (go_simp; done) | (go_simp; with_reducible rfl)
               simp only [Act.put, List.setIfInBounds_toArray, List.set_cons_zero, List.set_cons_succ]))
      (first
            | ((with_reducible refine wpText_do1 undef ?_ ?_ ?_)
               · rfl
               · intro W hW K hK
                 subst hW
                 go_simp
                 exact hK _ rfl
               simp only [Act.put]))
      rintro w3 rfl
      clear hwr d0 f0

      obtain ⟨w4, hw4⟩ : ∃ w4, w4 = (w2.setCell ⟨w.heap.size + 1, p.src.toNat, none⟩ (.int .i64 (v + x))).drew := ⟨_, rfl⟩
      have hown4 : w4.ownsRow w.heap.size 2 1 (.slice (some ⟨w.heap.size + 1, 0, none⟩) n1 n1) n1 (ints acc1) := by rw [hw4]; exact HR.out.1.drew
      have hgr4 : w2.grownBy w4 (some (w.heap.size + 1)) := by rw [hw4]; exact ⟨HR.out.2.os, HR.out.2.tape, HR.out.2.output, HR.out.2.size, HR.out.2.block⟩
      have x04 : w4.cell? ⟨b', o' + k, none⟩ = some (.int .i64 x) := hgr4.cell x0 (by simp only [ne_eq, Option.some.injEq]; omega)
      have e04 := hgr4.cell e0 (by simp only [ne_eq, Option.some.injEq]; omega)
      have e14 := hgr4.cell e1 (by simp only [ne_eq, Option.some.injEq]; omega)
      have c4 := hgr4.cell c1' (by simp only [ne_eq, Option.some.injEq]; omega)
      go_wp2_with fail
      rw [← hw4]
      clear hw4 HR
      obtain ⟨d1, f1⟩ := own_int hown4 Hget1.out
      have R := own_set_int hown4 p.dst.toNat (v1 - x)
      rw [HeR.out] at R
      have HR := Lib.hid R
      have Hgr4 := Lib.hid hgr4
      clear R hown4 hgr4
      have hwr : IntKind.i64.wrap (v1 - x) = v1 - x := IntWalk.i64_in _ (by omega)
      refine wp_region_last (fun w' => w' = w4.drew) (fun w' => w' = (w4.setCell ⟨w.heap.size + 1, p.dst.toNat, none⟩ (.int .i64 (v1 - x))).drew) (by kernel_rfl) (by kernel_rfl) (by decide) rfl ?_
      repeat (first
            | ((with_reducible refine wpText_skip ?_ ?_)
               · rfl
               simp only [Act.put, List.setIfInBounds_toArray, List.set_cons_zero, List.set_cons_succ])
            | ((with_reducible refine wpText_yield (v := ?_) ?_ ?_ ?_)
               rotate_left
               · rfl
               · intro W hW; first | (go_simp; done) | (go_simp; with_reducible rfl)
               simp only [Act.put, List.setIfInBounds_toArray, List.set_cons_zero, List.set_cons_succ])
            | ((with_reducible refine wpText_yield1 (v := ?_) ?_ ?_ ?_)
               rotate_left
               · rfl
               · intro W hW; first | (go_simp; done) | (go_simp; with_reducible rfl)
               simp only [Act.put, List.setIfInBounds_toArray, List.set_cons_zero, List.set_cons_succ]))
      (first
            | ((with_reducible refine wpText_do1 undef ?_ ?_ ?_)
               · rfl
               · intro W hW K hK
                 subst hW
                 go_simp
                 exact hK _ rfl
               simp only [Act.put]))
      rintro w5 rfl
      have c5 : (w4.setCell ⟨w.heap.size + 1, p.dst.toNat, none⟩ (.int .i64 (v1 - x))).drew.cell? ⟨w.heap.size, 1, none⟩ = some (.slice (some ⟨b, o, none⟩) n2 c2) := by
        have := HR.out.2.cell c4 (by simp only [ne_eq, Option.some.injEq]; omega)
        simpa using this
      clear hwr
      go_wp2_with fail
      go_roundw
      case rel => exact ⟨k + 1, by omega, by go_num, HR.out.1.drew, (((hgr.trans hg2).grown Hgr4.out (fun _ e => by injection e with e; omega)).grown HR.out.2 (fun _ e => by injection e with e; omega)).drew, by have a := hg2.size; have b := Hgr4.out.size; have c := HR.out.2.size; simp at c; simp; omega, c5⟩
      case measure => simp [intOf]; omega
    · obtain rfl : k = n2 := by omega
      have Hownr := Lib.hid hownr
      clear hownr
      go_wp2_with fail
      go_ret
      refine ⟨_, _, rfl, ?_, hgr⟩
      have h := Hownr.out
      rw [← Hl2.out, outTo_full] at h
      exact h
end Go.Proofs.YthhmhigddmimjaaGreat
/-
  Flow lists: limits, balance, supplies, transits. Printed by gen_out2.py.
-/
set_option linter.unusedSimpArgs false
set_option linter.unusedVariables false
namespace Go.Proofs.YthhmhigddmimjaaGreat
open Go.ChangeShapes Go.WideShapes Go.ChangeAt Go.RowKit

def sgO (a : Int) : Int := if a < 0 then -1 else 1
theorem absO_any (a : Int) (w : World) (h : -1000000000000000 ≤ a ∧ a ≤ 1000000000000000) : Calls Tryz.prog 77 #[.int .i64 a] w fun e w' => e = .returned (.int .i64 (sgO a * a)) ∧ w = w' := by
  by_cases h0 : a < 0
  · have e : -a = sgO a * a := by rw [sgO, if_pos h0]; omega
    have E := Lib.hid e
    clear e
    go_enter Tryz.func77, Tryz.ntmps77
    go_wp2_with fail
    go_ret
    exact ⟨ret_int E.out, rfl⟩
  · have e : a = sgO a * a := by rw [sgO, if_neg h0]; omega
    have E := Lib.hid e
    clear e
    go_enter Tryz.func77, Tryz.ntmps77
    go_wp2_with fail
    go_ret
    exact ⟨ret_int E.out, rfl⟩
theorem abs_lim {x l : Int} : l < sgO x * x ↔ ¬ (-l ≤ x ∧ x ≤ l) := by
  unfold sgO
  split <;> omega
set_option maxHeartbeats 3200000 in
set_option maxRecDepth 100000 in
theorem KeepsLimits_any {A1 A2 A3 : Option Addr} {n1 c1 n2 c2 n3 c3 : Nat} (n : GNet) (fl : List Int) (w : World) (hA : NetAt w A1 n1 c1 A2 n2 c2 n) (hS : SlAt w 1 A3 n3 c3 (ints fl)) :
    Calls Tryz.prog 42 #[.agg #[.slice A1 n1 c1, .slice A2 n2 c2], .slice A3 n3 c3] w fun e w' => e = .returned (.bool (klB n fl)) ∧ Gr w w' := by
  have hm1 := hA.m1
  have hm2 := hA.m2
  have hl1 := hA.l1
  have hl2 := hA.l2
  have hlen := hS.sl.ilen
  have HA := Lib.hid hA
  have HS := Lib.hid hS
  have Hl1 := Lib.hid hl1
  have Hl2 := Lib.hid hl2
  clear hA hS hl1 hl2
  go_enter Tryz.func42, Tryz.ntmps42
  go_wp2_with fail
  refine (IsNetwork_any _ _ _ _ _ _ n _ (HA.out.gr ((Gr.refl _).alloc _))).mono ?_
  rintro e w1 ⟨rfl, hg1⟩
  have hg0 : Gr w w1 := ((Gr.refl _).alloc _).trans hg1
  have b0 : w1.cell? ⟨w.heap.size, 0, none⟩ = some (.slice A1 n1 c1) := hg1.has (by simp [go_sem])
  have b1 : w1.cell? ⟨w.heap.size, 1, none⟩ = some (.slice A2 n2 c2) := hg1.has (by simp [go_sem])
  clear hg1
  cases hn : netOk n with
  | false =>
    have Hn := Lib.hid hn
    go_wp2_with fail
    go_ret
    exact ⟨ret_bool (by rw [klB, Hn.out]; rfl), hg0⟩
  | true =>
    have Hn := Lib.hid hn
    go_wp2_with fail
    refine (isFlowList_any fl _ (HS.out.gr hg0) hm2).mono ?_
    rintro e w2 ⟨rfl, hg2⟩
    have hgw : Gr w w2 := hg0.trans hg2
    have c0 := hg2.has b0
    have c1' := hg2.has b1
    have e2 : flOk n fl = supOk n2 fl := by rw [flOk, Hl2.out]
    cases hs : supOk n2 fl with
    | false =>
      have Hs : Hid (flOk n fl = false) := Lib.hid (e2.trans hs)
      clear e2 hs
      go_wp2_with fail
      go_ret
      exact ⟨ret_bool (by rw [klB, Hn.out, Hs.out]; rfl), hgw⟩
    | true =>
      have Hf : Hid (flOk n fl = true) := Lib.hid (e2.trans hs)
      have hfl : fl.length = n2 := by have := (flOk_all Hf.out).1; have := Hl2.out; omega
      obtain rfl : n2 = n3 := by omega
      clear e2 hs
      go_wp2_with fail
      go_loopw [19] (fun i wr => ∃ k : Nat, k ≤ n2 ∧ i = .int .i64 k ∧ (∀ j, j < k → ovAt n fl j = false) ∧ Gr w wr) (fun i _ => n2 - (intOf i).toNat)
      case atStart => exact ⟨0, Nat.zero_le _, rfl, fun j h => absurd h (by omega), hgw⟩
      case round =>
        obtain ⟨k, hk, rfl, hno, hgr⟩ := hrel
        have Hno := Lib.hid hno
        clear hno
        by_cases hlt : k < n2
        · obtain ⟨p, hp⟩ : ∃ p, n.pipes[k]? = some p := ⟨_, List.getElem?_eq_getElem (by have := Hl2.out; omega)⟩
          obtain ⟨x, hx⟩ : ∃ x, fl[k]? = some x := ⟨_, List.getElem?_eq_getElem (by omega)⟩
          obtain ⟨b, o, hAA, hb, e0, e1, e2, e3, e4⟩ := (HA.out.gr hgr).pipes.pp hp
          subst hAA
          obtain ⟨b', o', hAA, hb', x0⟩ := (HS.out.gr hgr).sl.int hx
          subst hAA
          have hxb : -30000 ≤ x ∧ x ≤ 30000 := (flOk_all Hf.out).2 x (List.mem_of_getElem? hx)
          have hov : ovAt n fl k = decide (p.lim < sgO x * x) := by
            have e1 : n.pipes.getD k dP = p := by rw [List.getD_eq_getElem?_getD, hp]; rfl
            have e2 : fl.getD k 0 = x := by rw [List.getD_eq_getElem?_getD, hx]; rfl
            rw [ovAt, e1, e2, Bool.eq_iff_iff, Bool.not_eq_true', decide_eq_false_iff_not, decide_eq_true_eq]
            exact abs_lim.symm
          have Hov := Lib.hid hov
          have t1 : (k : Int) < (n2 : Int) := by omega
          have t0 : (0 : Int) ≤ (k : Int) := by omega
          clear hp hx hov
          go_upto_region 6 with fail
          obtain ⟨w4, hw4⟩ : ∃ W, W = wr.alloc (.cells #[.int .i64 p.src, .int .i64 p.dst, .int .i64 p.k, .int .i64 p.vol, .int .i64 p.lim] 95) := ⟨_, rfl⟩
          have hg4 : Gr wr w4 := by rw [hw4]; exact (Gr.refl _).alloc _
          have x4 : w4.cell? ⟨wr.heap.size, 4, none⟩ = some (.int .i64 p.lim) := by rw [hw4]; simp [go_sem]
          have x5 := hg4.has x0
          rw [← hw4]
          have hgr4 := hgr.trans hg4
          clear hw4 e0 e1 e2 e3 e4 x0
          go_wp2_with fail
          refine wp_region_text (fun w' => Gr w4 w' ∧ w'.cell? ⟨wr.heap.size, 4, none⟩ = some (.int .i64 p.lim) ∧ w'.cell? ⟨b', o' + k, none⟩ = some (.int .i64 x)) (by kernel_rfl) (by kernel_rfl) (by decide) ⟨(Gr.refl _).drew, x4, x5⟩ ?_
          repeat (first
            | ((with_reducible refine wpText_skip ?_ ?_)
               · rfl
               simp only [Act.put, List.setIfInBounds_toArray, List.set_cons_zero, List.set_cons_succ])
            | ((with_reducible refine wpText_yield (v := ?_) ?_ ?_ ?_)
               rotate_left
               · rfl
               · (intro W hW; obtain ⟨hWg, hW0, hW1⟩ := hW; first | (go_simp; done) | (go_simp; with_reducible rfl))
               simp only [Act.put, List.setIfInBounds_toArray, List.set_cons_zero, List.set_cons_succ])
            | ((with_reducible refine wpText_yield1 (v := ?_) ?_ ?_ ?_)
               rotate_left
               · rfl
               · (intro W hW; obtain ⟨hWg, hW0, hW1⟩ := hW; first | (go_simp; done) | (go_simp; with_reducible rfl))
               simp only [Act.put, List.setIfInBounds_toArray, List.set_cons_zero, List.set_cons_succ]))
          refine wpText_do (.int .i64 (sgO x * x)) (by rfl) (fun W hW K hK => ?_) ?_
          · obtain ⟨hWg, hW0, hW1⟩ := hW
            go_simp
            refine (absO_any x _ (by omega)).mono ?_
            rintro e w' ⟨rfl, rfl⟩
            exact hK _ ⟨hWg, hW0, hW1⟩
          simp only [Act.put, List.setIfInBounds_toArray, List.set_cons_zero, List.set_cons_succ]
          repeat (first
            | ((with_reducible refine wpText_skip ?_ ?_)
               · rfl
               simp only [Act.put, List.setIfInBounds_toArray, List.set_cons_zero, List.set_cons_succ])
            | ((with_reducible refine wpText_yield (v := ?_) ?_ ?_ ?_)
               rotate_left
               · rfl
               · (intro W hW; obtain ⟨hWg, hW0, hW1⟩ := hW; first | (go_simp; done) | (go_simp; with_reducible rfl))
               simp only [Act.put, List.setIfInBounds_toArray, List.set_cons_zero, List.set_cons_succ])
            | ((with_reducible refine wpText_yield1 (v := ?_) ?_ ?_ ?_)
               rotate_left
               · rfl
               · (intro W hW; obtain ⟨hWg, hW0, hW1⟩ := hW; first | (go_simp; done) | (go_simp; with_reducible rfl))
               simp only [Act.put, List.setIfInBounds_toArray, List.set_cons_zero, List.set_cons_succ]))
          rintro w6 ⟨hS6, -, -⟩
          have hgr6 := hgr4.trans hS6
          clear x4 x5 hgr4
          by_cases hq : p.lim < sgO x * x
          · have tq : decide (p.lim < sgO x * x) = true := by simp [hq]
            have Hq : Hid (ovAt n fl k = true) := Lib.hid (Hov.out.trans tq)
            (try have hq := Int.not_lt.1 hq)
            go_wp2_with fail
            go_ret
            refine ⟨ret_bool ?_, hgr6⟩
            have hl : limOk n fl = false := by
              rw [limOk, List.all_eq_false]
              refine ⟨k, List.mem_range.2 (by have := Hl2.out; omega), ?_⟩
              have := Hq.out
              rw [ovAt, Bool.not_eq_true'] at this
              intro hd
              exact Bool.noConfusion (this.symm.trans hd)
            rw [klB, hl]; simp
          · have tq : decide (p.lim < sgO x * x) = false := by simp [hq]
            have Hq : Hid (ovAt n fl k = false) := Lib.hid (Hov.out.trans tq)
            (try have hq := Int.not_lt.1 hq)
            go_wp2_with fail
            go_roundw
            case rel => exact ⟨k + 1, by omega, by go_num, fun j hj => (by by_cases e : j = k; (· subst e; exact Hq.out); exact Hno.out j (by omega)), hgr6⟩
            case measure => simp [intOf]; omega
        · obtain rfl : k = n2 := by omega
          go_wp2_with fail
          go_ret
          refine ⟨ret_bool ?_, hgr⟩
          have hl : limOk n fl = true := by
            rw [limOk, List.all_eq_true]
            intro j hj
            have := Hno.out j (by have := List.mem_range.1 hj; have := Hl2.out; omega)
            rw [ovAt, Bool.not_eq_false'] at this
            exact this
          rw [klB, Hn.out, Hf.out, hl]; rfl
end Go.Proofs.YthhmhigddmimjaaGreat
