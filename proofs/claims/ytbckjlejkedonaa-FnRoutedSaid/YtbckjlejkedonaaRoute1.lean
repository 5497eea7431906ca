/-
  The codes and the routing of the reference: l05Zero, l06Even, l06Code, l23Code, RouteSupplies, IsRoutable.
-/
import Derived.Test.YtbckjlejkedonaaRouteM
import Derived.Test.YtbckjlejkedonaaFlowD
namespace Go.Proofs.Ytbckjlejkedonaa
open Go.ChangeShapes Go.WideShapes Go.ChangeAt Go.RowKit

theorem l05Zero_any {A : Option Addr} {m c : Nat} (zs : List Int) (w : World) (hL : SlAt w 1 A m c (ints zs)) :
    Calls Try.prog 101 #[.slice A m c] w fun e w' => e = .returned (.bool (zeroB zs)) ∧ w = w' := by
  have hlen := hL.sl.ilen
  have Hlen := Lib.hid hlen
  have hm := hL.small
  have HL := Lib.hid hL
  clear hL hlen
  go_enter Try.func101, Try.ntmps101
  go_wp2_with fail
  go_loop [3] (fun i => ∃ k : Nat, k ≤ m ∧ i = .int .i64 k ∧ ∀ q, q < k → ∀ y, zs[q]? = some y → inB 0 y 0 = true) (fun i => m - (intOf i).toNat)
  case atStart => exact ⟨0, Nat.zero_le _, rfl, fun j h => absurd h (by omega)⟩
  case round =>
    obtain ⟨k, hk, rfl, hno⟩ := hrel
    have Hno := Lib.hid hno
    clear hno
    by_cases hlt : k < m
    · obtain ⟨x, hx⟩ : ∃ x, zs[k]? = some x := ⟨_, List.getElem?_eq_getElem (by have := Hlen.out; omega)⟩
      obtain ⟨b, o, rfl, hb, e0⟩ := HL.out.sl.int hx
      have Hx := Lib.hid hx
      have t0 : (0 : Int) ≤ (k : Int) := by omega
      have t1 : (k : Int) < (m : Int) := by omega
      clear hx
      by_cases hz : x = 0
      · have hz1 : (x != 0) = false := by simp [hz]
        have Hok : Hid (inB 0 x 0 = true) := Lib.hid (by rw [hz]; rfl)
        clear hz
        go_wp2_with fail
        go_round
        case rel => exact ⟨k + 1, by omega, by go_num, all_step (p := fun z => inB 0 z 0) Hx.out Hok.out Hno.out⟩
        case measure => simp [intOf]; omega
      · have hz1 : (x != 0) = true := by simp [hz]
        have Hok : Hid (inB 0 x 0 = false) := Lib.hid (by simp [inB]; omega)
        clear hz
        go_wp2_with fail
        go_ret
        exact ⟨ret_bool (all_not (p := fun z => inB 0 z 0) Hx.out Hok.out).symm, rfl⟩
    · obtain rfl : k = m := by omega
      go_wp2_with fail
      go_ret
      exact ⟨ret_bool (all_of (p := fun z => inB 0 z 0) (by rw [Hlen.out]; exact Hno.out)).symm, rfl⟩

set_option maxHeartbeats 1000000 in
set_option maxRecDepth 100000 in
theorem l06Even_any {A1 A2 A3 : Option Addr} {n1 c1 n2 c2 c3 : Nat} (n : GNet) (sup : List Int) (w : World) (hA : NetAt w A1 n1 c1 A2 n2 c2 n) (hS : SlAt w 1 A3 n1 c3 (ints sup)) (hok : netOk n = true) (hsu : supOk n1 sup = true) :
    Calls Try.prog 168 #[.agg #[.slice A1 n1 c1, .slice A2 n2 c2], .slice A3 n1 c3] w fun e w' => e = .returned (.bool (evB (eds n.pipes) n1 sup)) ∧ Gr w w' := by
  obtain ⟨i0, hi0, hz0, hz1, hz2⟩ := info_parts infoInt64
  have hm1 := hA.m1
  have hE : EsOk (eds n.pipes) n1 := by have := eds_ok hok; rw [hA.l1] at this; exact this
  have hcin := comps_in hE
  have hclen := compTo_len (eds n.pipes) n1 n1
  have hsl := (supOk_all hsu).1
  have hsb := (supOk_all hsu).2
  have HA := Lib.hid hA
  have Hok := Lib.hid hok
  have HS := Lib.hid hS
  obtain ⟨cs, hcs⟩ : ∃ cs, cs = comps (eds n.pipes) n1 := ⟨_, rfl⟩
  have hcl : cs.length = n1 := by rw [hcs]; exact hclen
  rw [← hcs] at hcin
  have Hcin := Lib.hid hcin
  have Hsb := Lib.hid hsb
  have Hcs := Lib.hid hcs
  clear hA hok hE hcin hclen hsu hsb hS hcs
  go_enter Try.func168, Try.ntmps168
  go_wp2_with fail
  have hgw0 : Gr w (w.alloc (.cells #[.slice A1 n1 c1, .slice A2 n2 c2] 33)) := (Gr.refl _).alloc _
  refine (l04Components_any n _ (HA.out.gr hgw0) Hok.out).mono ?_
  rintro e w1 ⟨G, rfl, hoG, hg1⟩
  have hgw1 : Gr w w1 := hgw0.trans hg1
  have hGw : w.heap.size < G := by have := own_base_le hoG (k := G) rfl; simp at this; omega
  have hG1 : G < w1.heap.size := own_block_lt hoG rfl
  rw [← Hcs.out] at hoG
  have HoG := Lib.hid hoG
  clear hoG hgw0 hg1
  go_wp2_with (at_make; refine wpList_make_full _ rfl _ _ _ rfl w1.heap.size 2 i0 _ 1 Try.underlying27 hi0 hz0 hz1 .i64 .i64 _ _ n1 rfl rfl rfl rfl (by rw [hz2]; omega) (by unfold maxLen; omega) (by simp) ?_; intro w2 hown2 hg2)
  have hq2 : Gr w1 w2 := Gr.of_grown hg2
  have o2 : w2.ownsRow w1.heap.size 2 1 (.slice (some ⟨w1.heap.size, 0, none⟩) n1 n1) n1 (ints (sumTo cs sup n1 0)) := own_cells_eq hown2 (made_ints n1)
  have HoG := Lib.hid (own_gr HoG.out hq2)
  have hgw2 : Gr w w2 := hgw1.trans hq2
  obtain ⟨S, hS⟩ : ∃ S, S = w1.heap.size := ⟨_, rfl⟩
  rw [← hS] at o2 hG1
  rw [← hS]
  have hwS : w.heap.size ≤ S := by rw [hS]; exact hgw1.size
  have O2 := Lib.hid o2
  clear hown2 hg2 hq2 hgw1 o2 hS
  go_loopw [7] (fun i wr => ∃ k : Nat, k ≤ n1 ∧ i = .int .i64 k ∧ wr.ownsRow S 2 1 (.slice (some ⟨S, 0, none⟩) n1 n1) n1 (ints (sumTo cs sup n1 k)) ∧ w2.grownBy wr (some S)) (fun i _ => n1 - (intOf i).toNat)
  case atStart => exact ⟨0, Nat.zero_le _, rfl, O2.out, World.grownBy.refl _ _⟩
  case round =>
    obtain ⟨k, hk, rfl, hown, hgrow⟩ := hrel
    by_cases hlt : k < n1
    · obtain ⟨z, hz⟩ : ∃ z, cs[k]? = some z := ⟨_, List.getElem?_eq_getElem (by omega)⟩
      obtain ⟨y, hy⟩ : ∃ y, sup[k]? = some y := ⟨_, List.getElem?_eq_getElem (by omega)⟩
      have hzD : cs.getD k 0 = z := by rw [List.getD_eq_getElem?_getD, hz]; rfl
      have hyD : sup.getD k 0 = y := by rw [List.getD_eq_getElem?_getD, hy]; rfl
      have hzb := Hcin.out k hlt
      rw [hzD] at hzb
      have hyb := Hsb.out y (List.mem_of_getElem? hy)
      have hoGr := HoG.out.kept hgrow (Or.inr (by simp [Value.ownBlock]; omega))
      have f0 := (own_int hoGr hz).1
      have hgr : Gr w wr := hgw2.grown hgrow (fun _ e => by injection e with e; omega)
      obtain ⟨b, o, rfl, hb, e0⟩ := (HS.out.gr hgr).sl.int hy
      have hlenS := sumTo_len cs sup n1 k
      have hzN : z.toNat < n1 := by omega
      have hzz : ((z.toNat : Nat) : Int) = z := by omega
      obtain ⟨d0, d1⟩ := own_int hown (get_int (l := sumTo cs sup n1 k) (k := z.toNat) (by omega))
      have hvb : -(30000 * (k : Int)) ≤ (sumTo cs sup n1 k).getD z.toNat 0 ∧ (sumTo cs sup n1 k).getD z.toNat 0 ≤ 30000 * k := by
        rcases getD_mem_or (l := sumTo cs sup n1 k) z.toNat with e | e
        · rw [e]; omega
        · exact sumTo_bnd Hsb.out k _ e
      obtain ⟨v, hv⟩ : ∃ v, v = (sumTo cs sup n1 k).getD z.toNat 0 := ⟨_, rfl⟩
      rw [← hv] at hvb d0
      have R := own_set_int hown z.toNat (v + y)
      have hst : (sumTo cs sup n1 k).set z.toNat (v + y) = sumTo cs sup n1 (k + 1) := by rw [sumTo_succ, sumStep, hzD, hyD, hv]
      rw [hst] at R
      have HR1 := Lib.hid R.1
      have HR2 := Lib.hid R.2
      have Hgrow := Lib.hid hgrow
      have t0 : (0 : Int) ≤ (k : Int) := by omega
      have t1 : (k : Int) < (n1 : Int) := by omega
      have t2 : 0 ≤ z := hzb.1
      have t3 : z < (n1 : Int) := hzb.2
      have hwr : IntKind.i64.wrap (v + y) = v + y := IntWalk.i64_in _ (by omega)
      clear hz hy hzD hyD hoGr hown hgrow hv hst R hgr hlenS
      go_wp2_with fail
      refine wp_region_last (fun w' => w' = wr.drew) (fun w' => w' = (wr.setCell ⟨S, z.toNat, none⟩ (.int .i64 (v + y))).drew) (by kernel_rfl) (by kernel_rfl) (by decide) rfl ?_
      repeat (first
            | ((with_reducible refine wpText_skip ?_ ?_)
               · rfl
               simp only [Act.put, List.setIfInBounds_toArray, List.set_cons_zero, List.set_cons_succ])
            | ((with_reducible refine wpText_yield (v := ?_) ?_ ?_ ?_)
               rotate_left
               · rfl
               · intro W hW; first | (go_simp; done) | (go_simp; with_reducible rfl)
               simp only [Act.put, List.setIfInBounds_toArray, List.set_cons_zero, List.set_cons_succ])
            | ((with_reducible refine wpText_yield1 (v := ?_) ?_ ?_ ?_)
               rotate_left
               · rfl
               · intro W hW; first | (go_simp; done) | (go_simp; with_reducible rfl)
               simp only [Act.put, List.setIfInBounds_toArray, List.set_cons_zero, List.set_cons_succ]))
      (first
            | ((with_reducible refine wpText_do1 undef ?_ ?_ ?_)
               · rfl
               · intro W hW K hK
                 subst hW
                 go_simp
                 exact hK _ rfl
               simp only [Act.put]))
      rintro w3 rfl
      clear hwr
      go_wp2_with fail
      go_roundw
      case rel => exact ⟨k + 1, by omega, by go_num, HR1.out.drew, by have q := grown_trans Hgrow.out HR2.out; exact ⟨q.os, q.tape, q.output, q.size, q.block⟩⟩
      case measure => simp [intOf]; omega
    · obtain rfl : k = n1 := by omega
      have hgr : Gr w wr := hgw2.grown hgrow (fun _ e => by injection e with e; omega)
      have Hown := Lib.hid hown
      clear hown hgrow
      go_wp2_with fail
      refine (l05Zero_any _ _ (SlAt.of_own Hown.out hm1)).mono ?_
      rintro e w4 ⟨rfl, rfl⟩
      go_wp2_with fail
      go_ret
      exact ⟨ret_bool (by rw [evB, ← Hcs.out]), hgr⟩

theorem l06Code_any {A1 A2 A3 : Option Addr} {n1 c1 n2 c2 n3 c3 : Nat} (n : GNet) (sup : List Int) (w : World) (hA : NetAt w A1 n1 c1 A2 n2 c2 n) (hS : SlAt w 1 A3 n3 c3 (ints sup)) :
    Calls Try.prog 167 #[.agg #[.slice A1 n1 c1, .slice A2 n2 c2], .slice A3 n3 c3] w fun e w' => e = .returned (.int .i64 (suCode n sup)) ∧ Gr w w' := by
  have hm1 := hA.m1
  have HA := Lib.hid hA
  have HS := Lib.hid hS
  clear hA hS
  go_enter Try.func167, Try.ntmps167
  go_wp2_with fail
  refine (spIsNetwork_any _ _ _ _ _ _ n _ (HA.out.gr ((Gr.refl _).alloc _))).mono ?_
  rintro e w1 ⟨rfl, hg1⟩
  have hg0 : Gr w w1 := ((Gr.refl _).alloc _).trans hg1
  have b0 : w1.cell? ⟨w.heap.size, 0, none⟩ = some (.slice A1 n1 c1) := hg1.has (by simp [go_sem])
  have b1 : w1.cell? ⟨w.heap.size, 1, none⟩ = some (.slice A2 n2 c2) := hg1.has (by simp [go_sem])
  cases hn : netOk n with
  | false =>
    have Hn := Lib.hid hn
    go_wp2_with fail
    go_ret
    exact ⟨ret_int (by rw [suCode, Hn.out]; rfl), hg0⟩
  | true =>
    have Hn := Lib.hid hn
    go_wp2_with fail
    refine (l06List_any sup _ (HS.out.gr hg0) hm1).mono ?_
    rintro e w2 ⟨rfl, hg2⟩
    have hgw : Gr w w2 := hg0.trans hg2
    cases hs : supOk n1 sup with
    | true =>
      have Hs := Lib.hid hs
      go_wp2_with fail
      go_ret
      exact ⟨ret_int (by rw [suCode, if_pos Hn.out, HA.out.l1, if_pos Hs.out]), hgw⟩
    | false =>
      have Hs := Lib.hid hs
      go_wp2_with fail
      go_ret
      exact ⟨ret_int (by rw [suCode, if_pos Hn.out, HA.out.l1, if_neg (by simp [Hs.out])]), hgw⟩

theorem l23Code_any {A1 A2 A3 : Option Addr} {n1 c1 n2 c2 n3 c3 : Nat} (n : GNet) (sup : List Int) (w : World) (hA : NetAt w A1 n1 c1 A2 n2 c2 n) (hS : SlAt w 1 A3 n3 c3 (ints sup)) :
    Calls Try.prog 89 #[.agg #[.slice A1 n1 c1, .slice A2 n2 c2], .slice A3 n3 c3] w fun e w' => e = .returned (.int .i64 (evCode n sup)) ∧ Gr w w' := by
  have hm1 := hA.m1
  have hlen := hS.sl.ilen
  have HA := Lib.hid hA
  have HS := Lib.hid hS
  clear hA hS
  go_enter Try.func89, Try.ntmps89
  go_wp2_with fail
  refine (l06Code_any n sup _ (HA.out.gr ((Gr.refl _).alloc _)) (HS.out.gr ((Gr.refl _).alloc _))).mono ?_
  rintro e w1 ⟨rfl, hg1⟩
  have hg0 : Gr w w1 := ((Gr.refl _).alloc _).trans hg1
  have b0 : w1.cell? ⟨w.heap.size, 0, none⟩ = some (.slice A1 n1 c1) := hg1.has (by simp [go_sem])
  have b1 : w1.cell? ⟨w.heap.size, 1, none⟩ = some (.slice A2 n2 c2) := hg1.has (by simp [go_sem])
  by_cases hc : suCode n sup = 0
  · obtain ⟨hn, hs⟩ := suCode_zero hc
    rw [HA.out.l1] at hs
    obtain rfl : n3 = n1 := hlen.symm.trans (supOk_all hs).1
    have Hc := Lib.hid hc
    have Hn := Lib.hid hn
    have Hs := Lib.hid hs
    have tb : (suCode n sup == 0) = true := by simp [hc]
    clear hc hn hs
    go_wp2_with fail
    refine (l06Even_any n sup _ (HA.out.gr hg0) (HS.out.gr hg0) Hn.out Hs.out).mono ?_
    rintro e w2 ⟨rfl, hg2⟩
    have hgw : Gr w w2 := hg0.trans hg2
    cases he : evB (eds n.pipes) n3 sup with
    | true =>
      have He := Lib.hid he
      go_wp2_with fail
      go_ret
      exact ⟨ret_int (by rw [evCode, if_pos Hc.out, HA.out.l1, if_pos He.out, Hc.out]), hgw⟩
    | false =>
      have He := Lib.hid he
      go_wp2_with fail
      go_ret
      exact ⟨ret_int (by rw [evCode, if_pos Hc.out, HA.out.l1, if_neg (by simp [He.out])]), hgw⟩
  · have Hc := Lib.hid hc
    have tb : (suCode n sup == 0) = false := by simp [hc]
    clear hc
    go_wp2_with fail
    go_ret
    exact ⟨ret_int (by rw [evCode, if_neg Hc.out]), hg0⟩

theorem spRouteSupplies_any {A1 A2 A3 : Option Addr} {n1 c1 n2 c2 n3 c3 : Nat} (n : GNet) (sup : List Int) (w : World) (hA : NetAt w A1 n1 c1 A2 n2 c2 n) (hS : SlAt w 1 A3 n3 c3 (ints sup)) :
    Calls Try.prog 33 #[.agg #[.slice A1 n1 c1, .slice A2 n2 c2], .slice A3 n3 c3] w fun e w' => ∃ A m c, e = .returned (.tuple #[.slice A m c, .int .i64 (rsCode n sup)]) ∧ m ≤ 1048576 ∧ w'.ownsRow w.heap.size 2 1 (.slice A m c) m (ints (rsRes n sup)) ∧ Gr w w' := by
  have hm1 := hA.m1
  have hm2 := hA.m2
  have hlen := hS.sl.ilen
  have HA := Lib.hid hA
  have HS := Lib.hid hS
  clear hA hS
  go_enter Try.func33, Try.ntmps33
  go_wp2_with fail
  refine (l23Code_any n sup _ (HA.out.gr ((Gr.refl _).alloc _)) (HS.out.gr ((Gr.refl _).alloc _))).mono ?_
  rintro e w1 ⟨rfl, hg1⟩
  have hg0 : Gr w w1 := ((Gr.refl _).alloc _).trans hg1
  have b0 : w1.cell? ⟨w.heap.size, 0, none⟩ = some (.slice A1 n1 c1) := hg1.has (by simp [go_sem])
  have b1 : w1.cell? ⟨w.heap.size, 1, none⟩ = some (.slice A2 n2 c2) := hg1.has (by simp [go_sem])
  by_cases hc : evCode n sup = 0
  · obtain ⟨hn, hs⟩ := suCode_zero (evCode_zero hc).1
    rw [HA.out.l1] at hs
    obtain rfl : n3 = n1 := hlen.symm.trans (supOk_all hs).1
    have Hc := Lib.hid hc
    have Hn := Lib.hid hn
    have Hs := Lib.hid hs
    have tb : (evCode n sup != 0) = false := by simp [hc]
    clear hc hn hs
    go_wp2_with fail
    refine (l23Route_any n sup _ (HA.out.gr hg0) (HS.out.gr hg0) Hn.out (supOk_bnd Hs.out)).mono ?_
    rintro e w2 ⟨F, G, cl, rfl, hF, hG, _, hg2⟩
    have HF := Lib.hid hF
    have HG := Lib.hid hG
    clear hF hG
    go_wp2_with fail
    refine (l05Zero_any _ _ (SlAt.of_own HG.out hm1)).mono ?_
    rintro e w3 ⟨rfl, rfl⟩
    have hgw : Gr w w2 := hg0.trans hg2
    cases hz : zeroB (rt (eds n.pipes) n3 sup).2 with
    | true =>
      have Hz := Lib.hid hz
      go_wp2_with fail
      go_ret2
      have e : rsCode n sup = 0 := by rw [rsCode, if_pos Hc.out, HA.out.l1, if_pos Hz.out]
      refine ⟨some ⟨F, 0, none⟩, n2, n2, by rw [e]; rfl, hm2, ?_, hgw⟩
      rw [rsRes, if_pos e, HA.out.l1]
      exact own_base HF.out hg0.size
    | false =>
      have Hz := Lib.hid hz
      go_wp2_with fail
      go_ret2
      have e : rsCode n sup = 7 := by rw [rsCode, if_pos Hc.out, HA.out.l1, if_neg (by simp [Hz.out])]
      refine ⟨none, 0, 0, by rw [e]; rfl, by omega, ?_, hgw⟩
      rw [rsRes, if_neg (by rw [e]; decide)]
      exact World.ownsRow_nil _ _ _ _
  · have Hc := Lib.hid hc
    have tb : (evCode n sup != 0) = true := by simp [hc]
    clear hc
    go_wp2_with fail
    go_ret2
    have e : rsCode n sup = evCode n sup := by rw [rsCode, if_neg Hc.out]
    refine ⟨none, 0, 0, by rw [e]; rfl, by omega, ?_, hg0⟩
    rw [rsRes, if_neg (by rw [e]; exact Hc.out)]
    exact World.ownsRow_nil _ _ _ _

end Go.Proofs.Ytbckjlejkedonaa
