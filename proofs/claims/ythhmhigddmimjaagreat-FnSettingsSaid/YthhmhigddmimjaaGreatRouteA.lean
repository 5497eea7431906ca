import Derived.Test.YthhmhigddmimjaaGreatFlowMs
import Derived.Test.YthhmhigddmimjaaGreatSups
import Derived.Test.YthhmhigddmimjaaGreatFlowD
import Derived.Test.YthhmhigddmimjaaGreatFlow17
/-
  Plain functions: sums over components, codes and results of routing. No program here.
-/
namespace Go.Proofs.YthhmhigddmimjaaGreat

def sumStep (c sup : List Int) (s : List Int) (i : Nat) : List Int := s.set (c.getD i 0).toNat (s.getD (c.getD i 0).toNat 0 + sup.getD i 0)
def sumTo (c sup : List Int) (N k : Nat) : List Int := (List.range k).foldl (sumStep c sup) (List.replicate N 0)
theorem sumTo_succ (c sup : List Int) (N k : Nat) : sumTo c sup N (k + 1) = sumStep c sup (sumTo c sup N k) k := by
  rw [sumTo, List.range_succ, List.foldl_append]; rfl
theorem sumTo_len (c sup : List Int) (N k : Nat) : (sumTo c sup N k).length = N := by
  induction k with
  | zero => simp [sumTo]
  | succ k ih => rw [sumTo_succ, sumStep, List.length_set]; exact ih
theorem getD_mem_or {l : List Int} (k : Nat) : l.getD k 0 = 0 ∨ l.getD k 0 ∈ l := by
  by_cases h : k < l.length
  · right
    rw [List.getD_eq_getElem?_getD, List.getElem?_eq_getElem h]
    exact List.getElem_mem _
  · left
    rw [List.getD_eq_getElem?_getD, List.getElem?_eq_none (by omega)]; rfl
theorem sumTo_bnd {c sup : List Int} {N : Nat} (hs : ∀ z ∈ sup, -30000 ≤ z ∧ z ≤ 30000) (k : Nat) : ∀ z ∈ sumTo c sup N k, -(30000 * (k : Int)) ≤ z ∧ z ≤ 30000 * k := by
  induction k with
  | zero =>
    intro z hz
    simp only [sumTo, List.range_zero, List.foldl_nil] at hz
    rw [(List.mem_replicate.1 hz).2]; omega
  | succ k ih =>
    intro z hz
    rw [sumTo_succ, sumStep] at hz
    rcases List.mem_or_eq_of_mem_set hz with h | h
    · have := ih z h; omega
    · have h1 : -(30000 * (k : Int)) ≤ (sumTo c sup N k).getD (c.getD k 0).toNat 0 ∧ (sumTo c sup N k).getD (c.getD k 0).toNat 0 ≤ 30000 * k := by
        rcases getD_mem_or (l := sumTo c sup N k) (c.getD k 0).toNat with e | e
        · rw [e]; omega
        · exact ih _ e
      have h2 : -30000 ≤ sup.getD k 0 ∧ sup.getD k 0 ≤ 30000 := by
        rcases getD_mem_or (l := sup) k with e | e
        · rw [e]; omega
        · exact hs _ e
      omega
theorem inB_le {a b z : Int} (h : inB a z b = true) : a ≤ z ∧ z ≤ b := by
  simpa [inB] using h
theorem supOk_all {nn : Nat} {zs : List Int} (h : supOk nn zs = true) : zs.length = nn ∧ ∀ z ∈ zs, -30000 ≤ z ∧ z ≤ 30000 := by
  rw [supOk, Bool.and_eq_true] at h
  refine ⟨of_decide_eq_true h.1, fun z hz => ?_⟩
  exact inB_le (List.all_eq_true.1 h.2 z hz)
def zeroB (l : List Int) : Bool := l.all fun z => inB 0 z 0
def evB (es : List Ed) (N : Nat) (sup : List Int) : Bool := zeroB (sumTo (comps es N) sup N N)
def suCode (n : GNet) (sup : List Int) : Int := if netOk n then (if supOk n.nodes.length sup then 0 else 3) else 1
def evCode (n : GNet) (sup : List Int) : Int := if suCode n sup = 0 then (if evB (eds n.pipes) n.nodes.length sup then 0 else 5) else suCode n sup
noncomputable def rsCode (n : GNet) (sup : List Int) : Int := if evCode n sup = 0 then (if zeroB (rt (eds n.pipes) n.nodes.length sup).2 then 0 else 7) else evCode n sup
noncomputable def rsRes (n : GNet) (sup : List Int) : List Int := if rsCode n sup = 0 then (rt (eds n.pipes) n.nodes.length sup).1 else []
noncomputable def routeB (n : GNet) (sup : List Int) : Bool := rsCode n sup == 0
theorem suCode_zero {n : GNet} {sup : List Int} (h : suCode n sup = 0) : netOk n = true ∧ supOk n.nodes.length sup = true := by
  rw [suCode] at h
  split at h
  · split at h
    · exact ⟨by assumption, by assumption⟩
    · exact absurd h (by decide)
  · exact absurd h (by decide)
end Go.Proofs.YthhmhigddmimjaaGreat
/-
  The codes and the routing of the reference: l05Zero, l06Even, l06Code, l23Code, RouteSupplies, IsRoutable.
-/
namespace Go.Proofs.YthhmhigddmimjaaGreat
open Go.ChangeShapes Go.WideShapes Go.ChangeAt Go.RowKit

theorem l05Zero_any {A : Option Addr} {m c : Nat} (zs : List Int) (w : World) (hL : SlAt w 1 A m c (ints zs)) :
    Calls Tryz.prog 161 #[.slice A m c] w fun e w' => e = .returned (.bool (zeroB zs)) ∧ w = w' := by
  have hlen := hL.sl.ilen
  have Hlen := Lib.hid hlen
  have hm := hL.small
  have HL := Lib.hid hL
  clear hL hlen
  go_enter Tryz.func161, Tryz.ntmps161
  go_wp2_with fail
  go_loop [3] (fun i => ∃ k : Nat, k ≤ m ∧ i = .int .i64 k ∧ ∀ q, q < k → ∀ y, zs[q]? = some y → inB 0 y 0 = true) (fun i => m - (intOf i).toNat)
  case atStart => exact ⟨0, Nat.zero_le _, rfl, fun j h => absurd h (by omega)⟩
  case round =>
    obtain ⟨k, hk, rfl, hno⟩ := hrel
    have Hno := Lib.hid hno
    clear hno
    by_cases hlt : k < m
    · obtain ⟨x, hx⟩ : ∃ x, zs[k]? = some x := ⟨_, List.getElem?_eq_getElem (by have := Hlen.out; omega)⟩
      obtain ⟨b, o, rfl, hb, e0⟩ := HL.out.sl.int hx
      have Hx := Lib.hid hx
      have t0 : (0 : Int) ≤ (k : Int) := by omega
      have t1 : (k : Int) < (m : Int) := by omega
      clear hx
      by_cases hz : x = 0
      · have hz1 : (x != 0) = false := by simp [hz]
        have Hok : Hid (inB 0 x 0 = true) := Lib.hid (by rw [hz]; rfl)
        clear hz
        go_wp2_with fail
        go_round
        case rel => exact ⟨k + 1, by omega, by go_num, all_step (p := fun z => inB 0 z 0) Hx.out Hok.out Hno.out⟩
        case measure => simp [intOf]; omega
      · have hz1 : (x != 0) = true := by simp [hz]
        have Hok : Hid (inB 0 x 0 = false) := Lib.hid (by simp [inB]; omega)
        clear hz
        go_wp2_with fail
        go_ret
        exact ⟨ret_bool (all_not (p := fun z => inB 0 z 0) Hx.out Hok.out).symm, rfl⟩
    · obtain rfl : k = m := by omega
      go_wp2_with fail
      go_ret
      exact ⟨ret_bool (all_of (p := fun z => inB 0 z 0) (by rw [Hlen.out]; exact Hno.out)).symm, rfl⟩

set_option maxHeartbeats 1000000 in
set_option maxRecDepth 100000 in
theorem l06Even_any {A1 A2 A3 : Option Addr} {n1 c1 n2 c2 c3 : Nat} (n : GNet) (sup : List Int) (w : World) (hA : NetAt w A1 n1 c1 A2 n2 c2 n) (hS : SlAt w 1 A3 n1 c3 (ints sup)) (hok : netOk n = true) (hsu : supOk n1 sup = true) :
    Calls Tryz.prog 147 #[.agg #[.slice A1 n1 c1, .slice A2 n2 c2], .slice A3 n1 c3] w fun e w' => e = .returned (.bool (evB (eds n.pipes) n1 sup)) ∧ Gr w w' := by
  obtain ⟨i0, hi0, hz0, hz1, hz2⟩ := info_parts infoInt64
  have hm1 := hA.m1
  have hE : EsOk (eds n.pipes) n1 := by have := eds_ok hok; rw [hA.l1] at this; exact this
  have hcin := comps_in hE
  have hclen := compTo_len (eds n.pipes) n1 n1
  have hsl := (supOk_all hsu).1
  have hsb := (supOk_all hsu).2
  have HA := Lib.hid hA
  have Hok := Lib.hid hok
  have HS := Lib.hid hS
  obtain ⟨cs, hcs⟩ : ∃ cs, cs = comps (eds n.pipes) n1 := ⟨_, rfl⟩
  have hcl : cs.length = n1 := by rw [hcs]; exact hclen
  rw [← hcs] at hcin
  have Hcin := Lib.hid hcin
  have Hsb := Lib.hid hsb
  have Hcs := Lib.hid hcs
  clear hA hok hE hcin hclen hsu hsb hS hcs
  go_enter Tryz.func147, Tryz.ntmps147
  go_wp2_with fail
  have hgw0 : Gr w (w.alloc (.cells #[.slice A1 n1 c1, .slice A2 n2 c2] 32)) := (Gr.refl _).alloc _
  refine (l04Components_any n _ (HA.out.gr hgw0) Hok.out).mono ?_
  rintro e w1 ⟨G, rfl, hoG, hg1⟩
  have hgw1 : Gr w w1 := hgw0.trans hg1
  have hGw : w.heap.size < G := by have := own_base_le hoG (k := G) rfl; simp at this; omega
  have hG1 : G < w1.heap.size := own_block_lt hoG rfl
  rw [← Hcs.out] at hoG
  have HoG := Lib.hid hoG
  clear hoG hgw0 hg1
  go_wp2_with (at_make; refine wpList_make_full _ rfl _ _ _ rfl w1.heap.size 2 i0 _ 1 Tryz.underlying26 hi0 hz0 hz1 .i64 .i64 _ _ n1 rfl rfl rfl rfl (by rw [hz2]; omega) (by unfold maxLen; omega) (by simp) ?_; intro w2 hown2 hg2)
  have hq2 : Gr w1 w2 := Gr.of_grown hg2
  have o2 : w2.ownsRow w1.heap.size 2 1 (.slice (some ⟨w1.heap.size, 0, none⟩) n1 n1) n1 (ints (sumTo cs sup n1 0)) := own_cells_eq hown2 (made_ints n1)
  have HoG := Lib.hid (own_gr HoG.out hq2)
  have hgw2 : Gr w w2 := hgw1.trans hq2
  obtain ⟨S, hS⟩ : ∃ S, S = w1.heap.size := ⟨_, rfl⟩
  rw [← hS] at o2 hG1
  rw [← hS]
  have hwS : w.heap.size ≤ S := by rw [hS]; exact hgw1.size
  have O2 := Lib.hid o2
  clear hown2 hg2 hq2 hgw1 o2 hS
  go_loopw [7] (fun i wr => ∃ k : Nat, k ≤ n1 ∧ i = .int .i64 k ∧ wr.ownsRow S 2 1 (.slice (some ⟨S, 0, none⟩) n1 n1) n1 (ints (sumTo cs sup n1 k)) ∧ w2.grownBy wr (some S)) (fun i _ => n1 - (intOf i).toNat)
  case atStart => exact ⟨0, Nat.zero_le _, rfl, O2.out, World.grownBy.refl _ _⟩
  case round =>
    obtain ⟨k, hk, rfl, hown, hgrow⟩ := hrel
    by_cases hlt : k < n1
    · obtain ⟨z, hz⟩ : ∃ z, cs[k]? = some z := ⟨_, List.getElem?_eq_getElem (by omega)⟩
      obtain ⟨y, hy⟩ : ∃ y, sup[k]? = some y := ⟨_, List.getElem?_eq_getElem (by omega)⟩
      have hzD : cs.getD k 0 = z := by rw [List.getD_eq_getElem?_getD, hz]; rfl
      have hyD : sup.getD k 0 = y := by rw [List.getD_eq_getElem?_getD, hy]; rfl
      have hzb := Hcin.out k hlt
      rw [hzD] at hzb
      have hyb := Hsb.out y (List.mem_of_getElem? hy)
      have hoGr := HoG.out.kept hgrow (Or.inr (by simp [Value.ownBlock]; omega))
      have f0 := (own_int hoGr hz).1
      have hgr : Gr w wr := hgw2.grown hgrow (fun _ e => by injection e with e; omega)
      obtain ⟨b, o, rfl, hb, e0⟩ := (HS.out.gr hgr).sl.int hy
      have hlenS := sumTo_len cs sup n1 k
      have hzN : z.toNat < n1 := by omega
      have hzz : ((z.toNat : Nat) : Int) = z := by omega
      obtain ⟨d0, d1⟩ := own_int hown (get_int (l := sumTo cs sup n1 k) (k := z.toNat) (by omega))
      have hvb : -(30000 * (k : Int)) ≤ (sumTo cs sup n1 k).getD z.toNat 0 ∧ (sumTo cs sup n1 k).getD z.toNat 0 ≤ 30000 * k := by
        rcases getD_mem_or (l := sumTo cs sup n1 k) z.toNat with e | e
        · rw [e]; omega
        · exact sumTo_bnd Hsb.out k _ e
      obtain ⟨v, hv⟩ : ∃ v, v = (sumTo cs sup n1 k).getD z.toNat 0 := ⟨_, rfl⟩
      rw [← hv] at hvb d0
      have R := own_set_int hown z.toNat (v + y)
      have hst : (sumTo cs sup n1 k).set z.toNat (v + y) = sumTo cs sup n1 (k + 1) := by rw [sumTo_succ, sumStep, hzD, hyD, hv]
      rw [hst] at R
      have HR1 := Lib.hid R.1
      have HR2 := Lib.hid R.2
      have Hgrow := Lib.hid hgrow
      have t0 : (0 : Int) ≤ (k : Int) := by omega
      have t1 : (k : Int) < (n1 : Int) := by omega
      have t2 : 0 ≤ z := hzb.1
      have t3 : z < (n1 : Int) := hzb.2
      have hwr : IntKind.i64.wrap (v + y) = v + y := IntWalk.i64_in _ (by omega)
      clear hz hy hzD hyD hoGr hown hgrow hv hst R hgr hlenS
      go_wp2_with fail
      refine wp_region_last (fun w' => w' = wr.drew) (fun w' => w' = (wr.setCell ⟨S, z.toNat, none⟩ (.int .i64 (v + y))).drew) (by kernel_rfl) (by kernel_rfl) (by decide) rfl ?_
      repeat (first
            | ((with_reducible refine wpText_skip ?_ ?_)
               · rfl
               simp only [Act.put, List.setIfInBounds_toArray, List.set_cons_zero, List.set_cons_succ])
            | ((with_reducible refine wpText_yield (v := ?_) ?_ ?_ ?_)
               rotate_left
               · rfl
               · intro W hW; first | (go_simp; done) | (go_simp; with_reducible rfl)
               simp only [Act.put, List.setIfInBounds_toArray, List.set_cons_zero, List.set_cons_succ])
            | ((with_reducible refine wpText_yield1 (v := ?_) ?_ ?_ ?_)
               rotate_left
               · rfl
               · intro W hW; first | (go_simp; done) | (go_simp; with_reducible rfl)
               simp only [Act.put, List.setIfInBounds_toArray, List.set_cons_zero, List.set_cons_succ]))
      (first
            | ((with_reducible refine wpText_do1 undef ?_ ?_ ?_)
               · rfl
               · intro W hW K hK
                 subst hW
                 go_simp
                 exact hK _ rfl
               simp only [Act.put]))
      rintro w3 rfl
      clear hwr
      go_wp2_with fail
      go_roundw
      case rel => exact ⟨k + 1, by omega, by go_num, HR1.out.drew, by have q := grown_trans Hgrow.out HR2.out; exact ⟨q.os, q.tape, q.output, q.size, q.block⟩⟩
      case measure => simp [intOf]; omega
    · obtain rfl : k = n1 := by omega
      have hgr : Gr w wr := hgw2.grown hgrow (fun _ e => by injection e with e; omega)
      have Hown := Lib.hid hown
      clear hown hgrow
      go_wp2_with fail
      refine (l05Zero_any _ _ (SlAt.of_own Hown.out hm1)).mono ?_
      rintro e w4 ⟨rfl, rfl⟩
      go_wp2_with fail
      go_ret
      exact ⟨ret_bool (by rw [evB, ← Hcs.out]), hgr⟩

theorem l06Code_any {A1 A2 A3 : Option Addr} {n1 c1 n2 c2 n3 c3 : Nat} (n : GNet) (sup : List Int) (w : World) (hA : NetAt w A1 n1 c1 A2 n2 c2 n) (hS : SlAt w 1 A3 n3 c3 (ints sup)) :
    Calls Tryz.prog 107 #[.agg #[.slice A1 n1 c1, .slice A2 n2 c2], .slice A3 n3 c3] w fun e w' => e = .returned (.int .i64 (suCode n sup)) ∧ Gr w w' := by
  have hm1 := hA.m1
  have HA := Lib.hid hA
  have HS := Lib.hid hS
  clear hA hS
  go_enter Tryz.func107, Tryz.ntmps107
  go_wp2_with fail
  refine (spIsNetwork_any _ _ _ _ _ _ n _ (HA.out.gr ((Gr.refl _).alloc _))).mono ?_
  rintro e w1 ⟨rfl, hg1⟩
  have hg0 : Gr w w1 := ((Gr.refl _).alloc _).trans hg1
  have b0 : w1.cell? ⟨w.heap.size, 0, none⟩ = some (.slice A1 n1 c1) := hg1.has (by simp [go_sem])
  have b1 : w1.cell? ⟨w.heap.size, 1, none⟩ = some (.slice A2 n2 c2) := hg1.has (by simp [go_sem])
  cases hn : netOk n with
  | false =>
    have Hn := Lib.hid hn
    go_wp2_with fail
    go_ret
    exact ⟨ret_int (by rw [suCode, Hn.out]; rfl), hg0⟩
  | true =>
    have Hn := Lib.hid hn
    go_wp2_with fail
    refine (l06List_any sup _ (HS.out.gr hg0) hm1).mono ?_
    rintro e w2 ⟨rfl, hg2⟩
    have hgw : Gr w w2 := hg0.trans hg2
    cases hs : supOk n1 sup with
    | true =>
      have Hs := Lib.hid hs
      go_wp2_with fail
      go_ret
      exact ⟨ret_int (by rw [suCode, if_pos Hn.out, HA.out.l1, if_pos Hs.out]), hgw⟩
    | false =>
      have Hs := Lib.hid hs
      go_wp2_with fail
      go_ret
      exact ⟨ret_int (by rw [suCode, if_pos Hn.out, HA.out.l1, if_neg (by simp [Hs.out])]), hgw⟩

end Go.Proofs.YthhmhigddmimjaaGreat
/-
  The codes and the routing of the program: componentsOf, isEven, checkSupplies, checkEven, RouteSupplies, IsRoutable.
-/
namespace Go.Proofs.YthhmhigddmimjaaGreat
open Go.ChangeShapes Go.WideShapes Go.ChangeAt Go.RowKit

theorem allZero_any {A : Option Addr} {n c : Nat} (zs : List Int) (w : World) (hL : SlAt w 1 A n c (ints zs)) :
    Calls Tryz.prog 94 #[.slice A n c, .int .i64 0, .int .i64 0] w fun e w' => e = .returned (.bool (zeroB zs)) ∧ w = w' := allWithin_any zs 0 0 w hL
set_option maxHeartbeats 3200000 in
set_option maxRecDepth 100000 in
theorem componentsOf_any {A1 A2 : Option Addr} {n1 c1 n2 c2 : Nat} (n : GNet) (w : World) (hA : NetAt w A1 n1 c1 A2 n2 c2 n) (hok : netOk n = true) :
    Calls Tryz.prog 156 #[.agg #[.slice A1 n1 c1, .slice A2 n2 c2]] w fun e w' => ∃ G, e = .returned (.slice (some ⟨G, 0, none⟩) n1 n1) ∧ w'.ownsRow w.heap.size 2 1 (.slice (some ⟨G, 0, none⟩) n1 n1) n1 (ints (comps (eds n.pipes) n1)) ∧ Gr w w' := by
  obtain ⟨i0, hi0, hz0, hz1, hz2⟩ := info_parts infoInt64
  have hm1 := hA.m1
  have hm2 := hA.m2
  have hE : EsOk (eds n.pipes) n1 := by have := eds_ok hok; rw [hA.l1] at this; exact this
  have HE := Lib.hid hE
  have HA := Lib.hid hA
  have Hok := Lib.hid hok
  clear hA hok hE
  go_enter Tryz.func156, Tryz.ntmps156
  go_wp2_with (at_make; refine wpList_make_full _ rfl _ _ _ rfl w.heap.size 2 i0 _ 1 Tryz.underlying26 hi0 hz0 hz1 .i64 .i64 _ _ n1 rfl rfl rfl rfl (by rw [hz2]; omega) (by unfold maxLen; omega) (by simp) ?_; intro w1 hown1 hg1; have hq1 : Gr (w.alloc (.cells #[.slice A1 n1 c1, .slice A2 n2 c2] 32)) w1 := Gr.of_grown hg1; have b0 : w1.cell? ⟨w.heap.size, 0, none⟩ = some (.slice A1 n1 c1) := hq1.has (by simp [go_sem]); have b1 : w1.cell? ⟨w.heap.size, 1, none⟩ = some (.slice A2 n2 c2) := hq1.has (by simp [go_sem]); have Ho1 := Lib.hid hown1; clear hown1)
  have o1 : w1.ownsRow w.heap.size 2 1 (.slice (some ⟨w.heap.size + 1, 0, none⟩) n1 n1) n1 (ints (List.replicate n1 0)) := by
    have := own_cells_eq Ho1.out (made_ints n1)
    simpa using this
  have hgw1 : Gr w w1 := ((Gr.refl _).alloc _).trans hq1
  try rw [show (w.alloc (.cells #[.slice A1 n1 c1, .slice A2 n2 c2] 32)).heap.size = w.heap.size + 1 by simp]
  obtain ⟨G, hG⟩ : ∃ G, G = w.heap.size + 1 := ⟨_, rfl⟩
  rw [← hG] at o1
  rw [← hG]
  have hGw : w.heap.size < G := by omega
  have O1 := Lib.hid o1
  clear o1 Ho1 hg1 hq1 hG
  go_loopw [14] (fun i wr => ∃ k : Nat, k ≤ n1 ∧ i = .int .i64 k ∧ wr.ownsRow w.heap.size 2 1 (.slice (some ⟨G, 0, none⟩) n1 n1) n1 (ints (overTo (fun _ => (-1 : Int)) (List.replicate n1 0) k)) ∧ w1.grownBy wr (some G)) (fun i _ => n1 - (intOf i).toNat)
  case atStart => exact ⟨0, Nat.zero_le _, rfl, by rw [overTo_zero]; exact O1.out, World.grownBy.refl _ _⟩
  case round =>
    obtain ⟨k, hk, rfl, hown, hgrow⟩ := hrel
    by_cases hlt : k < n1
    · obtain ⟨d0, d1⟩ := own_int hown (k := k) (x := 0) (by rw [overTo_get]; simp [hlt])
      obtain ⟨R1, R2⟩ := own_set_int hown k (-1)
      rw [overTo_set _ _ (by simpa using hlt) rfl] at R1
      have HR1 := Lib.hid R1
      have HR2 := Lib.hid R2
      have Hgrow := Lib.hid hgrow
      have u0 : (0 : Int) ≤ (k : Int) := by omega
      have u1 : (k : Int) < (n1 : Int) := by omega
      clear hown R1 R2 hgrow
      go_wp2_with fail
      go_roundw
      case rel => exact ⟨k + 1, by omega, by go_num, HR1.out, grown_trans Hgrow.out HR2.out⟩
      case measure => simp [intOf]; omega
    · have hkn : k = n1 := by omega
      rw [hkn]
      rw [hkn, over_neg] at hown
      have hgw9 : Gr w wr := hgw1.grown hgrow (fun _ e => by injection e with e; omega)
      have b0 : wr.cell? ⟨w.heap.size, 0, none⟩ = some (.slice A1 n1 c1) := (hgrow.cell_far _ (lt_of_cell b0) (by simp; omega)).trans b0
      have b1 : wr.cell? ⟨w.heap.size, 1, none⟩ = some (.slice A2 n2 c2) := (hgrow.cell_far _ (lt_of_cell b1) (by simp; omega)).trans b1
      have Hown := Lib.hid hown
      rename World => w9
      clear hown hgrow O1 hk hlt hkn hgw1
      go_wp2_with fail
      go_loopw [23] (fun i wr => ∃ k : Nat, k ≤ n1 ∧ i = .int .i64 k ∧ wr.ownsRow w.heap.size 2 1 (.slice (some ⟨G, 0, none⟩) n1 n1) n1 (ints (compTo (eds n.pipes) n1 k)) ∧ Gr w wr ∧ wr.cell? ⟨w.heap.size, 0, none⟩ = some (.slice A1 n1 c1) ∧ wr.cell? ⟨w.heap.size, 1, none⟩ = some (.slice A2 n2 c2)) (fun i _ => n1 - (intOf i).toNat)
      case atStart => exact ⟨0, Nat.zero_le _, rfl, Hown.out, hgw9, b0, b1⟩
      case round =>
        obtain ⟨k, hk, rfl, hown, hgr, x0, x1⟩ := hrel
        clear b0 b1 hgw9
        by_cases hlt : k < n1
        · have hcl := compTo_len (eds n.pipes) n1 k
          obtain ⟨d0, d1⟩ := own_int hown (get_int (l := compTo (eds n.pipes) n1 k) (k := k) (by omega))
          have hst := compTo_succ (eds n.pipes) n1 k
          rw [cstep] at hst
          obtain ⟨z, hz⟩ : ∃ z, z = (compTo (eds n.pipes) n1 k).getD k 0 := ⟨_, rfl⟩
          rw [← hz] at d0 hst
          have HownK := Lib.hid hown
          have u0 : (0 : Int) ≤ (k : Int) := by omega
          have u1 : (k : Int) < (n1 : Int) := by omega
          clear hown hz
          by_cases hz0 : z < 0
          · rw [if_pos hz0] at hst
            have Hst := Lib.hid hst
            have hdz : decide (z < 0) = true := decide_eq_true hz0
            clear hst
            go_wp2_with fail
            refine (searchFrom_any n k _ (HA.out.gr hgr) Hok.out hlt).mono ?_
            rintro e w5 ⟨O, D, gE, rfl, ⟨A, c, rfl⟩, _, hSo, hw5⟩
            obtain ⟨od, hod⟩ : ∃ od, od = ordZ (eds n.pipes) n1 k := ⟨_, rfl⟩
            have hod' : (srch (eds n.pipes) (zf (eds n.pipes)) n1 k).ord = od := hod.symm
            have hI := inv_srch (fl := zf (eds n.pipes)) HE.out hlt
            have hordL : ∀ v ∈ od, v < n1 := by rw [← hod']; exact hI.lt
            have hlen : od.length ≤ n1 := by rw [← hod']; exact hI.len
            have hpos : 0 < od.length := by rw [← hod']; exact (List.getElem?_eq_some_iff.1 hI.hd).1
            rw [← hod] at hSo
            rw [← hod]
            obtain ⟨gO, rfl, hgO1, hgO2⟩ := own_form hSo hpos
            have hgOG : gO ≠ G := by have h1 := own_base_le hSo (k := gO) rfl; have h4 := own_block_lt HownK.out (k := G) rfl; omega
            rw [← hod] at Hst
            have HSo := Lib.hid hSo
            have y0 := hw5.has x0
            have y1 := hw5.has x1
            have hgw5 := hgr.trans hw5
            have Hown5 := Lib.hid (own_gr HownK.out hw5)
            have HordL := Lib.hid hordL
            have hs5 := lt_of_cell y0
            clear hod hod' hI hordL hSo x0 x1 d0 d1
            have hfd : ∀ W : World, (Instr.field 132 (.agg #[.slice (some ⟨gO, 0, none⟩) od.length c, .slice (some ⟨D, 0, none⟩) n1 n1, .slice (some ⟨gE, 0, none⟩) n1 n1]) 0).run Tryz.prog W = .ok (.slice (some ⟨gO, 0, none⟩) od.length c) W := fun _ => by kernel_rfl
            go_wp2_with fail
            go_loopw [36] (fun i wr => ∃ j : Nat, j ≤ od.length ∧ i = .int .i64 j ∧ wr.ownsRow w.heap.size 2 1 (.slice (some ⟨G, 0, none⟩) n1 n1) n1 (ints (paint k (compTo (eds n.pipes) n1 k) (od.take j))) ∧ w5.grownBy wr (some G)) (fun i _ => od.length - (intOf i).toNat)
            case atStart => exact ⟨0, Nat.zero_le _, rfl, Hown5.out, World.grownBy.refl _ _⟩
            case round =>
              obtain ⟨j, hj, rfl, hownj, hgrow⟩ := hrel
              by_cases hjl : j < od.length
              · obtain ⟨v, hv⟩ : ∃ v, od[j]? = some v := ⟨_, List.getElem?_eq_getElem hjl⟩
                have hvN := HordL.out v (List.mem_of_getElem? hv)
                have hvi : (od.map fun (x : Nat) => (x : Int))[j]? = some (v : Int) := by simp [hv]
                have f0 := (own_int (HSo.out.kept hgrow (Or.inr (by simp [Value.ownBlock]; omega))) hvi).1
                obtain ⟨d0, d1⟩ := own_int hownj (get_int (l := paint k (compTo (eds n.pipes) n1 k) (od.take j)) (k := v) (by rw [paint_len]; omega))
                obtain ⟨R1, R2⟩ := own_set_int hownj v (k : Int)
                rw [← paint_snoc hv] at R1
                have HR1 := Lib.hid R1
                have HR2 := Lib.hid R2
                have Hgrow := Lib.hid hgrow
                clear hv hvi R1 R2 hgrow hownj
                go_wp2_with fail
                go_roundw
                case rel => exact ⟨j + 1, by omega, by go_num, HR1.out, grown_trans Hgrow.out HR2.out⟩
                case measure => simp [intOf]; omega
              · have hje : od.take j = od := List.take_of_length_le (by omega)
                rw [hje, ← Hst.out] at hownj
                have Hownj := Lib.hid hownj
                have z0 : wr.cell? ⟨w.heap.size, 0, none⟩ = some (.slice A1 n1 c1) := (hgrow.cell_far _ (lt_of_cell y0) (by simp; omega)).trans y0
                have z1 : wr.cell? ⟨w.heap.size, 1, none⟩ = some (.slice A2 n2 c2) := (hgrow.cell_far _ (lt_of_cell y1) (by simp; omega)).trans y1
                have hgw6 : Gr w wr := hgw5.grown hgrow (fun _ e => by injection e with e; omega)
                clear hownj hgrow hje y0 y1
                go_wp2_with fail
                go_roundw
                case rel => exact ⟨k + 1, by omega, by go_num, Hownj.out, hgw6, z0, z1⟩
                case measure => simp [intOf]; omega
          · rw [if_neg hz0] at hst
            have Hst := Lib.hid hst
            have hdz : decide (z < 0) = false := decide_eq_false hz0
            clear hst
            go_wp2_with fail
            go_roundw
            case rel => exact ⟨k + 1, by omega, by go_num, by rw [Hst.out]; exact HownK.out, hgr, x0, x1⟩
            case measure => simp [intOf]; omega
        · have hkn : k = n1 := by omega
          subst hkn
          have HownK := Lib.hid hown
          clear hown
          go_wp2_with fail
          go_ret
          exact ⟨G, rfl, HownK.out, hgr⟩
set_option maxHeartbeats 1000000 in
set_option maxRecDepth 100000 in
theorem isEven_any {A1 A2 A3 : Option Addr} {n1 c1 n2 c2 c3 : Nat} (n : GNet) (sup : List Int) (w : World) (hA : NetAt w A1 n1 c1 A2 n2 c2 n) (hS : SlAt w 1 A3 n1 c3 (ints sup)) (hok : netOk n = true) (hsu : supOk n1 sup = true) :
    Calls Tryz.prog 139 #[.agg #[.slice A1 n1 c1, .slice A2 n2 c2], .slice A3 n1 c3] w fun e w' => e = .returned (.bool (evB (eds n.pipes) n1 sup)) ∧ Gr w w' := by
  obtain ⟨i0, hi0, hz0, hz1, hz2⟩ := info_parts infoInt64
  have hm1 := hA.m1
  have hE : EsOk (eds n.pipes) n1 := by have := eds_ok hok; rw [hA.l1] at this; exact this
  have hcin := comps_in hE
  have hclen := compTo_len (eds n.pipes) n1 n1
  have hsl := (supOk_all hsu).1
  have hsb := (supOk_all hsu).2
  have HA := Lib.hid hA
  have Hok := Lib.hid hok
  have HS := Lib.hid hS
  obtain ⟨cs, hcs⟩ : ∃ cs, cs = comps (eds n.pipes) n1 := ⟨_, rfl⟩
  have hcl : cs.length = n1 := by rw [hcs]; exact hclen
  rw [← hcs] at hcin
  have Hcin := Lib.hid hcin
  have Hsb := Lib.hid hsb
  have Hcs := Lib.hid hcs
  clear hA hok hE hcin hclen hsu hsb hS hcs
  go_enter Tryz.func139, Tryz.ntmps139
  go_wp2_with (at_make; refine wpList_make_full _ rfl _ _ _ rfl w.heap.size 2 i0 _ 1 Tryz.underlying26 hi0 hz0 hz1 .i64 .i64 _ _ n1 rfl rfl rfl rfl (by rw [hz2]; omega) (by unfold maxLen; omega) (by simp) ?_; intro w1 hown1 hg1; have hq1 : Gr (w.alloc (.cells #[.slice A1 n1 c1, .slice A2 n2 c2] 32)) w1 := Gr.of_grown hg1; have b0 : w1.cell? ⟨w.heap.size, 0, none⟩ = some (.slice A1 n1 c1) := hq1.has (by simp [go_sem]); have b1 : w1.cell? ⟨w.heap.size, 1, none⟩ = some (.slice A2 n2 c2) := hq1.has (by simp [go_sem]); have Ho1 := Lib.hid hown1; clear hown1)
  have o1 : w1.ownsRow w.heap.size 2 1 (.slice (some ⟨w.heap.size + 1, 0, none⟩) n1 n1) n1 (ints (sumTo cs sup n1 0)) := by
    have := own_cells_eq Ho1.out (made_ints n1)
    have e : sumTo cs sup n1 0 = List.replicate n1 0 := rfl
    rw [e]
    simpa using this
  have hgw1 : Gr w w1 := ((Gr.refl _).alloc _).trans hq1
  try rw [show (w.alloc (.cells #[.slice A1 n1 c1, .slice A2 n2 c2] 32)).heap.size = w.heap.size + 1 by simp]
  obtain ⟨S, hS⟩ : ∃ S, S = w.heap.size + 1 := ⟨_, rfl⟩
  rw [← hS] at o1
  rw [← hS]
  have hwS : w.heap.size ≤ S := by omega
  have hS1 : S < w1.heap.size := own_block_lt o1 rfl
  refine (componentsOf_any n _ (HA.out.gr hgw1) Hok.out).mono ?_
  rintro e w2 ⟨G, rfl, hoG, hg2⟩
  have hgw2 : Gr w w2 := hgw1.trans hg2
  have hG1 : S < G := by have := own_base_le hoG (k := G) rfl; omega
  rw [← Hcs.out] at hoG
  have HoG := Lib.hid hoG
  have O2 := Lib.hid (own_base (own_gr o1 hg2) (show w.heap.size ≤ w.heap.size from Nat.le_refl _))
  clear hoG o1 Ho1 hg1 hq1 hgw1 hg2 hS b0 b1
  go_wp2_with fail
  go_loopw [15] (fun i wr => ∃ k : Nat, k ≤ n1 ∧ i = .int .i64 k ∧ wr.ownsRow w.heap.size 2 1 (.slice (some ⟨S, 0, none⟩) n1 n1) n1 (ints (sumTo cs sup n1 k)) ∧ w2.grownBy wr (some S)) (fun i _ => n1 - (intOf i).toNat)
  case atStart => exact ⟨0, Nat.zero_le _, rfl, O2.out, World.grownBy.refl _ _⟩
  case round =>
    obtain ⟨k, hk, rfl, hown, hgrow⟩ := hrel
    by_cases hlt : k < n1
    · obtain ⟨z, hz⟩ : ∃ z, cs[k]? = some z := ⟨_, List.getElem?_eq_getElem (by omega)⟩
      obtain ⟨y, hy⟩ : ∃ y, sup[k]? = some y := ⟨_, List.getElem?_eq_getElem (by omega)⟩
      have hzD : cs.getD k 0 = z := by rw [List.getD_eq_getElem?_getD, hz]; rfl
      have hyD : sup.getD k 0 = y := by rw [List.getD_eq_getElem?_getD, hy]; rfl
      have hzb := Hcin.out k hlt
      rw [hzD] at hzb
      have hyb := Hsb.out y (List.mem_of_getElem? hy)
      have hoGr := HoG.out.kept hgrow (Or.inr (by simp [Value.ownBlock]; omega))
      have f0 := (own_int hoGr hz).1
      have hgr : Gr w wr := hgw2.grown hgrow (fun _ e => by injection e with e; omega)
      obtain ⟨b, o, rfl, hb, e0⟩ := (HS.out.gr hgr).sl.int hy
      have hlenS := sumTo_len cs sup n1 k
      have hzN : z.toNat < n1 := by omega
      have hzz : ((z.toNat : Nat) : Int) = z := by omega
      obtain ⟨d0, d1⟩ := own_int hown (get_int (l := sumTo cs sup n1 k) (k := z.toNat) (by omega))
      have hvb : -(30000 * (k : Int)) ≤ (sumTo cs sup n1 k).getD z.toNat 0 ∧ (sumTo cs sup n1 k).getD z.toNat 0 ≤ 30000 * k := by
        rcases getD_mem_or (l := sumTo cs sup n1 k) z.toNat with e | e
        · rw [e]; omega
        · exact sumTo_bnd Hsb.out k _ e
      obtain ⟨v, hv⟩ : ∃ v, v = (sumTo cs sup n1 k).getD z.toNat 0 := ⟨_, rfl⟩
      rw [← hv] at hvb d0
      have R := own_set_int hown z.toNat (v + y)
      have hst : (sumTo cs sup n1 k).set z.toNat (v + y) = sumTo cs sup n1 (k + 1) := by rw [sumTo_succ, sumStep, hzD, hyD, hv]
      rw [hst] at R
      have HR1 := Lib.hid R.1
      have HR2 := Lib.hid R.2
      have Hgrow := Lib.hid hgrow
      have t0 : (0 : Int) ≤ (k : Int) := by omega
      have t1 : (k : Int) < (n1 : Int) := by omega
      have t2 : 0 ≤ z := hzb.1
      have t3 : z < (n1 : Int) := hzb.2
      have hwr : IntKind.i64.wrap (v + y) = v + y := IntWalk.i64_in _ (by omega)
      clear hz hy hzD hyD hoGr hown hgrow hv hst R hgr hlenS
      go_wp2_with fail
      refine wp_region_last (fun w' => w' = wr.drew) (fun w' => w' = (wr.setCell ⟨S, z.toNat, none⟩ (.int .i64 (v + y))).drew) (by kernel_rfl) (by kernel_rfl) (by decide) rfl ?_
      repeat (first
            | ((with_reducible refine wpText_skip ?_ ?_)
               · rfl
               simp only [Act.put, List.setIfInBounds_toArray, List.set_cons_zero, List.set_cons_succ])
            | ((with_reducible refine wpText_yield (v := ?_) ?_ ?_ ?_)
               rotate_left
               · rfl
               · intro W hW; first | (go_simp; done) | (go_simp; with_reducible rfl)
               simp only [Act.put, List.setIfInBounds_toArray, List.set_cons_zero, List.set_cons_succ])
            | ((with_reducible refine wpText_yield1 (v := ?_) ?_ ?_ ?_)
               rotate_left
               · rfl
               · intro W hW; first | (go_simp; done) | (go_simp; with_reducible rfl)
               simp only [Act.put, List.setIfInBounds_toArray, List.set_cons_zero, List.set_cons_succ]))
      (first
            | ((with_reducible refine wpText_do1 undef ?_ ?_ ?_)
               · rfl
               · intro W hW K hK
                 subst hW
                 go_simp
                 exact hK _ rfl
               simp only [Act.put]))
      rintro w3 rfl
      clear hwr
      go_wp2_with fail
      go_roundw
      case rel => exact ⟨k + 1, by omega, by go_num, HR1.out.drew, by have q := grown_trans Hgrow.out HR2.out; exact ⟨q.os, q.tape, q.output, q.size, q.block⟩⟩
      case measure => simp [intOf]; omega
    · obtain rfl : k = n1 := by omega
      have hgr : Gr w wr := hgw2.grown hgrow (fun _ e => by injection e with e; omega)
      have Hown := Lib.hid hown
      clear hown hgrow
      go_wp2_with fail
      refine (allZero_any _ _ (SlAt.of_own Hown.out hm1)).mono ?_
      rintro e w4 ⟨rfl, rfl⟩
      go_wp2_with fail
      go_ret
      exact ⟨ret_bool (by rw [evB, ← Hcs.out]), hgr⟩

theorem checkSupplies_any {A1 A2 A3 : Option Addr} {n1 c1 n2 c2 n3 c3 : Nat} (n : GNet) (sup : List Int) (w : World) (hA : NetAt w A1 n1 c1 A2 n2 c2 n) (hS : SlAt w 1 A3 n3 c3 (ints sup)) :
    Calls Tryz.prog 113 #[.agg #[.slice A1 n1 c1, .slice A2 n2 c2], .slice A3 n3 c3] w fun e w' => e = .returned (.int .i64 (suCode n sup)) ∧ Gr w w' := by
  have hm1 := hA.m1
  have HA := Lib.hid hA
  have HS := Lib.hid hS
  clear hA hS
  go_enter Tryz.func113, Tryz.ntmps113
  go_wp2_with fail
  refine (IsNetwork_any _ _ _ _ _ _ n _ (HA.out.gr ((Gr.refl _).alloc _))).mono ?_
  rintro e w1 ⟨rfl, hg1⟩
  have hg0 : Gr w w1 := ((Gr.refl _).alloc _).trans hg1
  have b0 : w1.cell? ⟨w.heap.size, 0, none⟩ = some (.slice A1 n1 c1) := hg1.has (by simp [go_sem])
  have b1 : w1.cell? ⟨w.heap.size, 1, none⟩ = some (.slice A2 n2 c2) := hg1.has (by simp [go_sem])
  cases hn : netOk n with
  | false =>
    have Hn := Lib.hid hn
    go_wp2_with fail
    go_ret
    exact ⟨ret_int (by rw [suCode, Hn.out]; rfl), hg0⟩
  | true =>
    have Hn := Lib.hid hn
    go_wp2_with fail
    refine (areSupplies_any sup _ (HS.out.gr hg0) hm1).mono ?_
    rintro e w2 ⟨rfl, hg2⟩
    have hgw : Gr w w2 := hg0.trans hg2
    cases hs : supOk n1 sup with
    | true =>
      have Hs := Lib.hid hs
      go_wp2_with fail
      go_ret
      exact ⟨ret_int (by rw [suCode, if_pos Hn.out, HA.out.l1, if_pos Hs.out]), hgw⟩
    | false =>
      have Hs := Lib.hid hs
      go_wp2_with fail
      go_ret
      exact ⟨ret_int (by rw [suCode, if_pos Hn.out, HA.out.l1, if_neg (by simp [Hs.out])]), hgw⟩

end Go.Proofs.YthhmhigddmimjaaGreat
