import Derived.Test.YtejfpajbkgfiaaaWts
/-
  ReadingsFor: the contracts.
-/
namespace Go.Proofs.Ytejfpajbkgfiaaa
open Go.ChangeShapes Go.WideShapes Go.ChangeAt Go.RowKit

def ws (os : List GOrd) (node sg : Int) : Int := (wts os node sg).sum
def prt (os : List GOrd) (k j : Nat) : List GRd := if 0 < ws os k (1 - 2 * (j : Int)) then [⟨k, (1 - 2 * (j : Int)) * ws os k (1 - 2 * (j : Int))⟩] else []
def prts (os : List GOrd) (k j : Nat) : List GRd := (List.range j).flatMap (prt os k)
def rfAll (os : List GOrd) (k : Nat) : List GRd := (List.range k).flatMap fun i => prts os i 2
def rfBad (os : List GOrd) (k : Nat) : Bool := decide (30000 < ws os k 1) || decide (30000 < ws os k (-1))
def rfCode (n : GNet) (os : List GOrd) : Int := if ordCode n os = 0 then (if (List.range n.nodes.length).any (rfBad os) then 7 else 0) else ordCode n os
def rfRes (n : GNet) (os : List GOrd) : List GRd := if rfCode n os = 0 then rfAll os n.nodes.length else []
theorem prts_step (os : List GOrd) (k j : Nat) : prts os k (j + 1) = prts os k j ++ prt os k j := by simp [prts, List.range_succ]
theorem rfAll_step (os : List GOrd) (k : Nat) : rfAll os (k + 1) = rfAll os k ++ prts os k 2 := by simp [rfAll, List.range_succ]
theorem prt_len (os : List GOrd) (k j : Nat) : (prt os k j).length ≤ 1 := by unfold prt; split <;> simp
theorem prts_len (os : List GOrd) (k j : Nat) : (prts os k j).length ≤ j := by
  induction j with
  | zero => simp [prts]
  | succ j ih => rw [prts_step, List.length_append]; have := prt_len os k j; omega
theorem rfAll_len (os : List GOrd) (k : Nat) : (rfAll os k).length ≤ 2 * k := by
  induction k with
  | zero => simp [rfAll]
  | succ k ih => rw [rfAll_step, List.length_append]; have := prts_len os k 2; omega
theorem rf_bad {n : GNet} {os : List GOrd} {k : Nat} (hc : ordCode n os = 0) (hk : k < n.nodes.length) (hb : rfBad os k = true) : rfCode n os = 7 := by
  have : (List.range n.nodes.length).any (rfBad os) = true := by rw [List.any_eq_true]; exact ⟨k, List.mem_range.2 hk, hb⟩
  rw [rfCode, if_pos hc, if_pos this]
theorem rf_good {n : GNet} {os : List GOrd} (hc : ordCode n os = 0) (h : ∀ k, k < n.nodes.length → rfBad os k = false) : rfCode n os = 0 := by
  have : (List.range n.nodes.length).any (rfBad os) = false := by
    rw [List.any_eq_false]; intro k hk; simp [h k (List.mem_range.1 hk)]
  rw [rfCode, if_pos hc, this]; rfl
theorem sum_nonneg {l : List Int} (h : ∀ z ∈ l, 0 ≤ z) : 0 ≤ l.sum := by
  induction l with
  | nil => simp
  | cons a l ih => rw [List.sum_cons]; have := h a (by simp); have := ih (fun z hz => h z (by simp [hz])); omega
theorem nb_step {p : Nat → Bool} {k : Nat} (hk : p k = false) (h : ∀ j, j < k → p j = false) : ∀ j, j < k + 1 → p j = false := by
  intro j hj
  by_cases e : j = k
  · rw [e]; exact hk
  · exact h j (by omega)
theorem ws_bnd {nn : Int} {os : List GOrd} (h : ordsOk nn os = true) (node : Int) {sg : Int} (hs : sg = 1 ∨ sg = -1) : 0 ≤ ws os node sg ∧ ws os node sg ≤ 1200000 := by
  have h1 := wts_bnd (node := node) h hs
  have h2 := sum_take_bnd (M := 30000) (by decide) (l := wts os node sg) (fun z hz => by have := h1 z hz; omega) (wts os node sg).length
  have h3 : (wts os node sg).length ≤ 40 := by rw [wts, List.length_map]; exact (ordsOk_all h).1
  have h4 : 0 ≤ (wts os node sg).sum := sum_nonneg fun z hz => (h1 z hz).1
  rw [List.take_length] at h2
  unfold ws
  omega
def wsTo (os : List GOrd) (node sg : Int) (k : Nat) : Int := ((wts os node sg).take k).sum
theorem wsTo_step {os : List GOrd} {node sg : Int} {k : Nat} {x : GOrd} (hx : os[k]? = some x) : wsTo os node sg (k + 1) = wsTo os node sg k + wt node sg x := by
  rw [wsTo, sum_take_step (x := wt node sg x) (by simp [wts, hx])]; rfl
theorem wsTo_full {os : List GOrd} {node sg : Int} {k : Nat} (hk : os.length ≤ k) : wsTo os node sg k = ws os node sg := by
  rw [wsTo, List.take_of_length_le (by rw [wts, List.length_map]; exact hk)]; rfl
theorem wsTo_bnd {nn : Int} {os : List GOrd} (h : ordsOk nn os = true) (node : Int) {sg : Int} (hs : sg = 1 ∨ sg = -1) (k : Nat) (hk : k ≤ 1048576) : -31457280000 ≤ wsTo os node sg k ∧ wsTo os node sg k ≤ 31457280000 := by
  have h1 := wts_bnd (node := node) h hs
  have h2 := sum_take_bnd (M := 30000) (by decide) (l := wts os node sg) (fun z hz => by have := h1 z hz; omega) k
  unfold wsTo
  omega

set_option maxHeartbeats 3200000 in
set_option maxRecDepth 100000 in
theorem ReadingsFor_any {A1 A2 A3 : Option Addr} {n1 c1 n2 c2 n3 c3 : Nat} (n : GNet) (os : List GOrd) (w : World) (hA : NetAt w A1 n1 c1 A2 n2 c2 n) (hL : SlAt w 4 A3 n3 c3 (os.flatMap GOrd.cells)) :
    Calls Try.prog 76 #[.agg #[.slice A1 n1 c1, .slice A2 n2 c2], .slice A3 n3 c3] w fun e w' => ∃ A m c, e = .returned (.tuple #[.slice A m c, .int .i64 (rfCode n os)]) ∧ m ≤ 1048576 ∧ w'.ownsRow w.heap.size 113 2 (.slice A m c) m ((rfRes n os).flatMap GRd.cells) ∧ Gr w w' := by
  obtain ⟨i0, hi0, hz0, hz1, hz2⟩ := info_parts infoReading
  have hm3 := hL.small
  have hl3 := hL.sl.len GOrd.cells_len (by omega)
  have Hl3 := Lib.hid hl3
  have HA := Lib.hid hA
  have HL := Lib.hid hL
  clear hA hL hl3
  go_enter Try.func76, Try.ntmps76
  go_wp2_with fail
  refine (checkOrders_any n os _ (HA.out.gr ((Gr.refl _).alloc _)) (HL.out.gr ((Gr.refl _).alloc _))).mono ?_
  rintro e w0 ⟨rfl, hg1⟩
  have hg0 : Gr w w0 := ((Gr.refl _).alloc _).trans hg1
  have b0 : w0.cell? ⟨w.heap.size, 0, none⟩ = some (.slice A1 n1 c1) := hg1.has (by simp [go_sem])
  clear hg1
  by_cases hc : ordCode n os = 0
  · have Hc := Lib.hid hc
    have tb : (ordCode n os != 0) = false := by simp [hc]
    have hok := (ordCode_zero hc).2
    have hn1 : n1 ≤ 24 := by have := (netOk_all (ordCode_zero hc).1).1.2.1; rw [HA.out.l1] at this; exact this
    have Hok := Lib.hid hok
    clear hc hok
    go_wp2_with fail
    clear b0
    go_loopw [7, 22] (fun o i wr => ∃ k : Nat, k ≤ n1 ∧ i = .int .i64 k ∧ (∃ A m c, o = .slice A m c ∧ m = (rfAll os k).length ∧ wr.ownsRow w.heap.size 113 2 (.slice A m c) m ((rfAll os k).flatMap GRd.cells)) ∧ (∀ j, j < k → rfBad os j = false) ∧ Gr w wr) (fun _ i _ => n1 - (intOf i).toNat)
    case atStart => exact ⟨0, Nat.zero_le _, rfl, ⟨none, 0, 0, rfl, rfl, World.ownsRow_nil _ _ _ _⟩, fun j h => absurd h (by omega), hg0⟩
    case round =>
      obtain ⟨k, hk, rfl, ⟨A, m, c, rfl, hmv, hown⟩, hno, hgr⟩ := hrel
      have Hown := Lib.hid hown
      have Hno := Lib.hid hno
      have Hmv := Lib.hid hmv
      have hm : m ≤ 48 := by have := rfAll_len os k; omega
      clear hown hno hmv
      by_cases hlt : k < n1
      · go_wp2_with fail
        go_loopw [9, 10, 27] (fun a b i wq => ∃ q : Nat, q ≤ n3 ∧ i = .int .i64 q ∧ a = .int .i64 (wsTo os k 1 q) ∧ b = .int .i64 (-(wsTo os k (-1) q)) ∧ Gr wr wq) (fun _ _ i _ => n3 - (intOf i).toNat)
        case atStart => exact ⟨0, Nat.zero_le _, rfl, rfl, rfl, Gr.refl _⟩
        case round =>
          obtain ⟨q, hq, rfl, rfl, rfl, hgq⟩ := hrel
          by_cases hql : q < n3
          · obtain ⟨x, hx⟩ : ∃ x, os[q]? = some x := ⟨_, List.getElem?_eq_getElem (by have := Hl3.out; omega)⟩
            obtain ⟨b, o, rfl, hb, r0, r1, r2, r3⟩ := (HL.out.sl.gr (hgr.trans hgq)).ord hx
            have hxb := (ordOk_all ((ordsOk_all Hok.out).2 q x hx)).2.2.1
            have s1 := wsTo_step (node := k) (sg := 1) hx
            have s2 := wsTo_step (node := k) (sg := -1) hx
            have d1 := wsTo_bnd Hok.out k (Or.inl rfl) q (by omega)
            have d2 := wsTo_bnd Hok.out k (Or.inr rfl) q (by omega)
            obtain ⟨a, ha⟩ : ∃ a, a = wsTo os k 1 q := ⟨_, rfl⟩
            obtain ⟨c', hc'⟩ : ∃ a, a = wsTo os k (-1) q := ⟨_, rfl⟩
            rw [← ha] at s1 d1 ⊢
            rw [← hc'] at s2 d2 ⊢
            have Hs1 := Lib.hid s1
            have Hs2 := Lib.hid s2
            clear hx s1 s2 ha hc'
            cases hcn : (x.node == (k : Int))
            all_goals
              go_wp2_with fail
              go_roundw
              case rel =>
                have hcn' := hcn
                simp at hcn'
                have h1 := Hs1.out
                have h2 := Hs2.out
                simp only [wt, hcn', if_true, if_false, Int.one_mul] at h1 h2
                refine ⟨q + 1, by omega, by go_num, ?_, ?_, hgq.alloc _⟩
                · rw [h1]; first | (congr 1; (try split) <;> omega) | rfl
                · rw [h2]; first | (congr 1; (try split) <;> omega) | rfl
              case measure => simp [intOf]; omega
          · obtain rfl : q = n3 := by omega
            have e1 := wsTo_full (node := k) (sg := 1) (Nat.le_of_eq Hl3.out)
            have e2 := wsTo_full (node := k) (sg := -1) (Nat.le_of_eq Hl3.out)
            have d1 := ws_bnd Hok.out k (sg := 1) (Or.inl rfl)
            have d2 := ws_bnd Hok.out k (sg := -1) (Or.inr rfl)
            rw [e1, e2]
            have hbad : rfBad os k = (decide (30000 < ws os k 1) || decide (30000 < ws os k (-1))) := rfl
            have hst := rfAll_step os k
            have hps : prts os k 2 = prt os k 0 ++ prt os k 1 := by simp [prts, List.range_succ]
            have hp0 : prt os k 0 = if 0 < ws os k 1 then [⟨k, ws os k 1⟩] else [] := by simp [prt]
            have hp1 : prt os k 1 = if 0 < ws os k (-1) then [⟨k, -(ws os k (-1))⟩] else [] := by
              have e : (1 : Int) - 2 * ((1 : Nat) : Int) = -1 := rfl
              simp only [prt, e]
              congr 3
              omega
            obtain ⟨a, ha⟩ : ∃ a, a = ws os k 1 := ⟨_, rfl⟩
            obtain ⟨b, hb⟩ : ∃ b, b = ws os k (-1) := ⟨_, rfl⟩
            rw [← ha] at d1 hbad hp0 ⊢
            rw [← hb] at d2 hbad hp1 ⊢
            have Hbad := Lib.hid hbad
            have Hst := Lib.hid hst
            have Hps := Lib.hid hps
            have Hp0 := Lib.hid hp0
            have Hp1 := Lib.hid hp1
            clear hbad hst hps hp0 hp1 ha hb e1 e2
            have Howq := Lib.hid (own_gr Hown.out hgq)
            have hgwq : Gr w wr := hgr.trans hgq
            have hsq := hgwq.size
            by_cases u1 : 30000 < a
            · go_wp2_with fail
              go_ret2
              have e : rfCode n os = 7 := rf_bad Hc.out (by rw [HA.out.l1]; exact hlt) (by rw [Hbad.out]; simp [u1])
              refine ⟨none, 0, 0, by rw [e]; rfl, by omega, ?_, hgwq⟩
              rw [rfRes, if_neg (by rw [e]; decide)]
              exact World.ownsRow_nil _ _ _ _
            · by_cases u2 : 30000 < b
              · have u1' : decide (30000 < a) = false := by simp; omega
                have u2' : decide (-b < -30000) = true := by simp; omega
                go_wp2_with fail
                go_ret2
                have e : rfCode n os = 7 := rf_bad Hc.out (by rw [HA.out.l1]; exact hlt) (by rw [Hbad.out]; simp [u2])
                refine ⟨none, 0, 0, by rw [e]; rfl, by omega, ?_, hgwq⟩
                rw [rfRes, if_neg (by rw [e]; decide)]
                exact World.ownsRow_nil _ _ _ _
              · have u1' : decide (30000 < a) = false := by simp; omega
                have u2' : decide (-b < -30000) = false := by simp; omega
                have hnb : rfBad os k = false := by rw [Hbad.out]; simp; omega
                have Hnb := Lib.hid hnb
                clear hnb
                by_cases ua : 0 < a
                · have ta : (a != 0) = true := by simp; omega
                  have P0 : prt os k 0 = [⟨k, a⟩] := by rw [Hp0.out, if_pos ua]
                  have HP0 := Lib.hid P0
                  clear P0
                  by_cases ub : 0 < b
                  · have tb2 : (-b != 0) = true := by simp; omega
                    have P1 : prt os k 1 = [⟨k, -b⟩] := by rw [Hp1.out, if_pos ub]
                    have HP1 := Lib.hid P1
                    clear P1
                    go_wp2_with (first
                      | (at_builtin; refine wpList_append_own _ rfl _ _ _ rfl w.heap.size 113 i0 _ 2 16 Try.underlying60 hi0 hz0 hz1 hz2 rfl (by omega) _ (m + 1) _ rfl (Ho1.out.alloc _) ⟨w1.heap.size, 0, none⟩ 1 1 [.int .i64 _, .int .i64 _] rfl rfl (World.news_of_block (cs := #[.int .i64 _, .int .i64 _]) (t := 113) (fr := (0, 0)) (heap_alloc_new w1 _)) (by simp [Value.oneCell']) (by unfold maxLen; omega) (by omega) (by simp; omega) ?_; intro v2 w2 hown2 hg2 _; obtain ⟨A2', c2', rfl⟩ := own_shape hown2; have Ho2 := Lib.hid hown2; have hgw2 : Gr w w2 := (hgw1.alloc _).grown hg2 (fun j hj => own_base_le Ho1.out hj); clear hown2 hg2)
                      | (at_builtin; refine wpList_append_own _ rfl _ _ _ rfl w.heap.size 113 i0 _ 2 16 Try.underlying60 hi0 hz0 hz1 hz2 rfl (by omega) _ (m) _ rfl (Howq.out.alloc _) ⟨wr.heap.size, 0, none⟩ 1 1 [.int .i64 _, .int .i64 _] rfl rfl (World.news_of_block (cs := #[.int .i64 _, .int .i64 _]) (t := 113) (fr := (0, 0)) (heap_alloc_new wr _)) (by simp [Value.oneCell']) (by unfold maxLen; omega) (by omega) (by simp; omega) ?_; intro v1 w1 hown1 hg1 _; obtain ⟨A1', c1', rfl⟩ := own_shape hown1; have Ho1 := Lib.hid hown1; have hgw1 : Gr w w1 := (hgwq.alloc _).grown hg1 (fun j hj => own_base_le Howq.out hj); have hs1 := hgw1.size; clear hown1 hg1))
                    go_roundw
                    case rel =>
                      have e3 : rfAll os (k + 1) = rfAll os k ++ [⟨k, a⟩, ⟨k, -b⟩] := by rw [Hst.out, Hps.out, HP0.out, HP1.out]; rfl
                      refine ⟨k + 1, by omega, by go_num, ⟨_, _, _, rfl, ?_, own_cells_eq Ho2.out ?_⟩, nb_step Hnb.out Hno.out, hgw2⟩
                      · rw [e3, Hmv.out]; simp
                      · rw [e3, List.flatMap_append]; simp [GRd.cells]
                    case measure => simp [intOf]; omega
                  · have tb2 : (-b != 0) = false := by simp; omega
                    have P1 : prt os k 1 = [] := by rw [Hp1.out, if_neg ub]
                    have HP1 := Lib.hid P1
                    clear P1
                    go_wp2_with (at_builtin; refine wpList_append_own _ rfl _ _ _ rfl w.heap.size 113 i0 _ 2 16 Try.underlying60 hi0 hz0 hz1 hz2 rfl (by omega) _ (m) _ rfl (Howq.out.alloc _) ⟨wr.heap.size, 0, none⟩ 1 1 [.int .i64 _, .int .i64 _] rfl rfl (World.news_of_block (cs := #[.int .i64 _, .int .i64 _]) (t := 113) (fr := (0, 0)) (heap_alloc_new wr _)) (by simp [Value.oneCell']) (by unfold maxLen; omega) (by omega) (by simp; omega) ?_; intro v1 w1 hown1 hg1 _; obtain ⟨A1', c1', rfl⟩ := own_shape hown1; have Ho1 := Lib.hid hown1; have hgw1 : Gr w w1 := (hgwq.alloc _).grown hg1 (fun j hj => own_base_le Howq.out hj); have hs1 := hgw1.size; clear hown1 hg1)
                    go_roundw
                    case rel =>
                      have e3 : rfAll os (k + 1) = rfAll os k ++ [⟨k, a⟩] := by rw [Hst.out, Hps.out, HP0.out, HP1.out]; rfl
                      refine ⟨k + 1, by omega, by go_num, ⟨_, _, _, rfl, ?_, own_cells_eq Ho1.out ?_⟩, nb_step Hnb.out Hno.out, hgw1⟩
                      · rw [e3, Hmv.out]; simp
                      · rw [e3, List.flatMap_append]; simp [GRd.cells]
                    case measure => simp [intOf]; omega
                · have ta : (a != 0) = false := by simp; omega
                  have P0 : prt os k 0 = [] := by rw [Hp0.out, if_neg ua]
                  have HP0 := Lib.hid P0
                  clear P0
                  by_cases ub : 0 < b
                  · have tb2 : (-b != 0) = true := by simp; omega
                    have P1 : prt os k 1 = [⟨k, -b⟩] := by rw [Hp1.out, if_pos ub]
                    have HP1 := Lib.hid P1
                    clear P1
                    go_wp2_with (at_builtin; refine wpList_append_own _ rfl _ _ _ rfl w.heap.size 113 i0 _ 2 16 Try.underlying60 hi0 hz0 hz1 hz2 rfl (by omega) _ (m) _ rfl (Howq.out.alloc _) ⟨wr.heap.size, 0, none⟩ 1 1 [.int .i64 _, .int .i64 _] rfl rfl (World.news_of_block (cs := #[.int .i64 _, .int .i64 _]) (t := 113) (fr := (0, 0)) (heap_alloc_new wr _)) (by simp [Value.oneCell']) (by unfold maxLen; omega) (by omega) (by simp; omega) ?_; intro v2 w2 hown2 hg2 _; obtain ⟨A2', c2', rfl⟩ := own_shape hown2; have Ho2 := Lib.hid hown2; have hgw2 : Gr w w2 := (hgwq.alloc _).grown hg2 (fun j hj => own_base_le Howq.out hj); clear hown2 hg2)
                    go_roundw
                    case rel =>
                      have e3 : rfAll os (k + 1) = rfAll os k ++ [⟨k, -b⟩] := by rw [Hst.out, Hps.out, HP0.out, HP1.out]; rfl
                      refine ⟨k + 1, by omega, by go_num, ⟨_, _, _, rfl, ?_, own_cells_eq Ho2.out ?_⟩, nb_step Hnb.out Hno.out, hgw2⟩
                      · rw [e3, Hmv.out]; simp
                      · rw [e3, List.flatMap_append]; simp [GRd.cells]
                    case measure => simp [intOf]; omega
                  · have tb2 : (-b != 0) = false := by simp; omega
                    have P1 : prt os k 1 = [] := by rw [Hp1.out, if_neg ub]
                    have HP1 := Lib.hid P1
                    clear P1
                    go_wp2_with fail
                    go_roundw
                    case rel =>
                      have e3 : rfAll os (k + 1) = rfAll os k ++ [] := by rw [Hst.out, Hps.out, HP0.out, HP1.out]; rfl
                      refine ⟨k + 1, by omega, by go_num, ⟨_, _, _, rfl, ?_, own_cells_eq Howq.out ?_⟩, nb_step Hnb.out Hno.out, hgwq⟩
                      · rw [e3, Hmv.out]; simp
                      · rw [e3, List.flatMap_append]; simp
                    case measure => simp [intOf]; omega
      · obtain rfl : k = n1 := by omega
        go_wp2_with fail
        go_ret2
        have e : rfCode n os = 0 := rf_good Hc.out (by rw [HA.out.l1]; exact Hno.out)
        refine ⟨_, _, _, by rw [e]; rfl, by omega, ?_, hgr⟩
        rw [rfRes, if_pos e, HA.out.l1]
        exact Hown.out
  · have Hc := Lib.hid hc
    have tb : (ordCode n os != 0) = true := by simp [hc]
    clear hc
    go_wp2_with fail
    go_ret2
    have e : rfCode n os = ordCode n os := by rw [rfCode, if_neg Hc.out]
    refine ⟨none, 0, 0, by rw [e]; rfl, by omega, ?_, hg0⟩
    rw [rfRes, if_neg (by rw [e]; exact Hc.out)]
    exact World.ownsRow_nil _ _ _ _
end Go.Proofs.Ytejfpajbkgfiaaa
/-
  ReadingsFor: the reference's contract.
-/
namespace Go.Proofs.Ytejfpajbkgfiaaa
open Go.ChangeShapes Go.WideShapes Go.ChangeAt Go.RowKit

theorem rfBad_step {os : List GOrd} {k : Nat} (h : ∀ i : Nat, i < 2 → ws os k (1 - 2 * (i : Int)) ≤ 30000) : rfBad os k = false := by
  have h0 := h 0 (by omega)
  have h1 := h 1 (by omega)
  simp at h0
  have e : (1 : Int) - 2 * ((1 : Nat) : Int) = -1 := rfl
  rw [e] at h1
  simp [rfBad]
  omega
theorem rfBad_hit {os : List GOrd} {k j : Nat} (hj : j < 2) (h : 30000 < ws os k (1 - 2 * (j : Int))) : rfBad os k = true := by
  have : j = 0 ∨ j = 1 := by omega
  rcases this with rfl | rfl
  · simp at h; simp [rfBad, h]
  · have e : (1 : Int) - 2 * ((1 : Nat) : Int) = -1 := rfl
    rw [e] at h
    simp [rfBad, h]
theorem sgn_j {j : Nat} (hj : j < 2) : (1 - 2 * (j : Int) = 1 ∨ 1 - 2 * (j : Int) = -1) ∧ sgn (1 - 2 * (j : Int)) = 1 - 2 * (j : Int) := by
  have : j = 0 ∨ j = 1 := by omega
  rcases this with rfl | rfl <;> decide

set_option maxHeartbeats 3200000 in
set_option maxRecDepth 100000 in
theorem spReadingsFor_any {A1 A2 A3 : Option Addr} {n1 c1 n2 c2 n3 c3 : Nat} (n : GNet) (os : List GOrd) (w : World) (hA : NetAt w A1 n1 c1 A2 n2 c2 n) (hL : SlAt w 4 A3 n3 c3 (os.flatMap GOrd.cells)) :
    Calls Try.prog 77 #[.agg #[.slice A1 n1 c1, .slice A2 n2 c2], .slice A3 n3 c3] w fun e w' => ∃ A m c, e = .returned (.tuple #[.slice A m c, .int .i64 (rfCode n os)]) ∧ m ≤ 1048576 ∧ w'.ownsRow w.heap.size 113 2 (.slice A m c) m ((rfRes n os).flatMap GRd.cells) ∧ Gr w w' := by
  obtain ⟨i0, hi0, hz0, hz1, hz2⟩ := info_parts infoReading
  have hm3 := hL.small
  have hl3 := hL.sl.len GOrd.cells_len (by omega)
  have Hl3 := Lib.hid hl3
  have HA := Lib.hid hA
  have HL := Lib.hid hL
  clear hA hL hl3
  go_enter Try.func77, Try.ntmps77
  go_wp2_with fail
  refine (l22Code_any n os _ (HA.out.gr ((Gr.refl _).alloc _)) (HL.out.gr ((Gr.refl _).alloc _))).mono ?_
  rintro e w0 ⟨rfl, hg1⟩
  have hg0 : Gr w w0 := ((Gr.refl _).alloc _).trans hg1
  have b0 : w0.cell? ⟨w.heap.size, 0, none⟩ = some (.slice A1 n1 c1) := hg1.has (by simp [go_sem])
  have hbl := lt_of_cell b0
  clear hg1
  by_cases hc : ordCode n os = 0
  · have Hc := Lib.hid hc
    have tb : (ordCode n os != 0) = false := by simp [hc]
    have hok := (ordCode_zero hc).2
    have hn1 : n1 ≤ 24 := by have := (netOk_all (ordCode_zero hc).1).1.2.1; rw [HA.out.l1] at this; exact this
    have Hok := Lib.hid hok
    clear hc hok
    go_wp2_with fail
    go_loopw [7, 8] (fun o i wr => ∃ k : Nat, k ≤ n1 ∧ i = .int .i64 k ∧ (∃ A m c, o = .slice A m c ∧ m = (rfAll os k).length ∧ wr.ownsRow (w.heap.size + 1) 113 2 (.slice A m c) m ((rfAll os k).flatMap GRd.cells)) ∧ (∀ j, j < k → rfBad os j = false) ∧ Gr w wr ∧ wr.cell? ⟨w.heap.size, 0, none⟩ = some (.slice A1 n1 c1)) (fun _ i _ => n1 - (intOf i).toNat)
    case atStart =>
      refine ⟨0, Nat.zero_le _, rfl, ⟨_, 0, 0, rfl, rfl, own_base (World.ownsRow_lit w0 #[] 0 (Nat.le_refl _) (by unfold maxLen; omega) rfl) (by omega)⟩, fun j h => absurd h (by omega), hg0.alloc _, ((Gr.refl _).alloc _).has b0⟩
    case round =>
      obtain ⟨k, hk, rfl, ⟨A, m, c, rfl, hmv, hown⟩, hno, hgr, hbr⟩ := hrel
      have Hown := Lib.hid hown
      have Hno := Lib.hid hno
      have Hmv := Lib.hid hmv
      have hm : m ≤ 48 := by have := rfAll_len os k; omega
      clear hown hno hmv b0 hbl hg0
      by_cases hlt : k < n1
      · go_wp2_with fail
        go_loopw [7, 9] (fun o i wr => ∃ j : Nat, j ≤ 2 ∧ i = .int .i64 (1 - 2 * (j : Int)) ∧ (∃ A m' c, o = .slice A m' c ∧ m' = m + (prts os k j).length ∧ wr.ownsRow (w.heap.size + 1) 113 2 (.slice A m' c) m' ((rfAll os k ++ prts os k j).flatMap GRd.cells)) ∧ (∀ i : Nat, i < j → ws os k (1 - 2 * (i : Int)) ≤ 30000) ∧ Gr w wr ∧ wr.cell? ⟨w.heap.size, 0, none⟩ = some (.slice A1 n1 c1)) (fun _ i _ => (intOf i + 3).toNat)
        case atStart => exact ⟨0, by omega, rfl, ⟨_, _, _, rfl, by simp [prts], own_cells_eq Hown.out (by simp [prts])⟩, fun j h => absurd h (by omega), hgr, hbr⟩
        case round =>
          obtain ⟨j, hj, rfl, ⟨A', m', c', rfl, hmv', hown'⟩, hnj, hgj, hbj⟩ := hrel
          have Hown' := Lib.hid hown'
          have Hnj := Lib.hid hnj
          have Hmv' := Lib.hid hmv'
          have hm' : m' ≤ 50 := by have := prts_len os k j; omega
          have hsj := lt_of_cell hbj
          clear hown' hnj hmv' hbr hgr
          by_cases hjl : j < 2
          · obtain ⟨q1, q2⟩ := sgn_j hjl
            have d1 := ws_bnd Hok.out k q1
            have hall : ∀ z ∈ wts os k (1 - 2 * (j : Int)), -1000000000 ≤ z ∧ z ≤ 1000000000 := fun z hz => by have := wts_bnd (node := (k : Int)) Hok.out q1 z hz; omega
            have hpr : prt os k j = if 0 < ws os k (1 - 2 * (j : Int)) then [⟨k, (1 - 2 * (j : Int)) * ws os k (1 - 2 * (j : Int))⟩] else [] := rfl
            have hws : ws os k (1 - 2 * (j : Int)) = (wts os k (1 - 2 * (j : Int))).sum := rfl
            have hps := prts_step os k j
            have hhit := fun h => rfBad_hit (os := os) (k := k) hjl h
            have hnj2 : ws os k (1 - 2 * (j : Int)) ≤ 30000 → ∀ i : Nat, i < j + 1 → ws os k (1 - 2 * (i : Int)) ≤ 30000 := fun h i hi => by
              by_cases e : i = j
              · rw [e]; exact h
              · exact Hnj.out i (by omega)
            have Hnj2 := Lib.hid hnj2
            clear hnj2
            have hsgj : (1 - 2 * (j : Int)) - 2 = 1 - 2 * ((j + 1 : Nat) : Int) := by omega
            have Hsgj := Lib.hid hsgj
            obtain ⟨sg, hsg⟩ : ∃ sg, sg = 1 - 2 * (j : Int) := ⟨_, rfl⟩
            rw [← hsg] at q1 q2 d1 hall hpr hws hhit Hnj2 Hsgj ⊢
            obtain ⟨s, hs⟩ : ∃ s, s = ws os k sg := ⟨_, rfl⟩
            rw [← hs] at d1 hpr hws hhit Hnj2
            have Hall := Lib.hid hall
            have Hpr := Lib.hid hpr
            have Hws := Lib.hid hws
            have Hps := Lib.hid hps
            have Hhit := Lib.hid hhit
            have Hq2 := Lib.hid q2
            have hmeas : (sg - 2 + 3).toNat < (sg + 3).toNat := by rcases q1 with h | h <;> rw [h] <;> decide
            have hge : decide (-1 ≤ sg) = true := by rcases q1 with h | h <;> rw [h] <;> decide
            have hmu : IntKind.i64.wrap (sg * s) = sg * s := by rcases q1 with h | h <;> rw [h] <;> exact IntWalk.i64_in _ (by omega)
            have hsb : -1 ≤ sg ∧ sg ≤ 1 := by omega
            clear hall hpr hws hps hhit q2 hsgj hsg hs q1
            go_wp2_with fail
            refine (l28Weights_any _ os ⟨k, sg⟩ _ (HL.out.gr hgj) Hok.out).mono ?_
            rintro e w2 ⟨Aw, cw, rfl, how, hgw⟩
            have how' := Lib.hid how
            clear how
            go_wp2_with fail
            refine (l01Sum_any _ _ (SlAt.of_own how'.out hm3) (by rw [Hq2.out]; exact Hall.out)).mono ?_
            rintro e w3 ⟨rfl, rfl⟩
            have hval : (wts os k (sgn sg)).sum = s := by rw [Hq2.out, Hws.out]
            rw [hval]
            have hg2 : Gr w w2 := hgj.trans hgw
            have Ho2 := Lib.hid (own_gr Hown'.out hgw)
            have hb2 := hgw.has hbj
            have hs2 := lt_of_cell hb2
            clear hval
            by_cases u1 : 30000 < s
            · go_wp2_with fail
              go_ret2
              have e : rfCode n os = 7 := rf_bad Hc.out (by rw [HA.out.l1]; exact hlt) (Hhit.out u1)
              refine ⟨none, 0, 0, by rw [e]; rfl, by omega, ?_, hg2⟩
              rw [rfRes, if_neg (by rw [e]; decide)]
              exact World.ownsRow_nil _ _ _ _
            · have u1' : decide (30000 < s) = false := by simp; omega
              by_cases u2 : 0 < s
              · go_wp2_with (at_builtin; refine wpList_append_own _ rfl _ _ _ rfl (w.heap.size + 1) 113 i0 _ 2 16 Try.underlying60 hi0 hz0 hz1 hz2 rfl (by omega) _ m' _ rfl (Ho2.out.alloc _) ⟨w2.heap.size, 0, none⟩ 1 1 [.int .i64 _, .int .i64 _] rfl rfl (World.news_of_block (cs := #[.int .i64 _, .int .i64 _]) (t := 113) (fr := (0, 0)) (heap_alloc_new w2 _)) (by simp [Value.oneCell']) (by unfold maxLen; omega) (by omega) (by simp; omega) ?_; intro v1 w4 hown4 hg4 _)
                obtain ⟨A4, c4, rfl⟩ := own_shape hown4
                have Ho4 := Lib.hid hown4
                have hgw4 : Gr w w4 := (hg2.alloc _).grown hg4 (fun j hj => by have := own_base_le Ho2.out hj; omega)
                have hb4 : w4.cell? ⟨w.heap.size, 0, none⟩ = some (.slice A1 n1 c1) := by
                  rw [hg4.cell_far _ (by simp; omega) (fun e => absurd (own_base_le Ho2.out e.symm) (Nat.not_succ_le_self _))]
                  exact ((Gr.refl _).alloc _).has hb2
                clear hown4 hg4
                go_wp2_with fail
                go_roundw
                case rel =>
                  have e3 : prts os k (j + 1) = prts os k j ++ [⟨k, sg * s⟩] := by rw [Hps.out, Hpr.out, if_pos u2]
                  refine ⟨j + 1, by omega, by rw [← Hsgj.out], ⟨_, _, _, rfl, ?_, own_cells_eq Ho4.out ?_⟩, Hnj2.out (by omega), hgw4, hb4⟩
                  · rw [e3, Hmv'.out]; simp; omega
                  · rw [e3, ← List.append_assoc, List.flatMap_append (ys := [_])]; simp [GRd.cells]
                case measure => simp only [intOf]; exact hmeas
              · go_wp2_with fail
                go_roundw
                case rel =>
                  have e3 : prts os k (j + 1) = prts os k j := by rw [Hps.out, Hpr.out, if_neg (by omega), List.append_nil]
                  refine ⟨j + 1, by omega, by rw [← Hsgj.out], ⟨_, _, _, rfl, ?_, own_cells_eq Ho2.out ?_⟩, Hnj2.out (by omega), hg2, hb2⟩
                  · rw [e3, Hmv'.out]
                  · rw [e3]
                case measure => simp only [intOf]; exact hmeas
          · obtain rfl : j = 2 := by omega
            have hnb := rfBad_step (os := os) (k := k) Hnj.out
            have Hnb := Lib.hid hnb
            have hst := rfAll_step os k
            have Hst := Lib.hid hst
            clear hnb hst
            go_wp2_with fail
            go_roundw
            case rel =>
              refine ⟨k + 1, by omega, by go_num, ⟨_, _, _, rfl, ?_, own_cells_eq Hown'.out ?_⟩, nb_step Hnb.out Hno.out, hgj, hbj⟩
              · rw [Hst.out, List.length_append, Hmv'.out, Hmv.out]
              · rw [Hst.out]
            case measure => simp [intOf]; omega
      · obtain rfl : k = n1 := by omega
        go_wp2_with fail
        go_ret2
        have e : rfCode n os = 0 := rf_good Hc.out (by rw [HA.out.l1]; exact Hno.out)
        refine ⟨_, _, _, by rw [e]; rfl, by omega, ?_, hgr⟩
        rw [rfRes, if_pos e, HA.out.l1]
        exact own_base Hown.out (by omega)
  · have Hc := Lib.hid hc
    have tb : (ordCode n os != 0) = true := by simp [hc]
    clear hc
    go_wp2_with fail
    go_ret2
    have e : rfCode n os = ordCode n os := by rw [rfCode, if_neg Hc.out]
    refine ⟨none, 0, 0, by rw [e]; rfl, by omega, ?_, hg0⟩
    rw [rfRes, if_neg (by rw [e]; exact Hc.out)]
    exact World.ownsRow_nil _ _ _ _
end Go.Proofs.Ytejfpajbkgfiaaa
