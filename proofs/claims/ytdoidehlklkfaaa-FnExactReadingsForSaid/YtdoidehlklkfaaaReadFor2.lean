/-
  ReadingsFor: the reference's contract.
-/
import Derived.Test.YtdoidehlklkfaaaReadFor
namespace Go.Proofs.Ytdoidehlklkfaaa
open Go.ChangeShapes Go.WideShapes Go.ChangeAt Go.RowKit

theorem rfBad_step {os : List GOrd} {k : Nat} (h : ∀ i : Nat, i < 2 → ws os k (1 - 2 * (i : Int)) ≤ 30000) : rfBad os k = false := by
  have h0 := h 0 (by omega)
  have h1 := h 1 (by omega)
  simp at h0
  have e : (1 : Int) - 2 * ((1 : Nat) : Int) = -1 := rfl
  rw [e] at h1
  simp [rfBad]
  omega
theorem rfBad_hit {os : List GOrd} {k j : Nat} (hj : j < 2) (h : 30000 < ws os k (1 - 2 * (j : Int))) : rfBad os k = true := by
  have : j = 0 ∨ j = 1 := by omega
  rcases this with rfl | rfl
  · simp at h; simp [rfBad, h]
  · have e : (1 : Int) - 2 * ((1 : Nat) : Int) = -1 := rfl
    rw [e] at h
    simp [rfBad, h]
theorem sgn_j {j : Nat} (hj : j < 2) : (1 - 2 * (j : Int) = 1 ∨ 1 - 2 * (j : Int) = -1) ∧ sgn (1 - 2 * (j : Int)) = 1 - 2 * (j : Int) := by
  have : j = 0 ∨ j = 1 := by omega
  rcases this with rfl | rfl <;> decide

set_option maxHeartbeats 3200000 in
set_option maxRecDepth 100000 in
theorem spReadingsFor_any {A1 A2 A3 : Option Addr} {n1 c1 n2 c2 n3 c3 : Nat} (n : GNet) (os : List GOrd) (w : World) (hA : NetAt w A1 n1 c1 A2 n2 c2 n) (hL : SlAt w 4 A3 n3 c3 (os.flatMap GOrd.cells)) :
    Calls Try.prog 50 #[.agg #[.slice A1 n1 c1, .slice A2 n2 c2], .slice A3 n3 c3] w fun e w' => ∃ A m c, e = .returned (.tuple #[.slice A m c, .int .i64 (rfCode n os)]) ∧ m ≤ 1048576 ∧ w'.ownsRow w.heap.size 94 2 (.slice A m c) m ((rfRes n os).flatMap GRd.cells) ∧ Gr w w' := by
  obtain ⟨i0, hi0, hz0, hz1, hz2⟩ := info_parts infoReading
  have hm3 := hL.small
  have hl3 := hL.sl.len GOrd.cells_len (by omega)
  have Hl3 := Lib.hid hl3
  have HA := Lib.hid hA
  have HL := Lib.hid hL
  clear hA hL hl3
  go_enter Try.func50, Try.ntmps50
  go_wp2_with fail
  refine (l22Code_any n os _ (HA.out.gr ((Gr.refl _).alloc _)) (HL.out.gr ((Gr.refl _).alloc _))).mono ?_
  rintro e w0 ⟨rfl, hg1⟩
  have hg0 : Gr w w0 := ((Gr.refl _).alloc _).trans hg1
  have b0 : w0.cell? ⟨w.heap.size, 0, none⟩ = some (.slice A1 n1 c1) := hg1.has (by simp [go_sem])
  have hbl := lt_of_cell b0
  clear hg1
  by_cases hc : ordCode n os = 0
  · have Hc := Lib.hid hc
    have tb : (ordCode n os != 0) = false := by simp [hc]
    have hok := (ordCode_zero hc).2
    have hn1 : n1 ≤ 24 := by have := (netOk_all (ordCode_zero hc).1).1.2.1; rw [HA.out.l1] at this; exact this
    have Hok := Lib.hid hok
    clear hc hok
    go_wp2_with fail
    go_loopw [7, 8] (fun o i wr => ∃ k : Nat, k ≤ n1 ∧ i = .int .i64 k ∧ (∃ A m c, o = .slice A m c ∧ m = (rfAll os k).length ∧ wr.ownsRow (w.heap.size + 1) 94 2 (.slice A m c) m ((rfAll os k).flatMap GRd.cells)) ∧ (∀ j, j < k → rfBad os j = false) ∧ Gr w wr ∧ wr.cell? ⟨w.heap.size, 0, none⟩ = some (.slice A1 n1 c1)) (fun _ i _ => n1 - (intOf i).toNat)
    case atStart =>
      refine ⟨0, Nat.zero_le _, rfl, ⟨_, 0, 0, rfl, rfl, own_base (World.ownsRow_lit w0 #[] 0 (Nat.le_refl _) (by unfold maxLen; omega) rfl) (by omega)⟩, fun j h => absurd h (by omega), hg0.alloc _, ((Gr.refl _).alloc _).has b0⟩
    case round =>
      obtain ⟨k, hk, rfl, ⟨A, m, c, rfl, hmv, hown⟩, hno, hgr, hbr⟩ := hrel
      have Hown := Lib.hid hown
      have Hno := Lib.hid hno
      have Hmv := Lib.hid hmv
      have hm : m ≤ 48 := by have := rfAll_len os k; omega
      clear hown hno hmv b0 hbl hg0
      by_cases hlt : k < n1
      · go_wp2_with fail
        go_loopw [7, 9] (fun o i wr => ∃ j : Nat, j ≤ 2 ∧ i = .int .i64 (1 - 2 * (j : Int)) ∧ (∃ A m' c, o = .slice A m' c ∧ m' = m + (prts os k j).length ∧ wr.ownsRow (w.heap.size + 1) 94 2 (.slice A m' c) m' ((rfAll os k ++ prts os k j).flatMap GRd.cells)) ∧ (∀ i : Nat, i < j → ws os k (1 - 2 * (i : Int)) ≤ 30000) ∧ Gr w wr ∧ wr.cell? ⟨w.heap.size, 0, none⟩ = some (.slice A1 n1 c1)) (fun _ i _ => (intOf i + 3).toNat)
        case atStart => exact ⟨0, by omega, rfl, ⟨_, _, _, rfl, by simp [prts], own_cells_eq Hown.out (by simp [prts])⟩, fun j h => absurd h (by omega), hgr, hbr⟩
        case round =>
          obtain ⟨j, hj, rfl, ⟨A', m', c', rfl, hmv', hown'⟩, hnj, hgj, hbj⟩ := hrel
          have Hown' := Lib.hid hown'
          have Hnj := Lib.hid hnj
          have Hmv' := Lib.hid hmv'
          have hm' : m' ≤ 50 := by have := prts_len os k j; omega
          have hsj := lt_of_cell hbj
          clear hown' hnj hmv' hbr hgr
          by_cases hjl : j < 2
          · obtain ⟨q1, q2⟩ := sgn_j hjl
            have d1 := ws_bnd Hok.out k q1
            have hall : ∀ z ∈ wts os k (1 - 2 * (j : Int)), -1000000000 ≤ z ∧ z ≤ 1000000000 := fun z hz => by have := wts_bnd (node := (k : Int)) Hok.out q1 z hz; omega
            have hpr : prt os k j = if 0 < ws os k (1 - 2 * (j : Int)) then [⟨k, (1 - 2 * (j : Int)) * ws os k (1 - 2 * (j : Int))⟩] else [] := rfl
            have hws : ws os k (1 - 2 * (j : Int)) = (wts os k (1 - 2 * (j : Int))).sum := rfl
            have hps := prts_step os k j
            have hhit := fun h => rfBad_hit (os := os) (k := k) hjl h
            have hnj2 : ws os k (1 - 2 * (j : Int)) ≤ 30000 → ∀ i : Nat, i < j + 1 → ws os k (1 - 2 * (i : Int)) ≤ 30000 := fun h i hi => by
              by_cases e : i = j
              · rw [e]; exact h
              · exact Hnj.out i (by omega)
            have Hnj2 := Lib.hid hnj2
            clear hnj2
            have hsgj : (1 - 2 * (j : Int)) - 2 = 1 - 2 * ((j + 1 : Nat) : Int) := by omega
            have Hsgj := Lib.hid hsgj
            obtain ⟨sg, hsg⟩ : ∃ sg, sg = 1 - 2 * (j : Int) := ⟨_, rfl⟩
            rw [← hsg] at q1 q2 d1 hall hpr hws hhit Hnj2 Hsgj ⊢
            obtain ⟨s, hs⟩ : ∃ s, s = ws os k sg := ⟨_, rfl⟩
            rw [← hs] at d1 hpr hws hhit Hnj2
            have Hall := Lib.hid hall
            have Hpr := Lib.hid hpr
            have Hws := Lib.hid hws
            have Hps := Lib.hid hps
            have Hhit := Lib.hid hhit
            have Hq2 := Lib.hid q2
            have hmeas : (sg - 2 + 3).toNat < (sg + 3).toNat := by rcases q1 with h | h <;> rw [h] <;> decide
            have hge : decide (-1 ≤ sg) = true := by rcases q1 with h | h <;> rw [h] <;> decide
            have hmu : IntKind.i64.wrap (sg * s) = sg * s := by rcases q1 with h | h <;> rw [h] <;> exact IntWalk.i64_in _ (by omega)
            have hsb : -1 ≤ sg ∧ sg ≤ 1 := by omega
            clear hall hpr hws hps hhit q2 hsgj hsg hs q1
            go_wp2_with fail
            refine (l28Weights_any _ os ⟨k, sg⟩ _ (HL.out.gr hgj) Hok.out).mono ?_
            rintro e w2 ⟨Aw, cw, rfl, how, hgw⟩
            have how' := Lib.hid how
            clear how
            go_wp2_with fail
            refine (l01Sum_any _ _ (SlAt.of_own how'.out hm3) (by rw [Hq2.out]; exact Hall.out)).mono ?_
            rintro e w3 ⟨rfl, rfl⟩
            have hval : (wts os k (sgn sg)).sum = s := by rw [Hq2.out, Hws.out]
            rw [hval]
            have hg2 : Gr w w2 := hgj.trans hgw
            have Ho2 := Lib.hid (own_gr Hown'.out hgw)
            have hb2 := hgw.has hbj
            have hs2 := lt_of_cell hb2
            clear hval
            by_cases u1 : 30000 < s
            · go_wp2_with fail
              go_ret2
              have e : rfCode n os = 7 := rf_bad Hc.out (by rw [HA.out.l1]; exact hlt) (Hhit.out u1)
              refine ⟨none, 0, 0, by rw [e]; rfl, by omega, ?_, hg2⟩
              rw [rfRes, if_neg (by rw [e]; decide)]
              exact World.ownsRow_nil _ _ _ _
            · have u1' : decide (30000 < s) = false := by simp; omega
              by_cases u2 : 0 < s
              · go_wp2_with (at_builtin; refine wpList_append_own _ rfl _ _ _ rfl (w.heap.size + 1) 94 i0 _ 2 16 Try.underlying43 hi0 hz0 hz1 hz2 rfl (by omega) _ m' _ rfl (Ho2.out.alloc _) ⟨w2.heap.size, 0, none⟩ 1 1 [.int .i64 _, .int .i64 _] rfl rfl (World.news_of_block (cs := #[.int .i64 _, .int .i64 _]) (t := 94) (fr := (0, 0)) (heap_alloc_new w2 _)) (by simp [Value.oneCell']) (by unfold maxLen; omega) (by omega) (by simp; omega) ?_; intro v1 w4 hown4 hg4 _)
                obtain ⟨A4, c4, rfl⟩ := own_shape hown4
                have Ho4 := Lib.hid hown4
                have hgw4 : Gr w w4 := (hg2.alloc _).grown hg4 (fun j hj => by have := own_base_le Ho2.out hj; omega)
                have hb4 : w4.cell? ⟨w.heap.size, 0, none⟩ = some (.slice A1 n1 c1) := by
                  rw [hg4.cell_far _ (by simp; omega) (fun e => absurd (own_base_le Ho2.out e.symm) (Nat.not_succ_le_self _))]
                  exact ((Gr.refl _).alloc _).has hb2
                clear hown4 hg4
                go_wp2_with fail
                go_roundw
                case rel =>
                  have e3 : prts os k (j + 1) = prts os k j ++ [⟨k, sg * s⟩] := by rw [Hps.out, Hpr.out, if_pos u2]
                  refine ⟨j + 1, by omega, by rw [← Hsgj.out], ⟨_, _, _, rfl, ?_, own_cells_eq Ho4.out ?_⟩, Hnj2.out (by omega), hgw4, hb4⟩
                  · rw [e3, Hmv'.out]; simp; omega
                  · rw [e3, ← List.append_assoc, List.flatMap_append (ys := [_])]; simp [GRd.cells]
                case measure => simp only [intOf]; exact hmeas
              · go_wp2_with fail
                go_roundw
                case rel =>
                  have e3 : prts os k (j + 1) = prts os k j := by rw [Hps.out, Hpr.out, if_neg (by omega), List.append_nil]
                  refine ⟨j + 1, by omega, by rw [← Hsgj.out], ⟨_, _, _, rfl, ?_, own_cells_eq Ho2.out ?_⟩, Hnj2.out (by omega), hg2, hb2⟩
                  · rw [e3, Hmv'.out]
                  · rw [e3]
                case measure => simp only [intOf]; exact hmeas
          · obtain rfl : j = 2 := by omega
            have hnb := rfBad_step (os := os) (k := k) Hnj.out
            have Hnb := Lib.hid hnb
            have hst := rfAll_step os k
            have Hst := Lib.hid hst
            clear hnb hst
            go_wp2_with fail
            go_roundw
            case rel =>
              refine ⟨k + 1, by omega, by go_num, ⟨_, _, _, rfl, ?_, own_cells_eq Hown'.out ?_⟩, nb_step Hnb.out Hno.out, hgj, hbj⟩
              · rw [Hst.out, List.length_append, Hmv'.out, Hmv.out]
              · rw [Hst.out]
            case measure => simp [intOf]; omega
      · obtain rfl : k = n1 := by omega
        go_wp2_with fail
        go_ret2
        have e : rfCode n os = 0 := rf_good Hc.out (by rw [HA.out.l1]; exact Hno.out)
        refine ⟨_, _, _, by rw [e]; rfl, by omega, ?_, hgr⟩
        rw [rfRes, if_pos e, HA.out.l1]
        exact own_base Hown.out (by omega)
  · have Hc := Lib.hid hc
    have tb : (ordCode n os != 0) = true := by simp [hc]
    clear hc
    go_wp2_with fail
    go_ret2
    have e : rfCode n os = ordCode n os := by rw [rfCode, if_neg Hc.out]
    refine ⟨none, 0, 0, by rw [e]; rfl, by omega, ?_, hg0⟩
    rw [rfRes, if_neg (by rw [e]; exact Hc.out)]
    exact World.ownsRow_nil _ _ _ _
end Go.Proofs.Ytdoidehlklkfaaa
