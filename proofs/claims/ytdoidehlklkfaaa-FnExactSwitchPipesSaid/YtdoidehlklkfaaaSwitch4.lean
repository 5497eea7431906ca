/-
  SwitchPipes: the contracts.
-/
import Derived.Test.YtdoidehlklkfaaaSwitch3
namespace Go.Proofs.Ytdoidehlklkfaaa
open Go.ChangeShapes Go.WideShapes Go.ChangeAt Go.RowKit

set_option maxHeartbeats 1600000 in
set_option maxRecDepth 100000 in
theorem l27Switch_any {A A4 : Option Addr} {n c n4 c4 : Nat} (zs ss : List Int) (m : Int) (w : World) (hL : SlAt w 1 A n c (ints zs)) (hS : SlAt w 1 A4 n4 c4 (ints ss)) (hss : ∀ (j : Nat) (z : Int), ss[j]? = some z → 0 ≤ z ∧ z < n) (_hm : 0 ≤ m ∧ m ≤ 31) (h4 : n4 ≤ 5) :
    Calls Try.prog 83 #[.slice A n c, .slice A4 n4 c4, .int .i64 m] w fun e w' => ∃ A' c', e = .returned (.slice A' n c') ∧ w'.ownsRow w.heap.size 2 1 (.slice A' n c') n (ints (swTo m zs ss n4)) ∧ Gr w w' := by
  obtain ⟨i0, hi0, hz0, hz1, hz2⟩ := info_parts infoInt64
  have hl4 := hS.sl.ilen
  have Hl4 := Lib.hid hl4
  have Hl := Lib.hid hL.sl.ilen
  have hmm := hL.small
  have HL := Lib.hid hL
  have HS := Lib.hid hS
  have Hss := Lib.hid hss
  clear hL hS hl4 hss
  have key : ∀ (ad : Option Addr) (hA : A = ad), Calls Try.prog 83 #[.slice A n c, .slice A4 n4 c4, .int .i64 m] w fun e w' => ∃ A' c', e = .returned (.slice A' n c') ∧ w'.ownsRow w.heap.size 2 1 (.slice A' n c') n (ints (swTo m zs ss n4)) ∧ Gr w w' := by
    intro ad hA
    cases ad with
    | none =>
      subst hA
      have h0 : n = 0 := by
        rcases Nat.eq_zero_or_pos n with h | h
        · exact h
        · obtain ⟨_, _, e, _⟩ := HL.out.sl.2 h; cases e
      subst h0
      have hz : zs = [] := List.eq_nil_of_length_eq_zero Hl.out
      subst hz
      have hss0 : ss = [] := by
        cases ss with
        | nil => rfl
        | cons a l => have := Hss.out 0 a rfl; omega
      subst hss0
      obtain rfl : n4 = 0 := by have := Hl4.out; simpa using this.symm
      go_enter Try.func83, Try.ntmps83
      go_wp2_with fail
      go_loopw [8] (fun i wr => i = .int .i64 0 ∧ wr = w.alloc (.cells #[] 2)) (fun _ _ => 0)
      case atStart => exact ⟨rfl, rfl⟩
      case round =>
        obtain ⟨rfl, rfl⟩ := hrel
        go_wp2_with fail
        go_ret
        exact ⟨_, _, rfl, World.ownsRow_lit w #[] 0 (Nat.le_refl _) (by unfold maxLen; omega) rfl, (Gr.refl _).alloc _⟩
    | some ad =>
      subst hA
      have hcells := HL.out.sl.cells
      have Hcells := Lib.hid hcells
      have Hll := Lib.hid HL.out.sl.1
      clear hcells
      go_enter Try.func83, Try.ntmps83
      go_wp2_with (at_builtin; refine wpList_append_own _ rfl _ _ _ rfl w.heap.size 2 i0 _ 1 8 Try.underlying49 hi0 hz0 hz1 hz2 rfl (by omega) _ 0 [] rfl (World.ownsRow_lit w #[] 0 (Nat.le_refl _) (by unfold maxLen; omega) rfl) ad n c (ints zs) rfl Hll.out (fun j u hu => ((Gr.refl w).alloc _).has (Hcells.out j u hu)) (ints_one zs) (by unfold maxLen; omega) (by omega) (by simp) ?_; intro v' w1 hown hg _)
      obtain ⟨A', c', rfl⟩ := own_shape hown
      have hown' : w1.ownsRow w.heap.size 2 1 (.slice A' n c') n (ints zs) := by simpa using hown
      have hg1 : Gr w w1 := ((Gr.refl w).alloc _).grown hg (fun k hk => by injection hk with hk; exact Nat.le_of_eq hk)
      have Hown := Lib.hid hown'
      clear hown hown' hg
      go_wp2_with fail
      go_loopw [8] (fun i wr => ∃ k : Nat, k ≤ n4 ∧ i = .int .i64 k ∧ wr.ownsRow w.heap.size 2 1 (.slice A' n c') n (ints (swTo m zs ss k)) ∧ Gr w wr) (fun i _ => n4 - (intOf i).toNat)
      case atStart => exact ⟨0, Nat.zero_le _, rfl, Hown.out, hg1⟩
      case round =>
        obtain ⟨k, hk, rfl, hownr, hgr⟩ := hrel
        by_cases hlt : k < n4
        · obtain ⟨p, hp⟩ : ∃ x, ss[k]? = some x := ⟨_, List.getElem?_eq_getElem (by have := Hl4.out; omega)⟩
          obtain ⟨b4, o4, rfl, hb4, r0⟩ := (HS.out.sl.gr hgr).int hp
          have hpb := Hss.out k p hp
          have hz := get_of_lt (l := swTo m zs ss k) (k := p.toNat) (by have := swTo_len m zs ss k; have := Hl.out; omega)
          obtain ⟨z, hze⟩ : ∃ z, (swTo m zs ss k).getD p.toNat 0 = z := ⟨_, rfl⟩
          rw [hze] at hz
          obtain ⟨g, rfl, hgb, hgl⟩ := own_form hownr (by omega)
          obtain ⟨d0, d1⟩ := own_int hownr hz
          have R0 := own_set_int hownr p.toNat 0
          have R1 := own_set_int hownr p.toNat 1
          have t1 : (k : Int) < (n4 : Int) := by omega
          have t0 : (0 : Int) ≤ (k : Int) := by omega
          have Hownr := Lib.hid hownr
          have HR0 := Lib.hid R0
          have HR1 := Lib.hid R1
          have Hp := Lib.hid hp
          have Hze := Lib.hid hze
          clear hp hz hownr hze R0 R1
          cases hoff : offBit m k with
          | true =>
            have Hoff := Lib.hid hoff
            unfold offBit at hoff
            go_wp2_with fail
            go_roundw
            case rel => exact ⟨k + 1, by omega, by go_num, by rw [swTo_off Hoff.out]; exact Hownr.out, hgr⟩
            case measure => simp [intOf]; omega
          | false =>
            have Hoff := Lib.hid hoff
            unfold offBit at hoff
            cases hzz : (z == 0) with
            | true =>
              have Hz := Lib.hid hzz
              go_wp2_with fail
              go_roundw
              case rel => exact ⟨k + 1, by omega, by go_num, by rw [swTo_on Hoff.out Hp.out Hze.out, if_pos Hz.out]; exact HR1.out.1, hgr.grown HR1.out.2 (fun _ e => by injection e with e; omega)⟩
              case measure => simp [intOf]; omega
            | false =>
              have Hz := Lib.hid hzz
              go_wp2_with fail
              go_roundw
              case rel => exact ⟨k + 1, by omega, by go_num, by rw [swTo_on Hoff.out Hp.out Hze.out, if_neg (by simp [Hz.out])]; exact HR0.out.1, hgr.grown HR0.out.2 (fun _ e => by injection e with e; omega)⟩
              case measure => simp [intOf]; omega
        · obtain rfl : k = n4 := by omega
          have Hownr := Lib.hid hownr
          clear hownr
          go_wp2_with fail
          go_ret
          exact ⟨A', c', by simp, Hownr.out, hgr⟩
  exact key A rfl
def l27Val (n : GNet) (zs ss us : List Int) (N : Nat) : Int := if swCode n zs ss = 0 then (if supOk N us then 0 else 3) else swCode n zs ss
theorem l27Val_bad {n : GNet} {zs ss us : List Int} {N : Nat} (h : swCode n zs ss ≠ 0) : l27Val n zs ss us N = swCode n zs ss := by rw [l27Val, if_neg h]
theorem l27Val_eq {n : GNet} {zs ss us : List Int} {N : Nat} (h : swCode n zs ss = 0) : l27Val n zs ss us N = if supOk N us then 0 else 3 := by rw [l27Val, if_pos h]
set_option maxRecDepth 100000 in
theorem l27Code_any {A1 A2 A3 A4 A5 : Option Addr} {n1 c1 n2 c2 n3 c3 n4 c4 n5 c5 : Nat} (n : GNet) (zs ss us : List Int) (w : World) (hA : NetAt w A1 n1 c1 A2 n2 c2 n) (hL : SlAt w 1 A3 n3 c3 (ints zs)) (hS : SlAt w 1 A4 n4 c4 (ints ss)) (hU : SlAt w 1 A5 n5 c5 (ints us)) :
    Calls Try.prog 81 #[.agg #[.slice A1 n1 c1, .slice A2 n2 c2], .slice A3 n3 c3, .slice A4 n4 c4, .slice A5 n5 c5] w fun e w' => e = .returned (.int .i64 (l27Val n zs ss us n1)) ∧ Gr w w' := by
  have hm1 := hA.m1
  have hm2 := hA.m2
  have hm4 := hS.small
  have hl4 := hS.sl.ilen
  have Hl4 := Lib.hid hl4
  have HA := Lib.hid hA
  have HL := Lib.hid hL
  have HS := Lib.hid hS
  have HU := Lib.hid hU
  clear hA hL hS hl4 hU
  go_enter Try.func81, Try.ntmps81
  go_wp2_with fail
  refine (spIsNetwork_any _ _ _ _ _ _ n _ (HA.out.gr ((Gr.refl _).alloc _))).mono ?_
  rintro e w0 ⟨rfl, hg1⟩
  have hg0 : Gr w w0 := ((Gr.refl _).alloc _).trans hg1
  have b0 : w0.cell? ⟨w.heap.size, 0, none⟩ = some (.slice A1 n1 c1) := hg1.has (by simp [go_sem])
  have b1 : w0.cell? ⟨w.heap.size, 1, none⟩ = some (.slice A2 n2 c2) := hg1.has (by simp [go_sem])
  clear hg1
  cases hnet : netOk n with
  | false =>
    have Hnet := Lib.hid hnet
    go_wp2_with fail
    go_ret
    have e : swCode n zs ss = 1 := by rw [swCode, Hnet.out]; simp
    exact ⟨ret_int (by rw [l27Val_bad (by rw [e]; decide), e]), hg0⟩
  | true =>
    have Hnet := Lib.hid hnet
    go_wp2_with fail
    refine (l16Is_any zs _ (HL.out.gr hg0) hm2).mono ?_
    rintro e w2 ⟨rfl, hg2⟩
    have b0 := hg2.has b0
    have b1 := hg2.has b1
    have hgw2 : Gr w w2 := hg0.trans hg2
    cases hst : stOk n2 zs with
    | false =>
      have Hst := Lib.hid hst
      go_wp2_with fail
      go_ret
      refine ⟨ret_int ?_, hgw2⟩
      have e : swCode n zs ss = 3 := by rw [swCode, Hnet.out, HA.out.l2, Hst.out]; simp
      rw [l27Val_bad (by rw [e]; decide), e]
    | true =>
      have Hst := Lib.hid hst
      by_cases h5 : 5 < n4
      · go_wp2_with fail
        go_ret
        refine ⟨ret_int ?_, hgw2⟩
        have : ¬ ss.length ≤ 5 := by rw [Hl4.out]; omega
        have e : swCode n zs ss = 3 := by rw [swCode, Hnet.out, HA.out.l2, Hst.out]; simp [this]
        rw [l27Val_bad (by rw [e]; decide), e]
      · have h5' : decide ((5 : Int) < (n4 : Int)) = false := by simp; omega
        have Hle : Hid (ss.length ≤ 5) := Lib.hid (by rw [Hl4.out]; omega)
        go_wp2_with fail
        refine (l26Set_any ss n2 _ (HS.out.gr hgw2) hm2).mono ?_
        rintro e w3 ⟨rfl, hg3⟩
        have b0 := hg3.has b0
        have b1 := hg3.has b1
        have hgw3 : Gr w w3 := hgw2.trans hg3
        cases hse : setOk ((n2 : Int) - 1) ss with
        | false =>
          have Hse := Lib.hid hse
          go_wp2_with fail
          go_ret
          refine ⟨ret_int ?_, hgw3⟩
          have e : swCode n zs ss = 3 := by rw [swCode, Hnet.out, HA.out.l2, Hst.out, Hse.out]; simp
          rw [l27Val_bad (by rw [e]; decide), e]
        | true =>
          have Hse := Lib.hid hse
          have e : Hid (swCode n zs ss = 0) := Lib.hid (by rw [swCode, Hnet.out, HA.out.l2, Hst.out, Hse.out]; simp [Hle.out])
          go_wp2_with fail
          refine (l06List_any us _ (HU.out.gr hgw3) hm1).mono ?_
          rintro e' w4 ⟨rfl, hg4⟩
          cases hsu : supOk n1 us
          all_goals
            go_wp2_with fail
            go_ret
            exact ⟨ret_int (by rw [l27Val_eq e.out, hsu]; rfl), hgw3.trans hg4⟩
end Go.Proofs.Ytdoidehlklkfaaa
