/-
  Settings and switches: the program's and the reference's functions.
-/
import Derived.Test.YtdoidehlklkfaaaSwitch
namespace Go.Proofs.Ytdoidehlklkfaaa
open Go.ChangeShapes Go.WideShapes Go.ChangeAt Go.RowKit

theorem areSettings_any {A1 A2 A : Option Addr} {n1 c1 n2 c2 m c : Nat} (zs : List Int) (w : World) (hL : SlAt w 1 A m c (ints zs)) (hm2 : n2 ≤ 1048576) :
    Calls Try.prog 156 #[.agg #[.slice A1 n1 c1, .slice A2 n2 c2], .slice A m c] w fun e w' => e = .returned (.bool (stOk n2 zs)) ∧ Gr w w' := by
  have hlen := hL.sl.ilen
  have Hlen := Lib.hid hlen
  have hm := hL.small
  have HL := Lib.hid (hL.gr ((Gr.refl _).alloc (.cells #[.slice A1 n1 c1, .slice A2 n2 c2] 33)))
  clear hL hlen
  by_cases h : m = n2
  · subst h
    go_enter Try.func156, Try.ntmps156
    go_wp2_with fail
    refine (allWithin_any zs _ _ _ HL.out).mono ?_
    rintro e w1 ⟨rfl, rfl⟩
    go_wp2_with fail
    go_ret
    exact ⟨ret_bool (by simp [stOk, Hlen.out]), (Gr.refl _).alloc _⟩
  · have t : ((m : Int) == (n2 : Int)) = false := by simp; omega
    go_enter Try.func156, Try.ntmps156
    go_wp2_with fail
    go_ret
    refine ⟨ret_bool ?_, (Gr.refl _).alloc _⟩
    have : ¬ ((zs.length : Int) = (n2 : Int)) := by rw [Hlen.out]; omega
    simp only [stOk, this, decide_false, Bool.false_and]
def stCode (n : GNet) (zs : List Int) : Int := if netOk n then (if stOk n.pipes.length zs then 0 else 3) else 1
theorem checkSettings_any {A1 A2 A : Option Addr} {n1 c1 n2 c2 m c : Nat} (n : GNet) (zs : List Int) (w : World) (hA : NetAt w A1 n1 c1 A2 n2 c2 n) (hL : SlAt w 1 A m c (ints zs)) :
    Calls Try.prog 131 #[.agg #[.slice A1 n1 c1, .slice A2 n2 c2], .slice A m c] w fun e w' => e = .returned (.int .i64 (stCode n zs)) ∧ Gr w w' := by
  have hm2 := hA.m2
  have HA := Lib.hid hA
  have HL := Lib.hid hL
  clear hA hL
  go_enter Try.func131, Try.ntmps131
  go_wp2_with fail
  refine (IsNetwork_any _ _ _ _ _ _ n _ (HA.out.gr ((Gr.refl _).alloc _))).mono ?_
  rintro e w0 ⟨rfl, hg1⟩
  have hg0 : Gr w w0 := ((Gr.refl _).alloc _).trans hg1
  have b0 : w0.cell? ⟨w.heap.size, 0, none⟩ = some (.slice A1 n1 c1) := hg1.has (by simp [go_sem])
  have b1 : w0.cell? ⟨w.heap.size, 1, none⟩ = some (.slice A2 n2 c2) := hg1.has (by simp [go_sem])
  clear hg1
  cases hnet : netOk n with
  | false =>
    have Hnet := Lib.hid hnet
    go_wp2_with fail
    go_ret
    exact ⟨ret_int (by rw [stCode, Hnet.out]; rfl), hg0⟩
  | true =>
    have Hnet := Lib.hid hnet
    go_wp2_with fail
    refine (areSettings_any zs _ (HL.out.gr hg0) hm2).mono ?_
    rintro e w2 ⟨rfl, hg2⟩
    cases hs : stOk n2 zs with
    | false =>
      have Hs := Lib.hid hs
      go_wp2_with fail
      go_ret
      exact ⟨ret_int (by rw [stCode, Hnet.out, HA.out.l2, Hs.out]; rfl), hg0.trans hg2⟩
    | true =>
      have Hs := Lib.hid hs
      go_wp2_with fail
      go_ret
      exact ⟨ret_int (by rw [stCode, Hnet.out, HA.out.l2, Hs.out]; rfl), hg0.trans hg2⟩
theorem swCode_st {n : GNet} {zs ss : List Int} (h : stCode n zs ≠ 0) : swCode n zs ss = stCode n zs := by
  unfold swCode stCode at *
  cases h1 : netOk n <;> cases h2 : stOk n.pipes.length zs <;> simp_all
theorem swCode_eq {n : GNet} {zs ss : List Int} (h : stCode n zs = 0) : swCode n zs ss = if decide (ss.length ≤ 5) && setOk ((n.pipes.length : Int) - 1) ss then 0 else 3 := by
  unfold swCode stCode at *
  cases h1 : netOk n <;> cases h2 : stOk n.pipes.length zs <;> simp_all
theorem swCode_zero {n : GNet} {zs ss : List Int} (h : swCode n zs ss = 0) : netOk n = true ∧ stOk n.pipes.length zs = true ∧ ss.length ≤ 5 ∧ setOk ((n.pipes.length : Int) - 1) ss = true := by
  unfold swCode at h
  cases h1 : netOk n
  · rw [h1] at h; simp at h
  · rw [h1] at h
    cases h2 : stOk n.pipes.length zs
    · rw [h2] at h; simp at h
    · rw [h2] at h
      cases h3 : setOk ((n.pipes.length : Int) - 1) ss
      · rw [h3] at h; simp at h
      · rw [h3] at h
        by_cases h4 : ss.length ≤ 5
        · exact ⟨rfl, rfl, h4, rfl⟩
        · simp [h4] at h
set_option maxRecDepth 100000 in
theorem checkSwitches_any {A1 A2 A3 A4 : Option Addr} {n1 c1 n2 c2 n3 c3 n4 c4 : Nat} (n : GNet) (zs ss : List Int) (w : World) (hA : NetAt w A1 n1 c1 A2 n2 c2 n) (hL : SlAt w 1 A3 n3 c3 (ints zs)) (hS : SlAt w 1 A4 n4 c4 (ints ss)) :
    Calls Try.prog 84 #[.agg #[.slice A1 n1 c1, .slice A2 n2 c2], .slice A3 n3 c3, .slice A4 n4 c4] w fun e w' => e = .returned (.int .i64 (swCode n zs ss)) ∧ Gr w w' := by
  have hm2 := hA.m2
  have hm4 := hS.small
  have hl4 := hS.sl.ilen
  have Hl4 := Lib.hid hl4
  have HA := Lib.hid hA
  have HL := Lib.hid hL
  have HS := Lib.hid hS
  clear hA hL hS hl4
  go_enter Try.func84, Try.ntmps84
  go_wp2_with fail
  refine (checkSettings_any n zs _ (HA.out.gr ((Gr.refl _).alloc _)) (HL.out.gr ((Gr.refl _).alloc _))).mono ?_
  rintro e w0 ⟨rfl, hg1⟩
  have hg0 : Gr w w0 := ((Gr.refl _).alloc _).trans hg1
  have b0 : w0.cell? ⟨w.heap.size, 0, none⟩ = some (.slice A1 n1 c1) := hg1.has (by simp [go_sem])
  have b1 : w0.cell? ⟨w.heap.size, 1, none⟩ = some (.slice A2 n2 c2) := hg1.has (by simp [go_sem])
  clear hg1
  by_cases hc : stCode n zs = 0
  · have Hc := Lib.hid hc
    have tb : (stCode n zs != 0) = false := by simp [hc]
    clear hc
    by_cases h5 : 5 < n4
    · go_wp2_with fail
      go_ret
      have : ¬ ss.length ≤ 5 := by rw [Hl4.out]; omega
      exact ⟨ret_int (by rw [swCode_eq Hc.out]; simp [this]), hg0⟩
    · have h5' : decide ((5 : Int) < (n4 : Int)) = false := by simp; omega
      have hle : ss.length ≤ 5 := by rw [Hl4.out]; omega
      have Hle := Lib.hid hle
      clear hle
      go_wp2_with fail
      refine (allWithin_any ss _ _ _ (HS.out.gr hg0)).mono ?_
      rintro e w1 ⟨rfl, rfl⟩
      cases ha : (ss.all fun z => inB 0 z ((n2 : Int) - 1)) with
      | false =>
        have Ha := Lib.hid ha
        go_wp2_with fail
        go_ret
        exact ⟨ret_int (by rw [swCode_eq Hc.out, HA.out.l2, setOk_eq, Ha.out]; simp), hg0⟩
      | true =>
        have Ha := Lib.hid ha
        go_wp2_with fail
        refine (increasing_any ss _ (HS.out.gr hg0)).mono ?_
        rintro e w2 ⟨rfl, hg2⟩
        cases hi : incOk ss with
        | false =>
          have Hi := Lib.hid hi
          go_wp2_with fail
          go_ret
          exact ⟨ret_int (by rw [swCode_eq Hc.out, HA.out.l2, setOk_eq, Ha.out, Hi.out]; simp), hg0.trans hg2⟩
        | true =>
          have Hi := Lib.hid hi
          go_wp2_with fail
          go_ret
          exact ⟨ret_int (by rw [swCode_eq Hc.out, HA.out.l2, setOk_eq, Ha.out, Hi.out]; simp [Hle.out]), hg0.trans hg2⟩
  · have Hc := Lib.hid hc
    have tb : (stCode n zs != 0) = true := by simp [hc]
    clear hc
    go_wp2_with fail
    go_ret
    exact ⟨ret_int (swCode_st Hc.out).symm, hg0⟩

theorem swTo_off {m : Int} {zs ss : List Int} {k : Nat} (h : offBit m k = true) : swTo m zs ss (k + 1) = swTo m zs ss k := by rw [swTo, swStep, if_pos h]
theorem swTo_on {m p z : Int} {zs ss : List Int} {k : Nat} (h : offBit m k = false) (hp : ss[k]? = some p) (hz : (swTo m zs ss k).getD p.toNat 0 = z) : swTo m zs ss (k + 1) = (swTo m zs ss k).set p.toNat (if (z == 0) = true then 1 else 0) := by
  have e : ss.getD k 0 = p := by simp [hp]
  rw [swTo, swStep, if_neg (by simp [h]), e, hz]
set_option maxHeartbeats 1600000 in
set_option maxRecDepth 100000 in
theorem switched_any {A A4 : Option Addr} {n c n4 c4 : Nat} (zs ss : List Int) (m : Int) (w : World) (hL : SlAt w 1 A n c (ints zs)) (hS : SlAt w 1 A4 n4 c4 (ints ss)) (hss : ∀ (j : Nat) (z : Int), ss[j]? = some z → 0 ≤ z ∧ z < n) (_hm : 0 ≤ m ∧ m ≤ 31) (h4 : n4 ≤ 5) :
    Calls Try.prog 86 #[.slice A n c, .slice A4 n4 c4, .int .i64 m] w fun e w' => ∃ A' c', e = .returned (.slice A' n c') ∧ w'.ownsRow w.heap.size 2 1 (.slice A' n c') n (ints (swTo m zs ss n4)) ∧ Gr w w' := by
  have hl4 := hS.sl.ilen
  have Hl4 := Lib.hid hl4
  have Hl := Lib.hid hL.sl.ilen
  have hmm := hL.small
  have HL := Lib.hid hL
  have HS := Lib.hid hS
  have Hss := Lib.hid hss
  clear hL hS hl4 hss
  go_enter Try.func86, Try.ntmps86
  go_wp2_with fail
  refine (cloneInt_any (ints zs) _ hmm HL.out.sl (ints_one zs)).mono ?_
  rintro e w1 ⟨A', c', rfl, hown, hg1⟩
  have Hown := Lib.hid hown
  clear hown
  go_wp2_with fail
  go_loopw [14] (fun i wr => ∃ k : Nat, k ≤ n4 ∧ i = .int .i64 k ∧ wr.ownsRow w.heap.size 2 1 (.slice A' n c') n (ints (swTo m zs ss k)) ∧ Gr w wr) (fun i _ => n4 - (intOf i).toNat)
  case atStart => exact ⟨0, Nat.zero_le _, rfl, Hown.out, hg1⟩
  case round =>
    obtain ⟨k, hk, rfl, hownr, hgr⟩ := hrel
    by_cases hlt : k < n4
    · obtain ⟨p, hp⟩ : ∃ x, ss[k]? = some x := ⟨_, List.getElem?_eq_getElem (by have := Hl4.out; omega)⟩
      obtain ⟨b4, o4, rfl, hb4, r0⟩ := (HS.out.sl.gr hgr).int hp
      have hpb := Hss.out k p hp
      have hz := get_of_lt (l := swTo m zs ss k) (k := p.toNat) (by have := swTo_len m zs ss k; have := Hl.out; omega)
      obtain ⟨z, hze⟩ : ∃ z, (swTo m zs ss k).getD p.toNat 0 = z := ⟨_, rfl⟩
      rw [hze] at hz
      obtain ⟨g, rfl, hgb, hgl⟩ := own_form hownr (by omega)
      obtain ⟨d0, d1⟩ := own_int hownr hz
      have R0 := own_set_int hownr p.toNat 0
      have R1 := own_set_int hownr p.toNat 1
      have t1 : (k : Int) < (n4 : Int) := by omega
      have t0 : (0 : Int) ≤ (k : Int) := by omega
      have Hownr := Lib.hid hownr
      have HR0 := Lib.hid R0
      have HR1 := Lib.hid R1
      have Hp := Lib.hid hp
      have Hze := Lib.hid hze
      clear hp hz hownr hze R0 R1
      cases hoff : offBit m k with
      | true =>
        have Hoff := Lib.hid hoff
        unfold offBit at hoff
        go_wp2_with fail
        go_roundw
        case rel => exact ⟨k + 1, by omega, by go_num, by rw [swTo_off Hoff.out]; exact Hownr.out, hgr⟩
        case measure => simp [intOf]; omega
      | false =>
        have Hoff := Lib.hid hoff
        unfold offBit at hoff
        cases hzz : (z == 0) with
        | true =>
          have Hz := Lib.hid hzz
          go_wp2_with fail
          go_roundw
          case rel => exact ⟨k + 1, by omega, by go_num, by rw [swTo_on Hoff.out Hp.out Hze.out, if_pos Hz.out]; exact HR1.out.1, hgr.grown HR1.out.2 (fun _ e => by injection e with e; omega)⟩
          case measure => simp [intOf]; omega
        | false =>
          have Hz := Lib.hid hzz
          go_wp2_with fail
          go_roundw
          case rel => exact ⟨k + 1, by omega, by go_num, by rw [swTo_on Hoff.out Hp.out Hze.out, if_neg (by simp [Hz.out])]; exact HR0.out.1, hgr.grown HR0.out.2 (fun _ e => by injection e with e; omega)⟩
          case measure => simp [intOf]; omega
    · obtain rfl : k = n4 := by omega
      have Hownr := Lib.hid hownr
      clear hownr
      go_wp2_with fail
      go_ret
      exact ⟨_, _, rfl, Hownr.out, hgr⟩
end Go.Proofs.Ytdoidehlklkfaaa
