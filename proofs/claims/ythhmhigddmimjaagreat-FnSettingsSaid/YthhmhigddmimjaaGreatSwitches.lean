import Derived.Test.YthhmhigddmimjaaGreatWts
/-
  Settings and switches.
-/
namespace Go.Proofs.YthhmhigddmimjaaGreat
open Go.ChangeShapes Go.WideShapes Go.ChangeAt Go.RowKit

def offBit (m : Int) (k : Nat) : Bool := (bits BinOp.and IntKind.i64 (m / 2 ^ k) 1 == 0)
def swStep (m : Int) (l : List Int) (k : Nat) (p : Int) : List Int := if offBit m k then l else l.set p.toNat (if (l.getD p.toNat 0 == 0) = true then 1 else 0)
def swTo (m : Int) (zs ss : List Int) : Nat → List Int
  | 0 => zs
  | k + 1 => swStep m (swTo m zs ss k) k (ss.getD k 0)
theorem swTo_len (m : Int) (zs ss : List Int) (k : Nat) : (swTo m zs ss k).length = zs.length := by
  induction k with
  | zero => rfl
  | succ k ih => rw [swTo, swStep]; split <;> simp [ih]
def stOk (np : Int) (zs : List Int) : Bool := decide ((zs.length : Int) = np) && zs.all fun z => inB 0 z 2
def incAt (ss : List Int) (i : Nat) : Bool := decide (i = 0) || decide (ss.getD (i - 1) 0 < ss.getD i 0)
def incOk (ss : List Int) : Bool := (List.range ss.length).all (incAt ss)
def setAt (hi : Int) (ss : List Int) (i : Nat) : Bool := inB 0 (ss.getD i 0) hi && incAt ss i
def setOk (hi : Int) (ss : List Int) : Bool := (List.range ss.length).all (setAt hi ss)
theorem all_range {p : Nat → Bool} {n : Nat} : (List.range n).all p = true ↔ ∀ k, k < n → p k = true := by
  rw [List.all_eq_true]
  exact ⟨fun h k hk => h k (List.mem_range.2 hk), fun h k hk => h k (List.mem_range.1 hk)⟩
theorem all_range_not {p : Nat → Bool} {n k : Nat} (hk : k < n) (h : p k = false) : (List.range n).all p = false := by
  rw [List.all_eq_false]; exact ⟨k, List.mem_range.2 hk, by simp [h]⟩
theorem setOk_eq (hi : Int) (ss : List Int) : setOk hi ss = ((ss.all fun z => inB 0 z hi) && incOk ss) := by
  rw [Bool.eq_iff_iff, Bool.and_eq_true, setOk, incOk, all_range, all_range, List.all_eq_true]
  constructor
  · intro h
    refine ⟨fun z hz => ?_, fun k hk => ?_⟩
    · obtain ⟨k, hk, rfl⟩ := List.mem_iff_getElem.1 hz
      have := h k hk
      simp only [setAt, Bool.and_eq_true] at this
      have e : ss.getD k 0 = ss[k] := by simp [hk]
      rw [← e]
      exact this.1
    · have := h k hk
      simp only [setAt, Bool.and_eq_true] at this
      exact this.2
  · intro h k hk
    rw [setAt, h.2 k hk, Bool.and_true]
    have e : ss.getD k 0 = ss[k] := by simp [hk]
    rw [e]
    exact h.1 _ (List.getElem_mem hk)
theorem setOk_at {hi : Int} {ss : List Int} (h : setOk hi ss = true) (k : Nat) (z : Int) (hz : ss[k]? = some z) : 0 ≤ z ∧ z ≤ hi := by
  have hk := (List.getElem?_eq_some_iff.1 hz).1
  have := all_range.1 h k hk
  simp only [setAt, Bool.and_eq_true, inB_iff] at this
  have e : ss.getD k 0 = z := by simp [hz]
  rw [e] at this
  exact this.1
def swCode (n : GNet) (zs ss : List Int) : Int := if netOk n then (if stOk n.pipes.length zs && (decide (ss.length ≤ 5) && setOk ((n.pipes.length : Int) - 1) ss) then 0 else 3) else 1
theorem incAt_zero (ss : List Int) {q : Nat} (h : q < 1) : incAt ss q = true := by
  have : q = 0 := by omega
  simp [incAt, this]

theorem increasing_any {A : Option Addr} {m c : Nat} (ss : List Int) (w : World) (hL : SlAt w 1 A m c (ints ss)) :
    Calls Tryz.prog 98 #[.slice A m c] w fun e w' => e = .returned (.bool (incOk ss)) ∧ Gr w w' := by
  have hlen := hL.sl.ilen
  have Hlen := Lib.hid hlen
  have hm := hL.small
  have HL := Lib.hid hL
  clear hL hlen
  go_enter Tryz.func98, Tryz.ntmps98
  go_wp2_with fail
  go_loopw [3] (fun i wr => ∃ k : Nat, 1 ≤ k ∧ i = .int .i64 k ∧ (∀ q, q < k → q < m → incAt ss q = true) ∧ k ≤ m + 1 ∧ Gr w wr) (fun i _ => m + 1 - (intOf i).toNat)
  case atStart => exact ⟨1, Nat.le_refl _, rfl, fun q h _ => incAt_zero ss h, by omega, Gr.refl _⟩
  case round =>
    obtain ⟨k, hk, rfl, hno, hk2, hgr⟩ := hrel
    have Hno := Lib.hid hno
    clear hno
    by_cases hlt : k < m
    · have g1 := get_of_lt (l := ss) (k := k) (by have := Hlen.out; omega)
      have g0 := get_of_lt (l := ss) (k := k - 1) (by have := Hlen.out; omega)
      have hat : incAt ss k = decide (ss.getD (k - 1) 0 < ss.getD k 0) := by
        have : ¬ k = 0 := by omega
        simp [incAt, this]
      obtain ⟨y, hy⟩ : ∃ y, y = ss.getD (k - 1) 0 := ⟨_, rfl⟩
      obtain ⟨x, hx⟩ : ∃ x, x = ss.getD k 0 := ⟨_, rfl⟩
      rw [← hy] at g0 hat
      rw [← hx] at g1 hat
      obtain ⟨b, o, rfl, hb, e0⟩ := (HL.out.sl.gr hgr).int g1
      obtain ⟨b', o', eb, _, e1⟩ := (HL.out.sl.gr hgr).int g0
      injection eb with eb
      injection eb with eb1 eb2
      subst eb1
      subst eb2
      have Hat := Lib.hid hat
      have t1 : (k : Int) < (m : Int) := by omega
      have t0 : (0 : Int) ≤ (k : Int) := by omega
      obtain ⟨q, rfl⟩ : ∃ q, k = q + 1 := ⟨k - 1, by omega⟩
      rw [Nat.add_sub_cancel] at e1
      have hsub : ((q + 1 : Nat) : Int) - 1 = (q : Int) := by omega
      have t2 : (0 : Int) ≤ (q : Int) := by omega
      have t3 : (q : Int) < (m : Int) := by omega
      have hw1 : IntKind.i64.wrap (((q + 1 : Nat) : Int) - 1) = (q : Int) := by rw [hsub]; exact IntWalk.i64_in _ (by omega)
      clear g0 g1 hx hy hat
      by_cases hc : y < x
      · have hd : decide (x ≤ y) = false := by simp; omega
        go_wp2_with fail
        go_quiet (fail)
        go_wp2_with fail
        go_roundw
        case rel =>
          refine ⟨q + 2, by omega, by go_num, fun j hj hjm => ?_, by omega, hgr.drewN _⟩
          by_cases e : j = q + 1
          · rw [e, Hat.out]; simp [hc]
          · exact Hno.out j (by omega) hjm
        case measure => simp [intOf]; omega
      · have hd : decide (x ≤ y) = true := by simp; omega
        go_wp2_with fail
        go_quiet (fail)
        go_wp2_with fail
        go_ret
        exact ⟨ret_bool (by rw [incOk, all_range_not (k := q + 1) (by rw [Hlen.out]; exact hlt) (by rw [Hat.out]; simp; omega)]), hgr.drewN _⟩
    · have t1 : decide ((k : Int) < (m : Int)) = false := by simp; omega
      go_wp2_with fail
      go_ret
      refine ⟨ret_bool ?_, hgr⟩
      rw [incOk, all_range.2 (fun q hq => Hno.out q (by have := Hlen.out; omega) (by rw [← Hlen.out]; exact hq))]
end Go.Proofs.YthhmhigddmimjaaGreat
/-
  Settings and switches: the program's and the reference's functions.
-/
namespace Go.Proofs.YthhmhigddmimjaaGreat
open Go.ChangeShapes Go.WideShapes Go.ChangeAt Go.RowKit

theorem areSettings_any {A1 A2 A : Option Addr} {n1 c1 n2 c2 m c : Nat} (zs : List Int) (w : World) (hL : SlAt w 1 A m c (ints zs)) (hm2 : n2 ≤ 1048576) :
    Calls Tryz.prog 54 #[.agg #[.slice A1 n1 c1, .slice A2 n2 c2], .slice A m c] w fun e w' => e = .returned (.bool (stOk n2 zs)) ∧ Gr w w' := by
  have hlen := hL.sl.ilen
  have Hlen := Lib.hid hlen
  have hm := hL.small
  have HL := Lib.hid (hL.gr ((Gr.refl _).alloc (.cells #[.slice A1 n1 c1, .slice A2 n2 c2] 32)))
  clear hL hlen
  by_cases h : m = n2
  · subst h
    go_enter Tryz.func54, Tryz.ntmps54
    go_wp2_with fail
    refine (allWithin_any zs _ _ _ HL.out).mono ?_
    rintro e w1 ⟨rfl, rfl⟩
    go_wp2_with fail
    go_ret
    exact ⟨ret_bool (by simp [stOk, Hlen.out]), (Gr.refl _).alloc _⟩
  · have t : ((m : Int) == (n2 : Int)) = false := by simp; omega
    go_enter Tryz.func54, Tryz.ntmps54
    go_wp2_with fail
    go_ret
    refine ⟨ret_bool ?_, (Gr.refl _).alloc _⟩
    have : ¬ ((zs.length : Int) = (n2 : Int)) := by rw [Hlen.out]; omega
    simp only [stOk, this, decide_false, Bool.false_and]
def stCode (n : GNet) (zs : List Int) : Int := if netOk n then (if stOk n.pipes.length zs then 0 else 3) else 1
theorem checkSettings_any {A1 A2 A : Option Addr} {n1 c1 n2 c2 m c : Nat} (n : GNet) (zs : List Int) (w : World) (hA : NetAt w A1 n1 c1 A2 n2 c2 n) (hL : SlAt w 1 A m c (ints zs)) :
    Calls Tryz.prog 59 #[.agg #[.slice A1 n1 c1, .slice A2 n2 c2], .slice A m c] w fun e w' => e = .returned (.int .i64 (stCode n zs)) ∧ Gr w w' := by
  have hm2 := hA.m2
  have HA := Lib.hid hA
  have HL := Lib.hid hL
  clear hA hL
  go_enter Tryz.func59, Tryz.ntmps59
  go_wp2_with fail
  refine (IsNetwork_any _ _ _ _ _ _ n _ (HA.out.gr ((Gr.refl _).alloc _))).mono ?_
  rintro e w0 ⟨rfl, hg1⟩
  have hg0 : Gr w w0 := ((Gr.refl _).alloc _).trans hg1
  have b0 : w0.cell? ⟨w.heap.size, 0, none⟩ = some (.slice A1 n1 c1) := hg1.has (by simp [go_sem])
  have b1 : w0.cell? ⟨w.heap.size, 1, none⟩ = some (.slice A2 n2 c2) := hg1.has (by simp [go_sem])
  clear hg1
  cases hnet : netOk n with
  | false =>
    have Hnet := Lib.hid hnet
    go_wp2_with fail
    go_ret
    exact ⟨ret_int (by rw [stCode, Hnet.out]; rfl), hg0⟩
  | true =>
    have Hnet := Lib.hid hnet
    go_wp2_with fail
    refine (areSettings_any zs _ (HL.out.gr hg0) hm2).mono ?_
    rintro e w2 ⟨rfl, hg2⟩
    cases hs : stOk n2 zs with
    | false =>
      have Hs := Lib.hid hs
      go_wp2_with fail
      go_ret
      exact ⟨ret_int (by rw [stCode, Hnet.out, HA.out.l2, Hs.out]; rfl), hg0.trans hg2⟩
    | true =>
      have Hs := Lib.hid hs
      go_wp2_with fail
      go_ret
      exact ⟨ret_int (by rw [stCode, Hnet.out, HA.out.l2, Hs.out]; rfl), hg0.trans hg2⟩
theorem swCode_st {n : GNet} {zs ss : List Int} (h : stCode n zs ≠ 0) : swCode n zs ss = stCode n zs := by
  unfold swCode stCode at *
  cases h1 : netOk n <;> cases h2 : stOk n.pipes.length zs <;> simp_all
theorem swCode_eq {n : GNet} {zs ss : List Int} (h : stCode n zs = 0) : swCode n zs ss = if decide (ss.length ≤ 5) && setOk ((n.pipes.length : Int) - 1) ss then 0 else 3 := by
  unfold swCode stCode at *
  cases h1 : netOk n <;> cases h2 : stOk n.pipes.length zs <;> simp_all
theorem swCode_zero {n : GNet} {zs ss : List Int} (h : swCode n zs ss = 0) : netOk n = true ∧ stOk n.pipes.length zs = true ∧ ss.length ≤ 5 ∧ setOk ((n.pipes.length : Int) - 1) ss = true := by
  unfold swCode at h
  cases h1 : netOk n
  · rw [h1] at h; simp at h
  · rw [h1] at h
    cases h2 : stOk n.pipes.length zs
    · rw [h2] at h; simp at h
    · rw [h2] at h
      cases h3 : setOk ((n.pipes.length : Int) - 1) ss
      · rw [h3] at h; simp at h
      · rw [h3] at h
        by_cases h4 : ss.length ≤ 5
        · exact ⟨rfl, rfl, h4, rfl⟩
        · simp [h4] at h
set_option maxRecDepth 100000 in
theorem checkSwitches_any {A1 A2 A3 A4 : Option Addr} {n1 c1 n2 c2 n3 c3 n4 c4 : Nat} (n : GNet) (zs ss : List Int) (w : World) (hA : NetAt w A1 n1 c1 A2 n2 c2 n) (hL : SlAt w 1 A3 n3 c3 (ints zs)) (hS : SlAt w 1 A4 n4 c4 (ints ss)) :
    Calls Tryz.prog 63 #[.agg #[.slice A1 n1 c1, .slice A2 n2 c2], .slice A3 n3 c3, .slice A4 n4 c4] w fun e w' => e = .returned (.int .i64 (swCode n zs ss)) ∧ Gr w w' := by
  have hm2 := hA.m2
  have hm4 := hS.small
  have hl4 := hS.sl.ilen
  have Hl4 := Lib.hid hl4
  have HA := Lib.hid hA
  have HL := Lib.hid hL
  have HS := Lib.hid hS
  clear hA hL hS hl4
  go_enter Tryz.func63, Tryz.ntmps63
  go_wp2_with fail
  refine (checkSettings_any n zs _ (HA.out.gr ((Gr.refl _).alloc _)) (HL.out.gr ((Gr.refl _).alloc _))).mono ?_
  rintro e w0 ⟨rfl, hg1⟩
  have hg0 : Gr w w0 := ((Gr.refl _).alloc _).trans hg1
  have b0 : w0.cell? ⟨w.heap.size, 0, none⟩ = some (.slice A1 n1 c1) := hg1.has (by simp [go_sem])
  have b1 : w0.cell? ⟨w.heap.size, 1, none⟩ = some (.slice A2 n2 c2) := hg1.has (by simp [go_sem])
  clear hg1
  by_cases hc : stCode n zs = 0
  · have Hc := Lib.hid hc
    have tb : (stCode n zs != 0) = false := by simp [hc]
    clear hc
    by_cases h5 : 5 < n4
    · go_wp2_with fail
      go_ret
      have : ¬ ss.length ≤ 5 := by rw [Hl4.out]; omega
      exact ⟨ret_int (by rw [swCode_eq Hc.out]; simp [this]), hg0⟩
    · have h5' : decide ((5 : Int) < (n4 : Int)) = false := by simp; omega
      have hle : ss.length ≤ 5 := by rw [Hl4.out]; omega
      have Hle := Lib.hid hle
      clear hle
      go_wp2_with fail
      refine (allWithin_any ss _ _ _ (HS.out.gr hg0)).mono ?_
      rintro e w1 ⟨rfl, rfl⟩
      cases ha : (ss.all fun z => inB 0 z ((n2 : Int) - 1)) with
      | false =>
        have Ha := Lib.hid ha
        go_wp2_with fail
        go_ret
        exact ⟨ret_int (by rw [swCode_eq Hc.out, HA.out.l2, setOk_eq, Ha.out]; simp), hg0⟩
      | true =>
        have Ha := Lib.hid ha
        go_wp2_with fail
        refine (increasing_any ss _ (HS.out.gr hg0)).mono ?_
        rintro e w2 ⟨rfl, hg2⟩
        cases hi : incOk ss with
        | false =>
          have Hi := Lib.hid hi
          go_wp2_with fail
          go_ret
          exact ⟨ret_int (by rw [swCode_eq Hc.out, HA.out.l2, setOk_eq, Ha.out, Hi.out]; simp), hg0.trans hg2⟩
        | true =>
          have Hi := Lib.hid hi
          go_wp2_with fail
          go_ret
          exact ⟨ret_int (by rw [swCode_eq Hc.out, HA.out.l2, setOk_eq, Ha.out, Hi.out]; simp [Hle.out]), hg0.trans hg2⟩
  · have Hc := Lib.hid hc
    have tb : (stCode n zs != 0) = true := by simp [hc]
    clear hc
    go_wp2_with fail
    go_ret
    exact ⟨ret_int (swCode_st Hc.out).symm, hg0⟩

theorem swTo_off {m : Int} {zs ss : List Int} {k : Nat} (h : offBit m k = true) : swTo m zs ss (k + 1) = swTo m zs ss k := by rw [swTo, swStep, if_pos h]
theorem swTo_on {m p z : Int} {zs ss : List Int} {k : Nat} (h : offBit m k = false) (hp : ss[k]? = some p) (hz : (swTo m zs ss k).getD p.toNat 0 = z) : swTo m zs ss (k + 1) = (swTo m zs ss k).set p.toNat (if (z == 0) = true then 1 else 0) := by
  have e : ss.getD k 0 = p := by simp [hp]
  rw [swTo, swStep, if_neg (by simp [h]), e, hz]
set_option maxHeartbeats 1600000 in
set_option maxRecDepth 100000 in
theorem switched_any {A A4 : Option Addr} {n c n4 c4 : Nat} (zs ss : List Int) (m : Int) (w : World) (hL : SlAt w 1 A n c (ints zs)) (hS : SlAt w 1 A4 n4 c4 (ints ss)) (hss : ∀ (j : Nat) (z : Int), ss[j]? = some z → 0 ≤ z ∧ z < n) (_hm : 0 ≤ m ∧ m ≤ 31) (h4 : n4 ≤ 5) :
    Calls Tryz.prog 64 #[.slice A n c, .slice A4 n4 c4, .int .i64 m] w fun e w' => ∃ A' c', e = .returned (.slice A' n c') ∧ w'.ownsRow w.heap.size 2 1 (.slice A' n c') n (ints (swTo m zs ss n4)) ∧ Gr w w' := by
  have hl4 := hS.sl.ilen
  have Hl4 := Lib.hid hl4
  have Hl := Lib.hid hL.sl.ilen
  have hmm := hL.small
  have HL := Lib.hid hL
  have HS := Lib.hid hS
  have Hss := Lib.hid hss
  clear hL hS hl4 hss
  go_enter Tryz.func64, Tryz.ntmps64
  go_wp2_with fail
  refine (cloneInt_any (ints zs) _ hmm HL.out.sl (ints_one zs)).mono ?_
  rintro e w1 ⟨A', c', rfl, hown, hg1⟩
  have Hown := Lib.hid hown
  clear hown
  go_wp2_with fail
  go_loopw [14] (fun i wr => ∃ k : Nat, k ≤ n4 ∧ i = .int .i64 k ∧ wr.ownsRow w.heap.size 2 1 (.slice A' n c') n (ints (swTo m zs ss k)) ∧ Gr w wr) (fun i _ => n4 - (intOf i).toNat)
  case atStart => exact ⟨0, Nat.zero_le _, rfl, Hown.out, hg1⟩
  case round =>
    obtain ⟨k, hk, rfl, hownr, hgr⟩ := hrel
    by_cases hlt : k < n4
    · obtain ⟨p, hp⟩ : ∃ x, ss[k]? = some x := ⟨_, List.getElem?_eq_getElem (by have := Hl4.out; omega)⟩
      obtain ⟨b4, o4, rfl, hb4, r0⟩ := (HS.out.sl.gr hgr).int hp
      have hpb := Hss.out k p hp
      have hz := get_of_lt (l := swTo m zs ss k) (k := p.toNat) (by have := swTo_len m zs ss k; have := Hl.out; omega)
      obtain ⟨z, hze⟩ : ∃ z, (swTo m zs ss k).getD p.toNat 0 = z := ⟨_, rfl⟩
      rw [hze] at hz
      obtain ⟨g, rfl, hgb, hgl⟩ := own_form hownr (by omega)
      obtain ⟨d0, d1⟩ := own_int hownr hz
      have R0 := own_set_int hownr p.toNat 0
      have R1 := own_set_int hownr p.toNat 1
      have t1 : (k : Int) < (n4 : Int) := by omega
      have t0 : (0 : Int) ≤ (k : Int) := by omega
      have Hownr := Lib.hid hownr
      have HR0 := Lib.hid R0
      have HR1 := Lib.hid R1
      have Hp := Lib.hid hp
      have Hze := Lib.hid hze
      clear hp hz hownr hze R0 R1
      cases hoff : offBit m k with
      | true =>
        have Hoff := Lib.hid hoff
        unfold offBit at hoff
        go_wp2_with fail
        go_roundw
        case rel => exact ⟨k + 1, by omega, by go_num, by rw [swTo_off Hoff.out]; exact Hownr.out, hgr⟩
        case measure => simp [intOf]; omega
      | false =>
        have Hoff := Lib.hid hoff
        unfold offBit at hoff
        cases hzz : (z == 0) with
        | true =>
          have Hz := Lib.hid hzz
          go_wp2_with fail
          go_roundw
          case rel => exact ⟨k + 1, by omega, by go_num, by rw [swTo_on Hoff.out Hp.out Hze.out, if_pos Hz.out]; exact HR1.out.1, hgr.grown HR1.out.2 (fun _ e => by injection e with e; omega)⟩
          case measure => simp [intOf]; omega
        | false =>
          have Hz := Lib.hid hzz
          go_wp2_with fail
          go_roundw
          case rel => exact ⟨k + 1, by omega, by go_num, by rw [swTo_on Hoff.out Hp.out Hze.out, if_neg (by simp [Hz.out])]; exact HR0.out.1, hgr.grown HR0.out.2 (fun _ e => by injection e with e; omega)⟩
          case measure => simp [intOf]; omega
    · obtain rfl : k = n4 := by omega
      have Hownr := Lib.hid hownr
      clear hownr
      go_wp2_with fail
      go_ret
      exact ⟨_, _, rfl, Hownr.out, hgr⟩
end Go.Proofs.YthhmhigddmimjaaGreat
/-
  Settings and switches: the reference's functions.
-/
namespace Go.Proofs.YthhmhigddmimjaaGreat
open Go.ChangeShapes Go.WideShapes Go.ChangeAt Go.RowKit

theorem l16Is_any {A1 A2 A : Option Addr} {n1 c1 n2 c2 m c : Nat} (zs : List Int) (w : World) (hL : SlAt w 1 A m c (ints zs)) (_hm2 : n2 ≤ 1048576) :
    Calls Tryz.prog 83 #[.agg #[.slice A1 n1 c1, .slice A2 n2 c2], .slice A m c] w fun e w' => e = .returned (.bool (stOk n2 zs)) ∧ Gr w w' := by
  have hlen := hL.sl.ilen
  have Hlen := Lib.hid hlen
  have hm := hL.small
  have HL := Lib.hid (hL.gr ((Gr.refl _).alloc (.cells #[.slice A1 n1 c1, .slice A2 n2 c2] 32)))
  clear hL hlen
  go_enter Tryz.func83, Tryz.ntmps83
  go_wp2_with fail
  obtain ⟨w0, hw0⟩ : ∃ w0, w0 = w.alloc (.cells #[.slice A1 n1 c1, .slice A2 n2 c2] 32) := ⟨_, rfl⟩
  have hg0 : Gr w w0 := by rw [hw0]; exact (Gr.refl _).alloc _
  have b1 : w0.cell? ⟨w.heap.size, 1, none⟩ = some (.slice A2 n2 c2) := by rw [hw0]; simp [go_sem]
  rw [← hw0] at HL ⊢
  clear hw0
  go_loop [5] (fun i => ∃ k : Nat, k ≤ m ∧ i = .int .i64 k ∧ ∀ q, q < k → ∀ y, zs[q]? = some y → inB 0 y 2 = true) (fun i => m - (intOf i).toNat)
  case atStart => exact ⟨0, Nat.zero_le _, rfl, fun j h => absurd h (by omega)⟩
  case round =>
    obtain ⟨k, hk, rfl, hno⟩ := hrel
    have Hno := Lib.hid hno
    clear hno
    by_cases hlt : k < m
    · obtain ⟨x, hx⟩ : ∃ x, zs[k]? = some x := ⟨_, List.getElem?_eq_getElem (by have := Hlen.out; omega)⟩
      obtain ⟨b, o, rfl, hb, e0⟩ := HL.out.sl.int hx
      have Hx := Lib.hid hx
      clear hx
      go_wp2_with fail
      refine (l01In_any _ _ _ _).mono ?_
      rintro e w' ⟨rfl, rfl⟩
      cases hok : inB 0 x 2 with
      | true =>
        have Hokx := Lib.hid hok
        go_wp2_with fail
        go_round
        case rel => exact ⟨k + 1, by omega, by go_num, all_step (p := fun z => inB 0 z 2) Hx.out Hokx.out Hno.out⟩
        case measure => simp [intOf]; omega
      | false =>
        have Hokx := Lib.hid hok
        go_wp2_with fail
        go_ret
        refine ⟨ret_bool ?_, hg0⟩
        have := all_not (p := fun z => inB 0 z 2) Hx.out Hokx.out
        simp only [stOk, this, Bool.and_false]
    · obtain rfl : k = m := by omega
      have hall := all_of (p := fun z => inB 0 z 2) (l := zs) (by rw [Hlen.out]; exact Hno.out)
      have Hall := Lib.hid hall
      clear hall
      go_wp2_with fail
      go_ret
      refine ⟨ret_bool ?_, hg0⟩
      rw [stOk, Hall.out, Hlen.out, Bool.and_true]
      by_cases e : k = n2
      · simp [e]
      · have e2 : ¬ ((k : Int) = (n2 : Int)) := by omega
        simp [e2]

theorem l01In_val {n a b : Int} {v : Bool} (h : inB a n b = v) (w : World) : Calls Tryz.prog 117 #[.int .i64 n, .int .i64 a, .int .i64 b] w fun e w' => e = .returned (.bool v) ∧ w' = w := by
  refine (l01In_any n a b w).mono ?_
  rintro e w' ⟨rfl, rfl⟩
  exact ⟨by rw [h], rfl⟩
theorem at_step {p : Nat → Bool} {k : Nat} (hk : p k = true) (h : ∀ j, j < k → p j = true) : ∀ j, j < k + 1 → p j = true := by
  intro j hj
  by_cases e : j = k
  · rw [e]; exact hk
  · exact h j (by omega)
theorem l26Set_any {A : Option Addr} {m c : Nat} (ss : List Int) (N : Nat) (w : World) (hL : SlAt w 1 A m c (ints ss)) (hN : N ≤ 1048576) :
    Calls Tryz.prog 84 #[.slice A m c, .int .i64 N] w fun e w' => e = .returned (.bool (setOk ((N : Int) - 1) ss)) ∧ Gr w w' := by
  have hlen := hL.sl.ilen
  have Hlen := Lib.hid hlen
  have hm := hL.small
  have HL := Lib.hid hL
  clear hL hlen
  go_enter Tryz.func84, Tryz.ntmps84
  go_wp2_with fail
  go_loopw [5] (fun i wr => ∃ k : Nat, k ≤ m ∧ i = .int .i64 k ∧ (∀ q, q < k → setAt ((N : Int) - 1) ss q = true) ∧ Gr w wr) (fun i _ => m - (intOf i).toNat)
  case atStart => exact ⟨0, Nat.zero_le _, rfl, fun j h => absurd h (by omega), Gr.refl _⟩
  case round =>
    obtain ⟨k, hk, rfl, hno, hgr⟩ := hrel
    have Hno := Lib.hid hno
    clear hno
    by_cases hlt : k < m
    · have g1 := get_of_lt (l := ss) (k := k) (by have := Hlen.out; omega)
      have hat : setAt ((N : Int) - 1) ss k = (inB 0 (ss.getD k 0) ((N : Int) - 1) && incAt ss k) := rfl
      have hia : incAt ss k = (decide (k = 0) || decide (ss.getD (k - 1) 0 < ss.getD k 0)) := rfl
      obtain ⟨x, hx⟩ : ∃ x, x = ss.getD k 0 := ⟨_, rfl⟩
      rw [← hx] at g1 hat hia
      have e0 := (HL.out.sl.gr hgr).int g1
      obtain ⟨b, o, rfl, hb, e0⟩ := e0
      have t1 : (k : Int) < (m : Int) := by omega
      have t0 : (0 : Int) ≤ (k : Int) := by omega
      have hwN : IntKind.i64.wrap ((N : Int) - 1) = (N : Int) - 1 := IntWalk.i64_in _ (by omega)
      have Hat := Lib.hid hat
      clear hat hx g1
      cases hin : inB 0 x ((N : Int) - 1) with
      | false =>
        have Hin := Lib.hid hin
        clear hia
        go_wp2_with fail
        go_quiet ((go_at_call 117; exact Calls.quiet_of_same (l01In_val hin _)))
        go_wp2_with fail
        go_ret
        exact ⟨ret_bool (by rw [setOk, all_range_not (k := k) (by rw [Hlen.out]; exact hlt) (by rw [Hat.out, Hin.out, Bool.false_and])]), hgr.drewN _⟩
      | true =>
        have Hin := Lib.hid hin
        by_cases hk0 : k = 0
        · have Hia : Hid (incAt ss k = true) := Lib.hid (by rw [hia]; simp [hk0])
          have hd : decide (0 < k) = false := decide_eq_false (by omega)
          clear hia hk0
          go_wp2_with fail
          go_quiet ((go_at_call 117; exact Calls.quiet_of_same (l01In_val hin _)))
          go_wp2_with fail
          go_roundw
          case rel => exact ⟨k + 1, by omega, by go_num, at_step (by rw [Hat.out, Hin.out, Hia.out]; rfl) Hno.out, hgr.drewN _⟩
          case measure => simp [intOf]; omega
        · obtain ⟨q, rfl⟩ : ∃ q, k = q + 1 := ⟨k - 1, by omega⟩
          rw [Nat.add_sub_cancel] at hia
          have g0 := get_of_lt (l := ss) (k := q) (by have := Hlen.out; omega)
          obtain ⟨y, hy⟩ : ∃ y, y = ss.getD q 0 := ⟨_, rfl⟩
          rw [← hy] at g0 hia
          obtain ⟨b', o', eb, _, e1⟩ := (HL.out.sl.gr hgr).int g0
          injection eb with eb
          injection eb with eb1 eb2
          subst eb1
          subst eb2
          have hd : decide ((0 : Int) < ((q + 1 : Nat) : Int)) = true := decide_eq_true (by omega)
          have hsub : ((q + 1 : Nat) : Int) - 1 = (q : Int) := by omega
          have t2 : (0 : Int) ≤ (q : Int) := by omega
          have t3 : (q : Int) < (m : Int) := by omega
          have hw1 : IntKind.i64.wrap (((q + 1 : Nat) : Int) - 1) = (q : Int) := by rw [hsub]; exact IntWalk.i64_in _ (by omega)
          clear g0 hy hk0
          by_cases hc : y < x
          · have Hia : Hid (incAt ss (q + 1) = true) := Lib.hid (by rw [hia]; simp [hc])
            have hd2 : decide (x ≤ y) = false := by simp; omega
            clear hia
            go_wp2_with fail
            go_quiet ((go_at_call 117; exact Calls.quiet_of_same (l01In_val hin _)))
            go_wp2_with fail
            go_roundw
            case rel => exact ⟨q + 2, by omega, by go_num, at_step (by rw [Hat.out, Hin.out, Hia.out]; rfl) Hno.out, hgr.drewN _⟩
            case measure => simp [intOf]; omega
          · have Hia : Hid (incAt ss (q + 1) = false) := Lib.hid (by rw [hia]; simp; omega)
            have hd2 : decide (x ≤ y) = true := by simp; omega
            clear hia
            go_wp2_with fail
            go_quiet ((go_at_call 117; exact Calls.quiet_of_same (l01In_val hin _)))
            go_wp2_with fail
            go_ret
            exact ⟨ret_bool (by rw [setOk, all_range_not (k := q + 1) (by rw [Hlen.out]; exact hlt) (by rw [Hat.out, Hia.out, Bool.and_false])]), hgr.drewN _⟩
    · obtain rfl : k = m := by omega
      go_wp2_with fail
      go_ret
      exact ⟨ret_bool (by rw [setOk, all_range.2 (by rw [Hlen.out]; exact Hno.out)]), hgr⟩
end Go.Proofs.YthhmhigddmimjaaGreat
/-
  SwitchPipes: the contracts.
-/
namespace Go.Proofs.YthhmhigddmimjaaGreat
open Go.ChangeShapes Go.WideShapes Go.ChangeAt Go.RowKit

set_option maxHeartbeats 1600000 in
set_option maxRecDepth 100000 in
theorem l27Switch_any {A A4 : Option Addr} {n c n4 c4 : Nat} (zs ss : List Int) (m : Int) (w : World) (hL : SlAt w 1 A n c (ints zs)) (hS : SlAt w 1 A4 n4 c4 (ints ss)) (hss : ∀ (j : Nat) (z : Int), ss[j]? = some z → 0 ≤ z ∧ z < n) (_hm : 0 ≤ m ∧ m ≤ 31) (h4 : n4 ≤ 5) :
    Calls Tryz.prog 62 #[.slice A n c, .slice A4 n4 c4, .int .i64 m] w fun e w' => ∃ A' c', e = .returned (.slice A' n c') ∧ w'.ownsRow w.heap.size 2 1 (.slice A' n c') n (ints (swTo m zs ss n4)) ∧ Gr w w' := by
  obtain ⟨i0, hi0, hz0, hz1, hz2⟩ := info_parts infoInt64
  have hl4 := hS.sl.ilen
  have Hl4 := Lib.hid hl4
  have Hl := Lib.hid hL.sl.ilen
  have hmm := hL.small
  have HL := Lib.hid hL
  have HS := Lib.hid hS
  have Hss := Lib.hid hss
  clear hL hS hl4 hss
  have key : ∀ (ad : Option Addr) (hA : A = ad), Calls Tryz.prog 62 #[.slice A n c, .slice A4 n4 c4, .int .i64 m] w fun e w' => ∃ A' c', e = .returned (.slice A' n c') ∧ w'.ownsRow w.heap.size 2 1 (.slice A' n c') n (ints (swTo m zs ss n4)) ∧ Gr w w' := by
    intro ad hA
    cases ad with
    | none =>
      subst hA
      have h0 : n = 0 := by
        rcases Nat.eq_zero_or_pos n with h | h
        · exact h
        · obtain ⟨_, _, e, _⟩ := HL.out.sl.2 h; cases e
      subst h0
      have hz : zs = [] := List.eq_nil_of_length_eq_zero Hl.out
      subst hz
      have hss0 : ss = [] := by
        cases ss with
        | nil => rfl
        | cons a l => have := Hss.out 0 a rfl; omega
      subst hss0
      obtain rfl : n4 = 0 := by have := Hl4.out; simpa using this.symm
      go_enter Tryz.func62, Tryz.ntmps62
      go_wp2_with fail
      go_loopw [8] (fun i wr => i = .int .i64 0 ∧ wr = w.alloc (.cells #[] 2)) (fun _ _ => 0)
      case atStart => exact ⟨rfl, rfl⟩
      case round =>
        obtain ⟨rfl, rfl⟩ := hrel
        go_wp2_with fail
        go_ret
        exact ⟨_, _, rfl, World.ownsRow_lit w #[] 0 (Nat.le_refl _) (by unfold maxLen; omega) rfl, (Gr.refl _).alloc _⟩
    | some ad =>
      subst hA
      have hcells := HL.out.sl.cells
      have Hcells := Lib.hid hcells
      have Hll := Lib.hid HL.out.sl.1
      clear hcells
      go_enter Tryz.func62, Tryz.ntmps62
      go_wp2_with (at_builtin; refine wpList_append_own _ rfl _ _ _ rfl w.heap.size 2 i0 _ 1 8 Tryz.underlying26 hi0 hz0 hz1 hz2 rfl (by omega) _ 0 [] rfl (World.ownsRow_lit w #[] 0 (Nat.le_refl _) (by unfold maxLen; omega) rfl) ad n c (ints zs) rfl Hll.out (fun j u hu => ((Gr.refl w).alloc _).has (Hcells.out j u hu)) (ints_one zs) (by unfold maxLen; omega) (by omega) (by simp) ?_; intro v' w1 hown hg _)
      obtain ⟨A', c', rfl⟩ := own_shape hown
      have hown' : w1.ownsRow w.heap.size 2 1 (.slice A' n c') n (ints zs) := by simpa using hown
      have hg1 : Gr w w1 := ((Gr.refl w).alloc _).grown hg (fun k hk => by injection hk with hk; exact Nat.le_of_eq hk)
      have Hown := Lib.hid hown'
      clear hown hown' hg
      go_wp2_with fail
      go_loopw [8] (fun i wr => ∃ k : Nat, k ≤ n4 ∧ i = .int .i64 k ∧ wr.ownsRow w.heap.size 2 1 (.slice A' n c') n (ints (swTo m zs ss k)) ∧ Gr w wr) (fun i _ => n4 - (intOf i).toNat)
      case atStart => exact ⟨0, Nat.zero_le _, rfl, Hown.out, hg1⟩
      case round =>
        obtain ⟨k, hk, rfl, hownr, hgr⟩ := hrel
        by_cases hlt : k < n4
        · obtain ⟨p, hp⟩ : ∃ x, ss[k]? = some x := ⟨_, List.getElem?_eq_getElem (by have := Hl4.out; omega)⟩
          obtain ⟨b4, o4, rfl, hb4, r0⟩ := (HS.out.sl.gr hgr).int hp
          have hpb := Hss.out k p hp
          have hz := get_of_lt (l := swTo m zs ss k) (k := p.toNat) (by have := swTo_len m zs ss k; have := Hl.out; omega)
          obtain ⟨z, hze⟩ : ∃ z, (swTo m zs ss k).getD p.toNat 0 = z := ⟨_, rfl⟩
          rw [hze] at hz
          obtain ⟨g, rfl, hgb, hgl⟩ := own_form hownr (by omega)
          obtain ⟨d0, d1⟩ := own_int hownr hz
          have R0 := own_set_int hownr p.toNat 0
          have R1 := own_set_int hownr p.toNat 1
          have t1 : (k : Int) < (n4 : Int) := by omega
          have t0 : (0 : Int) ≤ (k : Int) := by omega
          have Hownr := Lib.hid hownr
          have HR0 := Lib.hid R0
          have HR1 := Lib.hid R1
          have Hp := Lib.hid hp
          have Hze := Lib.hid hze
          clear hp hz hownr hze R0 R1
          cases hoff : offBit m k with
          | true =>
            have Hoff := Lib.hid hoff
            unfold offBit at hoff
            go_wp2_with fail
            go_roundw
            case rel => exact ⟨k + 1, by omega, by go_num, by rw [swTo_off Hoff.out]; exact Hownr.out, hgr⟩
            case measure => simp [intOf]; omega
          | false =>
            have Hoff := Lib.hid hoff
            unfold offBit at hoff
            cases hzz : (z == 0) with
            | true =>
              have Hz := Lib.hid hzz
              go_wp2_with fail
              go_roundw
              case rel => exact ⟨k + 1, by omega, by go_num, by rw [swTo_on Hoff.out Hp.out Hze.out, if_pos Hz.out]; exact HR1.out.1, hgr.grown HR1.out.2 (fun _ e => by injection e with e; omega)⟩
              case measure => simp [intOf]; omega
            | false =>
              have Hz := Lib.hid hzz
              go_wp2_with fail
              go_roundw
              case rel => exact ⟨k + 1, by omega, by go_num, by rw [swTo_on Hoff.out Hp.out Hze.out, if_neg (by simp [Hz.out])]; exact HR0.out.1, hgr.grown HR0.out.2 (fun _ e => by injection e with e; omega)⟩
              case measure => simp [intOf]; omega
        · obtain rfl : k = n4 := by omega
          have Hownr := Lib.hid hownr
          clear hownr
          go_wp2_with fail
          go_ret
          exact ⟨A', c', by simp, Hownr.out, hgr⟩
  exact key A rfl
def l27Val (n : GNet) (zs ss us : List Int) (N : Nat) : Int := if swCode n zs ss = 0 then (if supOk N us then 0 else 3) else swCode n zs ss
theorem l27Val_bad {n : GNet} {zs ss us : List Int} {N : Nat} (h : swCode n zs ss ≠ 0) : l27Val n zs ss us N = swCode n zs ss := by rw [l27Val, if_neg h]
theorem l27Val_eq {n : GNet} {zs ss us : List Int} {N : Nat} (h : swCode n zs ss = 0) : l27Val n zs ss us N = if supOk N us then 0 else 3 := by rw [l27Val, if_pos h]
set_option maxRecDepth 100000 in
theorem l27Code_any {A1 A2 A3 A4 A5 : Option Addr} {n1 c1 n2 c2 n3 c3 n4 c4 n5 c5 : Nat} (n : GNet) (zs ss us : List Int) (w : World) (hA : NetAt w A1 n1 c1 A2 n2 c2 n) (hL : SlAt w 1 A3 n3 c3 (ints zs)) (hS : SlAt w 1 A4 n4 c4 (ints ss)) (hU : SlAt w 1 A5 n5 c5 (ints us)) :
    Calls Tryz.prog 49 #[.agg #[.slice A1 n1 c1, .slice A2 n2 c2], .slice A3 n3 c3, .slice A4 n4 c4, .slice A5 n5 c5] w fun e w' => e = .returned (.int .i64 (l27Val n zs ss us n1)) ∧ Gr w w' := by
  have hm1 := hA.m1
  have hm2 := hA.m2
  have hm4 := hS.small
  have hl4 := hS.sl.ilen
  have Hl4 := Lib.hid hl4
  have HA := Lib.hid hA
  have HL := Lib.hid hL
  have HS := Lib.hid hS
  have HU := Lib.hid hU
  clear hA hL hS hl4 hU
  go_enter Tryz.func49, Tryz.ntmps49
  go_wp2_with fail
  refine (spIsNetwork_any _ _ _ _ _ _ n _ (HA.out.gr ((Gr.refl _).alloc _))).mono ?_
  rintro e w0 ⟨rfl, hg1⟩
  have hg0 : Gr w w0 := ((Gr.refl _).alloc _).trans hg1
  have b0 : w0.cell? ⟨w.heap.size, 0, none⟩ = some (.slice A1 n1 c1) := hg1.has (by simp [go_sem])
  have b1 : w0.cell? ⟨w.heap.size, 1, none⟩ = some (.slice A2 n2 c2) := hg1.has (by simp [go_sem])
  clear hg1
  cases hnet : netOk n with
  | false =>
    have Hnet := Lib.hid hnet
    go_wp2_with fail
    go_ret
    have e : swCode n zs ss = 1 := by rw [swCode, Hnet.out]; simp
    exact ⟨ret_int (by rw [l27Val_bad (by rw [e]; decide), e]), hg0⟩
  | true =>
    have Hnet := Lib.hid hnet
    go_wp2_with fail
    refine (l16Is_any zs _ (HL.out.gr hg0) hm2).mono ?_
    rintro e w2 ⟨rfl, hg2⟩
    have b0 := hg2.has b0
    have b1 := hg2.has b1
    have hgw2 : Gr w w2 := hg0.trans hg2
    cases hst : stOk n2 zs with
    | false =>
      have Hst := Lib.hid hst
      go_wp2_with fail
      go_ret
      refine ⟨ret_int ?_, hgw2⟩
      have e : swCode n zs ss = 3 := by rw [swCode, Hnet.out, HA.out.l2, Hst.out]; simp
      rw [l27Val_bad (by rw [e]; decide), e]
    | true =>
      have Hst := Lib.hid hst
      by_cases h5 : 5 < n4
      · go_wp2_with fail
        go_ret
        refine ⟨ret_int ?_, hgw2⟩
        have : ¬ ss.length ≤ 5 := by rw [Hl4.out]; omega
        have e : swCode n zs ss = 3 := by rw [swCode, Hnet.out, HA.out.l2, Hst.out]; simp [this]
        rw [l27Val_bad (by rw [e]; decide), e]
      · have h5' : decide ((5 : Int) < (n4 : Int)) = false := by simp; omega
        have Hle : Hid (ss.length ≤ 5) := Lib.hid (by rw [Hl4.out]; omega)
        go_wp2_with fail
        refine (l26Set_any ss n2 _ (HS.out.gr hgw2) hm2).mono ?_
        rintro e w3 ⟨rfl, hg3⟩
        have b0 := hg3.has b0
        have b1 := hg3.has b1
        have hgw3 : Gr w w3 := hgw2.trans hg3
        cases hse : setOk ((n2 : Int) - 1) ss with
        | false =>
          have Hse := Lib.hid hse
          go_wp2_with fail
          go_ret
          refine ⟨ret_int ?_, hgw3⟩
          have e : swCode n zs ss = 3 := by rw [swCode, Hnet.out, HA.out.l2, Hst.out, Hse.out]; simp
          rw [l27Val_bad (by rw [e]; decide), e]
        | true =>
          have Hse := Lib.hid hse
          have e : Hid (swCode n zs ss = 0) := Lib.hid (by rw [swCode, Hnet.out, HA.out.l2, Hst.out, Hse.out]; simp [Hle.out])
          go_wp2_with fail
          refine (l06List_any us _ (HU.out.gr hgw3) hm1).mono ?_
          rintro e' w4 ⟨rfl, hg4⟩
          cases hsu : supOk n1 us
          all_goals
            go_wp2_with fail
            go_ret
            exact ⟨ret_int (by rw [l27Val_eq e.out, hsu]; rfl), hgw3.trans hg4⟩
end Go.Proofs.YthhmhigddmimjaaGreat
/-
  SwitchPipes: the contracts.
-/
namespace Go.Proofs.YthhmhigddmimjaaGreat
open Go.ChangeShapes Go.WideShapes Go.ChangeAt Go.RowKit

def spwCode (n : GNet) (zs ss : List Int) (m : Int) : Int := if swCode n zs ss = 0 then (if inB 0 m (2 ^ ss.length - 1) then 0 else 2) else swCode n zs ss
def spwRes (n : GNet) (zs ss : List Int) (m : Int) : List Int := if spwCode n zs ss m = 0 then swTo m zs ss ss.length else []
theorem pow_bnd {q : Nat} {m : Int} (hq : q ≤ 5) (h : inB 0 m (2 ^ q - 1) = true) : 0 ≤ m ∧ m ≤ 31 := by
  have h2 := inB_iff.1 h
  have : q = 0 ∨ q = 1 ∨ q = 2 ∨ q = 3 ∨ q = 4 ∨ q = 5 := by omega
  rcases this with rfl | rfl | rfl | rfl | rfl | rfl <;> simp at h2 <;> omega
theorem pow_wrap {q : Nat} (hq : q ≤ 5) : wrap64 (wrap64 (2 ^ q) - 1) = 2 ^ q - 1 := by
  have : q = 0 ∨ q = 1 ∨ q = 2 ∨ q = 3 ∨ q = 4 ∨ q = 5 := by omega
  rcases this with rfl | rfl | rfl | rfl | rfl | rfl <;> simp [wrap64]
set_option maxRecDepth 100000 in
theorem SwitchPipes_any {A1 A2 A3 A4 : Option Addr} {n1 c1 n2 c2 n3 c3 n4 c4 : Nat} (n : GNet) (zs ss : List Int) (m : Int) (w : World) (hA : NetAt w A1 n1 c1 A2 n2 c2 n) (hL : SlAt w 1 A3 n3 c3 (ints zs)) (hS : SlAt w 1 A4 n4 c4 (ints ss)) (_wf : (Lit.int .i64 m).wf = true) :
    Calls Tryz.prog 29 #[.agg #[.slice A1 n1 c1, .slice A2 n2 c2], .slice A3 n3 c3, .slice A4 n4 c4, .int .i64 m] w fun e w' => ∃ A q c, e = .returned (.tuple #[.slice A q c, .int .i64 (spwCode n zs ss m)]) ∧ q ≤ 1048576 ∧ w'.ownsRow w.heap.size 2 1 (.slice A q c) q (ints (spwRes n zs ss m)) ∧ Gr w w' := by
  have hm3 := hL.small
  have hm4 := hS.small
  have hl4 := hS.sl.ilen
  have Hl4 := Lib.hid hl4
  have Hl3 := Lib.hid hL.sl.ilen
  have HA := Lib.hid hA
  have HL := Lib.hid hL
  have HS := Lib.hid hS
  clear hA hL hS hl4
  go_enter Tryz.func29, Tryz.ntmps29
  go_wp2_with fail
  refine (checkSwitches_any n zs ss _ (HA.out.gr ((Gr.refl _).alloc _)) (HL.out.gr ((Gr.refl _).alloc _)) (HS.out.gr ((Gr.refl _).alloc _))).mono ?_
  rintro e w1 ⟨rfl, hg1⟩
  have hg0 : Gr w w1 := ((Gr.refl _).alloc _).trans hg1
  clear hg1
  by_cases hc : swCode n zs ss = 0
  · have Hc := Lib.hid hc
    have tb : (swCode n zs ss != 0) = false := by simp [hc]
    obtain ⟨_, z2, z3, z4⟩ := swCode_zero hc
    have hn45 : n4 ≤ 5 := by rw [← Hl4.out]; exact z3
    have Hz2 := Lib.hid z2
    have Hz4 := Lib.hid z4
    clear hc z2 z3 z4
    go_wp2_with fail
    rw [pow_wrap hn45]
    refine (within_any _ _ _ _).mono ?_
    rintro e w2 ⟨rfl, rfl⟩
    cases hin : inB 0 m (2 ^ n4 - 1) with
    | true =>
      have hmb := pow_bnd hn45 hin
      have Hin := Lib.hid hin
      have e0 : spwCode n zs ss m = 0 := by rw [spwCode, if_pos Hc.out, Hl4.out, if_pos hin]
      have He := Lib.hid e0
      have hss : ∀ (j : Nat) (z : Int), ss[j]? = some z → 0 ≤ z ∧ z < n3 := by
        intro j z hz
        have h1 := setOk_at Hz4.out j z hz
        have h2 := Hz2.out
        simp only [stOk, Bool.and_eq_true, decide_eq_true_eq] at h2
        have h3 := Hl3.out
        omega
      have Hss := Lib.hid hss
      clear hin e0 hss
      go_wp2_with fail
      refine (switched_any zs ss m _ (HL.out.gr hg0) (HS.out.gr hg0) Hss.out hmb hn45).mono ?_
      rintro e w3 ⟨A, c, rfl, ho, hg3⟩
      have Ho := Lib.hid ho
      clear ho
      go_wp2_with fail
      go_ret2
      refine ⟨A, n3, c, by rw [He.out]; rfl, hm3, ?_, hg0.trans hg3⟩
      rw [spwRes, if_pos He.out, Hl4.out]
      exact own_base Ho.out hg0.size
    | false =>
      have e0 : spwCode n zs ss m = 2 := by rw [spwCode, if_pos Hc.out, Hl4.out, if_neg (by simp [hin])]
      have He := Lib.hid e0
      clear e0
      go_wp2_with fail
      go_ret2
      refine ⟨none, 0, 0, by rw [He.out]; rfl, by omega, ?_, hg0⟩
      rw [spwRes, if_neg (by rw [He.out]; decide)]
      exact World.ownsRow_nil _ _ _ _
  · have Hc := Lib.hid hc
    have tb : (swCode n zs ss != 0) = true := by simp [hc]
    clear hc
    go_wp2_with fail
    go_ret2
    have e : spwCode n zs ss m = swCode n zs ss := by rw [spwCode, if_neg Hc.out]
    refine ⟨none, 0, 0, by rw [e]; rfl, by omega, ?_, hg0⟩
    rw [spwRes, if_neg (by rw [e]; exact Hc.out)]
    exact World.ownsRow_nil _ _ _ _
end Go.Proofs.YthhmhigddmimjaaGreat
