/-
  Books of both sides. Printed by gen_nom.py.
-/
import Derived.Test.YtelhmfgfjlpkaaaNom1
import Derived.Test.YtelhmfgfjlpkaaaIndex
import Derived.Test.YtelhmfgfjlpkaaaNetOk
import Derived.Test.YtelhmfgfjlpkaaaNetOk
import Derived.Test.YtelhmfgfjlpkaaaText
import Derived.Deep.RegionHeld3
set_option linter.unusedSimpArgs false
set_option linter.unusedVariables false
namespace Go.Proofs.Ytelhmfgfjlpkaaa
open Go.ChangeShapes Go.WideShapes Go.ChangeAt Go.RowKit

theorem isBook1_any {A1 A2 : Option Addr} {n1 c1 n2 c2 : Nat} (g : Nat) (y : GCon) (w : World) (hn : n1 ≤ 1048576) (h0 : w.cell? ⟨g, 0, none⟩ = some (.slice A1 n1 c1)) (h1 : w.cell? ⟨g, 1, none⟩ = some (.slice A2 n2 c2)) :
    Calls Try.prog 126 #[.agg #[.int .i64 y.shipper, .int .i64 y.entry, .int .i64 y.exit, .int .i64 y.amount, .int .i64 y.cls, .int .i64 y.src, .int .i64 y.dst, .int .i64 y.price], .pointer (some ⟨g, 0, none⟩)] w fun e w' => e = .returned (.bool (!conOk n1 y)) ∧ Gr w w' := by
  have hl := lt_of_cell h0
  have hg : Gr w (w.alloc (.cells #[.int .i64 y.shipper, .int .i64 y.entry, .int .i64 y.exit, .int .i64 y.amount, .int .i64 y.cls, .int .i64 y.src, .int .i64 y.dst, .int .i64 y.price] 61)) := (Gr.refl _).alloc _
  have z0 := hg.has h0
  have z1 := hg.has h1
  go_enter Try.func126, Try.ntmps126
  go_wp2_with fail
  refine (isContract_any y _ hn).mono ?_
  rintro e w' ⟨rfl, hg1⟩
  go_wp2_with fail
  go_ret
  exact ⟨rfl, hg.trans hg1⟩
theorem IndexFunc_isBook (cap : Value) (p : GCon → Bool) (A : Option Addr) (n c : Nat) (l : List GCon) (w : World) (hn : n ≤ 1048576) (hA : Sl w 8 A n (l.flatMap GCon.cells))
    (hf : ∀ (k : Nat) (x : GCon) (W : World), l[k]? = some x → Gr w W → Calls Try.prog 126 #[.agg #[.int .i64 x.shipper, .int .i64 x.entry, .int .i64 x.exit, .int .i64 x.amount, .int .i64 x.cls, .int .i64 x.src, .int .i64 x.dst, .int .i64 x.price], cap] W fun e W' => e = .returned (.bool (p x)) ∧ Gr W W') :
    Calls Try.prog 133 #[.slice A n c, .func (.func 126) #[] #[cap]] w fun e w' => e = .returned (.int .i64 (idxOf p l)) ∧ Gr w w' := by
  have hlen := hA.len GCon.cells_len (by omega)
  have Hlen := Lib.hid hlen
  have HA := Lib.hid hA
  have Hf := Lib.hid hf
  clear hA hlen hf
  go_enter Try.func133, Try.ntmps133
  go_wp2_with fail
  go_loopw [8] (fun i wr => ∃ k : Nat, k ≤ n ∧ i = .int .i64 k ∧ (∀ j, j < k → ∀ y, l[j]? = some y → p y = false) ∧ Gr w wr) (fun i _ => n - (intOf i).toNat)
  case atStart => exact ⟨0, Nat.zero_le _, rfl, fun j h => absurd h (by omega), Gr.refl _⟩
  case round =>
    obtain ⟨k, hk, rfl, hno, hgr⟩ := hrel
    have Hno := Lib.hid hno
    clear hno
    by_cases hlt : k < n
    · obtain ⟨x, hx⟩ : ∃ x, l[k]? = some x := ⟨_, List.getElem?_eq_getElem (by have := Hlen.out; omega)⟩
      obtain ⟨b, o, rfl, hb, e0, e1, e2, e3, e4, e5, e6, e7⟩ := (HA.out.gr hgr).con hx
      have Hx := Lib.hid hx
      clear hx
      go_wp2_with fail
      refine (Hf.out k x _ Hx.out hgr).mono ?_
      rintro e w' ⟨rfl, hg1⟩
      cases hp : p x with
      | true =>
        have Hp := Lib.hid hp
        clear hp
        go_wp2_with fail
        go_ret
        exact ⟨ret_int (idxOf_hit Hx.out Hp.out Hno.out).symm, hgr.trans hg1⟩
      | false =>
        have Hp := Lib.hid hp
        clear hp
        go_wp2_with fail
        go_roundw
        case rel =>
          refine ⟨k + 1, by omega, by go_num, fun j hj y hy => ?_, hgr.trans hg1⟩
          by_cases e : j = k
          · subst e
            have := Hx.out
            rw [hy] at this
            injection this with this
            subst this
            exact Hp.out
          · exact Hno.out j (by omega) y hy
        case measure => simp [intOf]; omega
    · obtain rfl : k = n := by omega
      go_wp2_with fail
      go_ret
      exact ⟨ret_int (idxOf_none (fun j hj => Hno.out j (by have := Hlen.out; omega))).symm, hgr⟩
theorem ContainsFunc_isBook {A A1 A2 : Option Addr} {n c n1 c1 n2 c2 : Nat} (g : Nat) (l : List GCon) (w : World) (hn : n ≤ 1048576) (hn1 : n1 ≤ 1048576) (hA : Sl w 8 A n (l.flatMap GCon.cells)) (h0 : w.cell? ⟨g, 0, none⟩ = some (.slice A1 n1 c1)) (h1 : w.cell? ⟨g, 1, none⟩ = some (.slice A2 n2 c2)) :
    Calls Try.prog 125 #[.slice A n c, .func (.func 126) #[] #[.pointer (some ⟨g, 0, none⟩)]] w fun e w' => e = .returned (.bool (l.any fun y => !conOk n1 y)) ∧ Gr w w' := by
  have HA := Lib.hid hA
  have H0 := Lib.hid h0
  have H1 := Lib.hid h1
  clear hA h0 h1
  go_enter Try.func125, Try.ntmps125
  go_wp2_with fail
  refine (IndexFunc_isBook (.pointer (some ⟨g, 0, none⟩)) (fun y => !conOk n1 y) A n c l _ hn HA.out (fun k y W _ hW => isBook1_any g y W hn1 (hW.has H0.out) (hW.has H1.out))).mono ?_
  rintro e w1 ⟨rfl, hg⟩
  go_wp2_with fail
  go_ret
  exact ⟨ret_bool idxOf_any, hg⟩
theorem any_not_all {nn : Int} (l : List GCon) : (!(l.any fun y => !conOk nn y)) = l.all (conOk nn) := by
  induction l with
  | nil => rfl
  | cons a l ih => rw [List.any_cons, List.all_cons, ← ih]; cases conOk nn a <;> simp
theorem isBook_any {A1 A2 A3 : Option Addr} {n1 c1 n2 c2 n3 c3 : Nat} (l : List GCon) (w : World) (hL : SlAt w 8 A3 n3 c3 (l.flatMap GCon.cells)) (hn : n1 ≤ 1048576) :
    Calls Try.prog 115 #[.agg #[.slice A1 n1 c1, .slice A2 n2 c2], .slice A3 n3 c3] w fun e w' => e = .returned (.bool (bookOk n1 l)) ∧ Gr w w' := by
  have hm3 := hL.small
  have hl3 := hL.sl.len GCon.cells_len (by omega)
  have HL := Lib.hid hL
  have Hl3 := Lib.hid hl3
  clear hL hl3
  by_cases h : 32 < n3
  · rw [bookOk_long (by rw [Hl3.out]; exact h)]
    have t : decide ((n3 : Int) ≤ 32) = false := by simp; omega
    go_enter Try.func115, Try.ntmps115
    go_wp2_with fail
    go_ret
    exact ⟨rfl, (Gr.refl _).alloc _⟩
  · have t : decide ((n3 : Int) ≤ 32) = true := by simp; omega
    have t' : (n3 : Int) ≤ 32 := by omega
    go_enter Try.func115, Try.ntmps115
    go_wp2_with fail
    refine (ContainsFunc_isBook w.heap.size l _ (by omega) hn ((HL.out.gr ((Gr.refl _).alloc _)).sl) (A1 := A1) (c1 := c1) (A2 := A2) (n2 := n2) (c2 := c2) (by simp [go_sem]) (by simp [go_sem])).mono ?_
    rintro e w1 ⟨rfl, hg1⟩
    go_wp2_with fail
    go_ret
    exact ⟨ret_bool (by rw [any_not_all, bookOk, decide_eq_true (show l.length ≤ 32 by rw [Hl3.out]; omega), Bool.true_and]), ((Gr.refl _).alloc _).trans hg1⟩
theorem checkBook_any {A1 A2 A3 : Option Addr} {n1 c1 n2 c2 n3 c3 : Nat} (n : GNet) (l : List GCon) (w : World) (hA : NetAt w A1 n1 c1 A2 n2 c2 n) (hS : SlAt w 8 A3 n3 c3 (l.flatMap GCon.cells)) :
    Calls Try.prog 98 #[.agg #[.slice A1 n1 c1, .slice A2 n2 c2], .slice A3 n3 c3] w fun e w' => e = .returned (.int .i64 (coCode n l)) ∧ Gr w w' := by
  have hm1 := hA.m1
  have HA := Lib.hid hA
  have HS := Lib.hid hS
  clear hA hS
  go_enter Try.func98, Try.ntmps98
  go_wp2_with fail
  refine (IsNetwork_any _ _ _ _ _ _ n _ (HA.out.gr ((Gr.refl _).alloc _))).mono ?_
  rintro e w1 ⟨rfl, hg1⟩
  have hg0 : Gr w w1 := ((Gr.refl _).alloc _).trans hg1
  have b0 : w1.cell? ⟨w.heap.size, 0, none⟩ = some (.slice A1 n1 c1) := hg1.has (by simp [go_sem])
  have b1 : w1.cell? ⟨w.heap.size, 1, none⟩ = some (.slice A2 n2 c2) := hg1.has (by simp [go_sem])
  cases hn : netOk n with
  | false =>
    have Hn := Lib.hid hn
    go_wp2_with fail
    go_ret
    exact ⟨ret_int (by rw [coCode, Hn.out]; rfl), hg0⟩
  | true =>
    have Hn := Lib.hid hn
    go_wp2_with fail
    refine (isBook_any l _ (HS.out.gr hg0) hm1).mono ?_
    rintro e w2 ⟨rfl, hg2⟩
    have hgw : Gr w w2 := hg0.trans hg2
    cases hs : bookOk n1 l with
    | true =>
      have Hs := Lib.hid hs
      go_wp2_with fail
      go_ret
      exact ⟨ret_int (by rw [coCode, if_pos Hn.out, HA.out.l1, if_pos Hs.out]), hgw⟩
    | false =>
      have Hs := Lib.hid hs
      go_wp2_with fail
      go_ret
      exact ⟨ret_int (by rw [coCode, if_pos Hn.out, HA.out.l1, if_neg (by simp [Hs.out])]), hgw⟩
set_option maxHeartbeats 3200000 in
set_option maxRecDepth 100000 in
theorem l20Book_any {A1 A2 A3 : Option Addr} {n1 c1 n2 c2 n3 c3 : Nat} (l : List GCon) (w : World) (hL : SlAt w 8 A3 n3 c3 (l.flatMap GCon.cells)) (hn : n1 ≤ 1048576) :
    Calls Try.prog 117 #[.agg #[.slice A1 n1 c1, .slice A2 n2 c2], .slice A3 n3 c3] w fun e w' => e = .returned (.bool (bookOk n1 l)) ∧ Gr w w' := by
  have hm3 := hL.small
  have hl3 := hL.sl.len GCon.cells_len (by omega)
  have HL := Lib.hid hL
  have Hl3 := Lib.hid hl3
  clear hL hl3
  by_cases h : 32 < n3
  · rw [bookOk_long (by rw [Hl3.out]; exact h)]
    go_enter Try.func117, Try.ntmps117
    go_wp2_with fail
    go_ret
    exact ⟨rfl, (Gr.refl _).alloc _⟩
  · have t1 : decide ((32 : Int) < (n3 : Int)) = false := by simp; omega
    go_enter Try.func117, Try.ntmps117
    go_wp2_with fail
    obtain ⟨w0, hw0⟩ : ∃ w0, w0 = w.alloc (.cells #[.slice A1 n1 c1, .slice A2 n2 c2] 27) := ⟨_, rfl⟩
    have hg0 : Gr w w0 := by rw [hw0]; exact (Gr.refl _).alloc _
    have b0 : w0.cell? ⟨w.heap.size, 0, none⟩ = some (.slice A1 n1 c1) := by rw [hw0]; simp [go_sem]
    have b1 : w0.cell? ⟨w.heap.size, 1, none⟩ = some (.slice A2 n2 c2) := by rw [hw0]; simp [go_sem]
    rw [← hw0]
    clear hw0
    go_loopw [5] (fun i wr => ∃ k : Nat, k ≤ n3 ∧ i = .int .i64 k ∧ (∀ m, m < k → ∀ y, l[m]? = some y → conOk n1 y = true) ∧ Gr w0 wr) (fun i _ => n3 - (intOf i).toNat)
    case atStart => exact ⟨0, Nat.zero_le _, rfl, fun j h => absurd h (by omega), Gr.refl _⟩
    case round =>
      obtain ⟨k, hk, rfl, hno, hgr⟩ := hrel
      have Hno := Lib.hid hno
      clear hno
      by_cases hlt : k < n3
      · obtain ⟨x, hx⟩ : ∃ x, l[k]? = some x := ⟨_, List.getElem?_eq_getElem (by have := Hl3.out; omega)⟩
        obtain ⟨b, o, rfl, hb, e0, e1, e2, e3, e4, e5, e6, e7⟩ := (HL.out.sl.gr (hg0.trans hgr)).con hx
        have Hx := Lib.hid hx
        have q0 := hgr.has b0
        have q1 := hgr.has b1
        have t2 : (k : Int) < (n3 : Int) := by omega
        have t0 : (0 : Int) ≤ (k : Int) := by omega
        clear hx
        go_wp2_with fail
        refine wp_region_text (fun w' => Gr wr w') (by kernel_rfl) (by kernel_rfl) (by decide) (Gr.refl _).drew ?_
        repeat (first
          | ((with_reducible refine wpText_skip ?_ ?_)
             · rfl
             simp only [Act.put, List.setIfInBounds_toArray, List.set_cons_zero, List.set_cons_succ])
          | ((with_reducible refine wpText_yield (v := ?_) ?_ ?_ ?_)
             rotate_left
             · rfl
             · (intro W hW; have ke0 := hW.has e0; have ke1 := hW.has e1; have ke2 := hW.has e2; have ke3 := hW.has e3; have ke4 := hW.has e4; have ke5 := hW.has e5; have ke6 := hW.has e6; have ke7 := hW.has e7; have kq0 := hW.has q0; have kq1 := hW.has q1; first | (go_simp; done) | (go_simp; with_reducible rfl))
             simp only [Act.put, List.setIfInBounds_toArray, List.set_cons_zero, List.set_cons_succ])
          | ((with_reducible refine wpText_yield1 (v := ?_) ?_ ?_ ?_)
             rotate_left
             · rfl
             · (intro W hW; have ke0 := hW.has e0; have ke1 := hW.has e1; have ke2 := hW.has e2; have ke3 := hW.has e3; have ke4 := hW.has e4; have ke5 := hW.has e5; have ke6 := hW.has e6; have ke7 := hW.has e7; have kq0 := hW.has q0; have kq1 := hW.has q1; first | (go_simp; done) | (go_simp; with_reducible rfl))
             simp only [Act.put, List.setIfInBounds_toArray, List.set_cons_zero, List.set_cons_succ]))
        refine wpText_do (.bool (conOk n1 x)) (by rfl) (fun W hW K hK => ?_) ?_
        ·
          have ke0 := hW.has e0
          have ke1 := hW.has e1
          have ke2 := hW.has e2
          have ke3 := hW.has e3
          have ke4 := hW.has e4
          have ke5 := hW.has e5
          have ke6 := hW.has e6
          have ke7 := hW.has e7
          have kq0 := hW.has q0
          have kq1 := hW.has q1
          go_simp
          refine (l20Is_any x _ hn).mono ?_
          rintro e w' ⟨rfl, hg⟩
          exact hK _ (hW.trans hg)
        simp only [Act.put, List.setIfInBounds_toArray, List.set_cons_zero, List.set_cons_succ]
        repeat (first
          | ((with_reducible refine wpText_skip ?_ ?_)
             · rfl
             simp only [Act.put, List.setIfInBounds_toArray, List.set_cons_zero, List.set_cons_succ])
          | ((with_reducible refine wpText_yield (v := ?_) ?_ ?_ ?_)
             rotate_left
             · rfl
             · (intro W hW; have ke0 := hW.has e0; have ke1 := hW.has e1; have ke2 := hW.has e2; have ke3 := hW.has e3; have ke4 := hW.has e4; have ke5 := hW.has e5; have ke6 := hW.has e6; have ke7 := hW.has e7; have kq0 := hW.has q0; have kq1 := hW.has q1; first | (go_simp; done) | (go_simp; with_reducible rfl))
             simp only [Act.put, List.setIfInBounds_toArray, List.set_cons_zero, List.set_cons_succ])
          | ((with_reducible refine wpText_yield1 (v := ?_) ?_ ?_ ?_)
             rotate_left
             · rfl
             · (intro W hW; have ke0 := hW.has e0; have ke1 := hW.has e1; have ke2 := hW.has e2; have ke3 := hW.has e3; have ke4 := hW.has e4; have ke5 := hW.has e5; have ke6 := hW.has e6; have ke7 := hW.has e7; have kq0 := hW.has q0; have kq1 := hW.has q1; first | (go_simp; done) | (go_simp; with_reducible rfl))
             simp only [Act.put, List.setIfInBounds_toArray, List.set_cons_zero, List.set_cons_succ]))
        rintro w6 hS6
        cases hc : conOk n1 x with
        | false =>
          have Hc := Lib.hid hc
          clear hc
          go_wp2_with fail
          go_ret
          exact ⟨ret_bool (bookOk_bad Hx.out Hc.out).symm, (hg0.trans hgr).trans hS6⟩
        | true =>
          have Hc := Lib.hid hc
          clear hc
          go_wp2_with fail
          go_roundw
          case rel => exact ⟨k + 1, by omega, by go_num, all_step Hx.out Hc.out Hno.out, hgr.trans hS6⟩
          case measure => simp [intOf]; omega
      · obtain rfl : k = n3 := by omega
        go_wp2_with fail
        go_ret
        exact ⟨ret_bool (bookOk_good (by rw [Hl3.out]; omega) (by rw [Hl3.out]; exact Hno.out)).symm, hg0.trans hgr⟩
theorem l20Code_any {A1 A2 A3 : Option Addr} {n1 c1 n2 c2 n3 c3 : Nat} (n : GNet) (l : List GCon) (w : World) (hA : NetAt w A1 n1 c1 A2 n2 c2 n) (hS : SlAt w 8 A3 n3 c3 (l.flatMap GCon.cells)) :
    Calls Try.prog 100 #[.agg #[.slice A1 n1 c1, .slice A2 n2 c2], .slice A3 n3 c3] w fun e w' => e = .returned (.int .i64 (coCode n l)) ∧ Gr w w' := by
  have hm1 := hA.m1
  have HA := Lib.hid hA
  have HS := Lib.hid hS
  clear hA hS
  go_enter Try.func100, Try.ntmps100
  go_wp2_with fail
  refine (spIsNetwork_any _ _ _ _ _ _ n _ (HA.out.gr ((Gr.refl _).alloc _))).mono ?_
  rintro e w1 ⟨rfl, hg1⟩
  have hg0 : Gr w w1 := ((Gr.refl _).alloc _).trans hg1
  have b0 : w1.cell? ⟨w.heap.size, 0, none⟩ = some (.slice A1 n1 c1) := hg1.has (by simp [go_sem])
  have b1 : w1.cell? ⟨w.heap.size, 1, none⟩ = some (.slice A2 n2 c2) := hg1.has (by simp [go_sem])
  cases hn : netOk n with
  | false =>
    have Hn := Lib.hid hn
    go_wp2_with fail
    go_ret
    exact ⟨ret_int (by rw [coCode, Hn.out]; rfl), hg0⟩
  | true =>
    have Hn := Lib.hid hn
    go_wp2_with fail
    refine (l20Book_any l _ (HS.out.gr hg0) hm1).mono ?_
    rintro e w2 ⟨rfl, hg2⟩
    have hgw : Gr w w2 := hg0.trans hg2
    cases hs : bookOk n1 l with
    | true =>
      have Hs := Lib.hid hs
      go_wp2_with fail
      go_ret
      exact ⟨ret_int (by rw [coCode, if_pos Hn.out, HA.out.l1, if_pos Hs.out]), hgw⟩
    | false =>
      have Hs := Lib.hid hs
      go_wp2_with fail
      go_ret
      exact ⟨ret_int (by rw [coCode, if_pos Hn.out, HA.out.l1, if_neg (by simp [Hs.out])]), hgw⟩
end Go.Proofs.Ytelhmfgfjlpkaaa
