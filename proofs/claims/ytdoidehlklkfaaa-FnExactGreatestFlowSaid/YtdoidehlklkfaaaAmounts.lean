/-
  AmountsByClass: the program and the reference.
-/
import Derived.Test.YtdoidehlklkfaaaClassesM
import Derived.Test.YtdoidehlklkfaaaInts
import Derived.IntWalk
namespace Go.Proofs.Ytdoidehlklkfaaa
open Go.ChangeShapes Go.WideShapes Go.ChangeAt Go.RowKit

theorem amountsByClass_any {A3 : Option Addr} {n3 c3 : Nat} (nn : Int) (l : List GTr) (w : World) (hL : SlAt w 4 A3 n3 c3 (l.flatMap GTr.cells)) (hok : trsOk nn l = true) :
    Calls Try.prog 78 #[.slice A3 n3 c3] w fun e w' => ∃ A m c, e = .returned (.slice A m c) ∧ m ≤ 1048576 ∧ w'.ownsRow w.heap.size 2 1 (.slice A m c) m (ints (amounts l)) ∧ Gr w w' := by
  obtain ⟨i0, hi0, hz0, hz1, hz2⟩ := info_parts infoInt64
  have hm3 := hL.small
  have hlen := hL.sl.len GTr.cells_len (by omega)
  have Hlen := Lib.hid hlen
  have HL := Lib.hid hL
  have Hok := Lib.hid hok
  clear hL hok hlen
  go_enter Try.func78, Try.ntmps78
  go_wp2_with (at_make; refine wpList_make_full _ rfl _ _ _ rfl w.heap.size 2 i0 _ 1 Try.underlying49 hi0 hz0 hz1 .i64 .i64 _ _ 4 rfl rfl rfl rfl (by rw [hz2]; omega) (by unfold maxLen; omega) (Nat.le_refl _) ?_; intro w1 hown hg)
  have hg' : Gr w w1 := Gr.of_grown hg
  have ez : (madeCells (Value.int .i64 0).cells (4 * 1)).toList = ints ((l.take 0).foldl amtStep (List.replicate 4 0)) := made_ints 4
  rw [ez] at hown
  clear ez hg hi0 hz0 hz1 hz2
  go_loopw [9] (fun i wr => ∃ k : Nat, k ≤ n3 ∧ i = .int .i64 k ∧ wr.ownsRow w.heap.size 2 1 (.slice (some ⟨w.heap.size, 0, none⟩) 4 4) 4 (ints ((l.take k).foldl amtStep (List.replicate 4 0))) ∧ Gr w wr) (fun i _ => n3 - (intOf i).toNat)
  case atStart => exact ⟨0, Nat.zero_le _, rfl, hown, hg'⟩
  case round =>
    obtain ⟨k, hk, rfl, hownr, hgr⟩ := hrel
    clear hown hg'
    by_cases hlt : k < n3
    · obtain ⟨x, hx⟩ : ∃ x, l[k]? = some x := ⟨_, List.getElem?_eq_getElem (by have := Hlen.out; omega)⟩
      obtain ⟨b, o, rfl, hb, e0, e1, e2, e3⟩ := (HL.out.sl.gr hgr).tr hx
      obtain ⟨_, _, _, p4, p5⟩ := trOk_all ((trsOk_all Hok.out).2 k x hx)
      have hat := amt_at Hok.out k
      obtain ⟨a1, a2⟩ := hat
      obtain ⟨acc, hacc⟩ : ∃ acc, acc = (l.take k).foldl amtStep (List.replicate 4 0) := ⟨_, rfl⟩
      rw [← hacc] at hownr a1 a2
      have hstep := foldl_take_succ amtStep (List.replicate 4 0) l k x hx
      rw [← hacc] at hstep
      have hv := a2.getD (by omega) x.cls.toNat
      have hget := get_of_lt (l := acc) (k := x.cls.toNat) (by omega)
      obtain ⟨v, hvv⟩ : ∃ v, v = acc.getD x.cls.toNat 0 := ⟨_, rfl⟩
      rw [← hvv] at hv hget
      have s1 : 0 ≤ x.cls := p5.1
      have s2 : x.cls < 4 := by omega
      have s3 : -960000 ≤ v + x.amount := by omega
      have s4 : v + x.amount ≤ 1000000 := by omega
      have eR : acc.set x.cls.toNat (v + x.amount) = (l.take (k + 1)).foldl amtStep (List.replicate 4 0) := by rw [hstep, hvv]; rfl
      have HeR := Lib.hid eR
      have Hown := Lib.hid hownr
      have Hget := Lib.hid hget
      clear hx hownr eR hstep hacc hvv hget a1 a2 p5
      go_wp2_with fail
      obtain ⟨w2, hw2⟩ : ∃ w2, w2 = wr.alloc (.cells #[.int .i64 x.entry, .int .i64 x.exit, .int .i64 x.amount, .int .i64 x.cls] 86) := ⟨_, rfl⟩
      have hg2 : Gr wr w2 := by rw [hw2]; exact (Gr.refl _).alloc _
      have y2 : w2.cell? ⟨wr.heap.size, 2, none⟩ = some (.int .i64 x.amount) := by rw [hw2]; simp [go_sem]
      have y3 : w2.cell? ⟨wr.heap.size, 3, none⟩ = some (.int .i64 x.cls) := by rw [hw2]; simp [go_sem]
      rw [← hw2]
      clear hw2 e0 e1 e2 e3
      have hown2 := own_gr Hown.out hg2
      obtain ⟨d0, f0⟩ := own_int hown2 Hget.out
      have R := own_set_int hown2 x.cls.toNat (v + x.amount)
      rw [HeR.out] at R
      have HR := Lib.hid R
      clear R hown2
      have hwr : IntKind.i64.wrap (v + x.amount) = v + x.amount := IntWalk.i64_in _ (by omega)
      refine wp_region_last (fun w' => w' = w2.drew) (fun w' => w' = (w2.setCell ⟨w.heap.size, x.cls.toNat, none⟩ (.int .i64 (v + x.amount))).drew) (by kernel_rfl) (by kernel_rfl) (by decide) rfl ?_
      repeat (first
            | ((with_reducible refine wpText_skip ?_ ?_)
               · rfl
               simp only [Act.put, List.setIfInBounds_toArray, List.set_cons_zero, List.set_cons_succ])
            | ((with_reducible refine wpText_yield (v := ?_) ?_ ?_ ?_)
               rotate_left
               · rfl
               · intro W hW; first | (go_simp; done) | (go_simp; with_reducible rfl)
               simp only [Act.put, List.setIfInBounds_toArray, List.set_cons_zero, List.set_cons_succ])
            | ((with_reducible refine wpText_yield1 (v := ?_) ?_ ?_ ?_)
               rotate_left
               · rfl
               · intro W hW; first | (go_simp; done) | (go_simp; with_reducible rfl)
               simp only [Act.put, List.setIfInBounds_toArray, List.set_cons_zero, List.set_cons_succ]))
      (first
            | ((with_reducible refine wpText_do1 undef ?_ ?_ ?_)
               · rfl
               · intro W hW K hK
                 subst hW
                 go_simp
                 exact hK _ rfl
               simp only [Act.put]))
      rintro w3 rfl
      clear hwr
      go_wp2_with fail
      go_roundw
      case rel => exact ⟨k + 1, by omega, by go_num, HR.out.1.drew, ((hgr.trans hg2).grown HR.out.2 (fun _ e => by injection e with e; omega)).drew⟩
      case measure => simp [intOf]; omega
    · obtain rfl : k = n3 := by omega
      go_wp2_with fail
      go_ret
      refine ⟨_, _, _, rfl, by omega, ?_, hgr⟩
      have e : l.take k = l := List.take_of_length_le (by have := Hlen.out; omega)
      rw [e] at hownr
      exact hownr
theorem l24Code_any {A1 A2 A3 : Option Addr} {n1 c1 n2 c2 n3 c3 : Nat} (n : GNet) (l : List GTr) (w : World) (hA : NetAt w A1 n1 c1 A2 n2 c2 n) (hL : SlAt w 4 A3 n3 c3 (l.flatMap GTr.cells)) :
    Calls Try.prog 77 #[.agg #[.slice A1 n1 c1, .slice A2 n2 c2], .slice A3 n3 c3] w fun e w' => e = .returned (.int .i64 (trCode n l)) ∧ Gr w w' := by
  have HA := Lib.hid hA
  have HL := Lib.hid hL
  clear hA hL
  cases hnet : netOk n with
  | false =>
    rw [trCode_inv hnet]
    go_enter Try.func77, Try.ntmps77
    go_wp2_with fail
    refine (spIsNetwork_any _ _ _ _ _ _ n _ (HA.out.gr ((Gr.refl _).alloc _))).mono ?_
    rintro e w' ⟨rfl, hg1⟩
    go_wp2_with fail
    go_ret
    exact ⟨rfl, ((Gr.refl _).alloc _).trans hg1⟩
  | true =>
    have Hnet := Lib.hid hnet
    go_enter Try.func77, Try.ntmps77
    go_wp2_with fail
    refine (spIsNetwork_any _ _ _ _ _ _ n _ (HA.out.gr ((Gr.refl _).alloc _))).mono ?_
    rintro e w1 ⟨rfl, hg1⟩
    have b0 : w1.cell? ⟨w.heap.size, 0, none⟩ = some (.slice A1 n1 c1) := hg1.has (by simp [go_sem])
    have b1 : w1.cell? ⟨w.heap.size, 1, none⟩ = some (.slice A2 n2 c2) := hg1.has (by simp [go_sem])
    have hg0 : Gr w w1 := ((Gr.refl _).alloc _).trans hg1
    clear hg1
    go_wp2_with fail
    refine (l24List_any _ _ _ _ _ _ _ _ _ n l _ (HA.out.gr hg0) (HL.out.sl.gr hg0) HL.out.small).mono ?_
    rintro e w2 ⟨rfl, hg2⟩
    cases hok : trsOk n1 l with
    | false =>
      have Hok := Lib.hid hok
      go_wp2_with fail
      go_ret
      exact ⟨ret_int (trCode_lim Hnet.out (by rw [HA.out.l1]; exact Hok.out)).symm, hg0.trans hg2⟩
    | true =>
      have Hok := Lib.hid hok
      go_wp2_with fail
      go_ret
      exact ⟨ret_int (trCode_ok Hnet.out (by rw [HA.out.l1]; exact Hok.out)).symm, hg0.trans hg2⟩
def amountsRes (n : GNet) (l : List GTr) : List Int := if trCode n l = 0 then amounts l else []
theorem AmountsByClass_any {A1 A2 A3 : Option Addr} {n1 c1 n2 c2 n3 c3 : Nat} (n : GNet) (l : List GTr) (w : World) (hA : NetAt w A1 n1 c1 A2 n2 c2 n) (hL : SlAt w 4 A3 n3 c3 (l.flatMap GTr.cells)) :
    Calls Try.prog 31 #[.agg #[.slice A1 n1 c1, .slice A2 n2 c2], .slice A3 n3 c3] w fun e w' => ∃ A m c, e = .returned (.tuple #[.slice A m c, .int .i64 (trCode n l)]) ∧ m ≤ 1048576 ∧ w'.ownsRow w.heap.size 2 1 (.slice A m c) m (ints (amountsRes n l)) ∧ Gr w w' := by
  have HA := Lib.hid hA
  have HL := Lib.hid hL
  clear hA hL
  go_enter Try.func31, Try.ntmps31
  go_wp2_with fail
  refine (checkTransports_any _ _ _ _ _ _ _ _ _ n l _ (HA.out.gr ((Gr.refl _).alloc _)) (HL.out.sl.gr ((Gr.refl _).alloc _)) HL.out.small).mono ?_
  rintro e w1 ⟨rfl, hg1⟩
  have hg0 : Gr w w1 := ((Gr.refl _).alloc _).trans hg1
  by_cases hc : trCode n l = 0
  · have Hc := Lib.hid hc
    have tb : (trCode n l != 0) = false := by simp [hc]
    clear hc
    go_wp2_with fail
    refine (amountsByClass_any n.nodes.length l _ (HL.out.gr hg0) (trCode_zero Hc.out).2).mono ?_
    rintro e w2 ⟨A, m, c, rfl, hm, ho, hg2⟩
    have Ho := Lib.hid ho
    clear ho
    go_wp2_with fail
    go_ret2
    refine ⟨A, m, c, by rw [Hc.out]; rfl, hm, ?_, hg0.trans hg2⟩
    rw [amountsRes, if_pos Hc.out]
    exact own_base Ho.out hg0.size
  · have Hc := Lib.hid hc
    have tb : (trCode n l != 0) = true := by simp [hc]
    clear hc
    go_wp2_with fail
    go_ret2
    refine ⟨none, 0, 0, rfl, by omega, ?_, hg0⟩
    rw [amountsRes, if_neg Hc.out]
    exact World.ownsRow_nil _ _ _ _
theorem spAmountsByClass_any {A1 A2 A3 : Option Addr} {n1 c1 n2 c2 n3 c3 : Nat} (n : GNet) (l : List GTr) (w : World) (hA : NetAt w A1 n1 c1 A2 n2 c2 n) (hL : SlAt w 4 A3 n3 c3 (l.flatMap GTr.cells)) :
    Calls Try.prog 30 #[.agg #[.slice A1 n1 c1, .slice A2 n2 c2], .slice A3 n3 c3] w fun e w' => ∃ A m c, e = .returned (.tuple #[.slice A m c, .int .i64 (trCode n l)]) ∧ m ≤ 1048576 ∧ w'.ownsRow w.heap.size 2 1 (.slice A m c) m (ints (amountsRes n l)) ∧ Gr w w' := by
  obtain ⟨i0, hi0, hz0, hz1, hz2⟩ := info_parts infoInt64
  have HA := Lib.hid hA
  have hm3 := hL.small
  have hlen := hL.sl.len GTr.cells_len (by omega)
  have Hlen := Lib.hid hlen
  have HL := Lib.hid hL
  clear hA hL hlen
  go_enter Try.func30, Try.ntmps30
  go_wp2_with fail
  refine (l24Code_any n l _ (HA.out.gr ((Gr.refl _).alloc _)) (HL.out.gr ((Gr.refl _).alloc _))).mono ?_
  rintro e w0 ⟨rfl, hg1⟩
  have hg0 : Gr w w0 := ((Gr.refl _).alloc _).trans hg1
  by_cases hc : trCode n l = 0
  · have Hc := Lib.hid hc
    have Hok := Lib.hid (trCode_zero hc).2
    have tb : (trCode n l != 0) = false := by simp [hc]
    clear hc
    go_wp2_with (at_make; refine wpList_make_full _ rfl _ _ _ rfl w.heap.size 2 i0 _ 1 Try.underlying49 hi0 hz0 hz1 .i64 .i64 _ _ 4 rfl rfl rfl rfl (by rw [hz2]; omega) (by unfold maxLen; omega) hg0.size ?_; intro w1 hown hg)
    have hg' : Gr w w1 := hg0.trans (Gr.of_grown hg)
    have ez : (madeCells (Value.int .i64 0).cells (4 * 1)).toList = ints ((l.take 0).foldl amtStep (List.replicate 4 0)) := made_ints 4
    have hz0' := hg0.size
    rw [ez] at hown
    clear ez hg hi0 hz0 hz1 hz2
    obtain ⟨g, hgg⟩ : ∃ g, g = w0.heap.size := ⟨_, rfl⟩
    rw [← hgg] at hown hz0' ⊢
    clear hgg
    go_loopw [8] (fun i wr => ∃ k : Nat, k ≤ n3 ∧ i = .int .i64 k ∧ wr.ownsRow w.heap.size 2 1 (.slice (some ⟨g, 0, none⟩) 4 4) 4 (ints ((l.take k).foldl amtStep (List.replicate 4 0))) ∧ Gr w wr) (fun i _ => n3 - (intOf i).toNat)
    case atStart => exact ⟨0, Nat.zero_le _, rfl, hown, hg'⟩
    case round =>
      obtain ⟨k, hk, rfl, hownr, hgr⟩ := hrel
      clear hown hg'
      by_cases hlt : k < n3
      · obtain ⟨x, hx⟩ : ∃ x, l[k]? = some x := ⟨_, List.getElem?_eq_getElem (by have := Hlen.out; omega)⟩
        obtain ⟨b, o, rfl, hb, e0, e1, e2, e3⟩ := (HL.out.sl.gr hgr).tr hx
        obtain ⟨_, _, _, p4, p5⟩ := trOk_all ((trsOk_all Hok.out).2 k x hx)
        have hat := amt_at Hok.out k
        obtain ⟨a1, a2⟩ := hat
        obtain ⟨acc, hacc⟩ : ∃ acc, acc = (l.take k).foldl amtStep (List.replicate 4 0) := ⟨_, rfl⟩
        rw [← hacc] at hownr a1 a2
        have hstep := foldl_take_succ amtStep (List.replicate 4 0) l k x hx
        rw [← hacc] at hstep
        have hv := a2.getD (by omega) x.cls.toNat
        have hget := get_of_lt (l := acc) (k := x.cls.toNat) (by omega)
        obtain ⟨v, hvv⟩ : ∃ v, v = acc.getD x.cls.toNat 0 := ⟨_, rfl⟩
        rw [← hvv] at hv hget
        have s1 : 0 ≤ x.cls := p5.1
        have s2 : x.cls < 4 := by omega
        have s3 : -960000 ≤ v + x.amount := by omega
        have s4 : v + x.amount ≤ 1000000 := by omega
        have eR : acc.set x.cls.toNat (v + x.amount) = (l.take (k + 1)).foldl amtStep (List.replicate 4 0) := by rw [hstep, hvv]; rfl
        obtain ⟨d0, f0⟩ := own_int hownr hget
        have R := own_set_int hownr x.cls.toNat (v + x.amount)
        rw [eR] at R
        have HR := Lib.hid R
        have t1 : (k : Int) < (n3 : Int) := by omega
        have t0 : (0 : Int) ≤ (k : Int) := by omega
        clear hx hownr eR hstep hacc hvv hget a1 a2 p5 R
        go_wp2_with fail
        have hwr : IntKind.i64.wrap (v + x.amount) = v + x.amount := IntWalk.i64_in _ (by omega)
        refine wp_region_last (fun w' => w' = wr.drew) (fun w' => w' = (wr.setCell ⟨g, x.cls.toNat, none⟩ (.int .i64 (v + x.amount))).drew) (by kernel_rfl) (by kernel_rfl) (by decide) rfl ?_
        repeat (first
            | ((with_reducible refine wpText_skip ?_ ?_)
               · rfl
               simp only [Act.put, List.setIfInBounds_toArray, List.set_cons_zero, List.set_cons_succ])
            | ((with_reducible refine wpText_yield (v := ?_) ?_ ?_ ?_)
               rotate_left
               · rfl
               · intro W hW; first | (go_simp; done) | (go_simp; with_reducible rfl)
               simp only [Act.put, List.setIfInBounds_toArray, List.set_cons_zero, List.set_cons_succ])
            | ((with_reducible refine wpText_yield1 (v := ?_) ?_ ?_ ?_)
               rotate_left
               · rfl
               · intro W hW; first | (go_simp; done) | (go_simp; with_reducible rfl)
               simp only [Act.put, List.setIfInBounds_toArray, List.set_cons_zero, List.set_cons_succ]))
        (first
            | ((with_reducible refine wpText_do1 undef ?_ ?_ ?_)
               · rfl
               · intro W hW K hK
                 subst hW
                 go_simp
                 exact hK _ rfl
               simp only [Act.put]))
        rintro w3 rfl
        clear hwr
        go_wp2_with fail
        go_roundw
        case rel => exact ⟨k + 1, by omega, by go_num, HR.out.1.drew, (hgr.grown HR.out.2 (fun _ e => by injection e with e; omega)).drew⟩
        case measure => simp [intOf]; omega
      · obtain rfl : k = n3 := by omega
        have Hownr := Lib.hid hownr
        clear hownr
        go_wp2_with fail
        go_ret2
        refine ⟨_, _, _, by rw [Hc.out]; rfl, by omega, ?_, hgr⟩
        have e : l.take k = l := List.take_of_length_le (by have := Hlen.out; omega)
        have h := Hownr.out
        rw [e] at h
        rw [amountsRes, if_pos Hc.out]
        exact h
  · have Hc := Lib.hid hc
    have tb : (trCode n l != 0) = true := by simp [hc]
    clear hc
    go_wp2_with fail
    go_ret2
    refine ⟨none, 0, 0, rfl, by omega, ?_, hg0⟩
    rw [amountsRes, if_neg Hc.out]
    exact World.ownsRow_nil _ _ _ _
end Go.Proofs.Ytdoidehlklkfaaa
