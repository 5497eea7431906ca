import Derived.Test.YtelhmfgfjlpkaaaTrs
/-
  The supplies of transports: the program and the reference. Printed by gen_sup.py.
-/
namespace Go.Proofs.Ytelhmfgfjlpkaaa
open Go.ChangeShapes Go.WideShapes Go.ChangeAt Go.RowKit

theorem allWithin_any {A : Option Addr} {n c : Nat} (zs : List Int) (lo hi : Int) (w : World) (hL : SlAt w 1 A n c (ints zs)) :
    Calls Try.prog 74 #[.slice A n c, .int .i64 lo, .int .i64 hi] w fun e w' => e = .returned (.bool (zs.all fun z => inB lo z hi)) ∧ w = w' := by
  have hlen := hL.sl.ilen
  have Hlen := Lib.hid hlen
  have hm := hL.small
  have HL := Lib.hid hL
  clear hL hlen
  go_enter Try.func74, Try.ntmps74
  go_wp2_with fail
  go_loop [11] (fun i => ∃ k : Nat, k ≤ n ∧ i = .int .i64 k ∧ ∀ m, m < k → ∀ y, zs[m]? = some y → inB lo y hi = true) (fun i => n - (intOf i).toNat)
  case atStart => exact ⟨0, Nat.zero_le _, rfl, fun j h => absurd h (by omega)⟩
  case round =>
    obtain ⟨k, hk, rfl, hno⟩ := hrel
    have Hno := Lib.hid hno
    clear hno
    by_cases hlt : k < n
    · obtain ⟨x, hx⟩ : ∃ x, zs[k]? = some x := ⟨_, List.getElem?_eq_getElem (by have := Hlen.out; omega)⟩
      obtain ⟨b, o, rfl, hb, e0⟩ := HL.out.sl.int hx
      have Hx := Lib.hid hx
      clear hx
      go_wp2_with fail
      refine (within_any _ _ _ _).mono ?_
      rintro e w' ⟨rfl, rfl⟩
      cases hok : inB lo x hi with
      | true =>
        have Hokx := Lib.hid hok
        go_wp2_with fail
        go_round
        case rel => exact ⟨k + 1, by omega, by go_num, all_step (p := fun z => inB lo z hi) Hx.out Hokx.out Hno.out⟩
        case measure => simp [intOf]; omega
      | false =>
        have Hokx := Lib.hid hok
        go_wp2_with fail
        go_ret
        exact ⟨ret_bool (all_not (p := fun z => inB lo z hi) Hx.out Hokx.out).symm, rfl⟩
    · obtain rfl : k = n := by omega
      go_wp2_with fail
      go_ret
      exact ⟨ret_bool (all_of (p := fun z => inB lo z hi) (by rw [Hlen.out]; exact Hno.out)).symm, rfl⟩
def supOk (nn : Nat) (zs : List Int) : Bool := decide (zs.length = nn) && zs.all fun z => inB (-30000) z 30000
theorem areSupplies_any {A1 A2 A : Option Addr} {n1 c1 n2 c2 m c : Nat} (zs : List Int) (w : World) (hL : SlAt w 1 A m c (ints zs)) (hm1 : n1 ≤ 1048576) :
    Calls Try.prog 35 #[.agg #[.slice A1 n1 c1, .slice A2 n2 c2], .slice A m c] w fun e w' => e = .returned (.bool (supOk n1 zs)) ∧ Gr w w' := by
  have hlen := hL.sl.ilen
  have Hlen := Lib.hid hlen
  have hm := hL.small
  have HL := Lib.hid hL
  clear hL hlen
  by_cases h : m = n1
  · subst h
    go_enter Try.func35, Try.ntmps35
    go_wp2_with fail
    refine (allWithin_any zs _ _ _ (HL.out.gr ((Gr.refl _).alloc _))).mono ?_
    rintro e w1 ⟨rfl, rfl⟩
    go_wp2_with fail
    go_ret
    exact ⟨ret_bool (by simp [supOk, Hlen.out]), (Gr.refl _).alloc _⟩
  · have t : ((m : Int) == (n1 : Int)) = false := by simp; omega
    go_enter Try.func35, Try.ntmps35
    go_wp2_with fail
    go_ret
    exact ⟨ret_bool (by simp [supOk, Hlen.out, h]), (Gr.refl _).alloc _⟩
theorem l06Supply_any (z : Int) (w : World) : Calls Try.prog 103 #[.int .i64 z] w fun e w' => e = .returned (.bool (inB (-30000) z 30000)) ∧ w = w' := by
  go_enter Try.func103, Try.ntmps103
  go_wp2_with (go_at_call 43; refine (l01In_any _ _ _ _).mono ?_; rintro e w' ⟨rfl, rfl⟩)
  go_ret
  exact ⟨rfl, rfl⟩
theorem l06List_any {A1 A2 A : Option Addr} {n1 c1 n2 c2 m c : Nat} (zs : List Int) (w : World) (hL : SlAt w 1 A m c (ints zs)) (_hm1 : n1 ≤ 1048576) :
    Calls Try.prog 81 #[.agg #[.slice A1 n1 c1, .slice A2 n2 c2], .slice A m c] w fun e w' => e = .returned (.bool (supOk n1 zs)) ∧ Gr w w' := by
  have hlen := hL.sl.ilen
  have Hlen := Lib.hid hlen
  have hm := hL.small
  have HL := Lib.hid (hL.gr ((Gr.refl _).alloc (.cells #[.slice A1 n1 c1, .slice A2 n2 c2] 27)))
  clear hL hlen
  go_enter Try.func81, Try.ntmps81
  go_wp2_with fail
  obtain ⟨w0, hw0⟩ : ∃ w0, w0 = w.alloc (.cells #[.slice A1 n1 c1, .slice A2 n2 c2] 27) := ⟨_, rfl⟩
  have hg0 : Gr w w0 := by rw [hw0]; exact (Gr.refl _).alloc _
  have b0 : w0.cell? ⟨w.heap.size, 0, none⟩ = some (.slice A1 n1 c1) := by rw [hw0]; simp [go_sem]
  rw [← hw0] at HL ⊢
  clear hw0
  go_loop [5] (fun i => ∃ k : Nat, k ≤ m ∧ i = .int .i64 k ∧ ∀ q, q < k → ∀ y, zs[q]? = some y → inB (-30000) y 30000 = true) (fun i => m - (intOf i).toNat)
  case atStart => exact ⟨0, Nat.zero_le _, rfl, fun j h => absurd h (by omega)⟩
  case round =>
    obtain ⟨k, hk, rfl, hno⟩ := hrel
    have Hno := Lib.hid hno
    clear hno
    by_cases hlt : k < m
    · obtain ⟨x, hx⟩ : ∃ x, zs[k]? = some x := ⟨_, List.getElem?_eq_getElem (by have := Hlen.out; omega)⟩
      obtain ⟨b, o, rfl, hb, e0⟩ := HL.out.sl.int hx
      have Hx := Lib.hid hx
      clear hx
      go_wp2_with fail
      refine (l06Supply_any _ _).mono ?_
      rintro e w' ⟨rfl, rfl⟩
      cases hok : inB (-30000) x 30000 with
      | true =>
        have Hokx := Lib.hid hok
        go_wp2_with fail
        go_round
        case rel => exact ⟨k + 1, by omega, by go_num, all_step (p := fun z => inB (-30000) z 30000) Hx.out Hokx.out Hno.out⟩
        case measure => simp [intOf]; omega
      | false =>
        have Hokx := Lib.hid hok
        go_wp2_with fail
        go_ret
        refine ⟨ret_bool ?_, hg0⟩
        have := all_not (p := fun z => inB (-30000) z 30000) Hx.out Hokx.out
        simp only [supOk, this, Bool.and_false]
    · obtain rfl : k = m := by omega
      have hall := all_of (p := fun z => inB (-30000) z 30000) (l := zs) (by rw [Hlen.out]; exact Hno.out)
      have Hall := Lib.hid hall
      clear hall
      go_wp2_with fail
      go_ret
      refine ⟨ret_bool ?_, hg0⟩
      rw [supOk, Hall.out, Hlen.out, Bool.and_true]
      by_cases e : k = n1 <;> simp [e] <;> omega
set_option maxHeartbeats 1000000 in
set_option maxRecDepth 100000 in
theorem transportSupplies_any {A1 A2 A3 : Option Addr} {n1 c1 n2 c2 n3 c3 : Nat} (n : GNet) (l : List GTr) (w : World) (hA : NetAt w A1 n1 c1 A2 n2 c2 n) (hL : SlAt w 4 A3 n3 c3 (l.flatMap GTr.cells)) (hok : trsOk n1 l = true) :
    Calls Try.prog 34 #[.agg #[.slice A1 n1 c1, .slice A2 n2 c2], .slice A3 n3 c3] w fun e w' => ∃ A c, e = .returned (.slice A n1 c) ∧ w'.ownsRow w.heap.size 2 1 (.slice A n1 c) n1 (ints (supplies n1 l)) ∧ Gr w w' := by
  obtain ⟨i0, hi0, hz0, hz1, hz2⟩ := info_parts infoInt64
  have hm1 := hA.m1
  have hm3 := hL.small
  have hlen := hL.sl.len GTr.cells_len (by omega)
  have Hlen := Lib.hid hlen
  have HA := Lib.hid hA
  have HL := Lib.hid hL
  have Hok := Lib.hid hok
  clear hA hL hok hlen
  go_enter Try.func34, Try.ntmps34
  go_wp2_with (at_make; refine wpList_make_full _ rfl _ _ _ rfl w.heap.size 2 i0 _ 1 Try.underlying36 hi0 hz0 hz1 .i64 .i64 _ _ n1 rfl rfl rfl rfl (by rw [hz2]; omega) (by unfold maxLen; omega) (by simp) ?_; intro w0 hown hg)
  have hg0 : Gr w w0 := ((Gr.refl _).alloc _).trans (Gr.of_grown hg)
  have ez : (madeCells (Value.int .i64 0).cells (n1 * 1)).toList = ints ((l.take 0).foldl supStep (List.replicate n1 0)) := made_ints n1
  rw [ez] at hown
  have hlt0 : w.heap.size + 1 < w0.heap.size := by
    by_cases h0 : 0 < n1
    · have := (World.ownsRow.lt hown (w.heap.size + 1) (by simp [Value.ownBlock])).2
      exact this
    · have := (World.ownsRow.lt hown (w.heap.size + 1) (by simp [Value.ownBlock])).2
      exact this
  have eg : (w.alloc (.cells #[.slice A1 n1 c1, .slice A2 n2 c2] 27)).heap.size = w.heap.size + 1 := by simp
  rw [eg] at hown
  clear ez hg hi0 hz0 hz1 hz2 eg
  go_loopw [14] (fun i wr => ∃ k : Nat, k ≤ n3 ∧ i = .int .i64 k ∧ wr.ownsRow w.heap.size 2 1 (.slice (some ⟨w.heap.size + 1, 0, none⟩) n1 n1) n1 (ints ((l.take k).foldl supStep (List.replicate n1 0))) ∧ Gr w wr ∧ w0.heap.size ≤ wr.heap.size) (fun i _ => n3 - (intOf i).toNat)
  case atStart => exact ⟨0, Nat.zero_le _, rfl, hown, hg0, Nat.le_refl _⟩
  case round =>
    obtain ⟨k, hk, rfl, hownr, hgr, hsz⟩ := hrel
    clear hown
    by_cases hlt : k < n3
    · obtain ⟨x, hx⟩ : ∃ x, l[k]? = some x := ⟨_, List.getElem?_eq_getElem (by have := Hlen.out; omega)⟩
      obtain ⟨b, o, rfl, hb, e0, e1, e2, e3⟩ := HL.out.sl.tr hx
      replace e0 := hgr.has e0
      replace e1 := hgr.has e1
      replace e2 := hgr.has e2
      replace e3 := hgr.has e3
      obtain ⟨p1, p2, p3, p4, _⟩ := trOk_all ((trsOk_all Hok.out).2 k x hx)
      have hat := sup_at Hok.out n1 k
      obtain ⟨a1, a2⟩ := hat
      obtain ⟨acc, hacc⟩ : ∃ acc, acc = (l.take k).foldl supStep (List.replicate n1 0) := ⟨_, rfl⟩
      rw [← hacc] at hownr a1 a2
      have hstep := foldl_take_succ supStep (List.replicate n1 0) l k x hx
      rw [← hacc] at hstep
      have hv := a2.getD (by omega) x.entry.toNat
      have hget := get_of_lt (l := acc) (k := x.entry.toNat) (by omega)
      obtain ⟨v, hvv⟩ : ∃ v, v = acc.getD x.entry.toNat 0 := ⟨_, rfl⟩
      rw [← hvv] at hv hget
      obtain ⟨acc1, hacc1⟩ : ∃ acc1, acc1 = acc.set x.entry.toNat (v + x.amount) := ⟨_, rfl⟩
      have b2 : Bnd 1950000 acc1 := by
        have := a2.addAt (d := x.amount) (D := 30000) (by omega) (by omega) x.entry.toNat
        rw [hacc1, hvv]; exact this
      have b1 : acc1.length = n1 := by rw [hacc1]; simp [a1]
      have hv1 := b2.getD (by omega) x.exit.toNat
      have hget1 := get_of_lt (l := acc1) (k := x.exit.toNat) (by omega)
      obtain ⟨v1, hvv1⟩ : ∃ v1, v1 = acc1.getD x.exit.toNat 0 := ⟨_, rfl⟩
      rw [← hvv1] at hv1 hget1
      have s1 : 0 ≤ x.entry := p1.1
      have s2 : x.entry < (n1 : Int) := by omega
      have s1' : 0 ≤ x.exit := p2.1
      have s2' : x.exit < (n1 : Int) := by omega
      have eR : acc1.set x.exit.toNat (v1 - x.amount) = (l.take (k + 1)).foldl supStep (List.replicate n1 0) := by
        rw [hstep, Int.sub_eq_add_neg, hvv1, hacc1, hvv]; rfl
      have HeR := Lib.hid eR
      have Hacc1 := Lib.hid hacc1
      have Hown := Lib.hid hownr
      have Hget := Lib.hid hget
      have Hget1 := Lib.hid hget1
      have t1 : (k : Int) < (n3 : Int) := by omega
      have t0 : (0 : Int) ≤ (k : Int) := by omega
      clear hx hownr eR hstep hacc hvv hget a1 a2 b1 b2 hvv1 hacc1 hget1 p1 p2 p3
      go_wp2_with fail
      obtain ⟨w2, hw2⟩ : ∃ w2, w2 = wr.alloc (.cells #[.int .i64 x.entry, .int .i64 x.exit, .int .i64 x.amount, .int .i64 x.cls] 63) := ⟨_, rfl⟩
      have hg2 : Gr wr w2 := by rw [hw2]; exact (Gr.refl _).alloc _
      have y0 : w2.cell? ⟨wr.heap.size, 0, none⟩ = some (.int .i64 x.entry) := by rw [hw2]; simp [go_sem]
      have y1 : w2.cell? ⟨wr.heap.size, 1, none⟩ = some (.int .i64 x.exit) := by rw [hw2]; simp [go_sem]
      have y2 : w2.cell? ⟨wr.heap.size, 2, none⟩ = some (.int .i64 x.amount) := by rw [hw2]; simp [go_sem]
      rw [← hw2]
      clear hw2 e0 e1 e2 e3
      have hgz := hgr.size
      have hown2 := own_gr Hown.out hg2
      obtain ⟨d0, f0⟩ := own_int hown2 Hget.out
      have R := own_set_int hown2 x.entry.toNat (v + x.amount)
      rw [← Hacc1.out] at R
      have HR := Lib.hid R
      clear R hown2
      have hwr : IntKind.i64.wrap (v + x.amount) = v + x.amount := IntWalk.i64_in _ (by omega)
      refine wp_region_last (fun w' => w' = w2.drew) (fun w' => w' = (w2.setCell ⟨w.heap.size + 1, x.entry.toNat, none⟩ (.int .i64 (v + x.amount))).drew) (by kernel_rfl) (by kernel_rfl) (by decide) rfl ?_
      repeat (first
            | ((with_reducible refine wpText_skip ?_ ?_)
               · rfl
               simp only [Act.put, List.setIfInBounds_toArray, List.set_cons_zero, List.set_cons_succ])
            | ((with_reducible refine wpText_yield (v := ?_) ?_ ?_ ?_)
               rotate_left
               · rfl
               · intro W hW; first | (go_simp; done) | (go_simp; with_reducible rfl)
               simp only [Act.put, List.setIfInBounds_toArray, List.set_cons_zero, List.set_cons_succ])
            | ((with_reducible refine wpText_yield1 (v := ?_) ?_ ?_ ?_)
               rotate_left
               · rfl
               · intro W hW; first | (go_simp; done) | (go_simp; with_reducible rfl)
               simp only [Act.put, List.setIfInBounds_toArray, List.set_cons_zero, List.set_cons_succ]))
      (first
            | ((with_reducible refine wpText_do1 undef ?_ ?_ ?_)
               · rfl
               · intro W hW K hK
                 subst hW
                 go_simp
                 exact hK _ rfl
               simp only [Act.put]))
      rintro w3 rfl
      clear hwr d0 f0

      obtain ⟨w4, hw4⟩ : ∃ w4, w4 = (w2.setCell ⟨w.heap.size + 1, x.entry.toNat, none⟩ (.int .i64 (v + x.amount))).drew := ⟨_, rfl⟩
      have hown4 : w4.ownsRow w.heap.size 2 1 (.slice (some ⟨w.heap.size + 1, 0, none⟩) n1 n1) n1 (ints acc1) := by rw [hw4]; exact HR.out.1.drew
      have hgr4 : w2.grownBy w4 (some (w.heap.size + 1)) := by rw [hw4]; exact ⟨HR.out.2.os, HR.out.2.tape, HR.out.2.output, HR.out.2.size, HR.out.2.block⟩
      have y04 : w4.cell? ⟨wr.heap.size, 0, none⟩ = some (.int .i64 x.entry) := hgr4.cell y0 (by simp only [ne_eq, Option.some.injEq]; omega)
      have y14 : w4.cell? ⟨wr.heap.size, 1, none⟩ = some (.int .i64 x.exit) := hgr4.cell y1 (by simp only [ne_eq, Option.some.injEq]; omega)
      have y24 : w4.cell? ⟨wr.heap.size, 2, none⟩ = some (.int .i64 x.amount) := hgr4.cell y2 (by simp only [ne_eq, Option.some.injEq]; omega)
      go_wp2_with fail
      rw [← hw4]
      clear hw4 HR
      obtain ⟨d1, f1⟩ := own_int hown4 Hget1.out
      have R := own_set_int hown4 x.exit.toNat (v1 - x.amount)
      rw [HeR.out] at R
      have HR := Lib.hid R
      have Hgr4 := Lib.hid hgr4
      clear R hown4 hgr4
      have hwr : IntKind.i64.wrap (v1 - x.amount) = v1 - x.amount := IntWalk.i64_in _ (by omega)
      refine wp_region_last (fun w' => w' = w4.drew) (fun w' => w' = (w4.setCell ⟨w.heap.size + 1, x.exit.toNat, none⟩ (.int .i64 (v1 - x.amount))).drew) (by kernel_rfl) (by kernel_rfl) (by decide) rfl ?_
      repeat (first
            | ((with_reducible refine wpText_skip ?_ ?_)
               · rfl
               simp only [Act.put, List.setIfInBounds_toArray, List.set_cons_zero, List.set_cons_succ])
            | ((with_reducible refine wpText_yield (v := ?_) ?_ ?_ ?_)
               rotate_left
               · rfl
               · intro W hW; first | (go_simp; done) | (go_simp; with_reducible rfl)
               simp only [Act.put, List.setIfInBounds_toArray, List.set_cons_zero, List.set_cons_succ])
            | ((with_reducible refine wpText_yield1 (v := ?_) ?_ ?_ ?_)
               rotate_left
               · rfl
               · intro W hW; first | (go_simp; done) | (go_simp; with_reducible rfl)
               simp only [Act.put, List.setIfInBounds_toArray, List.set_cons_zero, List.set_cons_succ]))
      (first
            | ((with_reducible refine wpText_do1 undef ?_ ?_ ?_)
               · rfl
               · intro W hW K hK
                 subst hW
                 go_simp
                 exact hK _ rfl
               simp only [Act.put]))
      rintro w5 rfl
      clear hwr
      go_wp2_with fail
      go_roundw
      case rel => exact ⟨k + 1, by omega, by go_num, HR.out.1.drew, (((hgr.trans hg2).grown Hgr4.out (fun _ e => by injection e with e; omega)).grown HR.out.2 (fun _ e => by injection e with e; omega)).drew, by have a := hg2.size; have b := Hgr4.out.size; have c := HR.out.2.size; simp at c; simp; omega⟩
      case measure => simp [intOf]; omega
    · obtain rfl : k = n3 := by omega
      have Hownr := Lib.hid hownr
      clear hownr
      go_wp2_with fail
      go_ret
      refine ⟨_, _, rfl, ?_, hgr⟩
      have e : l.take k = l := List.take_of_length_le (by have := Hlen.out; omega)
      have h := Hownr.out
      rw [e] at h
      exact h

end Go.Proofs.Ytelhmfgfjlpkaaa
/-
  TransportSupplies: the program and the reference. Printed by gen_sup2.py.
-/
namespace Go.Proofs.Ytelhmfgfjlpkaaa
open Go.ChangeShapes Go.WideShapes Go.ChangeAt Go.RowKit

def supCode (n : GNet) (l : List GTr) : Int := if trCode n l = 0 then (if supOk n.nodes.length (supplies n.nodes.length l) then 0 else 7) else trCode n l
def supRes (n : GNet) (l : List GTr) : List Int := if supCode n l = 0 then supplies n.nodes.length l else []
theorem TransportSupplies_any {A1 A2 A3 : Option Addr} {n1 c1 n2 c2 n3 c3 : Nat} (n : GNet) (l : List GTr) (w : World) (hA : NetAt w A1 n1 c1 A2 n2 c2 n) (hL : SlAt w 4 A3 n3 c3 (l.flatMap GTr.cells)) :
    Calls Try.prog 11 #[.agg #[.slice A1 n1 c1, .slice A2 n2 c2], .slice A3 n3 c3] w fun e w' => ∃ A m c, e = .returned (.tuple #[.slice A m c, .int .i64 (supCode n l)]) ∧ m ≤ 1048576 ∧ w'.ownsRow w.heap.size 2 1 (.slice A m c) m (ints (supRes n l)) ∧ Gr w w' := by
  have hm1 := hA.m1
  have HA := Lib.hid hA
  have HL := Lib.hid hL
  clear hA hL
  go_enter Try.func11, Try.ntmps11
  go_wp2_with fail
  refine (checkTransports_any _ _ _ _ _ _ _ _ _ n l _ (HA.out.gr ((Gr.refl _).alloc _)) (HL.out.sl.gr ((Gr.refl _).alloc _)) HL.out.small).mono ?_
  rintro e w1 ⟨rfl, hg1⟩
  have hg0 : Gr w w1 := ((Gr.refl _).alloc _).trans hg1
  have b0 : w1.cell? ⟨w.heap.size, 0, none⟩ = some (.slice A1 n1 c1) := hg1.has (by simp [go_sem])
  have b1 : w1.cell? ⟨w.heap.size, 1, none⟩ = some (.slice A2 n2 c2) := hg1.has (by simp [go_sem])
  by_cases hc : trCode n l = 0
  · have Hc := Lib.hid hc
    have tb : (trCode n l != 0) = false := by simp [hc]
    clear hc
    go_wp2_with fail
    refine (transportSupplies_any n l _ (HA.out.gr hg0) (HL.out.gr hg0) (by rw [← HA.out.l1]; exact (trCode_zero Hc.out).2)).mono ?_
    rintro e w2 ⟨A, c, rfl, ho, hg2⟩
    have Ho := Lib.hid ho
    clear ho
    have b0 := hg2.has b0
    have b1 := hg2.has b1
    go_wp2_with fail
    refine (areSupplies_any (supplies n1 l) _ (SlAt.of_own Ho.out hm1) hm1).mono ?_
    rintro e w3 ⟨rfl, hg3⟩
    have hgw : Gr w w3 := (hg0.trans hg2).trans hg3
    cases hs : supOk n1 (supplies n1 l) with
    | true =>
      have Hs := Lib.hid hs
      go_wp2_with fail
      go_ret2
      have e : supCode n l = 0 := by rw [supCode, if_pos Hc.out, HA.out.l1, if_pos Hs.out]
      refine ⟨A, n1, c, by rw [e]; rfl, hm1, ?_, hgw⟩
      rw [supRes, if_pos e, HA.out.l1]
      exact own_gr (own_base Ho.out hg0.size) hg3
    | false =>
      have Hs := Lib.hid hs
      go_wp2_with fail
      go_ret2
      have e : supCode n l = 7 := by rw [supCode, if_pos Hc.out, HA.out.l1, if_neg (by simp [Hs.out])]
      refine ⟨none, 0, 0, by rw [e]; rfl, by omega, ?_, hgw⟩
      rw [supRes, if_neg (by rw [e]; decide)]
      exact World.ownsRow_nil _ _ _ _
  · have Hc := Lib.hid hc
    have tb : (trCode n l != 0) = true := by simp [hc]
    clear hc
    go_wp2_with fail
    go_ret2
    have e : supCode n l = trCode n l := by rw [supCode, if_neg Hc.out]
    refine ⟨none, 0, 0, by rw [e]; rfl, by omega, ?_, hg0⟩
    rw [supRes, if_neg (by rw [e]; exact Hc.out)]
    exact World.ownsRow_nil _ _ _ _

end Go.Proofs.Ytelhmfgfjlpkaaa
