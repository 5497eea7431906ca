/-
  Supplies of nominations: the program. Printed by gen_nom7.py.
-/
import Derived.Test.YtelhmfgfjlpkaaaNom6
import Derived.Test.YtelhmfgfjlpkaaaText
import Derived.Test.YtelhmfgfjlpkaaaSups
import Derived.Deep.RegionHeld3
import Derived.Deep.CutRange
set_option linter.unusedSimpArgs false
set_option linter.unusedVariables false
namespace Go.Proofs.Ytelhmfgfjlpkaaa
open Go.ChangeShapes Go.WideShapes Go.ChangeAt Go.RowKit

set_option maxHeartbeats 6400000 in
set_option maxRecDepth 100000 in
theorem NominatedSupplies_any {A1 A2 A3 A4 : Option Addr} {n1 c1 n2 c2 n3 c3 n4 c4 : Nat} (n : GNet) (bk : List GCon) (l : List GNom) (h : Int) (w : World) (hA : NetAt w A1 n1 c1 A2 n2 c2 n) (hB : SlAt w 8 A3 n3 c3 (bk.flatMap GCon.cells)) (hL : SlAt w 4 A4 n4 c4 (l.flatMap GNom.cells)) :
    Calls Try.prog 12 #[.agg #[.slice A1 n1 c1, .slice A2 n2 c2], .slice A3 n3 c3, .slice A4 n4 c4, .int .i64 h] w fun e w' => ∃ A m c, e = .returned (.tuple #[.slice A m c, .int .i64 (nsCode n bk l h)]) ∧ m ≤ 1048576 ∧ w'.ownsRow w.heap.size 2 1 (.slice A m c) m (ints (nsRes n bk l h)) ∧ Gr w w' := by
  obtain ⟨i0, hi0, hz0, hz1, hz2⟩ := info_parts infoInt64
  have hm1 := hA.m1
  have hm3 := hB.small
  have hl3 := hB.sl.len GCon.cells_len (by omega)
  have Hl3 := Lib.hid hl3
  have HA := Lib.hid hA
  have HB := Lib.hid hB
  have HL := Lib.hid hL
  clear hA hB hL hl3
  go_enter Try.func12, Try.ntmps12
  go_wp2_with fail
  refine (AmountsIn_any n bk l h _ (HA.out.gr ((Gr.refl _).alloc _)) (HB.out.gr ((Gr.refl _).alloc _)) (HL.out.gr ((Gr.refl _).alloc _))).mono ?_
  rintro e w1 ⟨A5, n5, c5, rfl, hm5, ho5, hg1⟩
  have hg0 : Gr w w1 := ((Gr.refl _).alloc _).trans hg1
  have b0 : w1.cell? ⟨w.heap.size, 0, none⟩ = some (.slice A1 n1 c1) := hg1.has (by simp [go_sem])
  have b1 : w1.cell? ⟨w.heap.size, 1, none⟩ = some (.slice A2 n2 c2) := hg1.has (by simp [go_sem])
  have Ho5 := Lib.hid ho5
  clear hg1 ho5
  by_cases hc : amCode n bk l h = 0
  case neg =>
    have Hc := Lib.hid hc
    have tb : (amCode n bk l h != 0) = true := by simp [hc]
    have He := Lib.hid (show nsCode n bk l h = amCode n bk l h by rw [nsCode, if_neg hc])
    clear hc b0 b1
    go_wp2_with fail
    go_ret2
    refine ⟨none, 0, 0, by rw [He.out]; rfl, by omega, ?_, hg0⟩
    rw [nsRes, if_neg (by rw [He.out]; exact Hc.out)]
    exact World.ownsRow_nil _ _ _ _
  have Hc := Lib.hid hc
  have tb : (amCode n bk l h != 0) = false := by simp [hc]
  have ear : amRes n bk l h = amL bk l h := by rw [amRes, if_pos hc]
  have hS := SlAt.of_own Ho5.out hm5
  rw [ear] at hS
  have hl5 : n5 = n3 := by rw [← hS.sl.ilen, amL, amTo_len]; exact Hl3.out
  have HS := Lib.hid hS
  obtain ⟨tl, htl⟩ : ∃ tl, tl = fnRes n bk l h := ⟨_, rfl⟩
  have hok : trsOk n1 tl = true := by rw [htl, ← HA.out.l1]; exact (trCode_zero (fn_ok hc).1).2
  have Hok := Lib.hid hok
  have Htl := Lib.hid htl
  have hgt : ∀ k, k < n5 → tl[k]? = some (fnAt bk (amL bk l h) k) := fun k hk => by rw [htl, fn_good hc]; exact fnTo_get (by rw [Hl3.out]; omega)
  have Hgt := Lib.hid hgt
  have Htn : Hid (tl.length = n5) := Lib.hid (by rw [htl, fn_good hc, fnTo_len, Hl3.out, hl5])
  clear hc ear hS Ho5 htl hok hgt
  subst hl5
  obtain ⟨g0, hg0e⟩ : ∃ g, g = w1.heap.size := ⟨_, rfl⟩
  go_wp2_with (at_make; refine wpList_make_full _ rfl _ _ _ rfl w1.heap.size 2 i0 _ 1 Try.underlying36 hi0 hz0 hz1 .i64 .i64 _ _ n1 rfl rfl rfl rfl (by rw [hz2]; omega) (by unfold maxLen; omega) (by simp) ?_; intro w0 hown hg)
  have hgm : Gr w1 w0 := Gr.of_grown hg
  have ez : (madeCells (Value.int .i64 0).cells (n1 * 1)).toList = ints ((tl.take 0).foldl supStep (List.replicate n1 0)) := made_ints n1
  rw [ez] at hown
  rw [← hg0e] at hown ⊢
  have hlt0 : g0 < w0.heap.size := (World.ownsRow.lt hown g0 (by simp [Value.ownBlock])).2
  have hwg : w.heap.size ≤ g0 := by rw [hg0e]; exact hg0.size
  have hb4g : ∀ b4, b4 < w1.heap.size → b4 < g0 := fun b4 h => by rw [hg0e]; exact h
  have Hb4g := Lib.hid hb4g
  have hgw0 := hg0.trans hgm
  have b0' := b0
  have b1' := b1
  have hgw1 := Gr.refl w1
  replace b0 := hgm.has b0
  replace b1 := hgm.has b1
  have HS0 := Lib.hid (HS.out.gr hgm)
  have Hg0e := Lib.hid hg0e
  have hgx : w1.heap.size ≤ g0 := by omega
  clear ez hg hi0 hz0 hz1 hz2 hg0e hb4g
  go_loopw [32] (fun i wr => ∃ k : Nat, k ≤ n5 ∧ i = .int .i64 k ∧ wr.ownsRow g0 2 1 (.slice (some ⟨g0, 0, none⟩) n1 n1) n1 (ints ((tl.take k).foldl supStep (List.replicate n1 0))) ∧ Gr w1 wr ∧ w0.heap.size ≤ wr.heap.size) (fun i _ => n5 - (intOf i).toNat)
  case atStart => exact ⟨0, Nat.zero_le _, rfl, hown, hgm, Nat.le_refl _⟩
  case round =>
    obtain ⟨k, hk, rfl, hownr, hgr, hsz⟩ := hrel
    clear hown
    by_cases hlt : k < n5
    · obtain ⟨y, hy⟩ : ∃ y, bk[k]? = some y := ⟨_, List.getElem?_eq_getElem (by have := Hl3.out; omega)⟩
      have hgy : bk.getD k GCon.d0 = y := by rw [List.getD_eq_getElem?_getD, hy]; rfl
      obtain ⟨b, o, rfl, hb, e0, e1, e2, e3, e4, e5, e6, e7⟩ := HB.out.sl.con hy
      replace e0 := (hg0.trans hgr).has e0; replace e1 := (hg0.trans hgr).has e1; replace e2 := (hg0.trans hgr).has e2; replace e3 := (hg0.trans hgr).has e3; replace e4 := (hg0.trans hgr).has e4; replace e5 := (hg0.trans hgr).has e5; replace e6 := (hg0.trans hgr).has e6; replace e7 := (hg0.trans hgr).has e7
      have hga := get_of_lt (l := amL bk l h) (k := k) (by rw [amL, amTo_len]; have := Hl3.out; omega)
      obtain ⟨x, hxe⟩ : ∃ x, x = fnAt bk (amL bk l h) k := ⟨_, rfl⟩
      have hx : tl[k]? = some x := by rw [hxe]; exact Hgt.out k hlt
      rw [fnAt, hgy] at hxe
      obtain ⟨b4, o4, rfl, hb4, r0⟩ := HS.out.sl.int hga
      replace r0 := hgr.has r0
      have hra : (amL bk l h).getD k 0 = x.amount := by rw [hxe]
      rw [hra] at r0
      have hb4' := Hb4g.out b4 hb4
      clear hy hgy hga hra hb4
      obtain ⟨p1, p2, p3, p4, _⟩ := trOk_all ((trsOk_all Hok.out).2 k x hx)
      have hat := sup_at Hok.out n1 k
      obtain ⟨a1, a2⟩ := hat
      obtain ⟨acc, hacc⟩ : ∃ acc, acc = (tl.take k).foldl supStep (List.replicate n1 0) := ⟨_, rfl⟩
      rw [← hacc] at hownr a1 a2
      have hstep := foldl_take_succ supStep (List.replicate n1 0) tl k x hx
      rw [← hacc] at hstep
      have hv := a2.getD (by omega) x.entry.toNat
      have hget := get_of_lt (l := acc) (k := x.entry.toNat) (by omega)
      obtain ⟨v, hvv⟩ : ∃ v, v = acc.getD x.entry.toNat 0 := ⟨_, rfl⟩
      rw [← hvv] at hv hget
      obtain ⟨acc1, hacc1⟩ : ∃ acc1, acc1 = acc.set x.entry.toNat (v + x.amount) := ⟨_, rfl⟩
      have b2 : Bnd 1950000 acc1 := by
        have := a2.addAt (d := x.amount) (D := 30000) (by omega) (by omega) x.entry.toNat
        rw [hacc1, hvv]; exact this
      have b1 : acc1.length = n1 := by rw [hacc1]; simp [a1]
      have hv1 := b2.getD (by omega) x.exit.toNat
      have hget1 := get_of_lt (l := acc1) (k := x.exit.toNat) (by omega)
      obtain ⟨v1, hvv1⟩ : ∃ v1, v1 = acc1.getD x.exit.toNat 0 := ⟨_, rfl⟩
      rw [← hvv1] at hv1 hget1
      have s1 : 0 ≤ x.entry := p1.1
      have s2 : x.entry < (n1 : Int) := by omega
      have s1' : 0 ≤ x.exit := p2.1
      have s2' : x.exit < (n1 : Int) := by omega
      have eR : acc1.set x.exit.toNat (v1 - x.amount) = (tl.take (k + 1)).foldl supStep (List.replicate n1 0) := by
        rw [hstep, Int.sub_eq_add_neg, hvv1, hacc1, hvv]; rfl
      have HeR := Lib.hid eR
      have Hacc1 := Lib.hid hacc1
      have Hown := Lib.hid hownr
      have Hget := Lib.hid hget
      have Hget1 := Lib.hid hget1
      have t1 : (k : Int) < (n5 : Int) := by omega
      have t0 : (0 : Int) ≤ (k : Int) := by omega
      clear hx hownr eR hstep hacc hvv hget a1 a2 b1 b2 hvv1 hacc1 hget1 p1 p2 p3
      go_upto_region 8 with fail
      obtain ⟨w2, hw2⟩ : ∃ w2, w2 = wr.alloc (.cells #[.int .i64 y.shipper, .int .i64 y.entry, .int .i64 y.exit, .int .i64 y.amount, .int .i64 y.cls, .int .i64 y.src, .int .i64 y.dst, .int .i64 y.price] 61) := ⟨_, rfl⟩
      have hg2 : Gr wr w2 := by rw [hw2]; exact (Gr.refl _).alloc _
      have y0 : w2.cell? ⟨wr.heap.size, 1, none⟩ = some (.int .i64 x.entry) := by rw [hw2, hxe]; simp [go_sem]
      have y1 : w2.cell? ⟨wr.heap.size, 2, none⟩ = some (.int .i64 x.exit) := by rw [hw2, hxe]; simp [go_sem]
      have y2 : w2.cell? ⟨b4, o4 + k, none⟩ = some (.int .i64 x.amount) := hg2.has r0
      rw [← hw2]
      clear hw2 r0 hxe e0 e1 e2 e3 e4 e5 e6 e7
      go_wp2_with fail
      have hgz := hgr.size
      have hown2 := own_gr Hown.out hg2
      obtain ⟨d0, f0⟩ := own_int hown2 Hget.out
      have R := own_set_int hown2 x.entry.toNat (v + x.amount)
      rw [← Hacc1.out] at R
      have HR := Lib.hid R
      clear R hown2
      have hwr : IntKind.i64.wrap (v + x.amount) = v + x.amount := IntWalk.i64_in _ (by omega)
      refine wp_region_last (fun w' => w' = w2.drew) (fun w' => w' = (w2.setCell ⟨g0, x.entry.toNat, none⟩ (.int .i64 (v + x.amount))).drew) (by kernel_rfl) (by kernel_rfl) (by decide) rfl ?_
      repeat (first
            | ((with_reducible refine wpText_skip ?_ ?_)
               · rfl
               simp only [Act.put, List.setIfInBounds_toArray, List.set_cons_zero, List.set_cons_succ])
            | ((with_reducible refine wpText_yield (v := ?_) ?_ ?_ ?_)
               rotate_left
               · rfl
               · intro W hW; first | (go_simp; done) | (go_simp; with_reducible rfl)
               simp only [Act.put, List.setIfInBounds_toArray, List.set_cons_zero, List.set_cons_succ])
            | ((with_reducible refine wpText_yield1 (v := ?_) ?_ ?_ ?_)
               rotate_left
               · rfl
               · intro W hW; first | (go_simp; done) | (go_simp; with_reducible rfl)
               simp only [Act.put, List.setIfInBounds_toArray, List.set_cons_zero, List.set_cons_succ]))
      (first
            | ((with_reducible refine wpText_do1 undef ?_ ?_ ?_)
               · rfl
               · intro W hW K hK
                 subst hW
                 go_simp
                 exact hK _ rfl
               simp only [Act.put]))
      rintro w3 rfl
      clear hwr d0 f0

      obtain ⟨w4, hw4⟩ : ∃ w4, w4 = (w2.setCell ⟨g0, x.entry.toNat, none⟩ (.int .i64 (v + x.amount))).drew := ⟨_, rfl⟩
      have hown4 : w4.ownsRow g0 2 1 (.slice (some ⟨g0, 0, none⟩) n1 n1) n1 (ints acc1) := by rw [hw4]; exact HR.out.1.drew
      have hgr4 : w2.grownBy w4 (some (g0)) := by rw [hw4]; exact ⟨HR.out.2.os, HR.out.2.tape, HR.out.2.output, HR.out.2.size, HR.out.2.block⟩
      have y04 : w4.cell? ⟨wr.heap.size, 1, none⟩ = some (.int .i64 x.entry) := hgr4.cell y0 (by simp only [ne_eq, Option.some.injEq]; omega)
      have y14 : w4.cell? ⟨wr.heap.size, 2, none⟩ = some (.int .i64 x.exit) := hgr4.cell y1 (by simp only [ne_eq, Option.some.injEq]; omega)
      have y24 : w4.cell? ⟨b4, o4 + k, none⟩ = some (.int .i64 x.amount) := hgr4.cell y2 (by simp only [ne_eq, Option.some.injEq]; omega)
      go_wp2_with fail
      rw [← hw4]
      clear hw4 HR
      obtain ⟨d1, f1⟩ := own_int hown4 Hget1.out
      have R := own_set_int hown4 x.exit.toNat (v1 - x.amount)
      rw [HeR.out] at R
      have HR := Lib.hid R
      have Hgr4 := Lib.hid hgr4
      clear R hown4 hgr4
      have hwr : IntKind.i64.wrap (v1 - x.amount) = v1 - x.amount := IntWalk.i64_in _ (by omega)
      refine wp_region_last (fun w' => w' = w4.drew) (fun w' => w' = (w4.setCell ⟨g0, x.exit.toNat, none⟩ (.int .i64 (v1 - x.amount))).drew) (by kernel_rfl) (by kernel_rfl) (by decide) rfl ?_
      repeat (first
            | ((with_reducible refine wpText_skip ?_ ?_)
               · rfl
               simp only [Act.put, List.setIfInBounds_toArray, List.set_cons_zero, List.set_cons_succ])
            | ((with_reducible refine wpText_yield (v := ?_) ?_ ?_ ?_)
               rotate_left
               · rfl
               · intro W hW; first | (go_simp; done) | (go_simp; with_reducible rfl)
               simp only [Act.put, List.setIfInBounds_toArray, List.set_cons_zero, List.set_cons_succ])
            | ((with_reducible refine wpText_yield1 (v := ?_) ?_ ?_ ?_)
               rotate_left
               · rfl
               · intro W hW; first | (go_simp; done) | (go_simp; with_reducible rfl)
               simp only [Act.put, List.setIfInBounds_toArray, List.set_cons_zero, List.set_cons_succ]))
      (first
            | ((with_reducible refine wpText_do1 undef ?_ ?_ ?_)
               · rfl
               · intro W hW K hK
                 subst hW
                 go_simp
                 exact hK _ rfl
               simp only [Act.put]))
      rintro w5 rfl
      clear hwr
      go_wp2_with fail
      go_roundw
      case rel => exact ⟨k + 1, by omega, by go_num, HR.out.1.drew, (((hgr.trans hg2).grown Hgr4.out (fun _ e => by injection e with e; omega)).grown HR.out.2 (fun _ e => by injection e with e; omega)).drew, by have a := hg2.size; have b := Hgr4.out.size; have c := HR.out.2.size; simp at c; simp; omega⟩
      case measure => simp [intOf]; omega
    · obtain rfl : k = n5 := by omega
      have Hownr := Lib.hid hownr
      clear hownr
      have hgw := hg0.trans hgr
      have et : tl.take k = tl := List.take_of_length_le (by have := Htn.out; omega)
      have hrow := Hownr.out
      rw [et] at hrow
      have Hrow := Lib.hid hrow
      have c0 := hgr.has (hgw1.has b0')
      have c1' := hgr.has (hgw1.has b1')
      clear hrow et Hownr
      go_wp2_with fail
      refine (areSupplies_any (supplies n1 tl) _ (SlAt.of_own Hrow.out hm1) hm1).mono ?_
      rintro e w9 ⟨rfl, hg9⟩
      cases hs : supOk n1 (supplies n1 tl) with
      | true =>
        have Hs := Lib.hid hs
        have He := Lib.hid (show nsCode n bk l h = 0 by rw [nsCode, if_pos Hc.out, HA.out.l1, ← Htl.out, if_pos hs])
        clear hs
        go_wp2_with fail
        go_ret2
        refine ⟨_, n1, _, by rw [He.out]; rfl, hm1, ?_, hgw.trans hg9⟩
        rw [nsRes, if_pos He.out, HA.out.l1, ← Htl.out]
        exact own_gr (own_base Hrow.out hwg) hg9
      | false =>
        have Hs := Lib.hid hs
        have He := Lib.hid (show nsCode n bk l h = 7 by rw [nsCode, if_pos Hc.out, HA.out.l1, ← Htl.out, if_neg (by simp [hs])])
        clear hs
        go_wp2_with fail
        go_ret2
        refine ⟨none, 0, 0, by rw [He.out]; rfl, by omega, ?_, hgw.trans hg9⟩
        rw [nsRes, if_neg (by rw [He.out]; decide)]
        exact World.ownsRow_nil _ _ _ _
end Go.Proofs.Ytelhmfgfjlpkaaa
