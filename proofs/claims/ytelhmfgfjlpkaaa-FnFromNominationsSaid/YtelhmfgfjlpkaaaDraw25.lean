/-
  Draws: nominations. Printed by gen_draw25.py.
-/
import Derived.Test.YtelhmfgfjlpkaaaDrawC
import Derived.Test.YtelhmfgfjlpkaaaDraw23
import Derived.Deep.Cut
import Derived.Deep.CutRange
set_option linter.unusedSimpArgs false
set_option linter.unusedVariables false
namespace Go.Proofs.Ytelhmfgfjlpkaaa
open Go.ChangeShapes Go.WideShapes Go.ChangeAt Go.RowKit

theorem list_end3 {α : Type} {f : α → List Value} {e e2 : TypeId} {sz sz2 : Nat} {w0 w w4 wz : World} {S R M : Nat} {A1 A2 A B : Option Addr} {n1 c1 n2 c2 u c m d : Nat} {xs : List Value} (hN : NetM w0 w w4 S R M A1 n1 c1 A2 n2 c2) (hl : w4.ownsRow (R + 1) e2 sz2 (.slice B m d) m xs) (q : RowSt f e sz w0 w4 wz S A u c) (hRw : w.heap.size ≤ R) (hRw0 : w0.heap.size ≤ R) (hSR : S < R) (hMR : R < M) :
    (wz.heap[M]? = some (.cells #[.slice A1 n1 c1, .slice A2 n2 c2] 27 (0, 0)) ∧ wz.heap[R]? = some (.cells #[.slice none 0 0, .slice none 0 0] 27 (0, 0))) ∧
    ((wz.setCell ⟨R, 0, none⟩ (.slice A1 n1 c1)).setCell ⟨R, 1, none⟩ (.slice A2 n2 c2)).heap[R]? = some (.cells #[.slice A1 n1 c1, .slice A2 n2 c2] 27 (0, 0)) ∧
    (∃ n, OwnNet ((wz.setCell ⟨R, 0, none⟩ (.slice A1 n1 c1)).setCell ⟨R, 1, none⟩ (.slice A2 n2 c2)) w.heap.size A1 n1 c1 A2 n2 c2 n) ∧
    (∃ ls : List α, ((wz.setCell ⟨R, 0, none⟩ (.slice A1 n1 c1)).setCell ⟨R, 1, none⟩ (.slice A2 n2 c2)).ownsRow w.heap.size e sz (.slice A u c) u (ls.flatMap f)) ∧
    ((wz.setCell ⟨R, 0, none⟩ (.slice A1 n1 c1)).setCell ⟨R, 1, none⟩ (.slice A2 n2 c2)).ownsRow w.heap.size e2 sz2 (.slice B m d) m xs ∧
    Drw w0 ((wz.setCell ⟨R, 0, none⟩ (.slice A1 n1 c1)).setCell ⟨R, 1, none⟩ (.slice A2 n2 c2)) S ∧ Chg (fun j => j = S) w ((wz.setCell ⟨R, 0, none⟩ (.slice A1 n1 c1)).setCell ⟨R, 1, none⟩ (.slice A2 n2 c2)) := by
  obtain ⟨a1, a2, a3, a4, a5, a6⟩ := list_end hN q hRw hRw0 hSR hMR
  have hcc : Chg (fun j => j = R) wz ((wz.setCell ⟨R, 0, none⟩ (.slice A1 n1 c1)).setCell ⟨R, 1, none⟩ (.slice A2 n2 c2)) := (chg_put _ _).trans (chg_put _ _)
  have h1 := own_chg hl q.ch (fun j hj e => by have := own_low hl hj; omega)
  exact ⟨a1, a2, a3, a4, own_base (own_chg h1 hcc (fun j hj e => by have := own_low hl hj; omega)) (by omega), a5, a6⟩
set_option maxHeartbeats 6400000 in
set_option maxRecDepth 100000 in
theorem l21Draw_any {w0 w : World} {S : Nat} (h : Drw w0 w S) :
    Calls Try.prog 95 #[.pointer (some ⟨S, 0, none⟩)] w fun e w' => ∃ A1 n1 c1 A2 n2 c2 n A3 n3 c3, ∃ bk : List {y : GCon // DrB y}, ∃ A4 n4 c4, ∃ ls : List GNom, e = .returned (.tuple #[.agg #[.slice A1 n1 c1, .slice A2 n2 c2], .slice A3 n3 c3, .slice A4 n4 c4]) ∧ OwnNet w' w.heap.size A1 n1 c1 A2 n2 c2 n ∧ n3 ≤ 40 ∧ w'.ownsRow w.heap.size 61 8 (.slice A3 n3 c3) n3 (bk.flatMap (fun z : {y : GCon // DrB y} => z.1.cells)) ∧ n4 ≤ 210 ∧ w'.ownsRow w.heap.size 120 4 (.slice A4 n4 c4) n4 (ls.flatMap GNom.cells) ∧ Drw w0 w' S ∧ Chg (fun k => k = S) w w' := by
  obtain ⟨i0, hi0, hz0, hz1, hz2⟩ := info_parts infoNomination
  have hlt := h.lt
  have hbw := h.gr.size
  have H := Lib.hid h
  clear h
  go_enter Try.func95, Try.ntmps95
  go_wp2_with fail
  generalize hw1 : World.alloc w _ = w1
  have hR : w1.heap[w.heap.size]? = some (.cells #[.slice none 0 0, .slice none 0 0] 27 (0, 0)) := by rw [← hw1]; exact heap_alloc_new w _
  have hg1 : Gr w w1 := by rw [← hw1]; exact (Gr.refl _).alloc _
  have hs1 : w1.heap.size = w.heap.size + 1 := by rw [← hw1]; simp
  obtain ⟨R, hRe⟩ : ∃ R, R = w.heap.size := ⟨_, rfl⟩
  rw [← hRe] at hR ⊢
  have hSR : S < R := by omega
  have hRw : w.heap.size ≤ R := by omega
  have hR1 : w1.heap.size = R + 1 := by omega
  have hRw0 : w0.heap.size ≤ R := by omega
  have HR := Lib.hid hR
  clear hw1 hRe hR
  refine (l20Draw_any (H.out.grow hg1)).mono ?_
  rintro e w2 ⟨A1, n1, c1, A2, n2, c2, n, A3, n3, c3, tr, rfl, hown, hn3, hl3, hd2, hc2⟩
  have hR2 := rb_chg HR.out hc2 (by omega)
  have hcc2 := (hg1.chg (fun k => k = S)).trans hc2
  have hs2 := rb_lt hR2
  have hM3 : (w2.alloc (.cells #[.slice A1 n1 c1, .slice A2 n2 c2] 27)).heap[w2.heap.size]? = some (.cells #[.slice A1 n1 c1, .slice A2 n2 c2] 27 (0, 0)) := heap_alloc_new w2 _
  obtain ⟨w4, hw4⟩ : ∃ W, W = w2.alloc (.cells #[.slice A1 n1 c1, .slice A2 n2 c2] 27) := ⟨_, rfl⟩
  have hg3 : Gr w2 w4 := by rw [hw4]; exact (Gr.refl _).alloc _
  obtain ⟨M, hM⟩ : ∃ M, M = w2.heap.size := ⟨_, rfl⟩
  rw [← hM, ← hw4] at hM3
  have hMR : R < M := by omega
  have hO3 : OwnNet w4 (R + 1) A1 n1 c1 A2 n2 c2 n := by rw [← hR1]; exact hown.gr hg3
  have hl4 : w4.ownsRow (R + 1) 61 8 (.slice A3 n3 c3) n3 (tr.flatMap (fun z : {y : GCon // DrB y} => z.1.cells)) := by rw [← hR1]; exact own_gr hl3 hg3
  have hN3 : NetM w0 w w4 S R M A1 n1 c1 A2 n2 c2 := ⟨n, hM3, hO3, hd2.grow hg3, hcc2.trans (hg3.chg _), (hg3.below.block R hs2).trans hR2⟩
  have q5 : RowSt GNom.cells 120 4 w0 w4 (w4.alloc (.cells #[] 120)) S (some ⟨w4.heap.size, 0, none⟩) 0 0 := RowSt.init (hd2.grow hg3) (by omega)
  have hM4 := rb_lt hM3
  have hS4 : S < w4.heap.size := by omega
  have h04 : w0.heap.size ≤ w4.heap.size := by omega
  have Hs4 : Hid (w4.heap.size = M + 1) := Lib.hid (by rw [hw4, hM]; simp)
  have Hw4 := Lib.hid hw4
  have HMe := Lib.hid hM
  have HN := Lib.hid hN3
  have HL := Lib.hid hl4
  have HMb := Lib.hid hM3
  have Q5 := Lib.hid q5
  have hMS : M ≠ S := by omega
  clear hw4 hM hM3 HR hc2 hown hd2 hR2 hcc2 hs2 hO3 hN3 hl3 hl4 q5
  go_wp2_with fail
  rw [← Hw4.out, ← HMe.out]
  refine (l01Next_any 9 Q5.out.dr (by omega)).mono ?_
  rintro e w6 ⟨x, rfl, hx, hd6, hc6⟩
  obtain ⟨x0, x1⟩ := hx.lt (by omega)
  have Q6 : Hid (RowSt GNom.cells 120 4 w0 w4 w6 S (some ⟨M + 1, 0, none⟩) 0 0) := Lib.hid (by have := Q5.out.next hS4 hd6 hc6; rw [Hs4.out] at this; exact this)
  obtain ⟨J, hJ⟩ : ∃ J : Nat, x = (J : Int) := ⟨x.toNat, by omega⟩
  subst hJ
  clear hx hd6 hc6 Q5
  go_wp2_with fail
  go_loopw [7, 8, 9] (fun o f i wq => ∃ j : Nat, j ≤ J ∧ i = .int .i64 j ∧ ∃ A u c, ∃ fr : Int, u + j ≤ 9 ∧ o = .slice A u c ∧ f = .int .i64 fr ∧ RowSt GNom.cells 120 4 w0 w4 wq S A u c) (fun _ _ i _ => (intOf i).toNat)
  case atStart => exact ⟨J, Nat.le_refl _, rfl, _, _, _, _, by omega, rfl, rfl, Q6.out⟩
  case round =>
    obtain ⟨j, hj, rfl, A, u, c, fr, hu, rfl, rfl, q⟩ := hrel
    have Q := Lib.hid q
    clear q Q6
    by_cases hgo : 0 < j
    · have t1 : decide ((0 : Int) < (j : Int)) = true := by simp; omega
      have HLr := Lib.hid (own_chg HL.out Q.out.ch (fun k hk e => by have := own_low HL.out hk; omega))
      go_wp2_with fail
      refine (l21DrawOne_any tr fr Q.out.dr (by omega) hn3 HLr.out).mono ?_
      rintro e w7 ⟨x, rfl, hd7, hc7⟩
      have Q7 := Lib.hid (Q.out.next hS4 hd7 hc7)
      clear hd7 hc7 Q HLr
      go_upto_region 8 with fail
      have qb := Q7.out.blk hS4 #[.int .i64 x.contract, .int .i64 x.hour, .int .i64 x.sent, .int .i64 x.amount]
      obtain ⟨w8, hw8⟩ : ∃ W, W = w7.alloc (.cells #[.int .i64 x.contract, .int .i64 x.hour, .int .i64 x.sent, .int .i64 x.amount] 120) := ⟨_, rfl⟩
      obtain ⟨X, hX⟩ : ∃ X, X = w7.heap.size := ⟨_, rfl⟩
      rw [← hw8, ← hX] at qb
      rw [← hw8, ← hX]
      have hN8 := HN.out.next hSR hMR qb.st.dr qb.st.ch
      have hb8 := own_chg HL.out qb.st.ch (fun k hk e => by have := own_low HL.out hk; omega)
      rw [drawn_book] at hb8
      have m0 : w8.cell? ⟨M, 0, none⟩ = some (.slice A1 n1 c1) := rb_cell (j := 0) (rb_chg HMb.out qb.st.ch hMS) rfl
      have m1 : w8.cell? ⟨M, 1, none⟩ = some (.slice A2 n2 c2) := rb_cell (j := 1) (rb_chg HMb.out qb.st.ch hMS) rfl
      have k0 := rb_cell (j := 0) qb.blk rfl
      have k1 := rb_cell (j := 1) qb.blk rfl
      have k2 := rb_cell (j := 2) qb.blk rfl
      have k3 := rb_cell (j := 3) qb.blk rfl
      have Q8 := Lib.hid qb
      have HN8 := Lib.hid hN8
      have HB8 := Lib.hid hb8
      clear hw8 hX hN8 hb8 Q7 qb
      go_wp2_with fail
      obtain ⟨q, _, hO, _⟩ := HN8.out
      refine (spIsNomination_any q (tr.map (·.1)) x _ hO.at_ (SlAt.of_own HB8.out (by omega))).mono ?_
      rintro e w9 ⟨rfl, hg9⟩
      have Q9 := Lib.hid (Q8.out.gr hS4 hg9)
      clear hO hg9 Q8 HN8 HB8 m0 m1 k0 k1 k2 k3
      cases hb : (netOk q && bookOk n1 (tr.map (·.1)) && nomOk (tr.map (·.1)) x) with
      | true =>
        have Hb := Lib.hid hb
        clear hb
        go_upto_region 9 with fail
        have QF := Q9
        obtain ⟨ls, hls⟩ := QF.out.st.row
        have Hls := Lib.hid hls
        have hws := QF.out.st.ch.size
        have k0 : w9.cell? ⟨X, 0, none⟩ = some (.int .i64 x.contract) := rb_cell (j := 0) QF.out.blk rfl
        have k1 : w9.cell? ⟨X, 1, none⟩ = some (.int .i64 x.hour) := rb_cell (j := 1) QF.out.blk rfl
        have k2 : w9.cell? ⟨X, 2, none⟩ = some (.int .i64 x.sent) := rb_cell (j := 2) QF.out.blk rfl
        have k3 : w9.cell? ⟨X, 3, none⟩ = some (.int .i64 x.amount) := rb_cell (j := 3) QF.out.blk rfl
        obtain ⟨m, hm⟩ : ∃ m, (if fr < x.sent then x.sent else fr) = m := ⟨_, rfl⟩
        clear hls
        go_upto_region 10 with (at_builtin; (refine wpList_append_own _ rfl _ _ _ rfl w4.heap.size 120 i0 _ 4 32 Try.underlying29 hi0 hz0 hz1 hz2 rfl (by omega) _ u _ rfl (Hls.out.alloc _) ⟨w9.heap.size, 0, none⟩ 1 1 [.int .i64 x.contract, .int .i64 x.hour, .int .i64 x.sent, .int .i64 x.amount] rfl rfl (World.news_of_block (cs := #[.int .i64 x.contract, .int .i64 x.hour, .int .i64 x.sent, .int .i64 x.amount]) (t := 120) (fr := (0, 0)) (heap_alloc_new w9 _)) (by simp [Value.oneCell']) (by unfold maxLen; omega) (by omega) (by simp; omega) ?_; intro v' w20 hown20 hg20 _))
        obtain ⟨A', c', rfl⟩ := own_shape hown20
        have Q20 := Lib.hid (QF.out.st.add hS4 h04 (x := x) hown20 hg20)
        have s2 : w20.cell? ⟨X, 2, none⟩ = some (.int .i64 x.sent) := by
          have e2 : (w9.alloc (.cells #[.int .i64 x.contract, .int .i64 x.hour, .int .i64 x.sent, .int .i64 x.amount] 120)).cell? ⟨X, 2, none⟩ = some (.int .i64 x.sent) := ((Gr.refl _).alloc _).has k2
          have hx := rb_lt QF.out.blk
          exact (hg20.cell e2 (fun e => by have h1 := QF.out.lt X e.symm; exact absurd h1 (Nat.lt_irrefl _)))
        clear hown20 hg20
        go_wp2_with fail
        go_roundw
        case rel => exact ⟨j - 1, by omega, by go_num, _, _, _, _, by omega, rfl, rfl, Q20.out⟩
        case measure => simp [intOf]; omega
      | false =>
        have Hb := Lib.hid hb
        clear hb
        go_wp2_with fail
        refine (l01Next_any 20 Q9.out.st.dr (by omega)).mono ?_
        rintro e w10 ⟨t, rfl, ht, hd10, hc10⟩
        have Q10 := Lib.hid (Q9.out.next hS4 hd10 hc10)
        clear ht hd10 hc10 Q9
        by_cases ht0 : t = 0
        · subst ht0
          go_upto_region 9 with fail
          have QF := Q10
          obtain ⟨ls, hls⟩ := QF.out.st.row
          have Hls := Lib.hid hls
          have hws := QF.out.st.ch.size
          have k0 : w10.cell? ⟨X, 0, none⟩ = some (.int .i64 x.contract) := rb_cell (j := 0) QF.out.blk rfl
          have k1 : w10.cell? ⟨X, 1, none⟩ = some (.int .i64 x.hour) := rb_cell (j := 1) QF.out.blk rfl
          have k2 : w10.cell? ⟨X, 2, none⟩ = some (.int .i64 x.sent) := rb_cell (j := 2) QF.out.blk rfl
          have k3 : w10.cell? ⟨X, 3, none⟩ = some (.int .i64 x.amount) := rb_cell (j := 3) QF.out.blk rfl
          obtain ⟨m, hm⟩ : ∃ m, (if fr < x.sent then x.sent else fr) = m := ⟨_, rfl⟩
          clear hls
          go_upto_region 10 with (at_builtin; (refine wpList_append_own _ rfl _ _ _ rfl w4.heap.size 120 i0 _ 4 32 Try.underlying29 hi0 hz0 hz1 hz2 rfl (by omega) _ u _ rfl (Hls.out.alloc _) ⟨w10.heap.size, 0, none⟩ 1 1 [.int .i64 x.contract, .int .i64 x.hour, .int .i64 x.sent, .int .i64 x.amount] rfl rfl (World.news_of_block (cs := #[.int .i64 x.contract, .int .i64 x.hour, .int .i64 x.sent, .int .i64 x.amount]) (t := 120) (fr := (0, 0)) (heap_alloc_new w10 _)) (by simp [Value.oneCell']) (by unfold maxLen; omega) (by omega) (by simp; omega) ?_; intro v' w20 hown20 hg20 _))
          obtain ⟨A', c', rfl⟩ := own_shape hown20
          have Q20 := Lib.hid (QF.out.st.add hS4 h04 (x := x) hown20 hg20)
          have s2 : w20.cell? ⟨X, 2, none⟩ = some (.int .i64 x.sent) := by
            have e2 : (w10.alloc (.cells #[.int .i64 x.contract, .int .i64 x.hour, .int .i64 x.sent, .int .i64 x.amount] 120)).cell? ⟨X, 2, none⟩ = some (.int .i64 x.sent) := ((Gr.refl _).alloc _).has k2
            have hx := rb_lt QF.out.blk
            exact (hg20.cell e2 (fun e => by have h1 := QF.out.lt X e.symm; exact absurd h1 (Nat.lt_irrefl _)))
          clear hown20 hg20
          go_wp2_with fail
          go_roundw
          case rel => exact ⟨j - 1, by omega, by go_num, _, _, _, _, by omega, rfl, rfl, Q20.out⟩
          case measure => simp [intOf]; omega
        · have tt : (t == 0) = false := by simp [ht0]
          go_wp2_with fail
          go_roundw
          case rel => exact ⟨j - 1, by omega, by go_num, _, _, _, _, by omega, rfl, rfl, Q10.out.st⟩
          case measure => simp [intOf]; omega
    · obtain rfl : j = 0 := by omega
      by_cases hu0 : 0 < u
      · have tu0 : decide ((0 : Int) < (u : Int)) = true := by simp; omega
        go_wp2_with fail
        refine (l01Next_any 60 Q.out.dr (by omega)).mono ?_
        rintro e w15 ⟨t, rfl, ht, hd15, hc15⟩
        have QZ := Lib.hid (Q.out.next hS4 hd15 hc15)
        clear ht hd15 hc15 Q
        by_cases ht0 : t = 0
        · subst ht0
          go_wp2_with fail
          go_loopw [7] (fun o wq => ∃ A u c, 0 < u ∧ u ≤ 201 ∧ o = .slice A u c ∧ RowSt GNom.cells 120 4 w0 w4 wq S A u c) (fun o _ => 202 - lenOf o)
          case atStart => exact ⟨_, _, _, hu0, by omega, rfl, QZ.out⟩
          case round =>
            clear hu0 tu0
            obtain ⟨A, u, c, hu0, hu, rfl, q⟩ := hrel
            have Q := Lib.hid q
            clear q QZ
            go_wp2_with fail
            refine (l01Next_any 2 Q.out.dr (by omega)).mono ?_
            rintro e w16 ⟨y, rfl, hy, hd16, hc16⟩
            obtain ⟨y0, y1⟩ := hy.lt (by omega)
            have QZ := Lib.hid (Q.out.next hS4 hd16 hc16)
            have hwy : IntKind.i64.wrap (200 + y) = 200 + y := IntWalk.i64_in _ (by omega)
            clear hy hd16 hc16 Q
            by_cases hlu : (u : Int) < 200 + y
            · have tu : decide ((u : Int) < 200 + y) = true := decide_eq_true hlu
              obtain ⟨ls, hls⟩ := QZ.out.row
              have hll := own_len hls GNom.cells_len (by omega)
              obtain ⟨b, rfl, _, _⟩ := own_form hls (by omega)
              obtain ⟨m, hm⟩ : ∃ m, m = u - 1 := ⟨_, rfl⟩
              obtain ⟨z, hz⟩ : ∃ z, ls[m]? = some z := ⟨_, List.getElem?_eq_getElem (by omega)⟩
              obtain ⟨k0, k1, k2, k3, _⟩ := own_nom hls hz
              have hwk : IntKind.i64.wrap ((u : Int) - 1) = (m : Int) := by rw [IntWalk.i64_in _ (by omega)]; omega
              have tm1 : (m : Int) < (u : Int) := by omega
              have tm0 : (0 : Int) ≤ (m : Int) := by omega
              have Hls := Lib.hid hls
              have hws := QZ.out.ch.size
              clear hls hll hz hm
              go_wp2_with (at_builtin; (refine wpList_append_own _ rfl _ _ _ rfl w4.heap.size 120 i0 _ 4 32 Try.underlying29 hi0 hz0 hz1 hz2 rfl (by omega) _ u _ rfl (Hls.out.alloc _) ⟨w16.heap.size, 0, none⟩ 1 1 [.int .i64 z.contract, .int .i64 z.hour, .int .i64 z.sent, .int .i64 z.amount] rfl rfl (World.news_of_block (cs := #[.int .i64 z.contract, .int .i64 z.hour, .int .i64 z.sent, .int .i64 z.amount]) (t := 120) (fr := (0, 0)) (heap_alloc_new w16 _)) (by simp [Value.oneCell']) (by unfold maxLen; omega) (by omega) (by simp; omega) ?_; intro v' w20 hown20 hg20 _))
              obtain ⟨A', c', rfl⟩ := own_shape hown20
              have Q20 := Lib.hid (QZ.out.add hS4 h04 (x := z) hown20 hg20)
              clear hown20 hg20
              go_wp2_with fail
              go_roundw
              case rel => exact ⟨_, _, _, by omega, by omega, rfl, Q20.out⟩
              case measure => simp [lenOf]; omega
            · have tu : decide ((u : Int) < 200 + y) = false := decide_eq_false hlu
              obtain ⟨⟨hMz, hRz⟩, h1, ⟨n', h2⟩, ⟨ls, h3⟩, h6, h4, h5⟩ := list_end3 HN.out HL.out QZ.out hRw hRw0 hSR hMR
              have m0 := rb_cell (j := 0) hMz rfl
              have m1 := rb_cell (j := 1) hMz rfl
              have r0 := rb_cell (j := 0) hRz rfl
              have r1 := rb_cell (j := 1) hRz rfl
              have f0 := rb_frozen hRz 0
              have f1 := rb_frozen hRz 1
              have H1 := Lib.hid h1
              have H2 := Lib.hid h2
              have H3 := Lib.hid h3
              have H4 := Lib.hid h4
              have H5 := Lib.hid h5
              have H6 := Lib.hid h6
              clear h1 h2 h3 h4 h5 h6 hMz hRz
              go_wp2_with fail
              (try simp only [Exit.inBlock, Exit.then])
              refine bodyPost_ret (results_row_tmp2 Try.results95 _ _ R 27 #[.slice A1 n1 c1, .slice A2 n2 c2] (0, 0) _ ?_ H1.out Try.underlying27 rfl (by kernel_rfl)) ?_ ?_
              · rfl
              · rfl
              exact ⟨_, _, _, _, _, _, n', _, _, _, tr, _, _, _, ls, rfl, H2.out, by omega, H6.out, by omega, H3.out, H4.out, H5.out⟩
        · have tt : (t == 0) = false := by simp [ht0]
          obtain ⟨⟨hMz, hRz⟩, h1, ⟨n', h2⟩, ⟨ls, h3⟩, h6, h4, h5⟩ := list_end3 HN.out HL.out QZ.out hRw hRw0 hSR hMR
          have m0 := rb_cell (j := 0) hMz rfl
          have m1 := rb_cell (j := 1) hMz rfl
          have r0 := rb_cell (j := 0) hRz rfl
          have r1 := rb_cell (j := 1) hRz rfl
          have f0 := rb_frozen hRz 0
          have f1 := rb_frozen hRz 1
          have H1 := Lib.hid h1
          have H2 := Lib.hid h2
          have H3 := Lib.hid h3
          have H4 := Lib.hid h4
          have H5 := Lib.hid h5
          have H6 := Lib.hid h6
          clear h1 h2 h3 h4 h5 h6 hMz hRz
          go_wp2_with fail
          (try simp only [Exit.inBlock, Exit.then])
          refine bodyPost_ret (results_row_tmp2 Try.results95 _ _ R 27 #[.slice A1 n1 c1, .slice A2 n2 c2] (0, 0) _ ?_ H1.out Try.underlying27 rfl (by kernel_rfl)) ?_ ?_
          · rfl
          · rfl
          exact ⟨_, _, _, _, _, _, n', _, _, _, tr, _, _, _, ls, rfl, H2.out, by omega, H6.out, by omega, H3.out, H4.out, H5.out⟩
      · have tu0 : decide ((0 : Int) < (u : Int)) = false := by simp; omega
        have QZ := Q
        obtain ⟨⟨hMz, hRz⟩, h1, ⟨n', h2⟩, ⟨ls, h3⟩, h6, h4, h5⟩ := list_end3 HN.out HL.out QZ.out hRw hRw0 hSR hMR
        have m0 := rb_cell (j := 0) hMz rfl
        have m1 := rb_cell (j := 1) hMz rfl
        have r0 := rb_cell (j := 0) hRz rfl
        have r1 := rb_cell (j := 1) hRz rfl
        have f0 := rb_frozen hRz 0
        have f1 := rb_frozen hRz 1
        have H1 := Lib.hid h1
        have H2 := Lib.hid h2
        have H3 := Lib.hid h3
        have H4 := Lib.hid h4
        have H5 := Lib.hid h5
        have H6 := Lib.hid h6
        clear h1 h2 h3 h4 h5 h6 hMz hRz
        go_wp2_with fail
        (try simp only [Exit.inBlock, Exit.then])
        refine bodyPost_ret (results_row_tmp2 Try.results95 _ _ R 27 #[.slice A1 n1 c1, .slice A2 n2 c2] (0, 0) _ ?_ H1.out Try.underlying27 rfl (by kernel_rfl)) ?_ ?_
        · rfl
        · rfl
        exact ⟨_, _, _, _, _, _, n', _, _, _, tr, _, _, _, ls, rfl, H2.out, by omega, H6.out, by omega, H3.out, H4.out, H5.out⟩
end Go.Proofs.Ytelhmfgfjlpkaaa
