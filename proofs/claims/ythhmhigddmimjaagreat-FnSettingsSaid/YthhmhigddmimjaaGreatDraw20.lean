/-
  Draws: a network and supplies. Printed by gen_draw20.py.
-/
import Derived.Test.YthhmhigddmimjaaGreatDrawG
import Derived.Test.YthhmhigddmimjaaGreatOutA
import Derived.Deep.CutRange
set_option linter.unusedSimpArgs false
set_option linter.unusedVariables false
namespace Go.Proofs.YthhmhigddmimjaaGreat
open Go.ChangeShapes Go.WideShapes Go.ChangeAt Go.RowKit

set_option maxHeartbeats 6400000 in
set_option maxRecDepth 100000 in
theorem l06Draw_any {w0 w : World} {S : Nat} (h : Drw w0 w S) :
    Calls Tryz.prog 103 #[.pointer (some ⟨S, 0, none⟩)] w fun e w' => ∃ A1 n1 c1 A2 n2 c2 n A3 n3 c3, ∃ zs : List Int, e = .returned (.tuple #[.agg #[.slice A1 n1 c1, .slice A2 n2 c2], .slice A3 n3 c3]) ∧ OwnNet w' w.heap.size A1 n1 c1 A2 n2 c2 n ∧ (n1 ≤ 7 ∧ n2 ≤ 12 ∧ n3 ≤ 30) ∧ w'.ownsRow w.heap.size 2 1 (.slice A3 n3 c3) n3 (ints zs) ∧ Drw w0 w' S ∧ Chg (fun k => k = S) w w' := by
  obtain ⟨i0, hi0, hz0, hz1, hz2⟩ := info_parts infoInt64
  have hlt := h.lt
  have hbw := h.gr.size
  have H := Lib.hid h
  clear h
  go_enter Tryz.func103, Tryz.ntmps103
  go_wp2_with fail
  generalize hw1 : World.alloc w _ = w1
  have hR : w1.heap[w.heap.size]? = some (.cells #[.slice none 0 0, .slice none 0 0] 32 (0, 0)) := by rw [← hw1]; exact heap_alloc_new w _
  have hg1 : Gr w w1 := by rw [← hw1]; exact (Gr.refl _).alloc _
  have hs1 : w1.heap.size = w.heap.size + 1 := by rw [← hw1]; simp
  obtain ⟨R, hRe⟩ : ∃ R, R = w.heap.size := ⟨_, rfl⟩
  rw [← hRe] at hR ⊢
  have hSR : S < R := by omega
  have hRw : w.heap.size ≤ R := by omega
  have hR1 : w1.heap.size = R + 1 := by omega
  have hRw0 : w0.heap.size ≤ R := by omega
  have HR := Lib.hid hR
  clear hw1 hRe hR
  refine (l05DrawLoops_any (H.out.grow hg1)).mono ?_
  rintro e w2 ⟨A1, n1, c1, A2, n2, c2, n, rfl, hown, ⟨hn1, hn7, hn9⟩, hd2, hc2⟩
  have hR2 := rb_chg HR.out hc2 (by omega)
  have hcc2 := (hg1.chg (fun k => k = S)).trans hc2
  have hs2 := rb_lt hR2
  generalize hw3 : World.alloc w2 (.cells #[.slice A1 n1 c1, .slice A2 n2 c2] 32) = w3
  have hg3 : Gr w2 w3 := by rw [← hw3]; exact (Gr.refl _).alloc _
  have hM3 : w3.heap[w2.heap.size]? = some (.cells #[.slice A1 n1 c1, .slice A2 n2 c2] 32 (0, 0)) := by rw [← hw3]; exact heap_alloc_new w2 _
  obtain ⟨M, hM⟩ : ∃ M, M = w2.heap.size := ⟨_, rfl⟩
  rw [← hM] at hM3
  have hMR : R < M := by omega
  have hO3 : OwnNet w3 (R + 1) A1 n1 c1 A2 n2 c2 n := by rw [← hR1]; exact hown.gr hg3
  have hE3 : EndAt w0 w w3 S R M := ⟨_, _, _, _, _, _, n, hM3, hO3, ⟨hn7, hn9⟩, hd2.grow hg3, hcc2.trans (hg3.chg _), (hg3.below.block R hs2).trans hR2⟩
  have Hw3 := Lib.hid hw3
  have HMe := Lib.hid hM
  have HE3 := Lib.hid hE3
  have HD3 := Lib.hid (hd2.grow hg3)
  clear hw3 hM hM3 HR hc2 hown hd2 hR2 hcc2 hs2 hO3 hE3
  go_wp2_with fail
  rw [Hw3.out, ← HMe.out]
  refine (l01Next_any 16 HD3.out (by omega)).mono ?_
  rintro e w4 ⟨t, rfl, ht, hd4, hc4⟩
  have hE4 : EndAt w0 w w4 S R M := by
    obtain ⟨A1, n1, c1, A2, n2, c2, n, hM, hO, hb, hD, hC, hR⟩ := HE3.out
    exact ⟨A1, n1, c1, A2, n2, c2, n, rb_chg hM hc4 (by omega), ⟨own_chg hO.nodes hc4 (fun j hj e => by have := own_low hO.nodes hj; omega), own_chg hO.pipes hc4 (fun j hj e => by have := own_low hO.pipes hj; omega), hO.names, hO.m1, hO.m2⟩, hb, hd4, hC.trans hc4, rb_chg hR hc4 (by omega)⟩
  have HE4 := Lib.hid hE4
  have HD4 := Lib.hid hd4
  have hMl : M < w4.heap.size := by obtain ⟨_, _, _, _, _, _, _, hM, _⟩ := hE4; exact rb_lt hM
  clear ht hd4 hc4 HE3 HD3 hE4
  by_cases ht0 : t = 0
  case' pos =>
    subst ht0
    go_wp2_with fail
    refine (l02DrawAny_any HD4.out).mono ?_
    rintro e w5 ⟨B1, m1, d1, B2, m2, d2, q, rfl, hown, ⟨hm1, hm2⟩, hd5, hc5⟩
    obtain ⟨_, _, _, _, _, _, _, hM4, _, _, _, hC4, hR4⟩ := HE4.out
    have hM5 := rb_chg hM4 hc5 (by omega)
    have hR5 := rb_chg hR4 hc5 (by omega)
    have m0 := rb_cell (j := 0) hM5 rfl
    have m1' := rb_cell (j := 1) hM5 rfl
    have f0 := rb_frozen hM5 0
    have f1 := rb_frozen hM5 1
    have hcs : Chg (fun k => k = M) w5 ((w5.setCell ⟨M, 0, none⟩ (.slice B1 m1 d1)).setCell ⟨M, 1, none⟩ (.slice B2 m2 d2)) := (chg_put _ _).trans (chg_put _ _)
    have hE : EndAt w0 w ((w5.setCell ⟨M, 0, none⟩ (.slice B1 m1 d1)).setCell ⟨M, 1, none⟩ (.slice B2 m2 d2)) S R M :=
      ⟨B1, m1, d1, B2, m2, d2, q, by simp [World.setCell, Array.getElem?_modify, hM5], ⟨own_base (own_chg hown.nodes hcs (fun j hj e => by have := own_low hown.nodes hj; omega)) (by omega), own_base (own_chg hown.pipes hcs (fun j hj e => by have := own_low hown.pipes hj; omega)) (by omega), hown.names, hown.m1, hown.m2⟩, ⟨hm1, hm2⟩, (hd5.set (by omega) (by omega)).set (by omega) (by omega), ((hC4.trans hc5).fresh (by omega)).fresh (by omega), rb_chg hR5 hcs (by omega)⟩
    have HE := Lib.hid hE
    clear hM4 hC4 hR4 hown hd5 hc5 hcs hE HE4 HD4 hM5 hR5
    go_upto_region 4 with fail
    generalize World.setCell _ _ _ = w6 at HE ⊢
    clear m0 m1' f0 f1
  case' neg =>
    go_upto_region 4 with fail
    have HE := HE4
    clear HE4 HD4
    rename World => w6
  all_goals
    obtain ⟨A1', n1', c1', A2', n2', c2', n', hM, hO, ⟨q1, q2⟩, hD, hC, hR⟩ := HE.out
    have hMl6 := rb_lt hM
    have m0 := rb_cell (j := 0) hM rfl
    have m1 := rb_cell (j := 1) hM rfl
    have HM := Lib.hid hM
    have HO := Lib.hid hO
    have HD := Lib.hid hD
    have HC := Lib.hid hC
    have HR := Lib.hid hR
    clear hM hO hD hC hR HE
    go_wp2_with fail
    refine (spIsNetwork_any _ _ _ _ _ _ n' _ HO.out.at_).mono ?_
    rintro e w7 ⟨rfl, hg7⟩
    have HN7 : Hid (NetM w0 w w7 S R M A1' n1' c1' A2' n2' c2') := Lib.hid (NetM.gr ⟨n', HM.out, HO.out, HD.out, HC.out, HR.out⟩ hg7)
    replace m0 := hg7.has m0
    replace m1 := hg7.has m1
    have HO7 := Lib.hid (HO.out.gr hg7)
    have HD7 := Lib.hid (HD.out.grow hg7)
    have hsz7 := hg7.size
    have hS7 : S < w7.heap.size := HD7.out.lt
    have h07 : w0.heap.size ≤ w7.heap.size := HD7.out.gr.size
    have hM7 : M < w7.heap.size := by omega
    clear HM HO HD HC HR hg7
    cases hn : netOk n' with
    | false =>
      clear hn
      have QZ : Hid (RowSt (fun z : Int => [Value.int .i64 z]) 2 1 w0 w7 (w7.alloc (.cells #[.int .i64 1, .int .i64 (-1)] 2)) S (some ⟨w7.heap.size, 0, none⟩) 2 2) := Lib.hid ⟨⟨[1, -1], World.ownsRow_lit w7 (e := 2) (size := 1) #[.int .i64 1, .int .i64 (-1)] 2 (Nat.le_refl _) (by unfold maxLen; omega) rfl⟩, HD7.out.grow ((Gr.refl _).alloc _), ((Gr.refl _).alloc _).chg _⟩
      go_upto_region 5 with fail
      obtain ⟨⟨hMz, hRz⟩, h1, ⟨nf, h2⟩, ⟨ls, h3⟩, h4, h5⟩ := list_end HN7.out QZ.out hRw hRw0 hSR hMR
      rw [flat_int] at h3
      have m0 := rb_cell (j := 0) hMz rfl
      have m1 := rb_cell (j := 1) hMz rfl
      have r0 := rb_cell (j := 0) hRz rfl
      have r1 := rb_cell (j := 1) hRz rfl
      have f0 := rb_frozen hRz 0
      have f1 := rb_frozen hRz 1
      have H1 := Lib.hid h1
      have H2 := Lib.hid h2
      have H3 := Lib.hid h3
      have H4 := Lib.hid h4
      have H5 := Lib.hid h5
      clear h1 h2 h3 h4 h5 hMz hRz
      go_wp2_with fail
      (try simp only [Exit.inBlock, Exit.then])
      refine bodyPost_ret (results_row_tmp Tryz.results103 _ _ R 32 #[.slice A1' n1' c1', .slice A2' n2' c2'] (0, 0) _ ?_ H1.out Tryz.underlying32 rfl (by kernel_rfl)) ?_ ?_
      · rfl
      · rfl
      exact ⟨_, _, _, _, _, _, nf, _, _, _, ls, rfl, H2.out, ⟨q1, q2, by omega⟩, H3.out, H4.out, H5.out⟩
    | true =>
      have Hn := Lib.hid hn
      clear hn
      have hpos : 1 ≤ n1' := by have := (netOk_all Hn.out).1.1; rw [HO7.out.at_.l1] at this; exact this
      go_wp2_with fail
      go_loopw [5, 6] (fun o i wq => ∃ k : Nat, k ≤ n2' ∧ i = .int .i64 k ∧ (∃ A c, ∃ zs : List Int, o = .slice A k c ∧ wq.ownsRow w7.heap.size 2 1 (.slice A k c) k (ints zs) ∧ ∀ z ∈ zs, -30000 ≤ z ∧ z ≤ 30000) ∧ Drw w0 wq S ∧ Chg (fun j => j = S) w7 wq) (fun _ i _ => n2' - (intOf i).toNat)
      case atStart => exact ⟨0, Nat.zero_le _, rfl, ⟨_, _, [], rfl, World.ownsRow_lit w7 (e := 2) (size := 1) #[] 0 (Nat.le_refl _) (by unfold maxLen; omega) rfl, fun z hz => by cases hz⟩, HD7.out.grow ((Gr.refl _).alloc _), ((Gr.refl _).alloc _).chg _⟩
      case round =>
        obtain ⟨u, hk, rfl, ⟨A, c, zs, rfl, hown, hzb⟩, hdr, hch⟩ := hrel
        rename World => wq
        have x0 := chg_cell' hch m0 (by simp only; omega)
        have x1 := chg_cell' hch m1 (by simp only; omega)
        have hszq := hch.size
        have Hown := Lib.hid hown
        have Hzb := Lib.hid hzb
        have Hdr := Lib.hid hdr
        have Hch := Lib.hid hch
        clear hown hzb hdr hch
        by_cases hkn : u < n2'
        · have t1 : (u : Int) < (n2' : Int) := by omega
          go_wp2_with fail
          refine (l01Next_any 40 Hdr.out (by omega)).mono ?_
          rintro e w9 ⟨x, rfl, hx, hd9, hc9⟩
          obtain ⟨y0, y1⟩ := hx.lt (by omega)
          have hwx : IntKind.i64.wrap (x - 15) = x - 15 := IntWalk.i64_in _ (by omega)
          have Ho9 := Lib.hid (own_chg Hown.out hc9 (fun j hj e => by have := own_low Hown.out hj; omega))
          have Hd9 := Lib.hid hd9
          have Hc9 := Lib.hid (Hch.out.trans hc9)
          have hs9 := hc9.size
          clear hx hd9 hc9 Hown Hdr Hch
          go_wp2_with (at_builtin; (refine wpList_append_own _ rfl _ _ _ rfl w7.heap.size 2 i0 _ 1 8 Tryz.underlying26 hi0 hz0 hz1 hz2 rfl (by omega) _ u _ rfl (Ho9.out.alloc _) ⟨w9.heap.size, 0, none⟩ 1 1 [.int .i64 (x - 15)] rfl rfl (World.news_of_block (cs := #[.int .i64 (x - 15)]) (t := 2) (fr := (0, 0)) (heap_alloc_new w9 _)) (by simp [Value.oneCell']) (by unfold maxLen; omega) (by omega) (by simp; omega) ?_; intro v' w20 hown20 hg20 _; obtain ⟨A', c', rfl⟩ := own_shape hown20; have Ho20 := Lib.hid (own_cells_eq hown20 (ints_snoc zs (x - 15)).symm); have Hd20 := Lib.hid ((Hd9.out.grow ((Gr.refl _).alloc _)).grown hg20 (fun j hj => by have := own_low Ho9.out hj; omega)); have Hc20 := Lib.hid ((Hc9.out.trans (((Gr.refl _).alloc _).chg _)).grown' hg20 (fun j hj => own_low Ho9.out hj)); clear hown20 hg20))
          go_wp2_with fail
          go_roundw
          case rel => exact ⟨u + 1, by omega, by go_num, ⟨_, _, zs ++ [x - 15], rfl, Ho20.out, fun z hz => by rcases List.mem_append.1 hz with h | h; (· exact Hzb.out z h); rw [List.mem_singleton.1 h]; omega⟩, Hd20.out, Hc20.out⟩
          case measure => simp [intOf]; omega
        · obtain rfl : n2' = u := by omega
          have HNq := Lib.hid (HN7.out.next hSR hMR Hdr.out Hch.out)
          have HOq : Hid (NetAt wq A1' n1' c1' A2' n2' c2' n') := Lib.hid (OwnNet.at_ ⟨own_chg HO7.out.nodes Hch.out (fun j hj e => by have := own_low HO7.out.nodes hj; omega), own_chg HO7.out.pipes Hch.out (fun j hj e => by have := own_low HO7.out.pipes hj; omega), HO7.out.names, HO7.out.m1, HO7.out.m2⟩)
          have hfl : flOk n' zs = true := by
            rw [flOk, supOk, Bool.and_eq_true]
            have h1 := own_ilen Hown.out
            have h2 := HOq.out.l2
            exact ⟨decide_eq_true (by omega), List.all_eq_true.2 fun z hz => by have := Hzb.out z hz; unfold inB; simp; omega⟩
          have Hfl := Lib.hid hfl
          have HF := Lib.hid (SlAt.of_own Hown.out (by omega))
          have hSb : S < wq.heap.size := Hdr.out.lt
          have h0b : w0.heap.size ≤ wq.heap.size := Hdr.out.gr.size
          clear hfl
          go_wp2_with fail
          refine (l05Out_any n' zs _ HOq.out HF.out Hn.out Hfl.out).mono ?_
          rintro e w8 ⟨A3, c3, rfl, ho8, hg8⟩
          have Q8 : Hid (RowSt (fun z : Int => [Value.int .i64 z]) 2 1 w0 wq w8 S A3 n1' c3) := Lib.hid ⟨⟨outL n' zs, own_eq' ho8 (flat_int _).symm⟩, Hdr.out.grow hg8, hg8.chg _⟩
          clear ho8 hg8 HF Hown Hdr Hch Hzb
          go_wp2_with fail
          refine (l01Next_any (n1' : Int) Q8.out.dr (by omega)).mono ?_
          rintro e w9 ⟨x, rfl, hx, hd9, hc9⟩
          obtain ⟨y0, y1⟩ := hx.below (by omega)
          obtain ⟨J, hJ⟩ : ∃ J : Nat, x = (J : Int) := ⟨x.toNat, by omega⟩
          subst hJ
          have Q9 := Lib.hid (Q8.out.next hSb hd9 hc9)
          clear hx hd9 hc9 Q8
          go_wp2_with fail
          refine (l01Next_any 24 Q9.out.dr (by omega)).mono ?_
          rintro e w10 ⟨t, rfl, ht, hd10, hc10⟩
          have Q := Lib.hid (Q9.out.next hSb hd10 hc10)
          clear ht hd10 hc10 Q9
          have hJn : J < n1' := by omega
          obtain ⟨ls, hls⟩ := Q.out.row
          obtain ⟨b, hbA, hbb, hbl⟩ := own_form hls (by omega)
          subst hbA
          obtain ⟨v, hv⟩ : ∃ v, ls[J]? = some v := ⟨_, List.getElem?_eq_getElem (by have := own_ilen (own_eq' hls (flat_int ls)); omega)⟩
          by_cases h0 : t = 0
          · subst h0
            obtain ⟨p0, p1⟩ := own_int (own_eq' hls (flat_int ls)) hv
            obtain ⟨e9, he9⟩ : ∃ e, IntKind.i64.wrap (v + 1) = e := ⟨_, rfl⟩
            have Q20 := Lib.hid (Q.out.put hSb h0b J e9)
            clear hls hv x0 x1
            go_upto_region 20 with fail
            clear p0 p1 he9 Q
            generalize World.setCell _ _ _ = w11 at Q20 ⊢
            obtain ⟨⟨hMz, hRz⟩, h1, ⟨nf, h2⟩, ⟨ls, h3⟩, h4, h5⟩ := list_end HNq.out Q20.out hRw hRw0 hSR hMR
            rw [flat_int] at h3
            have m0 := rb_cell (j := 0) hMz rfl
            have m1 := rb_cell (j := 1) hMz rfl
            have r0 := rb_cell (j := 0) hRz rfl
            have r1 := rb_cell (j := 1) hRz rfl
            have f0 := rb_frozen hRz 0
            have f1 := rb_frozen hRz 1
            have H1 := Lib.hid h1
            have H2 := Lib.hid h2
            have H3 := Lib.hid h3
            have H4 := Lib.hid h4
            have H5 := Lib.hid h5
            clear h1 h2 h3 h4 h5 hMz hRz
            go_wp2_with fail
            (try simp only [Exit.inBlock, Exit.then])
            refine bodyPost_ret (results_row_tmp Tryz.results103 _ _ R 32 #[.slice A1' n1' c1', .slice A2' n2' c2'] (0, 0) _ ?_ H1.out Tryz.underlying32 rfl (by kernel_rfl)) ?_ ?_
            · rfl
            · rfl
            exact ⟨_, _, _, _, _, _, nf, _, _, _, ls, rfl, H2.out, ⟨q1, q2, by omega⟩, H3.out, H4.out, H5.out⟩
          by_cases h1 : t = 1
          · subst h1
            have lo := World.ownsRow_lit w10 (e := 2) (size := 1) #[.int .i64 30000, .int .i64 30001] 2 (Nat.le_refl _) (by unfold maxLen; omega) rfl
            have LO := Lib.hid lo
            have Q7 := Lib.hid (Q.out.next hSb (Q.out.dr.grow ((Gr.refl _).alloc (.cells #[.int .i64 30000, .int .i64 30001] 2))) (((Gr.refl _).alloc (.cells #[.int .i64 30000, .int .i64 30001] 2)).chg _))
            have hS5 : S < w10.heap.size := Q.out.dr.lt
            clear lo hls hv x0 x1
            go_wp2_with fail
            refine (l01Next_any 2 Q7.out.dr (by omega)).mono ?_
            rintro e w11 ⟨z, rfl, hz, hd6, hc6⟩
            obtain ⟨z0, z1⟩ := hz.lt (by omega)
            have lo2 := own_chg LO.out hc6 (fun j hj e => by have := own_low LO.out hj; omega)
            obtain ⟨y, hy⟩ := own_pick (zs := [30000, 30001]) lo2 z0 z1
            have Q11 := Lib.hid (Q7.out.next hSb hd6 hc6)
            obtain ⟨ls, hls⟩ := Q11.out.row
            obtain ⟨v, hv⟩ : ∃ v, ls[J]? = some v := ⟨_, List.getElem?_eq_getElem (by have := own_ilen (own_eq' hls (flat_int ls)); omega)⟩
            obtain ⟨p0, p1⟩ := own_int (own_eq' hls (flat_int ls)) hv
            have Q20 := Lib.hid (Q11.out.put hSb h0b J y)
            clear hz hd6 hc6 lo2 LO Q7 Q hls hv
            go_upto_region 20 with fail
            clear p0 p1 Q11
            generalize World.setCell _ _ _ = w12 at Q20 ⊢
            obtain ⟨⟨hMz, hRz⟩, h1, ⟨nf, h2⟩, ⟨ls, h3⟩, h4, h5⟩ := list_end HNq.out Q20.out hRw hRw0 hSR hMR
            rw [flat_int] at h3
            have m0 := rb_cell (j := 0) hMz rfl
            have m1 := rb_cell (j := 1) hMz rfl
            have r0 := rb_cell (j := 0) hRz rfl
            have r1 := rb_cell (j := 1) hRz rfl
            have f0 := rb_frozen hRz 0
            have f1 := rb_frozen hRz 1
            have H1 := Lib.hid h1
            have H2 := Lib.hid h2
            have H3 := Lib.hid h3
            have H4 := Lib.hid h4
            have H5 := Lib.hid h5
            clear h1 h2 h3 h4 h5 hMz hRz
            go_wp2_with fail
            (try simp only [Exit.inBlock, Exit.then])
            refine bodyPost_ret (results_row_tmp Tryz.results103 _ _ R 32 #[.slice A1' n1' c1', .slice A2' n2' c2'] (0, 0) _ ?_ H1.out Tryz.underlying32 rfl (by kernel_rfl)) ?_ ?_
            · rfl
            · rfl
            exact ⟨_, _, _, _, _, _, nf, _, _, _, ls, rfl, H2.out, ⟨q1, q2, by omega⟩, H3.out, H4.out, H5.out⟩
          clear hls hv x0 x1
          by_cases h2 : t = 2
          · subst h2
            obtain ⟨ls, hls⟩ := Q.out.row
            have Hls := Lib.hid hls
            have hws := Q.out.ch.size
            clear hls
            go_upto_region 20 with (at_builtin; (refine wpList_append_own _ rfl _ _ _ rfl wq.heap.size 2 i0 _ 1 8 Tryz.underlying26 hi0 hz0 hz1 hz2 rfl (by omega) _ n1' _ rfl (Hls.out.alloc _) ⟨w10.heap.size, 0, none⟩ 1 1 [.int .i64 0] rfl rfl (World.news_of_block (cs := #[.int .i64 0]) (t := 2) (fr := (0, 0)) (heap_alloc_new w10 _)) (by simp [Value.oneCell']) (by unfold maxLen; omega) (by omega) (by simp; omega) ?_; intro v' w20 hown20 hg20 _; obtain ⟨A', c', rfl⟩ := own_shape hown20; have Q20 := Lib.hid (Q.out.add (x := 0) hSb h0b hown20 hg20); clear hown20 hg20 Hls))
            obtain ⟨⟨hMz, hRz⟩, h1, ⟨nf, h2⟩, ⟨ls, h3⟩, h4, h5⟩ := list_end HNq.out Q20.out hRw hRw0 hSR hMR
            rw [flat_int] at h3
            have m0 := rb_cell (j := 0) hMz rfl
            have m1 := rb_cell (j := 1) hMz rfl
            have r0 := rb_cell (j := 0) hRz rfl
            have r1 := rb_cell (j := 1) hRz rfl
            have f0 := rb_frozen hRz 0
            have f1 := rb_frozen hRz 1
            have H1 := Lib.hid h1
            have H2 := Lib.hid h2
            have H3 := Lib.hid h3
            have H4 := Lib.hid h4
            have H5 := Lib.hid h5
            clear h1 h2 h3 h4 h5 hMz hRz
            go_wp2_with fail
            (try simp only [Exit.inBlock, Exit.then])
            refine bodyPost_ret (results_row_tmp Tryz.results103 _ _ R 32 #[.slice A1' n1' c1', .slice A2' n2' c2'] (0, 0) _ ?_ H1.out Tryz.underlying32 rfl (by kernel_rfl)) ?_ ?_
            · rfl
            · rfl
            exact ⟨_, _, _, _, _, _, nf, _, _, _, ls, rfl, H2.out, ⟨q1, q2, by omega⟩, H3.out, H4.out, H5.out⟩
          have tt0 : (t == 0) = false := by simp [h0]
          have tt1 : (t == 1) = false := by simp [h1]
          have tt2 : (t == 2) = false := by simp [h2]
          clear h0 h1 h2
          go_upto_region 20 with fail
          obtain ⟨⟨hMz, hRz⟩, h1, ⟨nf, h2⟩, ⟨ls, h3⟩, h4, h5⟩ := list_end HNq.out Q.out hRw hRw0 hSR hMR
          rw [flat_int] at h3
          have m0 := rb_cell (j := 0) hMz rfl
          have m1 := rb_cell (j := 1) hMz rfl
          have r0 := rb_cell (j := 0) hRz rfl
          have r1 := rb_cell (j := 1) hRz rfl
          have f0 := rb_frozen hRz 0
          have f1 := rb_frozen hRz 1
          have H1 := Lib.hid h1
          have H2 := Lib.hid h2
          have H3 := Lib.hid h3
          have H4 := Lib.hid h4
          have H5 := Lib.hid h5
          clear h1 h2 h3 h4 h5 hMz hRz
          go_wp2_with fail
          (try simp only [Exit.inBlock, Exit.then])
          refine bodyPost_ret (results_row_tmp Tryz.results103 _ _ R 32 #[.slice A1' n1' c1', .slice A2' n2' c2'] (0, 0) _ ?_ H1.out Tryz.underlying32 rfl (by kernel_rfl)) ?_ ?_
          · rfl
          · rfl
          exact ⟨_, _, _, _, _, _, nf, _, _, _, ls, rfl, H2.out, ⟨q1, q2, by omega⟩, H3.out, H4.out, H5.out⟩
end Go.Proofs.YthhmhigddmimjaaGreat
