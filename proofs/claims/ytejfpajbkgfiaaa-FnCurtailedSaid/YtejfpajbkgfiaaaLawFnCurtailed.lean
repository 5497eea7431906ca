/-
  For every input the law FnCurtailed returns true. No condition. The walk is printed by gen_laws.py.
-/
import Derived.Deep.RegionHeld3
import Derived.Deep.AppendLies
import Derived.Test.YtejfpajbkgfiaaaLawKs
import Derived.Test.YtejfpajbkgfiaaaDrawC
import Derived.Test.YtejfpajbkgfiaaaPlain4
import Derived.Test.YtejfpajbkgfiaaaCurtA
import Derived.Test.YtejfpajbkgfiaaaFit
import Derived.Test.YtejfpajbkgfiaaaLawKs
import Derived.Test.YtejfpajbkgfiaaaDice
import Derived.Test.YtejfpajbkgfiaaaDrawC
import Derived.Test.YtejfpajbkgfiaaaSeat
import Derived.Test.YtejfpajbkgfiaaaOpen
import Derived.Test.YtejfpajbkgfiaaaText
namespace Go.Proofs.Ytejfpajbkgfiaaa
open Go.ChangeShapes Go.WideShapes Go.ChangeAt Go.RowKit Go.Deep Go.Joins

namespace FnCurtailed
set_option maxHeartbeats 8000000 in
set_option maxRecDepth 100000 in
theorem walk (A : Option Addr) (n c : Nat) (bs : List UInt8) (w : World) (hR : Sl w 1 A n (byts bs)) (hnc : n ≤ c) (_hm : n ≤ maxLen) :
    Calls Try.prog 7 #[.slice A n c] w fun e w' => e = .returned (.bool true) ∧ Gr w w' := by
  have HR := Lib.hid hR
  clear hR
  go_enter Try.func7, Try.ntmps7
  go_wp2_with fail
  refine (big_any _).mono ?_
  rintro e w' ⟨rfl, hw'⟩
  rw [← hw']
  clear hw'
  by_cases hb : 4096 < n
  · have tb : decide (4096 < n) = true := decide_eq_true hb
    go_wp2_with fail
    go_ret
    exact ⟨rfl, Gr.refl _⟩
  have tb : decide (4096 < n) = false := decide_eq_false hb
  go_wp2_with fail
  refine (DrawCurtailTransports_any bs _ ⟨HR.out, hnc, by omega⟩).mono ?_
  rintro e w0 ⟨A1, n1, c1, A2, n2, c2, v, A3, n3, c3, l, rfl, hN, hHL, gw⟩
  obtain ⟨w1, hw1⟩ : ∃ W, W = w0.alloc (.cells #[.slice A1 n1 c1, .slice A2 n2 c2] 27) := ⟨_, rfl⟩
  obtain ⟨M, hM⟩ : ∃ M, M = w0.heap.size := ⟨_, rfl⟩
  have a0 : w1.cell? ⟨M, 0, none⟩ = some (.slice A1 n1 c1) := by rw [hw1, hM]; simp [go_sem]
  have a1 : w1.cell? ⟨M, 1, none⟩ = some (.slice A2 n2 c2) := by rw [hw1, hM]; simp [go_sem]
  have h01 : Gr w0 w1 := by rw [hw1]; exact (Gr.refl _).alloc _
  replace gw : Gr w w1 := gw.trans h01
  have HN := Lib.hid (hN.gr h01)
  have mHL := hHL.small
  have HL := Lib.hid (hHL.gr h01)
  have Hw1 := Lib.hid hw1
  have HM := Lib.hid hM
  clear hw1 hM hN h01 hHL
  go_wp2_with fail
  rw [← Hw1.out, ← HM.out]
  refine (CurtailTransports_any v l _ HN.out HL.out).mono ?_
  rintro e w2 ⟨XA, Xm, Xc, rfl, Xl, o, h⟩
  replace gw := gw.trans h
  replace a0 := h.has a0
  replace a1 := h.has a1
  replace HN := Lib.hid (HN.out.gr h)
  replace HL := Lib.hid (HL.out.gr h)
  have HX := Lib.hid (SlAt.of_own o Xl)
  clear h o
  go_wp2_with fail
  refine (spCurtailTransports_any v l _ HN.out HL.out).mono ?_
  rintro e w3 ⟨YA, Ym, Yc, rfl, Yl, o, h⟩
  replace gw := gw.trans h
  replace a0 := h.has a0
  replace a1 := h.has a1
  replace HN := Lib.hid (HN.out.gr h)
  replace HL := Lib.hid (HL.out.gr h)
  replace HX := Lib.hid (HX.out.gr h)
  have HY := Lib.hid (SlAt.of_own o Yl)
  clear h o
  go_wp2_with fail
  refine (likeTransports_same _ _ HX.out HY.out).mono ?_
  rintro e w4 ⟨rfl, h⟩
  replace gw := gw.trans h
  replace a0 := h.has a0
  replace a1 := h.has a1
  replace HN := Lib.hid (HN.out.gr h)
  replace HL := Lib.hid (HL.out.gr h)
  replace HX := Lib.hid (HX.out.gr h)
  replace HY := Lib.hid (HY.out.gr h)
  clear h
  by_cases hc : trCode v l = 0
  · obtain ⟨f1, f2⟩ := ck_self hc
    have ec : cuRes v l = curs v l := by rw [cuRes, if_pos hc]
    have F5 := Lib.hid (cur_fits hc)
    have Hcl := Lib.hid (curs_len (trCode_zero hc).1 l)
    have Hcb := Lib.hid (curs_bnd (trCode_zero hc).1 l)
    have Hml := Lib.hid (fun (k : Nat) (hk : k < 4) (s : Int) => more_law hc hk (s := s))
    have tc : (trCode v l != 0) = false := by simp [hc]
    have tk1 : (scCode v l (curs v l) != 0) = false := by simp [f1]
    have tk2 : (ckVal v l (curs v l) != -1) = false := by simp [f2]
    clear hc f1 f2
    go_wp2_with fail
    refine (CurtailScales_any v l _ HN.out HL.out).mono ?_
    rintro e w5 ⟨PA, Pm, Pc, rfl, Pl, o, h⟩
    replace gw := gw.trans h
    replace a0 := h.has a0
    replace a1 := h.has a1
    replace HN := Lib.hid (HN.out.gr h)
    replace HL := Lib.hid (HL.out.gr h)
    replace HX := Lib.hid (HX.out.gr h)
    replace HY := Lib.hid (HY.out.gr h)
    have HP := Lib.hid (SlAt.of_own o Pl)
    clear h o
    go_wp2_with fail
    refine (spCurtailScales_any v l _ HN.out HL.out).mono ?_
    rintro e w6 ⟨TA, Tm, Tc, rfl, Tl, o, h⟩
    replace gw := gw.trans h
    replace a0 := h.has a0
    replace a1 := h.has a1
    replace HN := Lib.hid (HN.out.gr h)
    replace HL := Lib.hid (HL.out.gr h)
    replace HX := Lib.hid (HX.out.gr h)
    replace HY := Lib.hid (HY.out.gr h)
    replace HP := Lib.hid (HP.out.gr h)
    have HT := Lib.hid (SlAt.of_own o Tl)
    clear h o
    rw [ec] at HP HT
    clear ec
    go_wp2_with fail
    refine (CheckScales_any v l (curs v l) _ HN.out HL.out HT.out).mono ?_
    rintro e w7 ⟨rfl, h⟩
    replace gw := gw.trans h
    replace a0 := h.has a0
    replace a1 := h.has a1
    replace HN := Lib.hid (HN.out.gr h)
    replace HL := Lib.hid (HL.out.gr h)
    replace HX := Lib.hid (HX.out.gr h)
    replace HY := Lib.hid (HY.out.gr h)
    replace HP := Lib.hid (HP.out.gr h)
    replace HT := Lib.hid (HT.out.gr h)
    clear h
    go_wp2_with fail
    refine (likeInts_same _ _ HP.out HT.out).mono ?_
    rintro e w8 ⟨rfl, h⟩
    replace gw := gw.trans h
    replace a0 := h.has a0
    replace a1 := h.has a1
    replace HN := Lib.hid (HN.out.gr h)
    replace HL := Lib.hid (HL.out.gr h)
    replace HX := Lib.hid (HX.out.gr h)
    replace HY := Lib.hid (HY.out.gr h)
    replace HP := Lib.hid (HP.out.gr h)
    replace HT := Lib.hid (HT.out.gr h)
    clear h
    go_wp2_with fail
    refine (DoFit_any v (ctRes v l) _ HN.out HX.out).mono ?_
    rintro e w9 ⟨rfl, h⟩
    replace gw := gw.trans h
    replace a0 := h.has a0
    replace a1 := h.has a1
    replace HN := Lib.hid (HN.out.gr h)
    replace HL := Lib.hid (HL.out.gr h)
    replace HX := Lib.hid (HX.out.gr h)
    replace HY := Lib.hid (HY.out.gr h)
    replace HP := Lib.hid (HP.out.gr h)
    replace HT := Lib.hid (HT.out.gr h)
    clear h
    rw [F5.out]
    go_wp2_with fail
    obtain ⟨i0, hi0, hz0, hz1, hz2⟩ := info_parts infoInt64
    have hcode : SlAt w9 1 A n c (byts bs) := SlAt.gr ⟨HR.out, hnc, by omega⟩ gw
    have HCd := Lib.hid hcode
    clear hcode
    refine (roll_any bs 2501 _ HCd.out).mono ?_
    rintro e wr1 ⟨D, dh, rfl, hDb, hd1, hgr1⟩
    have Hd1 := Lib.hid hd1
    clear hd1
    go_wp2_with fail
    refine (below_any bs 4 (by omega) HCd.out hDb hgr1 (by omega) Hd1.out).mono ?_
    rintro e wz ⟨cls, di, dh2, rfl, ⟨k0, k1⟩, hdi, hd2, hc2⟩
    have hgz : Gr w9 wz := hgr1.of_chg hc2 (fun j hj => by omega)
    have Hd2 := Lib.hid hd2
    obtain ⟨K, hK⟩ : ∃ K : Nat, cls = (K : Int) := ⟨cls.toNat, by omega⟩
    subst hK
    have hK4 : K < 4 := by omega
    have hDz := hd2.lt
    have htl := HT.out.sl.ilen
    obtain ⟨z, hz⟩ : ∃ z, (curs v l)[K]? = some z := ⟨_, List.getElem?_eq_getElem (by have := Hcl.out; omega)⟩
    have hzd : (curs v l).getD K 0 = z := by rw [List.getD_eq_getElem?_getD, hz]; rfl
    have hzb := Hcb.out K
    rw [hzd] at hzb
    obtain ⟨zb0, zb1⟩ := hzb
    obtain ⟨b, o, hTA, hb, e0⟩ := HT.out.sl.int hz
    have hrow : ∀ j u, (ints ((curs v l).take K))[j]? = some u → w9.cell? ⟨b, o + j, none⟩ = some u := by
      intro j u hu
      obtain ⟨b2, o2, hA2, _, hr⟩ := HT.out.sl.2 (by have := Hcl.out; omega)
      rw [hTA] at hA2
      injection hA2 with hA2
      injection hA2 with h1 h2
      subst h1
      subst h2
      refine hr j u ?_
      simp only [ints, List.getElem?_map, List.getElem?_take] at hu ⊢
      by_cases hj : j < K
      · rw [if_pos hj] at hu; exact hu
      · rw [if_neg hj] at hu; cases hu
    have Hrow := Lib.hid hrow
    have htk : (ints ((curs v l).take K)).length = K * 1 := by have := Hcl.out; simp [ints]; omega
    have Htk := Lib.hid htk
    have hTm4 : Tm = 4 := by have := Hcl.out; omega
    have hTc := HT.out.cap
    have hTc4 : 4 ≤ Tc := by omega
    have HTm4 := Lib.hid hTm4
    have t1 : (K : Int) < (Tm : Int) := by omega
    subst hTA
    have e1 := hgz.has e0
    have Hzd := Lib.hid hzd
    clear hd2 hc2 hz hrow htk htl hTm4 hzd hTc Hd1
    by_cases hz100 : z = 100
    · have tz : (z == 100) = true := by simp [hz100]
      go_wp2_with fail
      go_ret
      exact ⟨rfl, gw.trans hgz⟩
    have tz : (z == 100) = false := by simp [hz100]
    have hzl : z < 100 := by omega
    have hkt1 : (K : Int) ≤ (Tm : Int) := by omega
    have hkt2 : (K : Int) ≤ (Tc : Int) := by omega
    clear hz100
    have ho0 : (wz.alloc (.cells #[] 2)).ownsRow wz.heap.size 2 1 (.slice (some ⟨wz.heap.size, 0, none⟩) 0 0) 0 [] := World.ownsRow_lit wz #[] 0 (Nat.le_refl _) (by unfold maxLen; omega) rfl
    have hn1 : ∀ j u, (ints ((curs v l).take K))[j]? = some u → (wz.alloc (.cells #[] 2)).cell? (Addr.add ⟨b, o, none⟩ j) = some u := fun j u hu => by rw [Addr.add_lit]; exact (hgz.alloc (.cells #[] 2)).has (Hrow.out j u hu)
    have h63 : 0 + K ≤ maxLen := by unfold maxLen; omega
    have Ho0 := Lib.hid ho0
    have Hn1 := Lib.hid hn1
    have H63 := Lib.hid h63
    clear ho0 hn1 h63
    go_wp2_with (at_builtin; (refine wpList_append_own _ rfl _ _ _ rfl wz.heap.size 2 i0 _ 1 8 Try.underlying33 hi0 hz0 hz1 hz2 rfl (by omega) _ 0 [] rfl Ho0.out ⟨b, o, none⟩ K Tc (ints ((curs v l).take K)) rfl Htk.out Hn1.out (ints_one _) H63.out (by omega) (by simp) ?_; intro v' wx hownx hgx _))
    rw [Nat.zero_add, List.nil_append] at hownx
    obtain ⟨MA, Mc, rfl⟩ := own_shape hownx
    have hgwx : Gr wz wx := ((Gr.refl wz).alloc _).grown hgx (fun j hj => by have : wz.heap.size = j := Option.some.inj hj; omega)
    have hgbx := hgz.trans hgwx
    have e2 := (hgwx.trans (Gr.refl wx).drew).has e1
    have e2' := hgwx.has e1
    have Hownd := Lib.hid (own_gr hownx (Gr.refl wx).drew)
    have Hdxd := Lib.hid (Hd2.out.gr (hgwx.trans (Gr.refl wx).drew))
    have Hgbd := Lib.hid (hgbx.trans (Gr.refl wx).drew)
    have hsx := hgwx.size
    have hsxd : wx.heap.size ≤ wx.drew.heap.size := (Gr.refl wx).drew.size
    have hwa : IntKind.i64.wrap (z + 1) = z + 1 := IntWalk.i64_in _ (by omega)
    have hwb : IntKind.i64.wrap (100 - z) = 100 - z := IntWalk.i64_in _ (by omega)
    have hbD : b ≠ D := by omega
    have hbz : b < wz.heap.size := by have := hgz.size; omega
    have hbl := Hgbd.out.size
    clear hownx hgx Hn1 Ho0 H63 hgwx
    go_wp2_with fail
    go_region_held3 (fun w' => w'.cell? ⟨b, o + K, none⟩ = some (.int .i64 z))
      (first
        | exact e2
        | assumption
        | exact ((Gr.refl _).alloc _).has (by assumption)
        | (rw [hgrow.cell_far _ (by simp; omega) (fun e => hfar e.symm)]; exact ((Gr.refl _).alloc _).has (by assumption)))
      (first
        | (go_at_call 44; with_reducible refine (below_any bs (100 - z) (by omega) HCd.out hDb Hgbd.out hdi Hdxd.out).mono ?_; rintro e v6 ⟨x, i6, h6, rfl, ⟨x0, x1⟩, hi6, hd6, hc6⟩; have p2 := chg_cell' hc6 e2 (by simp only; omega); have hown6 := own_chg Hownd.out hc6 (fun j hj e => by have := own_low Hownd.out hj; omega); have hg6 : Gr w9 v6 := Hgbd.out.of_chg hc6 (fun j hj => by omega); have hs6 := hc6.size; have hwc : IntKind.i64.wrap (z + 1 + x) = z + 1 + x := IntWalk.i64_in _ (by omega))
        | (refine step_append_lies _ (by rfl) _ _ _ (by rfl) wz.heap.size 2 i0 _ 1 8 Try.underlying33 hi0 hz0 hz1 hz2 rfl (by omega) _ K _ (by rfl) (hown6.alloc _) ⟨v6.heap.size, 0, none⟩ 1 1 [.int .i64 (z + 1 + x)] (by rfl) (by rfl) (World.news_of_block (cs := #[.int .i64 (z + 1 + x)]) (t := 2) (fr := (0, 0)) (heap_alloc_new v6 _)) (by simp [Value.oneCell']) (by omega) (by unfold maxLen; omega) (by omega) (by simp; omega) (v6.heap.size + 1) (by simp) ?_; intro gg cap v9 hown9 hgrow hat hlt9; have hfar : (Value.slice MA K Mc).ownBlock ≠ some b := fun e => by have := own_low hown6 e; omega))
    have hg9 : Gr w9 v9 := (hg6.alloc _).grown hgrow (fun j hj => by have := own_low hown6 hj; have := hgz.size; omega)
    have hs1 : (curs v l).getD K 0 < z + 1 + x := by rw [Hzd.out]; omega
    obtain ⟨m1, m2⟩ := Hml.out K hK4 (z + 1 + x) hs1 (by omega)
    have eK1 : ints ((curs v l).take K) ++ [.int .i64 (z + 1 + x)] = ints ((curs v l).take K ++ (z + 1 + x) :: List.replicate (K + 1 - K - 1) 0) := by
      have e : K + 1 - K - 1 = 0 := by omega
      rw [e]
      simp [ints]
    have HO9 := Lib.hid (own_cells_eq hown9 eK1)
    obtain ⟨sv, hsv⟩ : ∃ sv, sv = z + 1 + x := ⟨_, rfl⟩
    rw [← hsv] at HO9 m1 m2 ⊢
    have tm : (scCode v l (moreOf (curs v l) K sv) == 0) = true := by simp [m1]
    have M2 := Lib.hid m2
    have hzs := hgz.size
    clear eK1 hsv hown9 hgrow hat hlt9 hfar hown6 hd6 hc6 hs1 m1 m2 p2 e1 e2 e2' hwa hwb hwc Hownd Hdxd Hgbd hgbx
    go_wp2_with fail
    go_loopw [17] (fun ow wq => ∃ u A cc, (K + 1 ≤ u ∧ u ≤ 4) ∧ ow = .slice A u cc ∧ wq.ownsRow wz.heap.size 2 1 (.slice A u cc) u (ints ((curs v l).take K ++ sv :: List.replicate (u - K - 1) 0)) ∧ Gr w9 wq) (fun ow _ => 4 - lenOf ow)
    case atStart => exact ⟨_, _, _, ⟨by omega, by omega⟩, rfl, HO9.out, hg9⟩
    case round =>
      obtain ⟨u, MB, cc, ⟨hu1, hu2⟩, rfl, ho, hgq⟩ := hrel
      have Ho := Lib.hid ho
      have hlow : wz.heap.size ≤ wr.heap.size := by
        obtain ⟨q, hq, hq1, hq2⟩ := own_form ho (by omega)
        omega
      clear ho HO9
      by_cases hul : u < 4
      · have t1 : (u : Int) < 4 := by omega
        go_wp2_with (at_builtin; (refine wpList_append_own _ rfl _ _ _ rfl wz.heap.size 2 i0 _ 1 8 Try.underlying33 hi0 hz0 hz1 hz2 rfl (by omega) _ u _ rfl (Ho.out.alloc _) ⟨wr.heap.size, 0, none⟩ 1 1 [.int .i64 0] rfl rfl (World.news_of_block (cs := #[.int .i64 0]) (t := 2) (fr := (0, 0)) (heap_alloc_new wr _)) (by simp [Value.oneCell']) (by unfold maxLen; omega) (by omega) (by simp; omega) ?_; intro v' v20 hown20 hg20 _))
        obtain ⟨A', c', rfl⟩ := own_shape hown20
        have Ho2 := Lib.hid (own_cells_eq hown20 (ints_snoc _ (0 : Int)).symm)
        have hgq2 := (hgq.alloc (.cells #[.int .i64 0] 2)).grown hg20 (fun j hj => by have := own_base_le Ho.out hj; omega)
        clear hown20 hg20
        go_wp2_with fail
        go_roundw
        case rel =>
          refine ⟨_, _, _, ⟨by omega, by omega⟩, rfl, own_cells_eq Ho2.out ?_, hgq2⟩
          have e : u + 1 - K - 1 = (u - K - 1) + 1 := by omega
          rw [e, List.replicate_succ']
          simp [ints]
        case measure => simp [lenOf]; omega
      · obtain rfl : u = 4 := by omega
        have eK : 4 - K - 1 = 3 - K := by omega
        have hsl : SlAt wr 1 MB 4 cc (ints (moreOf (curs v l) K sv)) := SlAt.of_own (own_cells_eq Ho.out (by rw [eK, moreOf])) (by omega)
        have Hsl := Lib.hid hsl
        have a0 := hgq.has a0
        have a1 := hgq.has a1
        clear hsl eK
        go_wp2_with fail
        refine (ScaleTransports_any v l (moreOf (curs v l) K sv) _ (HN.out.gr hgq) (HL.out.gr hgq) Hsl.out).mono ?_
        rintro e v21 ⟨SA, Sm, Sc, rfl, hSm, hoS, hg21⟩
        have HZ := Lib.hid (SlAt.of_own hoS hSm)
        have a0 := hg21.has a0
        have a1 := hg21.has a1
        clear hoS
        go_wp2_with fail
        refine (DoFit_any v (scRes v l (moreOf (curs v l) K sv)) _ (HN.out.gr (hgq.trans hg21)) HZ.out).mono ?_
        rintro e v22 ⟨rfl, hg22⟩
        rw [M2.out]
        go_wp2_with fail
        go_ret
        exact ⟨rfl, gw.trans ((hgq.trans hg21).trans hg22)⟩
  · have tc : (trCode v l != 0) = true := by simp [hc]
    clear hc
    go_wp2_with fail
    go_ret
    exact ⟨rfl, gw⟩
set_option maxRecDepth 100000 in
theorem lifted (os : Os) (started : os.Started) (H : Type) (enc : TypeId × Value → H) :
    ReturnsInHanded {} Try.checked os 7 .any (Rows.fnCurtailedSpec.pre6 enc Try.prog Try.f7 Rows.fnCurtailedRow.domain false) (Rows.fnCurtailedSpec.post enc Try.prog Try.f7 false true false false) := by
  refine returnsInHanded_of_change (C := Try.checked) own started (by kernel_rfl) Try.func7
    (ChangeSpec.witness6 (enc := enc) (C := Try.checked) false ⟨#[], #[.slice none 0 0], []⟩ 8 (by kernel_rfl) (by kernel_rfl) (by kernel_rfl) (by kernel_rfl)) ?_
  intro W base args ds gs before hval0 hW hcnd _
  have hval : ∀ (j : Nat) t v, Try.f7.params[j]? = some t → args[j]? = some v → Value.okWide Try.prog W .any base t v := hval0
  have hW' := hW
  obtain ⟨p, q, hA0, hV, rfl, hfz, hnd⟩ := hW
  have hA : DataW.TrodAll enc Try.prog W 0 (fun _ => true) true Try.f7.params.toList args.toList ds p := hA0
  have hAk := hA0
  have hlt : ∀ x ∈ p, x.block < W.heap.size := fun x hx => hW'.lt x (List.mem_append_left _ hx)
  rw [Try.params7] at hA hval
  obtain ⟨u0, vs0, e0, ds0, p0, q0, hargs, rfl, rfl, h0, r0⟩ := trodAll_cons hA
  obtain ⟨rfl, rfl, rfl⟩ := trodAll_nil r0
  obtain rfl : args = #[u0] := by cases args; simp_all
  obtain ⟨rfl, rfl⟩ := trodVars_none hV
  obtain ⟨fu0, hf0⟩ := h0
  obtain ⟨aa0, bb0, cc0, rfl⟩ := okWide_slice Try.underlying22 (hval 0 _ u0 rfl rfl)
  obtain ⟨A0, n0, c0, v0, hv0, k0, k0x, hR0⟩ := open_bytes (by simpa [Value.cells] using hf0)
  injection hv0 with ha0 hb0 hc0
  subst ha0 hb0 hc0
  clear hA0 hval0
  refine (walk _ _ _ v0 W hR0 k0 (Nat.le_trans k0 k0x)).mono fun e W' ⟨he, hg⟩ => ?_
  subst he
  exact ⟨_, rfl, _, [], _, [], _, [], hW', trodAll_cons_mk (shut_bool Try.underlying4 _) trodAll_mk0, trodAll_stays hg.below _ _ _ _ _ (by rw [Try.params7]; intro t ht; simp only [List.mem_cons, List.not_mem_nil, or_false] at ht; rcases ht with rfl <;> exact ⟨by kernel_rfl, of_decide_eq_true (by kernel_rfl)⟩) hAk hlt (fun x hx => by simpa using hlt x hx), rfl, hg.below.frame _, fun h => by cases h⟩
set_option maxHeartbeats 8000000 in
set_option maxRecDepth 100000 in
theorem closed : joinedFacts Try.prog 7 Try.f7 Rows.fnCurtailedSpec Rows.fnCurtailedRow = true := by
  unfold joinedFacts
  simp only [Bool.and_eq_true]
  repeat' (with_reducible apply And.intro)
  all_goals (first | with_reducible exact seat_laid | with_reducible exact seat_maps | with_reducible exact seat_heard | with_reducible exact seat_enter | (with_reducible rw [seat_stops]; as_aux_lemma => kernel_rfl) | (with_reducible rw [seat_knobs]; as_aux_lemma => kernel_rfl) | (with_reducible rw [seat_keys]; as_aux_lemma => kernel_rfl) | (with_reducible rw [seat_final]; as_aux_lemma => kernel_rfl) | (with_reducible rw [seat_make]; as_aux_lemma => kernel_rfl) | as_aux_lemma => kernel_rfl)
theorem named : Try.prog.funcNamed Rows.fnCurtailedRow.func = some 7 := by kernel_rfl
theorem over : Rows.fnCurtailedRow.holds Try.pinned (OpenSpec.ofChange Rows.fnCurtailedSpec) :=
  OpenClaim.holds_of_wide 7 Try.f7 rfl rfl rfl rfl rfl rfl rfl ⟨rfl, rfl, rfl, rfl, rfl⟩ rfl rfl rfl rfl rfl named Try.func7 closed
    (of_decide_eq_true (by as_aux_lemma => kernel_rfl)) (by unfold Func.isWrapper; first | (rw [if_pos (by decide +kernel)]; kernel_rfl) | (rw [if_neg (by decide +kernel)]; exact ⟨rfl, rfl⟩))
    (fun os started H enc _ => lifted os started H enc)
theorem proved : Rows.FnCurtailedSaid := over
#print axioms proved
end FnCurtailed
end Go.Proofs.Ytejfpajbkgfiaaa
