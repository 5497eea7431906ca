/-
  For every input the law FnRelievers returns true. No condition. The walk is printed by gen_laws.py.
-/
import Derived.Test.YtejfpajbkgfiaaaLawKs
import Derived.Test.YtejfpajbkgfiaaaDraw12
import Derived.Test.YtejfpajbkgfiaaaPlain1
import Derived.Test.YtejfpajbkgfiaaaConfA
import Derived.Test.YtejfpajbkgfiaaaConfA
import Derived.Test.YtejfpajbkgfiaaaSeat
import Derived.Test.YtejfpajbkgfiaaaOpen
import Derived.Test.YtejfpajbkgfiaaaText
namespace Go.Proofs.Ytejfpajbkgfiaaa
open Go.ChangeShapes Go.WideShapes Go.ChangeAt Go.RowKit Go.Deep Go.Joins

namespace FnRelievers
set_option maxHeartbeats 4000000 in
set_option maxRecDepth 100000 in
theorem walk (A : Option Addr) (n c : Nat) (bs : List UInt8) (w : World) (hR : Sl w 1 A n (byts bs)) (hnc : n ≤ c) (_hm : n ≤ maxLen) :
    Calls Try.prog 11 #[.slice A n c] w fun e w' => e = .returned (.bool true) ∧ Gr w w' := by
  have HR := Lib.hid hR
  clear hR
  go_enter Try.func11, Try.ntmps11
  go_wp2_with fail
  refine (big_any _).mono ?_
  rintro e w' ⟨rfl, hw'⟩
  rw [← hw']
  clear hw'
  by_cases hb : 4096 < n
  · have tb : decide (4096 < n) = true := decide_eq_true hb
    go_wp2_with fail
    go_ret
    exact ⟨rfl, Gr.refl _⟩
  have tb : decide (4096 < n) = false := decide_eq_false hb
  go_wp2_with fail
  refine (DrawRelievers_any bs _ ⟨HR.out, hnc, by omega⟩).mono ?_
  rintro e w0 ⟨A1, n1, c1, A2, n2, c2, v, A3, n3, c3, l, A4, n4, c4, s, rfl, hN, hHL, hHS, gw⟩
  obtain ⟨w1, hw1⟩ : ∃ W, W = w0.alloc (.cells #[.slice A1 n1 c1, .slice A2 n2 c2] 27) := ⟨_, rfl⟩
  obtain ⟨M, hM⟩ : ∃ M, M = w0.heap.size := ⟨_, rfl⟩
  have a0 : w1.cell? ⟨M, 0, none⟩ = some (.slice A1 n1 c1) := by rw [hw1, hM]; simp [go_sem]
  have a1 : w1.cell? ⟨M, 1, none⟩ = some (.slice A2 n2 c2) := by rw [hw1, hM]; simp [go_sem]
  have h01 : Gr w0 w1 := by rw [hw1]; exact (Gr.refl _).alloc _
  replace gw : Gr w w1 := gw.trans h01
  have HN := Lib.hid (hN.gr h01)
  have mHL := hHL.small
  have HL := Lib.hid (hHL.gr h01)
  have mHS := hHS.small
  have HS := Lib.hid (hHS.gr h01)
  have Hw1 := Lib.hid hw1
  have HM := Lib.hid hM
  clear hw1 hM hN h01 hHL hHS
  go_wp2_with fail
  rw [← Hw1.out, ← HM.out]
  refine (Relievers_any v l s _ HN.out HL.out HS.out).mono ?_
  rintro e w2 ⟨XA, Xm, Xc, rfl, Xl, o, h⟩
  replace gw := gw.trans h
  replace a0 := h.has a0
  replace a1 := h.has a1
  replace HN := Lib.hid (HN.out.gr h)
  replace HL := Lib.hid (HL.out.gr h)
  replace HS := Lib.hid (HS.out.gr h)
  have HX := Lib.hid (SlAt.of_own o Xl)
  clear h o
  go_wp2_with fail
  refine (spRelievers_any v l s _ HN.out HL.out HS.out).mono ?_
  rintro e w3 ⟨YA, Ym, Yc, rfl, Yl, o, h⟩
  replace gw := gw.trans h
  replace a0 := h.has a0
  replace a1 := h.has a1
  replace HN := Lib.hid (HN.out.gr h)
  replace HL := Lib.hid (HL.out.gr h)
  replace HS := Lib.hid (HS.out.gr h)
  replace HX := Lib.hid (HX.out.gr h)
  have HY := Lib.hid (SlAt.of_own o Yl)
  clear h o
  go_wp2_with fail
  refine wp_region_text (fun w' => Gr w3 w' ∧ w'.cell? ⟨M, 0, none⟩ = some (.slice A1 n1 c1) ∧ w'.cell? ⟨M, 1, none⟩ = some (.slice A2 n2 c2)) (by kernel_rfl) (by kernel_rfl) (by decide) ⟨(Gr.refl _).drew, (Gr.refl w3).drew.has a0, (Gr.refl w3).drew.has a1⟩ ?_
  repeat (first
    | ((with_reducible refine wpText_skip ?_ ?_)
       · rfl
       simp only [Act.put, List.setIfInBounds_toArray, List.set_cons_zero, List.set_cons_succ])
    | ((with_reducible refine wpText_yield (v := ?_) ?_ ?_ ?_)
       rotate_left
       · rfl
       · (intro W hW; obtain ⟨hWg, hW0, hW1⟩ := hW; first | (go_simp; done) | (go_simp; with_reducible rfl))
       simp only [Act.put, List.setIfInBounds_toArray, List.set_cons_zero, List.set_cons_succ])
    | ((with_reducible refine wpText_yield1 (v := ?_) ?_ ?_ ?_)
       rotate_left
       · rfl
       · (intro W hW; obtain ⟨hWg, hW0, hW1⟩ := hW; first | (go_simp; done) | (go_simp; with_reducible rfl))
       simp only [Act.put, List.setIfInBounds_toArray, List.set_cons_zero, List.set_cons_succ]))
  refine wpText_do (.bool true) (by rfl) (fun W hW K hK => ?_) ?_
  · obtain ⟨hWg, hW0, hW1⟩ := hW
    go_simp
    refine (likeInts_same _ _ (HX.out.gr hWg) (HY.out.gr hWg)).mono ?_
    rintro e w' ⟨rfl, hg⟩
    exact hK _ ⟨hWg.trans hg, hg.has hW0, hg.has hW1⟩
  simp only [Act.put, List.setIfInBounds_toArray, List.set_cons_zero, List.set_cons_succ]
  repeat (first
    | ((with_reducible refine wpText_skip ?_ ?_)
       · rfl
       simp only [Act.put, List.setIfInBounds_toArray, List.set_cons_zero, List.set_cons_succ])
    | ((with_reducible refine wpText_yield (v := ?_) ?_ ?_ ?_)
       rotate_left
       · rfl
       · (intro W hW; obtain ⟨hWg, hW0, hW1⟩ := hW; first | (go_simp; done) | (go_simp; with_reducible rfl))
       simp only [Act.put, List.setIfInBounds_toArray, List.set_cons_zero, List.set_cons_succ])
    | ((with_reducible refine wpText_yield1 (v := ?_) ?_ ?_ ?_)
       rotate_left
       · rfl
       · (intro W hW; obtain ⟨hWg, hW0, hW1⟩ := hW; first | (go_simp; done) | (go_simp; with_reducible rfl))
       simp only [Act.put, List.setIfInBounds_toArray, List.set_cons_zero, List.set_cons_succ]))
  refine wpText_do (.bool (minB v l s)) (by rfl) (fun W hW K hK => ?_) ?_
  · obtain ⟨hWg, hW0, hW1⟩ := hW
    go_simp
    refine (IsMinimal_any v l s _ (HN.out.gr hWg) (HL.out.gr hWg) (HS.out.gr hWg)).mono ?_
    rintro e w' ⟨rfl, hg⟩
    exact hK _ ⟨hWg.trans hg, hg.has hW0, hg.has hW1⟩
  simp only [Act.put, List.setIfInBounds_toArray, List.set_cons_zero, List.set_cons_succ]
  repeat (first
    | ((with_reducible refine wpText_skip ?_ ?_)
       · rfl
       simp only [Act.put, List.setIfInBounds_toArray, List.set_cons_zero, List.set_cons_succ])
    | ((with_reducible refine wpText_yield (v := ?_) ?_ ?_ ?_)
       rotate_left
       · rfl
       · (intro W hW; obtain ⟨hWg, hW0, hW1⟩ := hW; first | (go_simp; done) | (go_simp; with_reducible rfl))
       simp only [Act.put, List.setIfInBounds_toArray, List.set_cons_zero, List.set_cons_succ])
    | ((with_reducible refine wpText_yield1 (v := ?_) ?_ ?_ ?_)
       rotate_left
       · rfl
       · (intro W hW; obtain ⟨hWg, hW0, hW1⟩ := hW; first | (go_simp; done) | (go_simp; with_reducible rfl))
       simp only [Act.put, List.setIfInBounds_toArray, List.set_cons_zero, List.set_cons_succ]))
  refine wpText_do (.bool (minB v l s)) (by rfl) (fun W hW K hK => ?_) ?_
  · obtain ⟨hWg, hW0, hW1⟩ := hW
    go_simp
    refine (spIsMinimal_any v l s _ (HN.out.gr hWg) (HL.out.gr hWg) (HS.out.gr hWg)).mono ?_
    rintro e w' ⟨rfl, hg⟩
    exact hK _ ⟨hWg.trans hg, hg.has hW0, hg.has hW1⟩
  simp only [Act.put, List.setIfInBounds_toArray, List.set_cons_zero, List.set_cons_succ]
  repeat (first
    | ((with_reducible refine wpText_skip ?_ ?_)
       · rfl
       simp only [Act.put, List.setIfInBounds_toArray, List.set_cons_zero, List.set_cons_succ])
    | ((with_reducible refine wpText_yield (v := ?_) ?_ ?_ ?_)
       rotate_left
       · rfl
       · (intro W hW; obtain ⟨hWg, hW0, hW1⟩ := hW; first | (go_simp; done) | (go_simp; with_reducible rfl))
       simp only [Act.put, List.setIfInBounds_toArray, List.set_cons_zero, List.set_cons_succ])
    | ((with_reducible refine wpText_yield1 (v := ?_) ?_ ?_ ?_)
       rotate_left
       · rfl
       · (intro W hW; obtain ⟨hWg, hW0, hW1⟩ := hW; first | (go_simp; done) | (go_simp; with_reducible rfl))
       simp only [Act.put, List.setIfInBounds_toArray, List.set_cons_zero, List.set_cons_succ]))
  rintro w4 ⟨h, b0, b1⟩
  replace gw := gw.trans h
  replace a0 := b0
  replace a1 := b1
  replace HN := Lib.hid (HN.out.gr h)
  replace HL := Lib.hid (HL.out.gr h)
  replace HS := Lib.hid (HS.out.gr h)
  replace HX := Lib.hid (HX.out.gr h)
  replace HY := Lib.hid (HY.out.gr h)
  clear h b0 b1
  by_cases hc : cfCode v l s = 0
  · obtain ⟨f1, f2⟩ := rel_law hc
    have F1 := Lib.hid f1
    have F2 := Lib.hid f2
    have hlen := HY.out.sl.ilen
    have Hlen := Lib.hid hlen
    have hll := HL.out.sl.len GTr.cells_len (by omega)
    have Hll := Lib.hid hll
    obtain ⟨i0, hi0, hz0, hz1, hz2⟩ := info_parts infoInt64
    have tc : (cfCode v l s != 0) = false := by simp [hc]
    clear hc f1 f2 hlen hll
    go_wp2_with fail
    go_loopw [10] (fun i wr => ∃ k : Nat, k ≤ Ym ∧ i = .int .i64 k ∧ Gr w4 wr) (fun i _ => Ym - (intOf i).toNat)
    case atStart => exact ⟨0, Nat.zero_le _, rfl, Gr.refl _⟩
    case round =>
      obtain ⟨k, hk, rfl, hgr⟩ := hrel
      rename World => wo
      have a0 := hgr.has a0
      have a1 := hgr.has a1
      have hsz := hgr.size
      by_cases hlt : k < Ym
      · obtain ⟨r, hr⟩ : ∃ r, (reRes v l s)[k]? = some r := ⟨_, List.getElem?_eq_getElem (by have := Hlen.out; omega)⟩
        obtain ⟨g1, g2⟩ := F2.out r (List.mem_of_getElem? hr)
        obtain ⟨b, o, hYA, hb, e0⟩ := (HY.out.sl.gr hgr).int hr
        have tz : decide (r ∈ s) = false := decide_eq_false g2
        have G1 := Lib.hid g1
        subst hYA
        have t1 : (k : Int) < (Ym : Int) := by omega
        have t0 : (0 : Int) ≤ (k : Int) := by omega
        have HS5 := Lib.hid (HS.out.gr hgr)
        have hoI := World.ownsRow_lit wo (e := 2) (size := 1) #[] 0 (Nat.le_refl _) (by unfold maxLen; omega) rfl
        have HoI := Lib.hid hoI
        have hbl := lt_of_cell e0
        clear hr g1 g2 hoI
        go_wp2_with fail
        go_loopw [11, 12] (fun ow i wq => ∃ q : Nat, q ≤ n3 ∧ i = .int .i64 q ∧ ∃ A u c, u ≤ q ∧ ow = .slice A u c ∧ wq.ownsRow wo.heap.size 2 1 (.slice A u c) u (ints (withTo s r q)) ∧ Gr wo wq) (fun _ i _ => n3 - (intOf i).toNat)
        case atStart => exact ⟨0, Nat.zero_le _, rfl, _, _, _, Nat.le_refl _, rfl, HoI.out, (Gr.refl _).alloc _⟩
        case round =>
          obtain ⟨q, hq, rfl, A, u, cc, hu, rfl, ho, hgq⟩ := hrel
          have Ho := Lib.hid ho
          have e0 := hgq.has e0
          have a0 := hgq.has a0
          have a1 := hgq.has a1
          have hsq := hgq.size
          clear ho HoI
          by_cases hql : q < n3
          · have u1 : (q : Int) < (n3 : Int) := by omega
            go_wp2_with fail
            refine (hasInt_any s (q : Int) _ (HS5.out.gr hgq)).mono ?_
            rintro e w' ⟨rfl, hw'⟩
            rw [← hw']
            clear hw'
            by_cases hs : (q : Int) ∈ s ∨ (q : Int) = r
            · have hh : (s.contains (q : Int) || decide ((q : Int) = r)) = true := by simpa using hs
              have hst := withTo_hit hh
              have Hst := Lib.hid hst
              clear hh hst
              by_cases hqs : (q : Int) ∈ s
              all_goals
                (first
                  | (have tq : decide ((q : Int) ∈ s) = true := decide_eq_true hqs)
                  | (have tq : decide ((q : Int) ∈ s) = false := decide_eq_false hqs
                     have hqr : (q : Int) = r := by rcases hs with h | h; exact absurd h hqs; exact h
                     have tr : ((q : Int) == r) = true := by simp [hqr]))
                clear hs hqs
                (try clear hqr)
                go_wp2_with (at_builtin; (refine wpList_append_own _ rfl _ _ _ rfl wo.heap.size 2 i0 _ 1 8 Try.underlying33 hi0 hz0 hz1 hz2 rfl (by omega) _ u _ rfl (Ho.out.alloc _) ⟨wr.heap.size, 0, none⟩ 1 1 [.int .i64 (q : Int)] rfl rfl (World.news_of_block (cs := #[.int .i64 (q : Int)]) (t := 2) (fr := (0, 0)) (heap_alloc_new wr _)) (by simp [Value.oneCell']) (by unfold maxLen; omega) (by omega) (by simp; omega) ?_; intro v' w9 hown9 hg9 _))
                obtain ⟨A9, c9, rfl⟩ := own_shape hown9
                have Ho9 := Lib.hid (own_cells_eq hown9 (ints_snoc _ (q : Int)).symm)
                have hgw9 := (hgq.alloc (.cells #[.int .i64 (q : Int)] 2)).grown hg9 (fun j hj => own_base_le Ho.out hj)
                clear hown9 hg9
                go_wp2_with fail
                go_roundw
                case rel => exact ⟨q + 1, by omega, by go_num, _, _, _, by omega, rfl, by rw [Hst.out]; exact Ho9.out, hgw9⟩
                case measure => simp [intOf]; omega
            · have hh : (s.contains (q : Int) || decide ((q : Int) = r)) = false := by simpa using hs
              have hst := withTo_miss hh
              have Hst := Lib.hid hst
              have tq : decide ((q : Int) ∈ s) = false := decide_eq_false (fun h => hs (Or.inl h))
              have tr : ((q : Int) == r) = false := by simp; exact fun h => hs (Or.inr h)
              clear hh hst hs
              go_wp2_with fail
              go_roundw
              case rel => exact ⟨q + 1, by omega, by go_num, _, _, _, by omega, rfl, by rw [Hst.out]; exact Ho.out, hgq⟩
              case measure => simp [intOf]; omega
          · obtain rfl : n3 = q := by omega
            have hgo := hgr.trans hgq
            have G2 : Hid (isConfB v l (withTo s r n3) = false) := Lib.hid (by have := G1.out; rw [Hll.out] at this; exact this)
            go_wp2_with fail
            refine (IsConflict_any v l (withTo s r n3) _ (HN.out.gr hgo) (HL.out.gr hgo) (SlAt.of_own Ho.out (by omega))).mono ?_
            rintro e w8 ⟨rfl, hg8⟩
            rw [G2.out]
            have e0 := hg8.has e0
            go_wp2_with fail
            refine (hasInt_any s r _ ((HS5.out.gr hgq).gr hg8)).mono ?_
            rintro e w' ⟨rfl, hw'⟩
            rw [← hw']
            clear hw'
            go_wp2_with fail
            go_roundw
            case rel => exact ⟨k + 1, by omega, by go_num, hgo.trans hg8⟩
            case measure => simp [intOf]; omega
      · obtain rfl : k = Ym := by omega
        go_wp2_with fail
        refine (IsConflict_any v l s _ (HN.out.gr hgr) (HL.out.gr hgr) (HS.out.gr hgr)).mono ?_
        rintro e w8 ⟨rfl, hg8⟩
        rw [F1.out]
        go_wp2_with fail
        go_ret
        exact ⟨rfl, (gw.trans hgr).trans hg8⟩
  · have tc : (cfCode v l s != 0) = true := by simp [hc]
    by_cases h4 : cfCode v l s = 4
    · have H4 := Lib.hid (rel_bad h4)
      have t4 : (cfCode v l s != 4) = false := by simp [h4]
      clear hc h4
      go_wp2_with fail
      refine (IsConflict_any v l s _ HN.out HL.out HS.out).mono ?_
      rintro e w5 ⟨rfl, h⟩
      replace gw := gw.trans h
      replace a0 := h.has a0
      replace a1 := h.has a1
      replace HN := Lib.hid (HN.out.gr h)
      replace HL := Lib.hid (HL.out.gr h)
      replace HS := Lib.hid (HS.out.gr h)
      replace HX := Lib.hid (HX.out.gr h)
      replace HY := Lib.hid (HY.out.gr h)
      clear h
      rw [H4.out]
      go_wp2_with fail
      go_ret
      exact ⟨rfl, gw⟩
    · have t4 : (cfCode v l s != 4) = true := by simp [h4]
      clear hc h4
      go_wp2_with fail
      go_ret
      exact ⟨rfl, gw⟩
set_option maxRecDepth 100000 in
theorem lifted (os : Os) (started : os.Started) (H : Type) (enc : TypeId × Value → H) :
    ReturnsInHanded {} Try.checked os 11 .any (Rows.fnRelieversSpec.pre6 enc Try.prog Try.f11 Rows.fnRelieversRow.domain false) (Rows.fnRelieversSpec.post enc Try.prog Try.f11 false true false false) := by
  refine returnsInHanded_of_change (C := Try.checked) own started (by kernel_rfl) Try.func11
    (ChangeSpec.witness6 (enc := enc) (C := Try.checked) false ⟨#[], #[.slice none 0 0], []⟩ 8 (by kernel_rfl) (by kernel_rfl) (by kernel_rfl) (by kernel_rfl)) ?_
  intro W base args ds gs before hval0 hW hcnd _
  have hval : ∀ (j : Nat) t v, Try.f11.params[j]? = some t → args[j]? = some v → Value.okWide Try.prog W .any base t v := hval0
  have hW' := hW
  obtain ⟨p, q, hA0, hV, rfl, hfz, hnd⟩ := hW
  have hA : DataW.TrodAll enc Try.prog W 0 (fun _ => true) true Try.f11.params.toList args.toList ds p := hA0
  have hAk := hA0
  have hlt : ∀ x ∈ p, x.block < W.heap.size := fun x hx => hW'.lt x (List.mem_append_left _ hx)
  rw [Try.params11] at hA hval
  obtain ⟨u0, vs0, e0, ds0, p0, q0, hargs, rfl, rfl, h0, r0⟩ := trodAll_cons hA
  obtain ⟨rfl, rfl, rfl⟩ := trodAll_nil r0
  obtain rfl : args = #[u0] := by cases args; simp_all
  obtain ⟨rfl, rfl⟩ := trodVars_none hV
  obtain ⟨fu0, hf0⟩ := h0
  obtain ⟨aa0, bb0, cc0, rfl⟩ := okWide_slice Try.underlying22 (hval 0 _ u0 rfl rfl)
  obtain ⟨A0, n0, c0, v0, hv0, k0, k0x, hR0⟩ := open_bytes (by simpa [Value.cells] using hf0)
  injection hv0 with ha0 hb0 hc0
  subst ha0 hb0 hc0
  clear hA0 hval0
  refine (walk _ _ _ v0 W hR0 k0 (Nat.le_trans k0 k0x)).mono fun e W' ⟨he, hg⟩ => ?_
  subst he
  exact ⟨_, rfl, _, [], _, [], _, [], hW', trodAll_cons_mk (shut_bool Try.underlying4 _) trodAll_mk0, trodAll_stays hg.below _ _ _ _ _ (by rw [Try.params11]; intro t ht; simp only [List.mem_cons, List.not_mem_nil, or_false] at ht; rcases ht with rfl <;> exact ⟨by kernel_rfl, of_decide_eq_true (by kernel_rfl)⟩) hAk hlt (fun x hx => by simpa using hlt x hx), rfl, hg.below.frame _, fun h => by cases h⟩
set_option maxHeartbeats 8000000 in
set_option maxRecDepth 100000 in
theorem closed : joinedFacts Try.prog 11 Try.f11 Rows.fnRelieversSpec Rows.fnRelieversRow = true := by
  unfold joinedFacts
  simp only [Bool.and_eq_true]
  repeat' (with_reducible apply And.intro)
  all_goals (first | with_reducible exact seat_laid | with_reducible exact seat_maps | with_reducible exact seat_heard | with_reducible exact seat_enter | (with_reducible rw [seat_stops]; as_aux_lemma => kernel_rfl) | (with_reducible rw [seat_knobs]; as_aux_lemma => kernel_rfl) | (with_reducible rw [seat_keys]; as_aux_lemma => kernel_rfl) | (with_reducible rw [seat_final]; as_aux_lemma => kernel_rfl) | (with_reducible rw [seat_make]; as_aux_lemma => kernel_rfl) | as_aux_lemma => kernel_rfl)
theorem named : Try.prog.funcNamed Rows.fnRelieversRow.func = some 11 := by kernel_rfl
theorem over : Rows.fnRelieversRow.holds Try.pinned (OpenSpec.ofChange Rows.fnRelieversSpec) :=
  OpenClaim.holds_of_wide 11 Try.f11 rfl rfl rfl rfl rfl rfl rfl ⟨rfl, rfl, rfl, rfl, rfl⟩ rfl rfl rfl rfl rfl named Try.func11 closed
    (of_decide_eq_true (by as_aux_lemma => kernel_rfl)) (by unfold Func.isWrapper; first | (rw [if_pos (by decide +kernel)]; kernel_rfl) | (rw [if_neg (by decide +kernel)]; exact ⟨rfl, rfl⟩))
    (fun os started H enc _ => lifted os started H enc)
theorem proved : Rows.FnRelieversSaid := over
#print axioms proved
end FnRelievers
end Go.Proofs.Ytejfpajbkgfiaaa
