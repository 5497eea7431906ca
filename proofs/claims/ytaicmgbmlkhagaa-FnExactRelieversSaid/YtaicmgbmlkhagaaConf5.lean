/-
  Conflicts: thinning by the reference; FindConflict and ThinConflict of both.
-/
import Derived.Test.YtaicmgbmlkhagaaConf4
namespace Go.Proofs.Ytaicmgbmlkhagaa
open Go.ChangeShapes Go.WideShapes Go.ChangeAt Go.RowKit

theorem cut_mid_get (kept : List Int) (x : Int) (rest : List Int) : (kept ++ x :: rest)[kept.length]? = some x := by simp
theorem without_mid {m : Nat} {kept rest : List Int} {x : Int} (h : Nd m (kept ++ x :: rest)) : withoutL (kept ++ x :: rest) x = kept ++ rest := by
  have := without_eq h.1 (cut_mid_get kept x rest)
  rw [withoutL, this]; exact cutAt_mid kept x rest
set_option maxHeartbeats 4000000 in
set_option maxRecDepth 100000 in
theorem l26Thin_any {A1 A2 A3 A4 : Option Addr} {n1 c1 n2 c2 n3 c3 n4 c4 : Nat} (n : GNet) (l : List GTr) (s : List Int) (w : World) (hA : NetAt w A1 n1 c1 A2 n2 c2 n) (hL : SlAt w 4 A3 n3 c3 (l.flatMap GTr.cells)) (hS : SlAt w 1 A4 n4 c4 (ints s)) (hn : netOk n = true) (hok : trsOk n1 l = true) (hs : Nd l.length s) (hpos : 0 < n4) :
    Calls Try.prog 103 #[.agg #[.slice A1 n1 c1, .slice A2 n2 c2], .slice A3 n3 c3, .slice A4 n4 c4] w fun e w' => ∃ A m c, e = .returned (.slice A m c) ∧ m ≤ 1048576 ∧ w'.ownsRow w.heap.size 2 1 (.slice A m c) m (ints (tall (confB n l) s)) ∧ Gr w w' := by
  obtain ⟨i0, hi0, hz0, hz1, hz2⟩ := info_parts infoInt64
  have h32 := (trsOk_all hok).1
  have hl4 := hS.sl.ilen
  have hm4 := hS.small
  obtain ⟨b4, o4, rfl, _⟩ := hS.sl.2 hpos
  have Hcells := Lib.hid (hS.sl.cells)
  have Hlen := Lib.hid hS.sl.1
  have HA := Lib.hid hA
  have HL := Lib.hid hL
  have Hok := Lib.hid hok
  have Hs := Lib.hid hs
  have Hn := Lib.hid hn
  have Hl4 := Lib.hid hl4
  clear hA hL hS hok hs hl4 hn
  have Hlit : Hid (((w.alloc (.cells #[.slice A1 n1 c1, .slice A2 n2 c2] 32)).alloc (.cells #[] 2)).ownsRow (w.heap.size + 1) 2 1 (.slice (some ⟨w.heap.size + 1, 0, none⟩) 0 0) 0 []) := Lib.hid (by
    have q := World.ownsRow_lit (w.alloc (.cells #[.slice A1 n1 c1, .slice A2 n2 c2] 32)) (e := 2) (size := 1) #[] 0 (Nat.le_refl _) (by unfold maxLen; omega) rfl
    rw [World.size_alloc] at q
    exact q)
  go_enter Try.func103, Try.ntmps103
  go_wp2_with (at_builtin; refine wpList_append_own _ rfl _ _ _ rfl (w.heap.size + 1) 2 i0 _ 1 8 Try.underlying26 hi0 hz0 hz1 hz2 rfl (by omega) _ 0 [] rfl Hlit.out ⟨b4, o4, none⟩ n4 c4 (ints s) rfl Hlen.out (fun j u hu => (((Gr.refl w).alloc _).alloc _).has (Hcells.out j u hu)) (ints_one _) (by unfold maxLen; omega) (by omega) (by simp) ?_; intro v' w1 hown hg1 _)
  obtain ⟨A', c', rfl⟩ := own_shape hown
  rw [Nat.zero_add, List.nil_append] at hown
  try rw [Nat.zero_add]
  obtain ⟨g1, rfl, _, _⟩ := own_form hown (by omega)
  have hgx : Gr (w.alloc (.cells #[.slice A1 n1 c1, .slice A2 n2 c2] 32)) w1 := ((Gr.refl _).alloc _).grown hg1 (fun j hj => by injection hj with hj; simp at hj ⊢; omega)
  have b0 : w1.cell? ⟨w.heap.size, 0, none⟩ = some (.slice A1 n1 c1) := hgx.has (by simp [go_sem])
  have b1 : w1.cell? ⟨w.heap.size, 1, none⟩ = some (.slice A2 n2 c2) := hgx.has (by simp [go_sem])
  have hgw : Gr w w1 := ((Gr.refl _).alloc _).trans hgx
  have Ho := Lib.hid (own_base hown (Nat.le_succ w.heap.size))
  clear hown hgx hg1
  go_wp2_with fail
  go_loopw [7, 8] (fun o f wr => ∃ S b, f = .bool b ∧ (∃ g m c, o = .slice (some ⟨g, 0, none⟩) m c ∧ m = S.length ∧ wr.ownsRow w.heap.size 2 1 (.slice (some ⟨g, 0, none⟩) m c) m (ints S)) ∧ Nd l.length S ∧ ThinAt (confB n l) (tall (confB n l) s) S b ∧ Gr w1 wr) (fun o f _ => 2 * sliceN o + boolN f)
  case atStart => exact ⟨s, true, rfl, ⟨_, _, _, rfl, Hl4.out.symm, Ho.out⟩, Hs.out, rfl, Gr.refl _⟩
  case round =>
    obtain ⟨S, b, rfl, ⟨g, m, c, rfl, hm, hown⟩, hnd, hthin, hgr⟩ := hrel
    have Hown := Lib.hid hown
    have Hnd := Lib.hid hnd
    have hms : m ≤ 32 := by have := hnd.len; omega
    have Hm := Lib.hid hm
    have Hsc := Lib.hid (Sl.of_own hown).cells
    have Hsl := Lib.hid (Sl.of_own hown).1
    have hsz := (hgw.trans hgr).size
    cases b with
    | false =>
      have Hth : Hid (S = tall (confB n l) s) := Lib.hid hthin
      clear hown hnd hthin hm Ho
      go_wp2_with fail
      go_ret
      exact ⟨_, _, _, rfl, by omega, by rw [← Hth.out]; exact Hown.out, hgw.trans hgr⟩
    | true =>
      have Hth : Hid (tall (confB n l) S = tall (confB n l) s) := Lib.hid hthin
      clear hown hnd hthin hm Ho
      go_wp2_with (at_builtin; refine wpList_append_own _ rfl _ _ _ rfl wr.heap.size 2 i0 _ 1 8 Try.underlying26 hi0 hz0 hz1 hz2 rfl (by omega) _ 0 [] rfl (World.ownsRow_lit wr #[] 0 (Nat.le_refl _) (by unfold maxLen; omega) rfl) ⟨g, 0, none⟩ m c (ints S) rfl Hsl.out (fun j u hu => ((Gr.refl wr).alloc _).has (Hsc.out j u hu)) (ints_one _) (by unfold maxLen; omega) (by omega) (by simp) ?_; intro v' w2 hown2 hg2 _)
      obtain ⟨A2', c2', rfl⟩ := own_shape hown2
      rw [Nat.zero_add, List.nil_append] at hown2
      try rw [Nat.zero_add]
      have hx2 : Gr wr w2 := ((Gr.refl wr).alloc _).grown hg2 (fun j hj => by injection hj with hj; exact Nat.le_of_eq hj)
      have Ho2 := Lib.hid hown2
      clear hown2 hg2
      go_wp2_with fail
      go_loopw [7, 8, 10] (fun o f i wq => ∃ kept j b, f = .bool b ∧ j ≤ S.length ∧ i = .int .i64 ((j : Nat) : Int) ∧ (∃ g m c, o = .slice (some ⟨g, 0, none⟩) m c ∧ m = (kept ++ S.drop j).length ∧ wq.ownsRow w.heap.size 2 1 (.slice (some ⟨g, 0, none⟩) m c) m (ints (kept ++ S.drop j))) ∧ PassAt (confB n l) l.length S kept (S.drop j) b ∧ Gr w2 wq) (fun _ _ i _ => m - (intOf i).toNat)
      case atStart => exact ⟨[], 0, false, rfl, Nat.zero_le _, rfl, ⟨_, _, _, rfl, Hm.out, own_gr Hown.out hx2⟩, PassAt.start Hnd.out, Gr.refl _⟩
      case round =>
        obtain ⟨kept, j, b, rfl, hj, rfl, ⟨g5, q, d, rfl, hq, hown⟩, hpass, hgi⟩ := hrel
        have Hown := Lib.hid hown
        have Hpass := Lib.hid hpass
        have hqs : q ≤ 32 := by have := hpass.nd.len; omega
        have Hq := Lib.hid hq
        have hjm : j ≤ m := by have := Hm.out; omega
        clear hown hpass
        by_cases hlt : j < m
        · have hjS : j < S.length := by have := Hm.out; omega
          obtain ⟨x, hx⟩ : ∃ x, S[j]? = some x := ⟨_, List.getElem?_eq_getElem hjS⟩
          have hdr : S.drop j = x :: S.drop (j + 1) := by rw [List.drop_eq_getElem_cons hjS]; congr 1; exact (List.getElem?_eq_some_iff.1 hx).2
          obtain ⟨gp, rfl, _, _⟩ := own_form Ho2.out (by omega)
          obtain ⟨r0, _⟩ := own_int (own_gr Ho2.out hgi) hx
          have Hwo : Hid (withoutL (kept ++ S.drop j) x = kept ++ S.drop (j + 1)) := Lib.hid (by
            have := Hpass.out.nd
            rw [hdr] at this ⊢
            exact without_mid this)
          have Hnd2 : Hid (Nd l.length (kept ++ S.drop (j + 1))) := Lib.hid (by
            have := Hpass.out.nd
            rw [hdr] at this
            exact this.sub (List.Sublist.append (List.Sublist.refl _) (List.sublist_cons_self ..)))
          have Hdr := Lib.hid hdr
          have t1 : (j : Int) < (m : Int) := by omega
          have t0 : (0 : Int) ≤ (j : Int) := by omega
          have hg4 := (hgr.trans hx2).trans hgi
          have hgy := hgw.trans hg4
          have d0 := hg4.has b0
          have d1 := hg4.has b1
          have hszq := hgy.size
          clear hx hdr hq
          go_wp2_with fail
          refine (l26Without_any _ x _ (SlAt.of_own Hown.out (by omega))).mono ?_
          rintro e w5 ⟨B5, q5, d5, rfl, hq5, ho, hg5⟩
          rw [Hwo.out] at ho
          have Ho5 := Lib.hid ho
          replace d0 := hg5.has d0
          replace d1 := hg5.has d1
          clear ho
          go_wp2_with fail
          refine (l26Fit_any n l (kept ++ S.drop (j + 1)) _ (HA.out.gr (hgy.trans hg5)) (HL.out.gr (hgy.trans hg5)) (SlAt.of_own Ho5.out (by omega)) Hok.out Hnd2.out).mono ?_
          rintro e w7 ⟨rfl, hg7⟩
          have hg8 : Gr w2 w7 := (hgi.trans hg5).trans hg7
          cases hf : confB n l (kept ++ S.drop (j + 1)) with
          | true =>
            have Hp : Hid (PassAt (confB n l) l.length S kept (S.drop (j + 1)) true) := Lib.hid (by
              have := Hpass.out
              rw [Hdr.out] at this
              exact this.hit hf)
            have hq0 : 0 < q5 := by
              rcases Nat.eq_zero_or_pos q5 with h0 | h0
              · have h1 := own_ilen Ho5.out
                rw [h0] at h1
                rw [List.eq_nil_of_length_eq_zero h1, confB_nil Hn.out l] at hf
                cases hf
              · exact h0
            obtain ⟨g6, rfl, _, _⟩ := own_form Ho5.out hq0
            clear hf
            go_wp2_with fail
            go_roundw
            case rel => exact ⟨kept, j + 1, true, rfl, hjS, by go_num, ⟨_, _, _, rfl, (own_ilen Ho5.out).symm, own_base (own_gr Ho5.out hg7) hszq⟩, Hp.out, hg8⟩
            case measure => simp [intOf]; omega
          | false =>
            have Hp : Hid (PassAt (confB n l) l.length S (kept ++ [x]) (S.drop (j + 1)) b) := Lib.hid (by
              have := Hpass.out
              rw [Hdr.out] at this
              exact this.miss hf)
            have Hre : Hid (kept ++ S.drop j = kept ++ [x] ++ S.drop (j + 1)) := Lib.hid (by rw [Hdr.out]; simp)
            clear hf
            go_wp2_with fail
            go_roundw
            case rel => exact ⟨kept ++ [x], j + 1, b, rfl, hjS, by go_num, ⟨_, _, _, rfl, by rw [← Hre.out]; exact Hq.out, by rw [← Hre.out]; exact own_gr Hown.out (hg5.trans hg7)⟩, Hp.out, hg8⟩
            case measure => simp [intOf]; omega
        · have hjS : S.drop j = [] := List.drop_of_length_le (by have := Hm.out; omega)
          have hp := Hpass.out
          rw [hjS] at hp
          obtain ⟨e1, e2, e3⟩ := hp.stop
          obtain ⟨f1, f2⟩ := thin_end e1 e2 Hth.out
          have F1 := Lib.hid f1
          have F2 := Lib.hid f2
          have E3 := Lib.hid e3
          have hkq : q = kept.length := by rw [Hq.out, hjS]; simp
          have ho9 := Hown.out
          rw [hjS, List.append_nil] at ho9
          have Ho9 := Lib.hid ho9
          obtain rfl : j = m := by omega
          clear f1 f2 e1 e2 e3 hp hjS hq ho9
          subst hkq
          go_wp2_with fail
          go_roundw
          case rel => exact ⟨kept, b, rfl, ⟨_, _, _, rfl, rfl, Ho9.out⟩, E3.out, F1.out, (hgr.trans hx2).trans hgi⟩
          case measure =>
            have h1 := F2.out
            have h2 := Hm.out
            have h3 : boolN (.bool true) = 1 := rfl
            show 2 * kept.length + boolN (.bool b) < 2 * j + boolN (.bool true)
            omega
noncomputable def thRes (n : GNet) (l : List GTr) (s : List Int) : List Int := if cfCode n l s = 0 then tall (confB n l) s else []
theorem cf_bad {n : GNet} {l : List GTr} {s : List Int} (h : ¬ csCode n l s = 0) : cfCode n l s = csCode n l s ∧ thRes n l s = [] := by
  have e : cfCode n l s = csCode n l s := by rw [cfCode, if_neg h]
  exact ⟨e, by rw [thRes, if_neg (by rw [e]; exact h)]⟩
theorem cf_no {n : GNet} {l : List GTr} {s : List Int} (h : csCode n l s = 0) (hf : confB n l s = false) : cfCode n l s = 4 ∧ thRes n l s = [] := by
  have e : cfCode n l s = 4 := by rw [cfCode, if_pos h, if_neg (by simp [hf])]
  exact ⟨e, by rw [thRes, if_neg (by rw [e]; decide)]⟩
theorem cf_yes {n : GNet} {l : List GTr} {s : List Int} (h : csCode n l s = 0) (hf : confB n l s = true) : cfCode n l s = 0 ∧ thRes n l s = tall (confB n l) s := by
  have e : cfCode n l s = 0 := by rw [cfCode, if_pos h, if_pos hf]
  exact ⟨e, by rw [thRes, if_pos e]⟩
theorem cs_idx (n : GNet) (l : List GTr) : csCode n l (idx l.length) = trCode n l := by
  rw [csCode, if_pos (idx_set l.length)]
  split
  · rename_i h; exact h.symm
  · rfl
set_option maxRecDepth 100000 in
theorem ThinConflict_any {A1 A2 A3 A4 : Option Addr} {n1 c1 n2 c2 n3 c3 n4 c4 : Nat} (n : GNet) (l : List GTr) (s : List Int) (w : World) (hA : NetAt w A1 n1 c1 A2 n2 c2 n) (hL : SlAt w 4 A3 n3 c3 (l.flatMap GTr.cells)) (hS : SlAt w 1 A4 n4 c4 (ints s)) :
    Calls Try.prog 60 #[.agg #[.slice A1 n1 c1, .slice A2 n2 c2], .slice A3 n3 c3, .slice A4 n4 c4] w fun e w' => ∃ A m c, e = .returned (.tuple #[.slice A m c, .int .i64 (cfCode n l s)]) ∧ m ≤ 1048576 ∧ w'.ownsRow w.heap.size 2 1 (.slice A m c) m (ints (thRes n l s)) ∧ Gr w w' := by
  have HA := Lib.hid hA
  have hm3 := hL.small
  have hl3 := hL.sl.len GTr.cells_len (by omega)
  have hl4 := hS.sl.ilen
  have HL := Lib.hid hL
  have HS := Lib.hid hS
  have Hl3 := Lib.hid hl3
  have Hl4 := Lib.hid hl4
  clear hA hL hS hl3 hl4
  go_enter Try.func60, Try.ntmps60
  go_wp2_with fail
  refine (checkSet_any n l s _ (HA.out.gr ((Gr.refl _).alloc _)) (HL.out.gr ((Gr.refl _).alloc _)) (HS.out.gr ((Gr.refl _).alloc _))).mono ?_
  rintro e w1 ⟨rfl, hg1⟩
  have hg0 : Gr w w1 := ((Gr.refl _).alloc _).trans hg1
  have b0 : w1.cell? ⟨w.heap.size, 0, none⟩ = some (.slice A1 n1 c1) := hg1.has (by simp [go_sem])
  have b1 : w1.cell? ⟨w.heap.size, 1, none⟩ = some (.slice A2 n2 c2) := hg1.has (by simp [go_sem])
  clear hg1
  by_cases hc : csCode n l s = 0
  · have Hc := Lib.hid hc
    have Hn := Lib.hid (trCode_zero (csCode_zero hc).1).1
    have Hok1 : Hid (trsOk n1 l = true) := Lib.hid (by rw [← HA.out.l1]; exact (trCode_zero (csCode_zero hc).1).2)
    have Hs := Lib.hid (setOk_nd (csCode_zero hc).2)
    have tb : (csCode n l s != 0) = false := by simp [hc]
    have tc : (csCode n l s == 0) = true := by simp [hc]
    clear hc
    go_wp2_with fail
    refine (isConflict_any n l s _ (HA.out.gr hg0) (HL.out.gr hg0) (HS.out.gr hg0) Hok1.out Hs.out).mono ?_
    rintro e w2 ⟨rfl, hg2⟩
    have hgw := hg0.trans hg2
    replace b0 := hg2.has b0
    replace b1 := hg2.has b1
    cases hf : confB n l s with
    | false =>
      have Hv := Lib.hid (cf_no Hc.out hf)
      clear hf
      go_wp2_with fail
      go_ret2
      refine ⟨none, 0, 0, by rw [Hv.out.1]; rfl, by omega, ?_, hgw⟩
      rw [Hv.out.2]
      exact World.ownsRow_nil _ _ _ _
    | true =>
      have Hv := Lib.hid (cf_yes Hc.out hf)
      clear hf
      go_wp2_with fail
      refine (thinned_any n l s _ (HA.out.gr hgw) (HL.out.gr hgw) (HS.out.gr hgw) Hok1.out Hs.out).mono ?_
      rintro e w3 ⟨B, m, d, rfl, hm, hp, hg3⟩
      have Hp := Lib.hid hp
      clear hp
      go_wp2_with fail
      go_ret2
      refine ⟨B, m, d, by rw [Hv.out.1]; rfl, hm, ?_, hgw.trans hg3⟩
      rw [Hv.out.2]
      exact own_base Hp.out hgw.size
  · have Hv := Lib.hid (cf_bad (n := n) (l := l) (s := s) hc)
    have Hc := Lib.hid hc
    have tb : (csCode n l s != 0) = true := by simp [hc]
    have tc : (csCode n l s == 0) = false := by simp [hc]
    clear hc
    go_wp2_with fail
    go_ret2
    refine ⟨none, 0, 0, by rw [Hv.out.1]; rfl, by omega, ?_, hg0⟩
    rw [Hv.out.2]
    exact World.ownsRow_nil _ _ _ _
set_option maxRecDepth 100000 in
theorem spThinConflict_any {A1 A2 A3 A4 : Option Addr} {n1 c1 n2 c2 n3 c3 n4 c4 : Nat} (n : GNet) (l : List GTr) (s : List Int) (w : World) (hA : NetAt w A1 n1 c1 A2 n2 c2 n) (hL : SlAt w 4 A3 n3 c3 (l.flatMap GTr.cells)) (hS : SlAt w 1 A4 n4 c4 (ints s)) :
    Calls Try.prog 59 #[.agg #[.slice A1 n1 c1, .slice A2 n2 c2], .slice A3 n3 c3, .slice A4 n4 c4] w fun e w' => ∃ A m c, e = .returned (.tuple #[.slice A m c, .int .i64 (cfCode n l s)]) ∧ m ≤ 1048576 ∧ w'.ownsRow w.heap.size 2 1 (.slice A m c) m (ints (thRes n l s)) ∧ Gr w w' := by
  have HA := Lib.hid hA
  have hm3 := hL.small
  have hl3 := hL.sl.len GTr.cells_len (by omega)
  have hl4 := hS.sl.ilen
  have HL := Lib.hid hL
  have HS := Lib.hid hS
  have Hl3 := Lib.hid hl3
  have Hl4 := Lib.hid hl4
  clear hA hL hS hl3 hl4
  go_enter Try.func59, Try.ntmps59
  go_wp2_with fail
  refine (l26Code_any n l s _ (HA.out.gr ((Gr.refl _).alloc _)) (HL.out.gr ((Gr.refl _).alloc _)) (HS.out.gr ((Gr.refl _).alloc _))).mono ?_
  rintro e w1 ⟨rfl, hg1⟩
  have hg0 : Gr w w1 := ((Gr.refl _).alloc _).trans hg1
  have b0 : w1.cell? ⟨w.heap.size, 0, none⟩ = some (.slice A1 n1 c1) := hg1.has (by simp [go_sem])
  have b1 : w1.cell? ⟨w.heap.size, 1, none⟩ = some (.slice A2 n2 c2) := hg1.has (by simp [go_sem])
  clear hg1
  by_cases hc : csCode n l s = 0
  · have Hc := Lib.hid hc
    have Hn := Lib.hid (trCode_zero (csCode_zero hc).1).1
    have Hok1 : Hid (trsOk n1 l = true) := Lib.hid (by rw [← HA.out.l1]; exact (trCode_zero (csCode_zero hc).1).2)
    have Hs := Lib.hid (setOk_nd (csCode_zero hc).2)
    have tb : (csCode n l s != 0) = false := by simp [hc]
    have tc : (csCode n l s == 0) = true := by simp [hc]
    clear hc
    go_wp2_with fail
    refine (l26Fit_any n l s _ (HA.out.gr hg0) (HL.out.gr hg0) (HS.out.gr hg0) Hok1.out Hs.out).mono ?_
    rintro e w2 ⟨rfl, hg2⟩
    have hgw := hg0.trans hg2
    replace b0 := hg2.has b0
    replace b1 := hg2.has b1
    cases hf : confB n l s with
    | false =>
      have Hv := Lib.hid (cf_no Hc.out hf)
      clear hf
      go_wp2_with fail
      go_ret2
      refine ⟨none, 0, 0, by rw [Hv.out.1]; rfl, by omega, ?_, hgw⟩
      rw [Hv.out.2]
      exact World.ownsRow_nil _ _ _ _
    | true =>
      have Hv := Lib.hid (cf_yes Hc.out hf)
      have hpos : 0 < n4 := by
        rcases Nat.eq_zero_or_pos n4 with h0 | h0
        · have h1 := Hl4.out
          rw [h0] at h1
          rw [List.eq_nil_of_length_eq_zero h1, confB_nil Hn.out l] at hf
          cases hf
        · exact h0
      clear hf
      go_wp2_with fail
      refine (l26Thin_any n l s _ (HA.out.gr hgw) (HL.out.gr hgw) (HS.out.gr hgw) Hn.out Hok1.out Hs.out hpos).mono ?_
      rintro e w3 ⟨B, m, d, rfl, hm, hp, hg3⟩
      have Hp := Lib.hid hp
      clear hp
      go_wp2_with fail
      go_ret2
      refine ⟨B, m, d, by rw [Hv.out.1]; rfl, hm, ?_, hgw.trans hg3⟩
      rw [Hv.out.2]
      exact own_base Hp.out hgw.size
  · have Hv := Lib.hid (cf_bad (n := n) (l := l) (s := s) hc)
    have Hc := Lib.hid hc
    have tb : (csCode n l s != 0) = true := by simp [hc]
    have tc : (csCode n l s == 0) = false := by simp [hc]
    clear hc
    go_wp2_with fail
    go_ret2
    refine ⟨none, 0, 0, by rw [Hv.out.1]; rfl, by omega, ?_, hg0⟩
    rw [Hv.out.2]
    exact World.ownsRow_nil _ _ _ _
set_option maxRecDepth 100000 in
theorem l26All_any (N : Nat) (w : World) (hN : N ≤ 1048576) :
    Calls Try.prog 101 #[.int .i64 N] w fun e w' => ∃ B d, e = .returned (.slice B N d) ∧ w'.ownsRow w.heap.size 2 1 (.slice B N d) N (ints (idx N)) ∧ Gr w w' := by
  obtain ⟨i0, hi0, hz0, hz1, hz2⟩ := info_parts infoInt64
  go_enter Try.func101, Try.ntmps101
  go_wp2_with fail
  go_loopw [3, 4] (fun o i wr => ∃ k : Nat, k ≤ N ∧ i = .int .i64 k ∧ (∃ B d, o = .slice B k d) ∧ wr.ownsRow w.heap.size 2 1 o k (ints (idx k)) ∧ Gr w wr) (fun _ i _ => N - (intOf i).toNat)
  case atStart => exact ⟨0, Nat.zero_le _, rfl, ⟨_, _, rfl⟩, World.ownsRow_lit w #[] 0 (Nat.le_refl _) (by unfold maxLen; omega) rfl, (Gr.refl _).alloc _⟩
  case round =>
    obtain ⟨k, hk, rfl, ⟨B, d, rfl⟩, hown, hgr⟩ := hrel
    have Hown := Lib.hid hown
    have hsz := hgr.size
    clear hown
    by_cases hlt : k < N
    · have t1 : (k : Int) < (N : Int) := by omega
      go_wp2_with (at_builtin; refine wpList_append_own _ rfl _ _ _ rfl w.heap.size 2 i0 _ 1 8 Try.underlying26 hi0 hz0 hz1 hz2 rfl (by omega) _ k _ rfl (Hown.out.alloc _) ⟨wr.heap.size, 0, none⟩ 1 1 [.int .i64 (k : Int)] rfl rfl (World.news_of_block (cs := #[.int .i64 (k : Int)]) (t := 2) (fr := (0, 0)) (heap_alloc_new wr _)) (by simp [Value.oneCell']) (by unfold maxLen; omega) (by omega) (by simp; omega) ?_; intro v' w1 hown hg _)
      obtain ⟨A', c', rfl⟩ := own_shape hown
      have Ho := Lib.hid hown
      clear hown
      go_wp2_with fail
      go_roundw
      case rel =>
        refine ⟨k + 1, by omega, by go_num, ⟨_, _, rfl⟩, ?_, ?_⟩
        · rw [idx_succ, ints_snoc]; exact Ho.out
        · exact (hgr.alloc _).grown hg (fun j hj => own_base_le Hown.out hj)
      case measure => simp [intOf]; omega
    · obtain rfl : k = N := by omega
      go_wp2_with fail
      go_ret
      exact ⟨_, _, rfl, Hown.out, hgr⟩
set_option maxHeartbeats 1000000 in
set_option maxRecDepth 100000 in
theorem spFindConflict_any {A1 A2 A3 : Option Addr} {n1 c1 n2 c2 n3 c3 : Nat} (n : GNet) (l : List GTr) (w : World) (hA : NetAt w A1 n1 c1 A2 n2 c2 n) (hL : SlAt w 4 A3 n3 c3 (l.flatMap GTr.cells)) :
    Calls Try.prog 57 #[.agg #[.slice A1 n1 c1, .slice A2 n2 c2], .slice A3 n3 c3] w fun e w' => ∃ A m c, e = .returned (.tuple #[.slice A m c, .int .i64 (cfCode n l (idx l.length))]) ∧ m ≤ 1048576 ∧ w'.ownsRow w.heap.size 2 1 (.slice A m c) m (ints (thRes n l (idx l.length))) ∧ Gr w w' := by
  have HA := Lib.hid hA
  have hm3 := hL.small
  have hl3 := hL.sl.len GTr.cells_len (by omega)
  have HL := Lib.hid hL
  have Hl3 := Lib.hid hl3
  clear hA hL hl3
  go_enter Try.func57, Try.ntmps57
  go_wp2_with fail
  obtain ⟨w0, hw0⟩ : ∃ w0, w0 = w.alloc (.cells #[.slice A1 n1 c1, .slice A2 n2 c2] 32) := ⟨_, rfl⟩
  have hg0 : Gr w w0 := by rw [hw0]; exact (Gr.refl _).alloc _
  have b0 : w0.cell? ⟨w.heap.size, 0, none⟩ = some (.slice A1 n1 c1) := by rw [hw0]; simp [go_sem]
  have b1 : w0.cell? ⟨w.heap.size, 1, none⟩ = some (.slice A2 n2 c2) := by rw [hw0]; simp [go_sem]
  rw [← hw0]
  clear hw0
  go_region_held3 (fun w' => Gr w0 w' ∧ w'.cell? ⟨w.heap.size, 0, none⟩ = some (.slice A1 n1 c1) ∧ w'.cell? ⟨w.heap.size, 1, none⟩ = some (.slice A2 n2 c2))
    (first | exact ⟨(Gr.refl _).drew, b0, b1⟩ | exact ⟨by assumption, (by assumption : Gr w0 _).has b0, (by assumption : Gr w0 _).has b1⟩)
    (first
      | (go_at_call 101; refine (l26All_any n3 _ hm3).mono ?_; rintro e w2 ⟨B, d, rfl, ho, hg2⟩; have Ho := Lib.hid ho; clear ho; have hx : Gr w0 w2 := (Gr.refl _).drew.trans hg2)
      | (go_at_call 59; refine (spThinConflict_any n l (idx n3) _ (HA.out.gr (hg0.trans hx)) (HL.out.gr (hg0.trans hx)) (SlAt.of_own Ho.out hm3)).mono ?_; rintro e w3 ⟨B3, m3, d3, rfl, hq3, hp, hg3⟩; have Hp := Lib.hid hp; clear hp; have hy : Gr w0 w3 := hx.trans hg3))
  go_wp2_with fail
  go_ret2
  rw [Hl3.out]
  exact ⟨B3, m3, d3, rfl, hq3, own_base Hp.out (hg0.trans hx).size, hg0.trans hy⟩
set_option maxHeartbeats 2000000 in
set_option maxRecDepth 100000 in
theorem FindConflict_any {A1 A2 A3 : Option Addr} {n1 c1 n2 c2 n3 c3 : Nat} (n : GNet) (l : List GTr) (w : World) (hA : NetAt w A1 n1 c1 A2 n2 c2 n) (hL : SlAt w 4 A3 n3 c3 (l.flatMap GTr.cells)) :
    Calls Try.prog 58 #[.agg #[.slice A1 n1 c1, .slice A2 n2 c2], .slice A3 n3 c3] w fun e w' => ∃ A m c, e = .returned (.tuple #[.slice A m c, .int .i64 (cfCode n l (idx l.length))]) ∧ m ≤ 1048576 ∧ w'.ownsRow w.heap.size 2 1 (.slice A m c) m (ints (thRes n l (idx l.length))) ∧ Gr w w' := by
  obtain ⟨i0, hi0, hz0, hz1, hz2⟩ := info_parts infoInt64
  have HA := Lib.hid hA
  have hm3 := hL.small
  have hl3 := hL.sl.len GTr.cells_len (by omega)
  have HL := Lib.hid hL
  have Hl3 := Lib.hid hl3
  clear hA hL hl3
  go_enter Try.func58, Try.ntmps58
  go_wp2_with fail
  refine (checkTransports_any _ _ _ _ _ _ _ _ _ n l _ (HA.out.gr ((Gr.refl _).alloc _)) (HL.out.sl.gr ((Gr.refl _).alloc _)) HL.out.small).mono ?_
  rintro e w1 ⟨rfl, hg1⟩
  have hg0 : Gr w w1 := ((Gr.refl _).alloc _).trans hg1
  have b0 : w1.cell? ⟨w.heap.size, 0, none⟩ = some (.slice A1 n1 c1) := hg1.has (by simp [go_sem])
  have b1 : w1.cell? ⟨w.heap.size, 1, none⟩ = some (.slice A2 n2 c2) := hg1.has (by simp [go_sem])
  clear hg1
  by_cases hc : trCode n l = 0
  · have Hc := Lib.hid hc
    have Hn := Lib.hid (trCode_zero hc).1
    have Hok := Lib.hid (trCode_zero hc).2
    have Hok1 : Hid (trsOk n1 l = true) := Lib.hid (by rw [← HA.out.l1]; exact (trCode_zero hc).2)
    have tb : (trCode n l != 0) = false := by simp [hc]
    clear hc
    have Hcs : Hid (csCode n l (idx l.length) = 0) := Lib.hid (by rw [cs_idx, Hc.out])
    have Hidx := Lib.hid (idx_nd l.length)
    have hw1s : w.heap.size < w1.heap.size := lt_of_cell b0
    rw [Hl3.out] at Hcs
    go_wp2_with (at_make; refine wpList_make_full _ rfl _ _ _ rfl w.heap.size 2 i0 _ 1 Try.underlying26 hi0 hz0 hz1 .i64 .i64 _ _ n3 rfl rfl rfl rfl (by rw [hz2]; omega) (by unfold maxLen; omega) hg0.size ?_; intro w2 hown hg; have hgx : Gr w1 w2 := Gr.of_grown hg; replace b0 := hgx.has b0; replace b1 := hgx.has b1)
    have o1 : w2.ownsRow w.heap.size 2 1 (.slice (some ⟨w1.heap.size, 0, none⟩) n3 n3) n3 (ints (List.replicate n3 0)) := by
      have := own_cells_eq hown (made_ints n3)
      simpa using this
    have hg2 : Gr w w2 := hg0.trans hgx
    obtain ⟨S, hS⟩ : ∃ S, S = w1.heap.size := ⟨_, rfl⟩
    have hS0 := hg0.size
    have hSw : w.heap.size < S := by rw [hS]; exact hw1s
    rw [← hS] at o1 hS0 ⊢
    have O1 := Lib.hid o1
    clear o1 hown hg hgx hS
    go_loopw [20] (fun i wr => ∃ k : Nat, k ≤ n3 ∧ i = .int .i64 k ∧ wr.ownsRow w.heap.size 2 1 (.slice (some ⟨S, 0, none⟩) n3 n3) n3 (ints (overTo (fun j => (j : Int)) (List.replicate n3 0) k)) ∧ wr.cell? ⟨w.heap.size, 0, none⟩ = some (.slice A1 n1 c1) ∧ wr.cell? ⟨w.heap.size, 1, none⟩ = some (.slice A2 n2 c2) ∧ Gr w wr) (fun i _ => n3 - (intOf i).toNat)
    case atStart => exact ⟨0, Nat.zero_le _, rfl, by rw [overTo_zero]; exact O1.out, b0, b1, hg2⟩
    case round =>
      obtain ⟨k, hk, rfl, hown, d0, d1, hgr⟩ := hrel
      clear O1 b0 b1
      by_cases hlt : k < n3
      · obtain ⟨q0, q1⟩ := own_int hown (k := k) (x := 0) (by rw [overTo_get]; simp [hlt])
        obtain ⟨R1, R2⟩ := own_set_int hown k (k : Int)
        rw [overTo_set _ _ (by simpa using hlt) rfl] at R1
        have e0 := R2.cell d0 (by simp; omega)
        have e1 := R2.cell d1 (by simp; omega)
        have hgR := hgr.grown R2 (fun _ e => by injection e with e; omega)
        have HR := Lib.hid R1
        have He := Lib.hid (And.intro e0 (And.intro e1 hgR))
        have t1 : (k : Int) < (n3 : Int) := by omega
        have t0 : (0 : Int) ≤ (k : Int) := by omega
        clear hown R1 R2 e0 e1 hgR
        go_wp2_with fail
        go_roundw
        case rel => exact ⟨k + 1, by omega, by go_num, HR.out, He.out.1, He.out.2.1, He.out.2.2⟩
        case measure => simp [intOf]; omega
      · obtain rfl : k = n3 := by omega
        have hfull : overTo (fun j : Nat => (j : Int)) (List.replicate k 0) k = idx k := by
          have h := overTo_full (fun j : Nat => (j : Int)) (List.replicate k 0)
          rw [List.length_replicate] at h
          rw [h]; rfl
        rw [hfull] at hown
        have Hown := Lib.hid hown
        rw [Hl3.out] at Hidx
        have Hnd : Hid (Nd l.length (idx k)) := Lib.hid (by rw [Hl3.out]; exact Hidx.out)
        clear hown hfull
        go_wp2_with fail
        refine (isConflict_any n l (idx k) _ (HA.out.gr hgr) (HL.out.gr hgr) (SlAt.of_own Hown.out hm3) Hok1.out Hnd.out).mono ?_
        rintro e w5 ⟨rfl, hg5⟩
        have hgw := hgr.trans hg5
        replace d0 := hg5.has d0
        replace d1 := hg5.has d1
        cases hf : confB n l (idx k) with
        | false =>
          have Hv := Lib.hid (cf_no Hcs.out hf)
          clear hf
          go_wp2_with fail
          go_ret2
          rw [Hl3.out]
          refine ⟨none, 0, 0, by rw [Hv.out.1]; rfl, by omega, ?_, hgw⟩
          rw [Hv.out.2]
          exact World.ownsRow_nil _ _ _ _
        | true =>
          have Hv := Lib.hid (cf_yes Hcs.out hf)
          clear hf
          go_wp2_with fail
          refine (thinned_any n l (idx k) _ (HA.out.gr hgw) (HL.out.gr hgw) (SlAt.of_own (own_gr Hown.out hg5) hm3) Hok1.out Hnd.out).mono ?_
          rintro e w6 ⟨B, m, d, rfl, hm, hp, hg6⟩
          have Hp := Lib.hid hp
          clear hp
          go_wp2_with fail
          go_ret2
          rw [Hl3.out]
          refine ⟨B, m, d, by rw [Hv.out.1]; rfl, hm, ?_, hgw.trans hg6⟩
          rw [Hv.out.2]
          exact own_base Hp.out hgw.size
  · have Hv := Lib.hid (cf_bad (n := n) (l := l) (s := idx l.length) (by rw [cs_idx]; exact hc))
    have Hq := Lib.hid (cs_idx n l)
    have tb : (trCode n l != 0) = true := by simp [hc]
    clear hc
    go_wp2_with fail
    go_ret2
    refine ⟨none, 0, 0, by rw [Hv.out.1, Hq.out]; rfl, by omega, ?_, hg0⟩
    rw [Hv.out.2]
    exact World.ownsRow_nil _ _ _ _
end Go.Proofs.Ytaicmgbmlkhagaa
