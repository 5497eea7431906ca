/-
  CurtailedAmounts: the program and the reference.
-/
import Derived.Test.YtejfpajbkgfiaaaCurt3
namespace Go.Proofs.Ytejfpajbkgfiaaa
open Go.ChangeShapes Go.WideShapes Go.ChangeAt Go.RowKit

noncomputable def lostAt (n : GNet) (l : List GTr) (k : Nat) : Int := ((l.map (lostOne n l)).getD k 0)
theorem lostAt_eq {n : GNet} {l : List GTr} {k : Nat} {x : GTr} (hx : l[k]? = some x) : lostAt n l k = x.amount - scaleAmt (curs n l) x := by
  rw [lostAt, List.getD_eq_getElem?_getD, List.getElem?_map, hx]; rfl
theorem lost_full (n : GNet) (l : List GTr) (m : Nat) (hm : l.length = m) : overTo (lostAt n l) (List.replicate m 0) m = l.map (lostOne n l) := by
  have h := overTo_full (lostAt n l) (List.replicate m 0)
  rw [List.length_replicate] at h
  rw [h]
  apply List.ext_getElem?
  intro j
  rw [List.getElem?_map]
  by_cases hj : j < m
  · rw [List.getElem?_range hj]
    show some (lostAt n l j) = _
    rw [lostAt, get_of_lt (by simpa using (by omega : j < l.length))]
  · rw [List.getElem?_eq_none (by simpa using Nat.le_of_not_lt hj), List.getElem?_eq_none (by simp; omega)]; rfl
theorem scaled_get {sc : List Int} {l : List GTr} {k : Nat} {x : GTr} (hx : l[k]? = some x) : (scaled sc l)[k]? = some (scaleOne sc x) := by
  rw [scaled, List.getElem?_map, hx]; rfl
set_option maxHeartbeats 2000000 in
set_option maxRecDepth 100000 in
theorem CurtailedAmounts_any {A1 A2 A3 : Option Addr} {n1 c1 n2 c2 n3 c3 : Nat} (n : GNet) (l : List GTr) (w : World) (hA : NetAt w A1 n1 c1 A2 n2 c2 n) (hL : SlAt w 4 A3 n3 c3 (l.flatMap GTr.cells)) :
    Calls Try.prog 46 #[.agg #[.slice A1 n1 c1, .slice A2 n2 c2], .slice A3 n3 c3] w fun e w' => ∃ A m c, e = .returned (.tuple #[.slice A m c, .int .i64 (trCode n l)]) ∧ m ≤ 1048576 ∧ w'.ownsRow w.heap.size 2 1 (.slice A m c) m (ints (caRes n l)) ∧ Gr w w' := by
  obtain ⟨i0, hi0, hz0, hz1, hz2⟩ := info_parts infoInt64
  have HA := Lib.hid hA
  have hm3 := hL.small
  have hlen := hL.sl.len GTr.cells_len (by omega)
  have Hlen := Lib.hid hlen
  have HL := Lib.hid hL
  clear hA hL hlen
  go_enter Try.func46, Try.ntmps46
  go_wp2_with fail
  refine (checkTransports_any _ _ _ _ _ _ _ _ _ n l _ (HA.out.gr ((Gr.refl _).alloc _)) (HL.out.sl.gr ((Gr.refl _).alloc _)) HL.out.small).mono ?_
  rintro e w1 ⟨rfl, hg1⟩
  have hg0 : Gr w w1 := ((Gr.refl _).alloc _).trans hg1
  have b0 : w1.cell? ⟨w.heap.size, 0, none⟩ = some (.slice A1 n1 c1) := hg1.has (by simp [go_sem])
  have b1 : w1.cell? ⟨w.heap.size, 1, none⟩ = some (.slice A2 n2 c2) := hg1.has (by simp [go_sem])
  clear hg1
  by_cases hc : trCode n l = 0
  · have Hc := Lib.hid hc
    have Hn := Lib.hid (trCode_zero hc).1
    have Hok := Lib.hid (trCode_zero hc).2
    have Hok1 : Hid (trsOk n1 l = true) := Lib.hid (by rw [← HA.out.l1]; exact (trCode_zero hc).2)
    have tb : (trCode n l != 0) = false := by simp [hc]
    clear hc
    go_wp2_with (at_make; refine wpList_make_full _ rfl _ _ _ rfl w.heap.size 2 i0 _ 1 Try.underlying33 hi0 hz0 hz1 .i64 .i64 _ _ n3 rfl rfl rfl rfl (by rw [hz2]; omega) (by unfold maxLen; omega) hg0.size ?_; intro w2 hown hg; have hgx : Gr w1 w2 := Gr.of_grown hg; replace b0 := hgx.has b0; replace b1 := hgx.has b1)
    have o1 : w2.ownsRow w.heap.size 2 1 (.slice (some ⟨w1.heap.size, 0, none⟩) n3 n3) n3 (ints (List.replicate n3 0)) := by
      have := own_cells_eq hown (made_ints n3)
      simpa using this
    have hg2 : Gr w w2 := hg0.trans hgx
    obtain ⟨S, hS⟩ : ∃ S, S = w1.heap.size := ⟨_, rfl⟩
    have hS0 := hg0.size
    have hS1 : S < w2.heap.size ∨ n3 = 0 := by
      rcases Nat.eq_zero_or_pos n3 with h | h
      · exact Or.inr h
      · obtain ⟨g, e, _, h2⟩ := own_form hown h
        injection e with e; injection e with e; exact Or.inl (by omega)
    rw [← hS] at o1 hS0 ⊢
    have O1 := Lib.hid o1
    clear o1 hown hg hgx hS
    refine (curtailScales_any n l _ (HA.out.gr hg2) (HL.out.gr hg2) Hn.out Hok1.out).mono ?_
    rintro e w3 ⟨B, d, rfl, hp, hg3⟩
    have Hp := Lib.hid hp
    have hg9 := hg2.trans hg3
    clear hp b0 b1
    go_wp2_with fail
    refine (scaledTransports_any n1 l (curs n l) _ (HL.out.gr hg9) (SlAt.of_own Hp.out (by omega)) Hok1.out (curs_ok Hn.out l)).mono ?_
    rintro e w4 ⟨B4, d4, rfl, hp4, hg4⟩
    have Hp4 := Lib.hid hp4
    have hg10 := hg9.trans hg4
    have hz4 := hg3.size
    have HB : Hid (∀ k x, l[k]? = some x → ∃ b, B4 = some ⟨b, 0, none⟩ ∧ w3.heap.size ≤ b) := Lib.hid (fun k x hx => by
      have hk := (List.getElem?_eq_some_iff.1 hx).1
      obtain ⟨g, e, h1, _⟩ := own_form hp4 (by have := Hlen.out; omega)
      exact ⟨g, e, h1⟩)
    clear hp4 hi0 hz0 hz1 hz2
    go_wp2_with fail
    go_loopw [25] (fun i wr => ∃ k : Nat, k ≤ n3 ∧ i = .int .i64 k ∧ wr.ownsRow w.heap.size 2 1 (.slice (some ⟨S, 0, none⟩) n3 n3) n3 (ints (overTo (lostAt n l) (List.replicate n3 0) k)) ∧ wr.ownsRow w3.heap.size 39 4 (.slice B4 n3 d4) n3 ((scaled (curs n l) l).flatMap GTr.cells) ∧ Gr w wr) (fun i _ => n3 - (intOf i).toNat)
    case atStart => exact ⟨0, Nat.zero_le _, rfl, by rw [overTo_zero]; exact own_gr O1.out (hg3.trans hg4), Hp4.out, hg10⟩
    case round =>
      obtain ⟨k, hk, rfl, hown, hsc, hgr⟩ := hrel
      clear O1 Hp4
      by_cases hlt : k < n3
      · obtain ⟨x, hx⟩ : ∃ x, l[k]? = some x := ⟨_, List.getElem?_eq_getElem (by have := Hlen.out; omega)⟩
        obtain ⟨q, rfl, hq3⟩ := HB.out k x hx
        obtain ⟨b, o, rfl, hb, e0, e1, e2, e3⟩ := (HL.out.sl.gr hgr).tr hx
        obtain ⟨s0, s1, s2, s3, _, _, _, _⟩ := own_tr hsc (scaled_get hx)
        obtain ⟨p1, p2⟩ := lost_bnd Hn.out Hok.out hx
        have Hla := Lib.hid (lostAt_eq (n := n) hx)
        have hSq : S < w2.heap.size := by rcases hS1 with h | h <;> omega
        change wr.cell? ⟨q, k * 4 + 2, none⟩ = some (.int .i64 (scaleAmt (curs n l) x)) at s2
        change wr.cell? ⟨q, k * 4, none⟩ = some (.int .i64 x.entry) at s0
        change wr.cell? ⟨q, k * 4 + 1, none⟩ = some (.int .i64 x.exit) at s1
        change wr.cell? ⟨q, k * 4 + 3, none⟩ = some (.int .i64 x.cls) at s3
        generalize scaleAmt (curs n l) x = y at s2 p2 Hla
        have Hown := Lib.hid hown
        have Hsc := Lib.hid hsc
        have t1 : (k : Int) < (n3 : Int) := by omega
        have t0 : (0 : Int) ≤ (k : Int) := by omega
        clear hx hown hsc e0 e1 e3
        go_wp2_with fail
        obtain ⟨w5, hw5⟩ : ∃ w5, w5 = wr.alloc (.cells #[.int .i64 x.entry, .int .i64 x.exit, .int .i64 y, .int .i64 x.cls] 39) := ⟨_, rfl⟩
        have hg5 : Gr wr w5 := by rw [hw5]; exact (Gr.refl _).alloc _
        have y2 : w5.cell? ⟨wr.heap.size, 2, none⟩ = some (.int .i64 y) := by rw [hw5]; simp [go_sem]
        rw [← hw5]
        clear hw5
        replace e2 := hg5.has e2
        have own5 := own_gr Hown.out hg5
        have sc5 := own_gr Hsc.out hg5
        obtain ⟨d0, d1⟩ := own_int own5 (k := k) (x := 0) (by rw [overTo_get]; simp [hlt])
        obtain ⟨R1, R2⟩ := own_set_int own5 k (x.amount - y)
        rw [overTo_set _ _ (by simpa using hlt) Hla.out.symm] at R1
        have hscR := own_chg sc5 (chg_of_grown (S := fun j => j = S) R2 (fun j e => by injection e with e; exact e.symm)) (fun j hj => by have := own_base_le sc5 hj; omega)
        have hgrR := (hgr.trans hg5).grown R2 (fun _ e => by injection e with e; omega)
        have HR1 := Lib.hid R1
        have HscR := Lib.hid hscR
        have HgrR := Lib.hid hgrR
        clear own5 sc5 R1 R2 hscR hgrR s0 s1 s2 s3
        have hwr : IntKind.i64.wrap (x.amount - y) = x.amount - y := IntWalk.i64_in _ (by omega)
        refine wp_region_last (fun w' => w' = w5.drew) (fun w' => w' = (w5.setCell ⟨S, k, none⟩ (.int .i64 (x.amount - y))).drew) (by kernel_rfl) (by kernel_rfl) (by decide) rfl ?_
        repeat (first
            | ((with_reducible refine wpText_skip ?_ ?_)
               · rfl
               simp only [Act.put, List.setIfInBounds_toArray, List.set_cons_zero, List.set_cons_succ])
            | ((with_reducible refine wpText_yield (v := ?_) ?_ ?_ ?_)
               rotate_left
               · rfl
               · intro W hW; first | (go_simp; done) | (go_simp; with_reducible rfl)
               simp only [Act.put, List.setIfInBounds_toArray, List.set_cons_zero, List.set_cons_succ])
            | ((with_reducible refine wpText_yield1 (v := ?_) ?_ ?_ ?_)
               rotate_left
               · rfl
               · intro W hW; first | (go_simp; done) | (go_simp; with_reducible rfl)
               simp only [Act.put, List.setIfInBounds_toArray, List.set_cons_zero, List.set_cons_succ]))
        (first
            | ((with_reducible refine wpText_do1 undef ?_ ?_ ?_)
               · rfl
               · intro W hW K hK
                 subst hW
                 go_simp
                 exact hK _ rfl
               simp only [Act.put]))
        rintro w6 rfl
        clear hwr
        go_wp2_with fail
        go_roundw
        case rel => exact ⟨k + 1, by omega, by go_num, HR1.out.drew, HscR.out.drew, HgrR.out.drew⟩
        case measure => simp [intOf]; omega
      · obtain rfl : k = n3 := by omega
        have Hown := Lib.hid hown
        clear hown hsc
        go_wp2_with fail
        go_ret2
        refine ⟨_, _, _, by rw [Hc.out]; rfl, hm3, ?_, hgr⟩
        have h := Hown.out
        rw [lost_full n l k Hlen.out] at h
        rw [caRes, if_pos Hc.out]
        exact h
  · have Hc := Lib.hid hc
    have tb : (trCode n l != 0) = true := by simp [hc]
    clear hc
    go_wp2_with fail
    go_ret2
    refine ⟨none, 0, 0, rfl, by omega, ?_, hg0⟩
    rw [caRes, if_neg Hc.out]
    exact World.ownsRow_nil _ _ _ _
set_option maxHeartbeats 3200000 in
set_option maxRecDepth 100000 in
theorem spCurtailedAmounts_any {A1 A2 A3 : Option Addr} {n1 c1 n2 c2 n3 c3 : Nat} (n : GNet) (l : List GTr) (w : World) (hA : NetAt w A1 n1 c1 A2 n2 c2 n) (hL : SlAt w 4 A3 n3 c3 (l.flatMap GTr.cells)) :
    Calls Try.prog 47 #[.agg #[.slice A1 n1 c1, .slice A2 n2 c2], .slice A3 n3 c3] w fun e w' => ∃ A m c, e = .returned (.tuple #[.slice A m c, .int .i64 (trCode n l)]) ∧ m ≤ 1048576 ∧ w'.ownsRow w.heap.size 2 1 (.slice A m c) m (ints (caRes n l)) ∧ Gr w w' := by
  obtain ⟨i0, hi0, hz0, hz1, hz2⟩ := info_parts infoInt64
  have HA := Lib.hid hA
  have hm3 := hL.small
  have hlen := hL.sl.len GTr.cells_len (by omega)
  have Hlen := Lib.hid hlen
  have HL := Lib.hid hL
  clear hA hL hlen
  go_enter Try.func47, Try.ntmps47
  go_wp2_with fail
  refine (spCurtailTransports_any n l _ (HA.out.gr ((Gr.refl _).alloc _)) (HL.out.gr ((Gr.refl _).alloc _))).mono ?_
  rintro e w1 ⟨B, m, d, rfl, hm, hp, hg1⟩
  have hg0 : Gr w w1 := ((Gr.refl _).alloc _).trans hg1
  have Hp := Lib.hid hp
  clear hp hg1
  by_cases hc : trCode n l = 0
  · have Hc := Lib.hid hc
    have Hn := Lib.hid (trCode_zero hc).1
    have Hok := Lib.hid (trCode_zero hc).2
    have Hok1 : Hid (trsOk n1 l = true) := Lib.hid (by rw [← HA.out.l1]; exact (trCode_zero hc).2)
    have tb : (trCode n l != 0) = false := by simp [hc]
    clear hc
    have Hp1 := Hp.out
    rw [ctRes, if_pos Hc.out] at Hp1
    obtain rfl : m = n3 := by
      have := own_len Hp1 GTr.cells_len (by omega)
      rw [← this, ← Hlen.out]; simp [scaled]
    have HP := Lib.hid Hp1
    clear Hp1 Hp
    go_wp2_with fail
    go_loopw [8, 9] (fun o i wr => ∃ k : Nat, k ≤ m ∧ i = .int .i64 k ∧ (∃ A c, o = .slice A k c) ∧ wr.ownsRow w1.heap.size 2 1 o k (ints ((l.take k).map (lostOne n l))) ∧ Gr w1 wr) (fun _ i _ => m - (intOf i).toNat)
    case atStart => exact ⟨0, Nat.zero_le _, rfl, ⟨_, _, rfl⟩, World.ownsRow_lit w1 #[] 0 (Nat.le_refl _) (by unfold maxLen; omega) rfl, (Gr.refl _).alloc _⟩
    case round =>
      obtain ⟨k, hk, rfl, ⟨A, c, rfl⟩, hownr, hgr⟩ := hrel
      have Hown := Lib.hid hownr
      clear hownr
      by_cases hlt : k < m
      · obtain ⟨x, hx⟩ : ∃ x, l[k]? = some x := ⟨_, List.getElem?_eq_getElem (by have := Hlen.out; omega)⟩
        obtain ⟨q, rfl, _, hq3⟩ := own_form HP.out (by omega)
        obtain ⟨b, o, rfl, hb, e0, e1, e2, e3⟩ := (HL.out.sl.gr hg0).tr hx
        obtain ⟨s0, s1, s2, s3, _, _, _, _⟩ := own_tr HP.out (scaled_get hx)
        obtain ⟨p1, p2⟩ := lost_bnd Hn.out Hok.out hx
        have hstep := map_take_succ (lostOne n l) l hx
        rw [show lostOne n l x = x.amount - scaleAmt (curs n l) x from rfl] at hstep
        have Hst := Lib.hid hstep
        change w1.cell? ⟨q, k * 4 + 2, none⟩ = some (.int .i64 (scaleAmt (curs n l) x)) at s2
        generalize scaleAmt (curs n l) x = y at s2 p2 Hst
        have hfar : ∀ j, (Value.slice A k c).ownBlock = some j → j ≠ b ∧ j ≠ q := by
          intro j hj
          have h1 := own_base_le Hown.out hj
          omega
        replace e2 := hgr.has e2
        replace s2 := hgr.has s2
        have hbase := hgr.size
        have t1 : (k : Int) < (m : Int) := by omega
        have t0 : (0 : Int) ≤ (k : Int) := by omega
        have hwr : IntKind.i64.wrap (x.amount - y) = x.amount - y := IntWalk.i64_in _ (by omega)
        clear hx hstep e0 e1 e3 s0 s1 s3
        go_wp2_with fail
        go_region_held3 (fun w' => w'.cell? ⟨b, o + k * 4 + 2, none⟩ = some (.int .i64 x.amount) ∧ w'.cell? ⟨q, k * 4 + 2, none⟩ = some (.int .i64 y))
          (first
            | go_keep
            | (go_split_ands
               refine ⟨?_, ?_⟩
               · (rw [hgrow.cell_far _ (by simp; omega) (fun e => (hfar _ e.symm).1 rfl)]; assumption)
               · (rw [hgrow.cell_far _ (by simp; omega) (fun e => (hfar _ e.symm).2 rfl)]; assumption)))
          ((refine step_append_lies _ (by rfl) _ _ _ (by rfl) w1.heap.size 2 i0 _ 1 8 Try.underlying33 hi0 hz0 hz1 hz2 rfl (by omega) _ k _ (by rfl) ((Hown.out.alloc _).drew) ⟨wr.heap.size, 0, none⟩ 1 1 [.int .i64 (x.amount - y)] (by rfl) (by rfl) (World.news_of_block (cs := #[.int .i64 (x.amount - y)]) (t := 2) (fr := (0, 0)) (heap_alloc_new wr _)) (by simp [Value.oneCell']) (by omega) (by unfold maxLen; omega) (by omega) (by simp; omega) (wr.heap.size + 1) (by simp) ?_; intro gg cap w2 hown1 hgrow hat hlt2))
        clear hwr hfar
        have Ho2 := Lib.hid hown1
        clear hown1
        go_wp2_with fail
        go_roundw
        case rel =>
          refine ⟨k + 1, by omega, by go_num, ⟨_, _, rfl⟩, ?_, ?_⟩
          · rw [Hst.out, ints_snoc]; exact Ho2.out
          · exact ((hgr.alloc _).drew).grown hgrow (fun j hj => own_base_le Hown.out hj)
        case measure => simp [intOf]; omega
      · obtain rfl : k = m := by omega
        go_wp2_with fail
        go_ret2
        refine ⟨_, _, _, by rw [Hc.out]; rfl, hm3, ?_, hg0.trans hgr⟩
        have h := Hown.out
        rw [List.take_of_length_le (by rw [Hlen.out]; exact Nat.le_refl _)] at h
        rw [caRes, if_pos Hc.out]
        exact own_base h hg0.size
  · have Hc := Lib.hid hc
    have tb : (trCode n l != 0) = true := by simp [hc]
    clear hc
    go_wp2_with fail
    go_ret2
    refine ⟨none, 0, 0, rfl, by omega, ?_, hg0⟩
    rw [caRes, if_neg Hc.out]
    exact World.ownsRow_nil _ _ _ _
end Go.Proofs.Ytejfpajbkgfiaaa
