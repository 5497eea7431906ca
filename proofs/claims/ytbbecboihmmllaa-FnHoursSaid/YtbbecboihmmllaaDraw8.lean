/-
  Draws: a network and a chord.
-/
import Derived.Test.YtbbecboihmmllaaDraw6
import Derived.Test.YtbbecboihmmllaaDraw7
set_option linter.unusedSimpArgs false
set_option linter.unusedVariables false
namespace Go.Proofs.Ytbbecboihmmllaa
open Go.ChangeShapes Go.WideShapes Go.ChangeAt Go.RowKit

theorem results_row_tmp {P : Program} {fn : Func} {p u : Tmp} {ty : TypeId} (h : fn.results = #[.cell p ty, .tmp u]) (tmps : Array Value) (w : World) (g : Nat) (t : TypeId) (cs : Array Value) (fr : Nat × Nat) (d : TypeDesc)
    (hp : tmps.getD p undef = .pointer (some ⟨g, 0, none⟩)) (hg : w.heap[g]? = some (.cells cs t fr))
    (hu : P.underlying ty = some d) (hd : (match d with | .struct _ | .array _ _ => true | _ => false) = true) (hi : (P.info? ty).map (·.size) = some cs.size) :
    (results fn tmps).run P w = .ok (.tuple #[.agg cs, tmps.getD u undef]) w := by
  have hp' : tmps[p]?.getD undef = .pointer (some ⟨g, 0, none⟩) := by simpa using hp
  simp [results, h, hp', asAddr, run_loadVar_row w g t ty cs fr d hg hu hd hi]
theorem results_row_tmp2 {P : Program} {fn : Func} {p u v : Tmp} {ty : TypeId} (h : fn.results = #[.cell p ty, .tmp u, .tmp v]) (tmps : Array Value) (w : World) (g : Nat) (t : TypeId) (cs : Array Value) (fr : Nat × Nat) (d : TypeDesc)
    (hp : tmps.getD p undef = .pointer (some ⟨g, 0, none⟩)) (hg : w.heap[g]? = some (.cells cs t fr))
    (hu : P.underlying ty = some d) (hd : (match d with | .struct _ | .array _ _ => true | _ => false) = true) (hi : (P.info? ty).map (·.size) = some cs.size) :
    (results fn tmps).run P w = .ok (.tuple #[.agg cs, tmps.getD u undef, tmps.getD v undef]) w := by
  have hp' : tmps[p]?.getD undef = .pointer (some ⟨g, 0, none⟩) := by simpa using hp
  simp [results, h, hp', asAddr, run_loadVar_row w g t ty cs fr d hg hu hd hi]
/-- The result's block is written: nothing else has turned. -/
theorem res_net {w0 w W : World} {S R n1 c1 n2 c2 : Nat} {A1 A2 : Option Addr} {n : GNet} {cs : Array Value} (hcs : cs = #[.slice none 0 0, .slice none 0 0]) (hRw : w.heap.size ≤ R) (hRw0 : w0.heap.size ≤ R) (hSR : S < R) (hR : W.heap[R]? = some (.cells cs 27 (0, 0)))
    (hO : OwnNet W (R + 1) A1 n1 c1 A2 n2 c2 n) (hD : Drw w0 W S) (hC : Chg (fun j => j = S) w W) :
    let W' := (W.setCell ⟨R, 0, none⟩ (.slice A1 n1 c1)).setCell ⟨R, 1, none⟩ (.slice A2 n2 c2)
    W'.heap[R]? = some (.cells #[.slice A1 n1 c1, .slice A2 n2 c2] 27 (0, 0)) ∧ OwnNet W' w.heap.size A1 n1 c1 A2 n2 c2 n ∧ Drw w0 W' S ∧ Chg (fun j => j = S) w W' ∧ Chg (fun j => j = R) W W' := by
  subst hcs
  have hcc : Chg (fun j => j = R) W ((W.setCell ⟨R, 0, none⟩ (.slice A1 n1 c1)).setCell ⟨R, 1, none⟩ (.slice A2 n2 c2)) := (chg_put _ _).trans (chg_put _ _)
  exact ⟨by simp [World.setCell, Array.getElem?_modify, hR], ⟨own_base (own_chg hO.nodes hcc (fun j hj e => by have := own_low hO.nodes hj; omega)) (by omega), own_base (own_chg hO.pipes hcc (fun j hj e => by have := own_low hO.pipes hj; omega)) (by omega), hO.names, hO.m1, hO.m2⟩, (hD.set hRw0 (by omega)).set hRw0 (by omega), (hC.fresh hRw).fresh hRw, hcc⟩
theorem own_pick {w : World} {base : Nat} {e : TypeId} {n c g : Nat} {zs : List Int} (h : w.ownsRow base e 1 (.slice (some ⟨g, 0, none⟩) n c) n (ints zs)) {y : Int} (h0 : 0 ≤ y) (h1 : y < (n : Int)) : ∃ v : Int, w.cell? ⟨g, y.toNat, none⟩ = some (.int .i64 v) := by
  have hl := own_ilen h
  exact ⟨_, (own_int h (get_int (l := zs) (k := y.toNat) (by omega))).1⟩
theorem Upto.below {n x : Int} (h : Upto n x) (hn : 0 < n) : 0 ≤ x ∧ x < n := by
  refine ⟨h.1, ?_⟩
  rcases Int.lt_or_le 1 n with h1 | h1
  · exact h.2.1 h1
  · have := h.2.2 h1; omega
theorem EndAt.gr {w0 w wx wy : World} {S R M : Nat} (h : EndAt w0 w wx S R M) (hg : Gr wx wy) : EndAt w0 w wy S R M := by
  obtain ⟨A1, n1, c1, A2, n2, c2, n, hM, hO, hb, hD, hC, hR⟩ := h
  exact ⟨A1, n1, c1, A2, n2, c2, n, (hg.below.block M (rb_lt hM)).trans hM, hO.gr hg, hb, hD.grow hg, hC.trans (hg.chg _), (hg.below.block R (rb_lt hR)).trans hR⟩
set_option maxHeartbeats 6400000 in
set_option maxRecDepth 100000 in
theorem l05DrawChord_any {w0 w : World} {S : Nat} (h : Drw w0 w S) :
    Calls Try.prog 36 #[.pointer (some ⟨S, 0, none⟩)] w fun e w' => ∃ A1 n1 c1 A2 n2 c2 n, ∃ x : Int, e = .returned (.tuple #[.agg #[.slice A1 n1 c1, .slice A2 n2 c2], .int .i64 x]) ∧ OwnNet w' w.heap.size A1 n1 c1 A2 n2 c2 n ∧ (n1 ≤ 7 ∧ n2 ≤ 12) ∧ Drw w0 w' S ∧ Chg (fun k => k = S) w w' := by
  have hlt := h.lt
  have hbw := h.gr.size
  have H := Lib.hid h
  clear h
  go_enter Try.func36, Try.ntmps36
  go_wp2_with fail
  generalize hw1 : World.alloc w _ = w1
  have hR : w1.heap[w.heap.size]? = some (.cells #[.slice none 0 0, .slice none 0 0] 27 (0, 0)) := by rw [← hw1]; exact heap_alloc_new w _
  have hg1 : Gr w w1 := by rw [← hw1]; exact (Gr.refl _).alloc _
  have hs1 : w1.heap.size = w.heap.size + 1 := by rw [← hw1]; simp
  obtain ⟨R, hRe⟩ : ∃ R, R = w.heap.size := ⟨_, rfl⟩
  rw [← hRe] at hR ⊢
  have hSR : S < R := by omega
  have hRw : w.heap.size ≤ R := by omega
  have hR1 : w1.heap.size = R + 1 := by omega
  have hRw0 : w0.heap.size ≤ R := by omega
  have HR := Lib.hid hR
  clear hw1 hRe hR
  refine (l05DrawLoops_any (H.out.grow hg1)).mono ?_
  rintro e w2 ⟨A1, n1, c1, A2, n2, c2, n, rfl, hown, ⟨hn1, hn7, hn9⟩, hd2, hc2⟩
  have hR2 := rb_chg HR.out hc2 (by omega)
  have hcc2 := (hg1.chg (fun k => k = S)).trans hc2
  have hs2 := rb_lt hR2
  generalize hw3 : World.alloc w2 (.cells #[.slice A1 n1 c1, .slice A2 n2 c2] 27) = w3
  have hg3 : Gr w2 w3 := by rw [← hw3]; exact (Gr.refl _).alloc _
  have hM3 : w3.heap[w2.heap.size]? = some (.cells #[.slice A1 n1 c1, .slice A2 n2 c2] 27 (0, 0)) := by rw [← hw3]; exact heap_alloc_new w2 _
  obtain ⟨M, hM⟩ : ∃ M, M = w2.heap.size := ⟨_, rfl⟩
  rw [← hM] at hM3
  have hMR : R < M := by omega
  have hO3 : OwnNet w3 (R + 1) A1 n1 c1 A2 n2 c2 n := by rw [← hR1]; exact hown.gr hg3
  have hE3 : EndAt w0 w w3 S R M := ⟨_, _, _, _, _, _, n, hM3, hO3, ⟨hn7, hn9⟩, hd2.grow hg3, hcc2.trans (hg3.chg _), (hg3.below.block R hs2).trans hR2⟩
  have Hw3 := Lib.hid hw3
  have HMe := Lib.hid hM
  have HE3 := Lib.hid hE3
  have HD3 := Lib.hid (hd2.grow hg3)
  clear hw3 hM hM3 HR hc2 hown hd2 hR2 hcc2 hs2 hO3 hE3
  go_wp2_with fail
  rw [Hw3.out, ← HMe.out]
  refine (l01Next_any 12 HD3.out (by omega)).mono ?_
  rintro e w4 ⟨t, rfl, ht, hd4, hc4⟩
  have hE4 : EndAt w0 w w4 S R M := by
    obtain ⟨A1, n1, c1, A2, n2, c2, n, hM, hO, hb, hD, hC, hR⟩ := HE3.out
    exact ⟨A1, n1, c1, A2, n2, c2, n, rb_chg hM hc4 (by omega), ⟨own_chg hO.nodes hc4 (fun j hj e => by have := own_low hO.nodes hj; omega), own_chg hO.pipes hc4 (fun j hj e => by have := own_low hO.pipes hj; omega), hO.names, hO.m1, hO.m2⟩, hb, hd4, hC.trans hc4, rb_chg hR hc4 (by omega)⟩
  have HE4 := Lib.hid hE4
  have HD4 := Lib.hid hd4
  have hMl : M < w4.heap.size := by obtain ⟨_, _, _, _, _, _, _, hM, _⟩ := hE4; exact rb_lt hM
  clear ht hd4 hc4 HE3 HD3 hE4
  by_cases ht0 : t = 0
  case' pos =>
    subst ht0
    go_wp2_with fail
    refine (l02DrawAny_any HD4.out).mono ?_
    rintro e w5 ⟨B1, m1, d1, B2, m2, d2, q, rfl, hown, ⟨hm1, hm2⟩, hd5, hc5⟩
    obtain ⟨_, _, _, _, _, _, _, hM4, _, _, _, hC4, hR4⟩ := HE4.out
    have hM5 := rb_chg hM4 hc5 (by omega)
    have hR5 := rb_chg hR4 hc5 (by omega)
    have m0 := rb_cell (j := 0) hM5 rfl
    have m1' := rb_cell (j := 1) hM5 rfl
    have f0 := rb_frozen hM5 0
    have f1 := rb_frozen hM5 1
    have hcs : Chg (fun k => k = M) w5 ((w5.setCell ⟨M, 0, none⟩ (.slice B1 m1 d1)).setCell ⟨M, 1, none⟩ (.slice B2 m2 d2)) := (chg_put _ _).trans (chg_put _ _)
    have hE : EndAt w0 w ((w5.setCell ⟨M, 0, none⟩ (.slice B1 m1 d1)).setCell ⟨M, 1, none⟩ (.slice B2 m2 d2)) S R M :=
      ⟨B1, m1, d1, B2, m2, d2, q, by simp [World.setCell, Array.getElem?_modify, hM5], ⟨own_base (own_chg hown.nodes hcs (fun j hj e => by have := own_low hown.nodes hj; omega)) (by omega), own_base (own_chg hown.pipes hcs (fun j hj e => by have := own_low hown.pipes hj; omega)) (by omega), hown.names, hown.m1, hown.m2⟩, ⟨hm1, hm2⟩, (hd5.set (by omega) (by omega)).set (by omega) (by omega), ((hC4.trans hc5).fresh (by omega)).fresh (by omega), rb_chg hR5 hcs (by omega)⟩
    have HE := Lib.hid hE
    clear hM4 hC4 hR4 hown hd5 hc5 hcs hE HE4 HD4 hM5 hR5
    go_upto_region 4 with fail
    generalize World.setCell _ _ _ = w6 at HE ⊢
    clear m0 m1' f0 f1
  case' neg =>
    go_upto_region 4 with fail
    have HE := HE4
    clear HE4 HD4
    rename World => w6
  all_goals
    obtain ⟨A1', n1', c1', A2', n2', c2', n', hM, hO, ⟨q1, q2⟩, hD, hC, hR⟩ := HE.out
    have hMl6 := rb_lt hM
    have m0 := rb_cell (j := 0) hM rfl
    have m1 := rb_cell (j := 1) hM rfl
    have HM := Lib.hid hM
    have HO := Lib.hid hO
    have HD := Lib.hid hD
    have HC := Lib.hid hC
    have HR := Lib.hid hR
    clear hM hO hD hC hR HE
    go_wp2_with fail
    refine (spChordsOf_any n' _ HO.out.at_).mono ?_
    rintro e w7 ⟨A, m, c, zs, q, rfl, hm, ho, hg7⟩
    replace m0 := hg7.has m0
    replace m1 := hg7.has m1
    have HO7 := Lib.hid (HO.out.gr hg7)
    have HD7 := Lib.hid (HD.out.grow hg7)
    have HC7 := Lib.hid (HC.out.trans (hg7.chg _))
    have HR7 := Lib.hid ((hg7.below.block R (rb_lt HR.out)).trans HR.out)
    have HS7 := Lib.hid ho
    have HM7 := Lib.hid ((hg7.below.block M (rb_lt HM.out)).trans HM.out)
    have hS6 : S < w6.heap.size := by omega
    clear HM HO HD HC HR hg7 ho
    by_cases hm0 : m = 0
    · subst hm0
      go_wp2_with fail
      have hgd := (Gr.refl w7).drew
      have HRd := Lib.hid ((hgd.below.block R (rb_lt HR7.out)).trans HR7.out)
      have HMd := Lib.hid ((hgd.below.block M (rb_lt HM7.out)).trans HM7.out)
      have HDd := Lib.hid (HD7.out.grow hgd)
      have HCd := Lib.hid (HC7.out.trans (hgd.chg _))
      have HOd := Lib.hid (HO7.out.gr hgd)
      clear hgd
      go_region_with (first
        | (go_at_call 58; with_reducible refine (l02DrawIndex_any (n2' : Int) HDd.out (by omega)).mono ?_; rintro e w8 ⟨y, rfl, hy, hd8, hc8⟩; have hd := Lib.hid hd8; have hR8 := rb_chg HRd.out hc8 (by omega); have hM8 := rb_chg HMd.out hc8 (by omega); have r0 := rb_cell (j := 0) hR8 rfl; have r1 := rb_cell (j := 1) hR8 rfl; have f0 := rb_frozen hR8 0; have f1 := rb_frozen hR8 1; have k0 := rb_cell (j := 0) hM8 rfl; have k1 := rb_cell (j := 1) hM8 rfl; have HR8 := Lib.hid hR8; have HD8 := Lib.hid hd8; have HC8 := Lib.hid (HCd.out.trans hc8); have HO8 : Hid (OwnNet w8 (R + 1) A1' n1' c1' A2' n2' c2' n') := Lib.hid ⟨own_chg HOd.out.nodes hc8 (fun j hj e => by have := own_low HOd.out.nodes hj; omega), own_chg HOd.out.pipes hc8 (fun j hj e => by have := own_low HOd.out.pipes hj; omega), HOd.out.names, HOd.out.m1, HOd.out.m2⟩; clear hR8 hM8; clear hd8 hc8 hd))
      all_goals
        go_wp2_with fail
        obtain ⟨h1, h2, h3, h4, h5⟩ := res_net rfl hRw hRw0 hSR HR8.out HO8.out HD8.out HC8.out
        (try simp only [Exit.inBlock, Exit.then])
        refine bodyPost_ret (results_row_tmp Try.results36 _ _ R 27 #[.slice A1' n1' c1', .slice A2' n2' c2'] (0, 0) _ ?_ h1 Try.underlying27 rfl (by kernel_rfl)) ?_ ?_
        · rfl
        · rfl
        exact ⟨_, _, _, _, _, _, n', _, rfl, h2, ⟨q1, q2⟩, h3, h4⟩

    · have tm : ((m : Int) == 0) = false := by simp; omega
      go_wp2_with fail
      refine (l01Next_any 8 HD7.out (by omega)).mono ?_
      rintro e w9 ⟨y, rfl, hy, hd9, hc9⟩
      have hM9 := rb_chg HM7.out hc9 (by omega)
      have hR9 := rb_chg HR7.out hc9 (by omega)
      have HM9 := Lib.hid hM9
      have HR9 := Lib.hid hR9
      have HD9 := Lib.hid hd9
      have HC9 := Lib.hid (HC7.out.trans hc9)
      have HO9 : Hid (OwnNet w9 (R + 1) A1' n1' c1' A2' n2' c2' n') := Lib.hid ⟨own_chg HO7.out.nodes hc9 (fun j hj e => by have := own_low HO7.out.nodes hj; omega), own_chg HO7.out.pipes hc9 (fun j hj e => by have := own_low HO7.out.pipes hj; omega), HO7.out.names, HO7.out.m1, HO7.out.m2⟩
      have HS9 := Lib.hid (own_chg HS7.out hc9 (fun j hj e => by have := own_low HS7.out hj; omega))
      replace m0 := rb_cell (j := 0) hM9 rfl
      replace m1 := rb_cell (j := 1) hM9 rfl
      clear hM9 hR9 hd9 hc9 HM7 HR7 HD7 HC7 HO7 HS7 hy
      by_cases hy0 : y = 0
      · subst hy0
        go_wp2_with fail
        have hgd := (Gr.refl w9).drew
        have HRd := Lib.hid ((hgd.below.block R (rb_lt HR9.out)).trans HR9.out)
        have HMd := Lib.hid ((hgd.below.block M (rb_lt HM9.out)).trans HM9.out)
        have HDd := Lib.hid (HD9.out.grow hgd)
        have HCd := Lib.hid (HC9.out.trans (hgd.chg _))
        have HOd := Lib.hid (HO9.out.gr hgd)
        clear hgd
        go_region_with (first
          | (go_at_call 58; with_reducible refine (l02DrawIndex_any (n2' : Int) HDd.out (by omega)).mono ?_; rintro e w8 ⟨y, rfl, hy, hd8, hc8⟩; have hd := Lib.hid hd8; have hR8 := rb_chg HRd.out hc8 (by omega); have hM8 := rb_chg HMd.out hc8 (by omega); have r0 := rb_cell (j := 0) hR8 rfl; have r1 := rb_cell (j := 1) hR8 rfl; have f0 := rb_frozen hR8 0; have f1 := rb_frozen hR8 1; have k0 := rb_cell (j := 0) hM8 rfl; have k1 := rb_cell (j := 1) hM8 rfl; have HR8 := Lib.hid hR8; have HD8 := Lib.hid hd8; have HC8 := Lib.hid (HCd.out.trans hc8); have HO8 : Hid (OwnNet w8 (R + 1) A1' n1' c1' A2' n2' c2' n') := Lib.hid ⟨own_chg HOd.out.nodes hc8 (fun j hj e => by have := own_low HOd.out.nodes hj; omega), own_chg HOd.out.pipes hc8 (fun j hj e => by have := own_low HOd.out.pipes hj; omega), HOd.out.names, HOd.out.m1, HOd.out.m2⟩; clear hR8 hM8; clear hd8 hc8 hd))
        all_goals
          go_wp2_with fail
          obtain ⟨h1, h2, h3, h4, h5⟩ := res_net rfl hRw hRw0 hSR HR8.out HO8.out HD8.out HC8.out
          (try simp only [Exit.inBlock, Exit.then])
          refine bodyPost_ret (results_row_tmp Try.results36 _ _ R 27 #[.slice A1' n1' c1', .slice A2' n2' c2'] (0, 0) _ ?_ h1 Try.underlying27 rfl (by kernel_rfl)) ?_ ?_
          · rfl
          · rfl
          exact ⟨_, _, _, _, _, _, n', _, rfl, h2, ⟨q1, q2⟩, h3, h4⟩

      · have ty : (y == 0) = false := by simp [hy0]
        obtain ⟨b, rfl, hbb, hbl⟩ := own_form HS9.out (by omega)
        go_wp2_with fail
        have hgd := (Gr.refl w9).drew
        have HRd := Lib.hid ((hgd.below.block R (rb_lt HR9.out)).trans HR9.out)
        have HMd := Lib.hid ((hgd.below.block M (rb_lt HM9.out)).trans HM9.out)
        have HDd := Lib.hid (HD9.out.grow hgd)
        have HCd := Lib.hid (HC9.out.trans (hgd.chg _))
        have HOd := Lib.hid (HO9.out.gr hgd)
        have HSd := Lib.hid (own_gr HS9.out hgd)
        clear hgd
        go_region_with ((go_at_call 37; with_reducible refine (l01Next_any (m : Int) HDd.out (by omega)).mono ?_; rintro e w8 ⟨y, rfl, hy, hd8, hc8⟩; obtain ⟨y0, y1⟩ := hy.below (by omega); obtain ⟨v, hv⟩ := own_pick (own_chg HSd.out hc8 (fun j hj e => by have := own_low HSd.out hj; omega)) y0 y1; have hd := Lib.hid hd8; have hR8 := rb_chg HRd.out hc8 (by omega); have hM8 := rb_chg HMd.out hc8 (by omega); have r0 := rb_cell (j := 0) hR8 rfl; have r1 := rb_cell (j := 1) hR8 rfl; have f0 := rb_frozen hR8 0; have f1 := rb_frozen hR8 1; have k0 := rb_cell (j := 0) hM8 rfl; have k1 := rb_cell (j := 1) hM8 rfl; have HR8 := Lib.hid hR8; have HD8 := Lib.hid hd8; have HC8 := Lib.hid (HCd.out.trans hc8); have HO8 : Hid (OwnNet w8 (R + 1) A1' n1' c1' A2' n2' c2' n') := Lib.hid ⟨own_chg HOd.out.nodes hc8 (fun j hj e => by have := own_low HOd.out.nodes hj; omega), own_chg HOd.out.pipes hc8 (fun j hj e => by have := own_low HOd.out.pipes hj; omega), HOd.out.names, HOd.out.m1, HOd.out.m2⟩; clear hR8 hM8; clear hd8 hc8 hd))
        all_goals
          go_wp2_with fail
          obtain ⟨h1, h2, h3, h4, h5⟩ := res_net rfl hRw hRw0 hSR HR8.out HO8.out HD8.out HC8.out
          (try simp only [Exit.inBlock, Exit.then])
          refine bodyPost_ret (results_row_tmp Try.results36 _ _ R 27 #[.slice A1' n1' c1', .slice A2' n2' c2'] (0, 0) _ ?_ h1 Try.underlying27 rfl (by kernel_rfl)) ?_ ?_
          · rfl
          · rfl
          exact ⟨_, _, _, _, _, _, n', _, rfl, h2, ⟨q1, q2⟩, h3, h4⟩

end Go.Proofs.Ytbbecboihmmllaa
