/-
  Allocation: what each order gets, in the program.
-/
import Derived.Test.YtihkkemkecifcaaAlloc2
namespace Go.Proofs.Ytihkkemkecifcaa
open Go.ChangeShapes Go.WideShapes Go.ChangeAt Go.RowKit

theorem own_blk_of {w : World} {base : Nat} {e : TypeId} {size n c b o : Nat} {A : Option Addr} {xs : List Value} (h : w.ownsRow base e size (.slice A n c) n xs) (hA : A = some ⟨b, o, none⟩) : (Value.slice A n c).ownBlock = some b := by
  rcases h.2 with ⟨hv, _⟩ | ⟨g, cap, cur, hv, _⟩
  · injection hv with h1; rw [h1] at hA; cases hA
  · injection hv with h1
    rw [h1] at hA ⊢
    injection hA with hA; injection hA with hA
    subst hA; rfl
set_option maxHeartbeats 6400000 in
set_option maxRecDepth 100000 in
theorem allocated_any {A4 A3 : Option Addr} {n4 c4 n3 c3 : Nat} (nn nn' : Int) (os : List GOrd) (rs : List GRd) (w : World) (hO : SlAt w 4 A4 n4 c4 (os.flatMap GOrd.cells)) (hL : SlAt w 2 A3 n3 c3 (rs.flatMap GRd.cells)) (hok : ordsOk nn os = true) (hrk : rdsOk nn' rs = true) :
    Calls Try.prog 48 #[.slice A4 n4 c4, .slice A3 n3 c3] w fun e w' => ∃ g, e = .returned (.slice (some ⟨g, 0, none⟩) n4 n4) ∧ w'.ownsRow w.heap.size 2 1 (.slice (some ⟨g, 0, none⟩) n4 n4) n4 (ints (al os rs)) ∧ Gr w w' := by
  obtain ⟨i0, hi0, hz0, hz1, hz2⟩ := info_parts infoInt64
  obtain ⟨i1, hi1, hv0, hv1, hv2⟩ := info_parts infoInt'
  have hm4 := hO.small
  have hm3 := hL.small
  have hl4 := hO.sl.len GOrd.cells_len (by omega)
  have hl3 := hL.sl.len GRd.cells_len (by omega)
  have h40 : n4 ≤ 40 := by have := (ordsOk_all hok).1; omega
  have h48 : n3 ≤ 48 := by have := (rdsOk_all hrk).1; omega
  have HO := Lib.hid hO
  have HL := Lib.hid hL
  have Hok := Lib.hid hok
  have Hrk := Lib.hid hrk
  have Hl4 := Lib.hid hl4
  have Hl3 := Lib.hid hl3
  clear hO hL hok hrk hl4 hl3
  go_enter Try.func48, Try.ntmps48
  go_wp2_with (at_make; refine wpList_make_full _ rfl _ _ _ rfl w.heap.size 2 i0 _ 1 Try.underlying31 hi0 hz0 hz1 .i64 .i64 _ _ n4 rfl rfl rfl rfl (by rw [hz2]; omega) (by unfold maxLen; omega) (Nat.le_refl _) ?_; intro w1 hown hg)
  have ho1 : w1.ownsRow w.heap.size 2 1 (.slice (some ⟨w.heap.size, 0, none⟩) n4 n4) n4 (ints (alTo os rs 0)) := by
    have e : (alTo os rs 0) = List.replicate n4 0 := by rw [← Hl4.out]; rfl
    rw [e]; exact own_cells_eq hown (made_ints n4)
  have hg1 : Gr w w1 := Gr.of_grown hg
  have Ho1 := Lib.hid ho1
  obtain ⟨g, hgs⟩ : ∃ g, g = w.heap.size := ⟨_, rfl⟩
  rw [← hgs] at Ho1 ⊢
  have hgw : w.heap.size ≤ g := by omega
  have hgl : g < w1.heap.size := own_block_lt Ho1.out rfl
  clear hown ho1 hg hgs
  go_loopw [20] (fun i wr => ∃ k : Nat, k ≤ n3 ∧ i = .int .i64 k ∧ wr.ownsRow g 2 1 (.slice (some ⟨g, 0, none⟩) n4 n4) n4 (ints (alTo os rs k)) ∧ Gr w wr) (fun i _ => n3 - (intOf i).toNat)
  case atStart => exact ⟨0, Nat.zero_le _, rfl, Ho1.out, hg1⟩
  case round =>
    obtain ⟨k, hk, rfl, hown, hgr⟩ := hrel
    clear Ho1 hg1 hgl
    have Hown := Lib.hid hown
    clear hown
    by_cases hlt : k < n3
    · obtain ⟨y, hy⟩ : ∃ y, rs[k]? = some y := ⟨_, List.getElem?_eq_getElem (by have := Hl3.out; omega)⟩
      obtain ⟨b, o, rfl, hb, r0, r1⟩ := (HL.out.sl.gr hgr).rd hy
      have Hy := Lib.hid hy
      have hy0 := (rdOk_all ((rdsOk_all Hrk.out).2 k y hy)).2.2
      have t1 : (k : Int) < (n3 : Int) := by omega
      have t0 : (0 : Int) ≤ (k : Int) := by omega
      clear hy
      go_wp2_with fail
      generalize hw2 : World.alloc wr _ = w2
      have hg2 : Gr wr w2 := by rw [← hw2]; exact (Gr.refl _).alloc _
      have y0 : w2.cell? ⟨wr.heap.size, 0, none⟩ = some (.int .i64 y.node) := by rw [← hw2]; simp [go_sem]
      have y1 : w2.cell? ⟨wr.heap.size, 1, none⟩ = some (.int .i64 y.amount) := by rw [← hw2]; simp [go_sem]
      have hgw2 := hgr.trans hg2
      have Hown2 := Lib.hid (own_gr Hown.out hg2)
      have hgl : g < w2.heap.size := own_block_lt Hown2.out rfl
      obtain ⟨Y, hY⟩ : ∃ Y, Y = wr.heap.size := ⟨_, rfl⟩
      rw [← hY] at y0 y1 ⊢
      have hYl : Y < w2.heap.size := lt_of_cell y0
      have hgY : g < Y := by rw [hY]; exact own_block_lt Hown.out rfl
      clear hw2 hg2 r0 r1 Hown hY
      go_wp2_with fail
      go_loopw [8, 9, 26] (fun p q i wz => ∃ j : Nat, j ≤ n4 ∧ i = .int .i64 j ∧ (∃ u, u = (posTo (wAt os y) j).length ∧ ∃ A c B d, p = .slice A u c ∧ q = .slice B u d ∧ Dj p q ∧ wz.ownsRow w2.heap.size 3 1 p u (ints (natI (posTo (wAt os y) j))) ∧ wz.ownsRow w2.heap.size 2 1 q u (ints ((posTo (wAt os y) j).map fun i => (wAt os y).getD i 0))) ∧ Gr w2 wz) (fun _ _ i _ => n4 - (intOf i).toNat)
      case atStart => exact ⟨0, Nat.zero_le _, rfl, ⟨_, rfl, _, _, _, _, rfl, rfl, dj_nil _, World.ownsRow_nil _ _ _ _, World.ownsRow_nil _ _ _ _⟩, Gr.refl _⟩
      case round =>
        obtain ⟨j, hj, rfl, ⟨u, hu, A, c, B, d, rfl, rfl, hdj, hp, hq⟩, hgz⟩ := hrel
        have Hp := Lib.hid hp
        have Hq := Lib.hid hq
        have Hdj := Lib.hid hdj
        have hul : u ≤ j := by rw [hu]; exact posTo_len _ _
        have Hu := Lib.hid hu
        clear hp hq hdj hu
        replace y0 := hgz.has y0
        replace y1 := hgz.has y1
        by_cases hjl : j < n4
        · obtain ⟨x, hx⟩ : ∃ x, os[j]? = some x := ⟨_, List.getElem?_eq_getElem (by have := Hl4.out; omega)⟩
          obtain ⟨b4, o4, rfl, hb4, e0, e1, e2, e3⟩ := (HO.out.sl.gr (hgw2.trans hgz)).ord hx
          have hxb := (ordOk_all ((ordsOk_all Hok.out).2 j x hx)).2.2.1
          have hget := wAt_get (y := y) hx
          have Hget := Lib.hid hget
          have t3 : (j : Int) < (n4 : Int) := by omega
          have t2 : (0 : Int) ≤ (j : Int) := by omega
          have hg3 : Gr wr (wr.alloc (.cells #[.int .i64 x.shipper, .int .i64 x.node, .int .i64 x.amount, .int .i64 x.cls] 60)) := (Gr.refl _).alloc _
          have z0 := hg3.has y0
          have z1 := hg3.has y1
          have z2 : (wr.alloc (.cells #[.int .i64 x.shipper, .int .i64 x.node, .int .i64 x.amount, .int .i64 x.cls] 60)).cell? ⟨wr.heap.size, 2, none⟩ = some (.int .i64 x.amount) := by simp [go_sem]
          have Y0 := Lib.hid y0
          have Y1 := Lib.hid y1
          clear hx hget y0 y1
          go_wp2_with fail
          refine (matches_any x y _ hy0).mono ?_
          rintro e w3 ⟨rfl, hg4⟩
          replace z2 := hg4.has z2
          have hg5 := hg3.trans hg4
          clear z0 z1 hg3 hg4 e0 e1 e2 e3
          have hpl := fun (jj : Nat) (h : (Value.slice A u c).ownBlock = some jj) => own_block_lt Hp.out h
          have hql := fun (jj : Nat) (h : (Value.slice B u d).ownBlock = some jj) => own_block_lt Hq.out h
          have hsw := hg5.size
          have hp3 := own_gr Hp.out hg5
          have hq3 := own_gr Hq.out hg5
          have hs3 := (hgz.trans hg5).size
          have Hp3 := Lib.hid hp3
          have Hq3 := Lib.hid hq3
          have hgz3 := hgz.trans hg5
          clear hp3 hq3 Hp Hq
          cases hmt : mtB x y with
          | false =>
            have hpm : posTo (wAt os y) (j + 1) = posTo (wAt os y) j := posTo_miss (by rw [Hget.out]; simpa [mtB] using hmt)
            have Hpm := Lib.hid hpm
            clear hpm hmt
            go_wp2_with fail
            go_roundw
            case rel => exact ⟨j + 1, by omega, by go_num, ⟨_, by rw [Hpm.out]; exact Hu.out, _, _, _, _, rfl, rfl, Hdj.out, by rw [Hpm.out]; exact Hp3.out, by rw [Hpm.out]; exact Hq3.out⟩, hgz3⟩
            case measure => simp [intOf]; omega
          | true =>
            have hgt : 0 < (wAt os y).getD j 0 := by rw [Hget.out]; simpa [mtB] using hmt
            have Hpm := Lib.hid (posTo_hit hgt)
            have Hcm := Lib.hid (cmpTo_hit hgt)
            have hval : (wAt os y).getD j 0 = sgn x.amount * x.amount := by rw [Hget.out]; exact wt_abs hmt
            obtain ⟨v, hv⟩ : ∃ v, v = sgn x.amount * x.amount := ⟨_, rfl⟩
            rw [← hv] at hval
            have Hval := Lib.hid hval
            have Hv := Lib.hid hv
            clear hgt hmt hval hv
            go_wp2_with (at_builtin; (refine wpList_append_lies _ rfl _ _ _ rfl w2.heap.size 3 i1 _ 1 8 Try.underlying100 hi1 hv0 hv1 hv2 rfl (by omega) _ u _ rfl (Hp3.out.alloc _) ⟨w3.heap.size, 0, none⟩ 1 1 [.int .i64 (j : Int)] rfl rfl (World.news_of_block (cs := #[.int .i64 (j : Int)]) (t := 3) (fr := (0, 0)) (heap_alloc_new w3 _)) (by simp [Value.oneCell']) (by omega) (by unfold maxLen; omega) (by omega) (by simp; omega) (w3.heap.size + 1) (by simp) ?_; intro g5 cap5 w5 ho5 hg5 hat5 hlt5; have Ho5 := Lib.hid (own_cells_eq ho5 (ints_snoc _ (j : Int)).symm); clear ho5; have hq5 := (Hq3.out.alloc _).kept hg5 Hdj.out.keep; have Hq5 := Lib.hid hq5; have z5 := hg5.cell (((Gr.refl w3).alloc _).has z2) (fun e => absurd (hpl _ e.symm) (Nat.lt_irrefl _))))
            refine (absOf_any x.amount _ (by omega)).mono ?_
            rintro e w6 ⟨rfl, hw6⟩
            rw [← hw6, ← Hv.out]
            clear hw6
            have hs5 := hg5.size
            have hgz5 := (hgz3.alloc _).grown hg5 (fun jj h => own_base_le Hp3.out h)
            simp only [World.size_alloc] at hs5
            have hdj5 : Dj (.slice (some ⟨g5, 0, none⟩) (u + 1) cap5) (.slice B u d) := Hdj.out.next hat5 (fun jj h => by have := hql jj h; omega)
            have Hdj5 := Lib.hid hdj5
            have hg5l := (World.ownsRow.lt Ho5.out g5 rfl).2
            clear hat5 hg5 hdj5
            go_wp2_with (at_builtin; (refine wpList_append_lies _ rfl _ _ _ rfl w2.heap.size 2 i0 _ 1 8 Try.underlying31 hi0 hz0 hz1 hz2 rfl (by omega) _ u _ rfl (Hq5.out.alloc _) ⟨w5.heap.size, 0, none⟩ 1 1 [.int .i64 v] rfl rfl (World.news_of_block (cs := #[.int .i64 v]) (t := 2) (fr := (0, 0)) (heap_alloc_new w5 _)) (by simp [Value.oneCell']) (by omega) (by unfold maxLen; omega) (by omega) (by simp; omega) (w5.heap.size + 1) (by simp) ?_; intro g7 cap7 w7 ho7 hg7 hat7 hlt7; have Ho7 := Lib.hid (own_cells_eq ho7 (ints_snoc _ v).symm); clear ho7))
            have hgz7 := (hgz5.alloc _).grown hg7 (fun jj h => own_base_le Hq5.out h)
            have hp7 := (Ho5.out.alloc _).kept hg7 Hdj5.out.symm.keep
            have hdj7 : Dj (.slice (some ⟨g7, 0, none⟩) (u + 1) cap7) (.slice (some ⟨g5, 0, none⟩) (u + 1) cap5) := Hdj5.out.symm.next hat7 (fun jj h => by have e : g5 = jj := Option.some.inj h; omega)
            have Hp7 := Lib.hid hp7
            have Hdj7 := Lib.hid hdj7
            clear hg7 hat7 hp7 hdj7
            go_wp2_with fail
            go_roundw
            case rel => exact ⟨j + 1, by omega, by go_num, ⟨u + 1, by rw [Hpm.out, List.length_append, ← Hu.out]; rfl, _, _, _, _, rfl, rfl, Hdj7.out.symm, by rw [Hpm.out, natI_snoc]; exact Hp7.out, by rw [Hcm.out, Hval.out]; exact Ho7.out⟩, hgz7⟩
            case measure => simp [intOf]; omega
        · obtain rfl : j = n4 := by omega
          have hfull : posTo (wAt os y) j = pos (wAt os y) := by rw [← posTo_full, wAt_len, Hl4.out]
          have Hfull := Lib.hid hfull
          have Hp3 : Hid (wr.ownsRow w2.heap.size 3 1 (.slice A u c) u (ints (natI (pos (wAt os y))))) := Lib.hid (by rw [← hfull]; exact Hp.out)
          have Hq3 : Hid (wr.ownsRow w2.heap.size 2 1 (.slice B u d) u (ints (cmp (wAt os y) (wAt os y)))) := Lib.hid (by rw [cmp, ← hfull]; exact Hq.out)
          have hu : u = (pos (wAt os y)).length := by rw [Hu.out, hfull]
          have Hu2 := Lib.hid hu
          have hw := wAt_bnd Hok.out y
          have hgz3 := hgw2.trans hgz
          have Hown3 := Lib.hid (own_gr Hown2.out hgz)
          clear hfull Hp Hq Hown2
          by_cases h0 : u = 0
          · have hsum : (wAt os y).sum = 0 := by
              rw [← pos_nil (fun z hz => (hw z hz).1)]
              exact List.length_eq_zero_iff.1 (by omega)
            have Ha : Hid (alTo os rs (k + 1) = alTo os rs k) := Lib.hid (by rw [alTo_step Hy.out, alStep, if_pos hsum])
            have tb : ((u : Int) == 0) = true := by simp [h0]
            clear hsum hw hu
            go_wp2_with fail
            go_roundw
            case rel => exact ⟨k + 1, by omega, by go_num, by rw [Ha.out]; exact Hown3.out, hgz3⟩
            case measure => simp [intOf]; omega
          · have hne : ¬ (wAt os y).sum = 0 := by
              rw [← pos_nil (fun z hz => (hw z hz).1)]
              intro e; rw [e] at hu; exact h0 hu
            have tb : ((u : Int) == 0) = false := by simp; omega
            have hS := sum_pos_of (fun z hz => (hw z hz).1) hne
            have hcs : 0 < (cmp (wAt os y) (wAt os y)).sum := by rw [cmp_sum_self hw]; exact hS
            have hcb := cmp_bnd hw
            have hta := rd_abs Hrk.out Hy.out
            have Hfin := Lib.hid (al_places Hok.out Hrk.out Hy.out hne)
            have hsb := shares_bnd hta hcb hcs (by rw [cmp_len]; omega)
            obtain ⟨t, ht⟩ : ∃ t, t = sgn y.amount * y.amount := ⟨_, rfl⟩
            rw [← ht] at hta hsb
            have Ht := Lib.hid ht
            have Hsb := Lib.hid hsb
            have Hcb := Lib.hid hcb
            have Hcs := Lib.hid hcs
            have hyb := (rdOk_all ((rdsOk_all Hrk.out).2 k y Hy.out)).2.1
            clear hsb hcb hcs ht hne hS hw hu
            by_cases hneg : y.amount < 0
            · have hsv : sgn y.amount = (-1) := by rw [sgn, if_pos hneg]
              have Hsv := Lib.hid hsv
              clear hsv
              go_wp2_with fail
              refine (absOf_any y.amount _ (by omega)).mono ?_
              rintro e w6 ⟨rfl, hw6⟩
              rw [← hw6, ← Ht.out]
              clear hw6
              go_wp2_with fail
              refine (sharesOf_any t (cmp (wAt os y) (wAt os y)) _ (SlAt.of_own Hq3.out (by omega)) (by omega) (by omega) hta Hcb.out Hcs.out).mono ?_
              rintro e w7 ⟨g7, rfl, hsh, hg7⟩
              have Hsh := Lib.hid hsh
              have Hp7 := Lib.hid (own_gr Hp3.out hg7)
              have Hown7 := Lib.hid (own_gr Hown3.out hg7)
              have hgz7 := hgz3.trans hg7
              have hgg7 : g ≠ g7 := by
                have h1 := own_base_le hsh (k := g7) rfl
                have h2 := hgz.size
                omega
              have hAg : ∀ b o, A = some ⟨b, o, none⟩ → b ≠ g := by
                intro b o e
                have := own_base_le Hp3.out (k := b) (own_blk_of Hp3.out e)
                omega
              clear hsh
              go_wp2_with fail
              go_loopw [57] (fun i wz => ∃ q : Nat, q ≤ u ∧ i = .int .i64 q ∧ wz.ownsRow g 2 1 (.slice (some ⟨g, 0, none⟩) j j) j (ints (layTo (alTo os rs k) (pos (wAt os y)) (shares t (cmp (wAt os y) (wAt os y))) (sgn y.amount) q)) ∧ wz.ownsRow w2.heap.size 3 1 (.slice A u c) u (ints (natI (pos (wAt os y)))) ∧ wz.ownsRow wr.heap.size 2 1 (.slice (some ⟨g7, 0, none⟩) u u) u (ints (shares t (cmp (wAt os y) (wAt os y)))) ∧ Gr w wz) (fun i _ => u - (intOf i).toNat)
              case atStart => exact ⟨0, Nat.zero_le _, rfl, Hown7.out, Hp7.out, Hsh.out, hgz7⟩
              case round =>
                obtain ⟨q, hq, rfl, hown, hpl, hshr, hgq⟩ := hrel
                have Hown8 := Lib.hid hown
                have Hp8 := Lib.hid hpl
                have Hsh8 := Lib.hid hshr
                clear hown hpl hshr Hown7 Hp7 Hsh hgz7
                by_cases hqu : q < u
                · have hpq : (natI (pos (wAt os y)))[q]? = some (((pos (wAt os y)).getD q 0 : Nat) : Int) := by
                    have : q < (pos (wAt os y)).length := by have := Hu2.out; omega
                    simp [natI, this]
                  have hpm : (pos (wAt os y)).getD q 0 < j := by
                    have h1 : q < (pos (wAt os y)).length := by have := Hu2.out; omega
                    rw [pos_getD h1]
                    have := (mem_pos.1 (List.getElem_mem h1)).1
                    rw [wAt_len, Hl4.out] at this
                    exact this
                  have hsl := own_ilen Hsh8.out
                  have hvq := get_of_lt (l := shares t (cmp (wAt os y) (wAt os y))) (k := q) (by omega)
                  have hvb := Hsb.out q
                  have hnx : layTo (alTo os rs k) (pos (wAt os y)) (shares t (cmp (wAt os y) (wAt os y))) (sgn y.amount) (q + 1) = (layTo (alTo os rs k) (pos (wAt os y)) (shares t (cmp (wAt os y) (wAt os y))) (sgn y.amount) q).set ((pos (wAt os y)).getD q 0) (sgn y.amount * (shares t (cmp (wAt os y) (wAt os y))).getD q 0) := rfl
                  obtain ⟨v, hv⟩ : ∃ v, v = (shares t (cmp (wAt os y) (wAt os y))).getD q 0 := ⟨_, rfl⟩
                  rw [← hv] at hvq hvb hnx
                  obtain ⟨z, hz⟩ : ∃ z, z = (pos (wAt os y)).getD q 0 := ⟨_, rfl⟩
                  rw [← hz] at hpq hpm hnx
                  have hlz := own_ilen Hown8.out
                  have hgz' := get_of_lt (l := layTo (alTo os rs k) (pos (wAt os y)) (shares t (cmp (wAt os y) (wAt os y))) (sgn y.amount) q) (k := z) (by omega)
                  obtain ⟨d0, d1⟩ := own_int Hown8.out hgz'
                  obtain ⟨f0, _⟩ := own_int Hsh8.out hvq
                  obtain ⟨bA, oA, rfl, hbA, f1⟩ := (Sl.of_own Hp8.out).int hpq
                  have hbg := hAg _ _ rfl
                  have R := own_set_int Hown8.out z ((-1) * v)
                  obtain ⟨R1, R2⟩ := R
                  have hp9 := Hp8.out.kept R2 (Or.inr (by rw [own_blk_of Hp8.out rfl]; exact fun e => hbg (Option.some.inj e)))
                  have hs9 := Hsh8.out.kept R2 (Or.inr fun e => hgg7 (Option.some.inj e).symm)
                  have hg9 := hgq.grown R2 (fun _ e => by injection e with e; omega)
                  have esv : (-1) * v = -v := by omega
                  rw [esv] at R1 hp9 hs9 hg9
                  have esg : sgn y.amount * v = -v := by rw [Hsv.out]; exact esv
                  rw [esg] at hnx
                  have Hnx := Lib.hid hnx
                  have HR1 := Lib.hid R1
                  have Hp9 := Lib.hid hp9
                  have Hs9 := Lib.hid hs9
                  have Hg9 := Lib.hid hg9
                  have u1 : (q : Int) < (u : Int) := by omega
                  have u0 : (0 : Int) ≤ (q : Int) := by omega
                  have x1 : (z : Int) < (j : Int) := by omega
                  have x0 : (0 : Int) ≤ (z : Int) := by omega
                  clear hpq hvq hnx hv hz hgz' R1 R2 hp9 hs9 hg9 hlz hsl esv esg hAg
                  go_wp2_with fail
                  go_roundw
                  case rel => exact ⟨q + 1, by omega, by go_num, by rw [Hnx.out]; exact HR1.out, Hp9.out, Hs9.out, Hg9.out⟩
                  case measure => simp [intOf]; omega
                · obtain rfl : q = u := by omega
                  go_wp2_with fail
                  go_roundw
                  case rel => exact ⟨k + 1, by omega, by go_num, by rw [← Hfin.out, ← Ht.out, ← Hu2.out]; exact Hown8.out, hgq⟩
                  case measure => simp [intOf]; omega
            · have hsv : sgn y.amount = 1 := by rw [sgn, if_neg hneg]
              have Hsv := Lib.hid hsv
              clear hsv
              go_wp2_with fail
              refine (absOf_any y.amount _ (by omega)).mono ?_
              rintro e w6 ⟨rfl, hw6⟩
              rw [← hw6, ← Ht.out]
              clear hw6
              go_wp2_with fail
              refine (sharesOf_any t (cmp (wAt os y) (wAt os y)) _ (SlAt.of_own Hq3.out (by omega)) (by omega) (by omega) hta Hcb.out Hcs.out).mono ?_
              rintro e w7 ⟨g7, rfl, hsh, hg7⟩
              have Hsh := Lib.hid hsh
              have Hp7 := Lib.hid (own_gr Hp3.out hg7)
              have Hown7 := Lib.hid (own_gr Hown3.out hg7)
              have hgz7 := hgz3.trans hg7
              have hgg7 : g ≠ g7 := by
                have h1 := own_base_le hsh (k := g7) rfl
                have h2 := hgz.size
                omega
              have hAg : ∀ b o, A = some ⟨b, o, none⟩ → b ≠ g := by
                intro b o e
                have := own_base_le Hp3.out (k := b) (own_blk_of Hp3.out e)
                omega
              clear hsh
              go_wp2_with fail
              go_loopw [57] (fun i wz => ∃ q : Nat, q ≤ u ∧ i = .int .i64 q ∧ wz.ownsRow g 2 1 (.slice (some ⟨g, 0, none⟩) j j) j (ints (layTo (alTo os rs k) (pos (wAt os y)) (shares t (cmp (wAt os y) (wAt os y))) (sgn y.amount) q)) ∧ wz.ownsRow w2.heap.size 3 1 (.slice A u c) u (ints (natI (pos (wAt os y)))) ∧ wz.ownsRow wr.heap.size 2 1 (.slice (some ⟨g7, 0, none⟩) u u) u (ints (shares t (cmp (wAt os y) (wAt os y)))) ∧ Gr w wz) (fun i _ => u - (intOf i).toNat)
              case atStart => exact ⟨0, Nat.zero_le _, rfl, Hown7.out, Hp7.out, Hsh.out, hgz7⟩
              case round =>
                obtain ⟨q, hq, rfl, hown, hpl, hshr, hgq⟩ := hrel
                have Hown8 := Lib.hid hown
                have Hp8 := Lib.hid hpl
                have Hsh8 := Lib.hid hshr
                clear hown hpl hshr Hown7 Hp7 Hsh hgz7
                by_cases hqu : q < u
                · have hpq : (natI (pos (wAt os y)))[q]? = some (((pos (wAt os y)).getD q 0 : Nat) : Int) := by
                    have : q < (pos (wAt os y)).length := by have := Hu2.out; omega
                    simp [natI, this]
                  have hpm : (pos (wAt os y)).getD q 0 < j := by
                    have h1 : q < (pos (wAt os y)).length := by have := Hu2.out; omega
                    rw [pos_getD h1]
                    have := (mem_pos.1 (List.getElem_mem h1)).1
                    rw [wAt_len, Hl4.out] at this
                    exact this
                  have hsl := own_ilen Hsh8.out
                  have hvq := get_of_lt (l := shares t (cmp (wAt os y) (wAt os y))) (k := q) (by omega)
                  have hvb := Hsb.out q
                  have hnx : layTo (alTo os rs k) (pos (wAt os y)) (shares t (cmp (wAt os y) (wAt os y))) (sgn y.amount) (q + 1) = (layTo (alTo os rs k) (pos (wAt os y)) (shares t (cmp (wAt os y) (wAt os y))) (sgn y.amount) q).set ((pos (wAt os y)).getD q 0) (sgn y.amount * (shares t (cmp (wAt os y) (wAt os y))).getD q 0) := rfl
                  obtain ⟨v, hv⟩ : ∃ v, v = (shares t (cmp (wAt os y) (wAt os y))).getD q 0 := ⟨_, rfl⟩
                  rw [← hv] at hvq hvb hnx
                  obtain ⟨z, hz⟩ : ∃ z, z = (pos (wAt os y)).getD q 0 := ⟨_, rfl⟩
                  rw [← hz] at hpq hpm hnx
                  have hlz := own_ilen Hown8.out
                  have hgz' := get_of_lt (l := layTo (alTo os rs k) (pos (wAt os y)) (shares t (cmp (wAt os y) (wAt os y))) (sgn y.amount) q) (k := z) (by omega)
                  obtain ⟨d0, d1⟩ := own_int Hown8.out hgz'
                  obtain ⟨f0, _⟩ := own_int Hsh8.out hvq
                  obtain ⟨bA, oA, rfl, hbA, f1⟩ := (Sl.of_own Hp8.out).int hpq
                  have hbg := hAg _ _ rfl
                  have R := own_set_int Hown8.out z (1 * v)
                  obtain ⟨R1, R2⟩ := R
                  have hp9 := Hp8.out.kept R2 (Or.inr (by rw [own_blk_of Hp8.out rfl]; exact fun e => hbg (Option.some.inj e)))
                  have hs9 := Hsh8.out.kept R2 (Or.inr fun e => hgg7 (Option.some.inj e).symm)
                  have hg9 := hgq.grown R2 (fun _ e => by injection e with e; omega)
                  have esv : 1 * v = v := by omega
                  rw [esv] at R1 hp9 hs9 hg9
                  have esg : sgn y.amount * v = v := by rw [Hsv.out]; exact esv
                  rw [esg] at hnx
                  have Hnx := Lib.hid hnx
                  have HR1 := Lib.hid R1
                  have Hp9 := Lib.hid hp9
                  have Hs9 := Lib.hid hs9
                  have Hg9 := Lib.hid hg9
                  have u1 : (q : Int) < (u : Int) := by omega
                  have u0 : (0 : Int) ≤ (q : Int) := by omega
                  have x1 : (z : Int) < (j : Int) := by omega
                  have x0 : (0 : Int) ≤ (z : Int) := by omega
                  clear hpq hvq hnx hv hz hgz' R1 R2 hp9 hs9 hg9 hlz hsl esv esg hAg
                  go_wp2_with fail
                  go_roundw
                  case rel => exact ⟨q + 1, by omega, by go_num, by rw [Hnx.out]; exact HR1.out, Hp9.out, Hs9.out, Hg9.out⟩
                  case measure => simp [intOf]; omega
                · obtain rfl : q = u := by omega
                  go_wp2_with fail
                  go_roundw
                  case rel => exact ⟨k + 1, by omega, by go_num, by rw [← Hfin.out, ← Ht.out, ← Hu2.out]; exact Hown8.out, hgq⟩
                  case measure => simp [intOf]; omega
    · obtain rfl : k = n3 := by omega
      go_wp2_with fail
      go_ret
      exact ⟨_, rfl, own_base (by rw [al, Hl3.out]; exact Hown.out) hgw, hgr⟩
end Go.Proofs.Ytihkkemkecifcaa
