/-
  Draws: chords: the reference's forest ends and leaves numbers.
-/
import Derived.Test.YtbbecboihmmllaaFlowD
namespace Go.Proofs.Ytbbecboihmmllaa
open Go.ChangeShapes Go.WideShapes Go.ChangeAt Go.RowKit

theorem entL_bnd {es : List Ed} {N node : Nat} (hE : EsOk es N) (hn : node < N) (v : Nat) (hv : v < N) : (entL N node (srch es (zf es) N node)).getD v 0 = -1 ∨ (0 ≤ (entL N node (srch es (zf es) N node)).getD v 0 ∧ (entL N node (srch es (zf es) N node)).getD v 0 < es.length) := by
  have hI := inv_srch (fl := zf es) hE hn
  rw [entL, List.getD_eq_getElem?_getD, List.getElem?_map, List.getElem?_range hv]
  simp only [Option.map_some, Option.getD_some]
  split
  · rename_i h
    obtain ⟨e, he, _⟩ := hI.at hE h.1 h.2
    have := (List.getElem?_eq_some_iff.1 he).1
    right; omega
  · left; rfl
theorem bools_len (l : List Bool) : (bools l).length = l.length := by simp [bools]
theorem own_blen {w : World} {base : Nat} {e : TypeId} {n : Nat} {v : Value} {zs : List Bool} (h : w.ownsRow base e 1 v n (bools zs)) : zs.length = n := by
  have h1 := h.1; rw [bools_len] at h1; omega
set_option maxHeartbeats 3200000 in
set_option maxRecDepth 100000 in
theorem l04Forest_any {A1 A2 : Option Addr} {n1 c1 n2 c2 : Nat} (n : GNet) (w : World) (hA : NetAt w A1 n1 c1 A2 n2 c2 n) (hok : netOk n = true) :
    Calls Try.prog 69 #[.agg #[.slice A1 n1 c1, .slice A2 n2 c2]] w fun e w' => ∃ A m c zs, e = .returned (.slice A m c) ∧ m ≤ n2 ∧ w'.ownsRow w.heap.size 2 1 (.slice A m c) m (ints zs) ∧ Gr w w' := by
  obtain ⟨i0, hi0, hz0, hz1, hz2⟩ := info_parts infoInt64
  obtain ⟨i1, hi1, hy0, hy1, hy2⟩ := info_parts infoBool
  have hm1 := hA.m1
  have hm2 := hA.m2
  have hE : EsOk (eds n.pipes) n1 := by have := eds_ok hok; rw [hA.l1] at this; exact this
  have hel : (eds n.pipes).length = n2 := by rw [eds, List.length_map]; exact hA.l2
  have HE := Lib.hid hE
  have HA := Lib.hid hA
  have Hok := Lib.hid hok
  have Hel := Lib.hid hel
  clear hA hok hE hel
  go_enter Try.func69, Try.ntmps69
  go_wp2_with (at_make; refine wpList_make_full _ rfl _ _ _ rfl w.heap.size 4 i1 _ 1 Try.underlying91 hi1 hy0 hy1 .i64 .i64 _ _ n2 rfl rfl rfl rfl (by rw [hy2]; omega) (by unfold maxLen; omega) (by simp) ?_; intro w1 hown1 hg1; have hq1 : Gr (w.alloc (.cells #[.slice A1 n1 c1, .slice A2 n2 c2] 27)) w1 := Gr.of_grown hg1; have b0 : w1.cell? ⟨w.heap.size, 0, none⟩ = some (.slice A1 n1 c1) := hq1.has (by simp [go_sem]); have b1 : w1.cell? ⟨w.heap.size, 1, none⟩ = some (.slice A2 n2 c2) := hq1.has (by simp [go_sem]); have Ho1 := Lib.hid hown1; clear hown1)
  have o1 : w1.ownsRow w.heap.size 4 1 (.slice (some ⟨w.heap.size + 1, 0, none⟩) n2 n2) n2 (bools (List.replicate n2 false)) := by
    have := own_cells_eq Ho1.out (made_bools n2)
    simpa using this
  have hgw1 : Gr w w1 := ((Gr.refl _).alloc _).trans hq1
  obtain ⟨F, hF⟩ : ∃ F, F = w.heap.size + 1 := ⟨_, rfl⟩
  rw [← hF] at o1 ⊢
  have hFw : w.heap.size < F := by omega
  have O1 := Lib.hid o1
  clear Ho1 o1 hq1 hg1 hF
  refine (l04Components_any n _ (HA.out.gr hgw1) Hok.out).mono ?_
  rintro e w2 ⟨G, rfl, hG, hg2⟩
  have hGb := own_base_le hG (k := G) rfl
  have HG := Lib.hid hG
  have O2 := Lib.hid (own_gr O1.out hg2)
  have hFl := own_block_lt O1.out (k := F) rfl
  have hGF : G ≠ F := by omega
  have x0 := hg2.has b0
  have x1 := hg2.has b1
  have hgw2 := hgw1.trans hg2
  clear hG O1 b0 b1 hgw1
  go_wp2_with fail
  go_loopw [5] (fun i wr => ∃ k : Nat, k ≤ n1 ∧ i = .int .i64 k ∧ (∃ bs, wr.ownsRow w.heap.size 4 1 (.slice (some ⟨F, 0, none⟩) n2 n2) n2 (bools bs)) ∧ wr.ownsRow w1.heap.size 2 1 (.slice (some ⟨G, 0, none⟩) n1 n1) n1 (ints (comps (eds n.pipes) n1)) ∧ Gr w wr ∧ wr.cell? ⟨w.heap.size, 0, none⟩ = some (.slice A1 n1 c1) ∧ wr.cell? ⟨w.heap.size, 1, none⟩ = some (.slice A2 n2 c2)) (fun i _ => n1 - (intOf i).toNat)
  case atStart => exact ⟨0, Nat.zero_le _, rfl, ⟨_, O2.out⟩, HG.out, hgw2, x0, x1⟩
  case round =>
    obtain ⟨k, hk, rfl, ⟨bs, hO⟩, hG, hgr, y0, y1⟩ := hrel
    have HO := Lib.hid hO
    have HG2 := Lib.hid hG
    clear hO hG O2 HG hgw2 x0 x1
    by_cases hlt : k < n1
    · have hcl : (comps (eds n.pipes) n1).length = n1 := compTo_len _ _ _
      obtain ⟨d0, _⟩ := own_int HG2.out (get_int (l := comps (eds n.pipes) n1) (k := k) (by omega))
      generalize (comps (eds n.pipes) n1).getD k 0 = z at d0
      have t1 : (k : Int) < (n1 : Int) := by omega
      have t0 : (0 : Int) ≤ (k : Int) := by omega
      by_cases hz : z = (k : Int)
      · have tb : (z != (k : Int)) = false := by simp [hz]
        clear hcl hz
        go_wp2_with fail
        refine (l04Search_any n k _ (HA.out.gr hgr) Hok.out hlt).mono ?_
        rintro e w5 ⟨O, gE, gS, rfl, _, hS, hw5⟩
        have hent := hS.ent
        have hlen := own_ilen hent
        have hbnd := entL_bnd HE.out hlt
        have hgEb := hS.ge
        obtain ⟨L, hL⟩ : ∃ L, L = entL n1 k (srch (eds n.pipes) (zf (eds n.pipes)) n1 k) := ⟨_, rfl⟩
        rw [← hL] at hent hlen hbnd
        have Hent := Lib.hid hent
        have Hbnd := Lib.hid hbnd
        have Hlen := Lib.hid hlen
        have HO5 := Lib.hid (own_gr HO.out hw5)
        have HG5 := Lib.hid (own_gr HG2.out hw5)
        have y0 := hw5.has y0
        have y1 := hw5.has y1
        have hgw5 := hgr.trans hw5
        have hFl5 := own_block_lt HO.out (k := F) rfl
        have hEF : gE ≠ F := by omega
        have hbl := lt_of_cell y0
        clear hS hent hlen hbnd hL d0 HO HG2
        go_wp2_with fail
        go_loopw [8] (fun i wr => ∃ q : Nat, q ≤ n1 ∧ i = .int .i64 q ∧ (∃ bs, wr.ownsRow w.heap.size 4 1 (.slice (some ⟨F, 0, none⟩) n2 n2) n2 (bools bs)) ∧ w5.grownBy wr (some F)) (fun i _ => n1 - (intOf i).toNat)
        case atStart => exact ⟨0, Nat.zero_le _, rfl, ⟨_, HO5.out⟩, World.grownBy.refl _ _⟩
        case round =>
          obtain ⟨q, hq, rfl, ⟨bs', hb⟩, hgrow⟩ := hrel
          have hE6 := Hent.out.kept hgrow (Or.inr fun e => hEF (Option.some.inj e))
          by_cases hql : q < n1
          · obtain ⟨f0, _⟩ := own_int hE6 (get_int (l := L) (k := q) (by have := Hlen.out; omega))
            have hv := Hbnd.out q hql
            rw [Hel.out] at hv
            generalize L.getD q 0 = v at f0 hv
            have u1 : (q : Int) < (n1 : Int) := by omega
            have u0 : (0 : Int) ≤ (q : Int) := by omega
            by_cases hv0 : 0 ≤ v
            · have tv : decide (0 ≤ v) = true := decide_eq_true hv0
              have hvn : v.toNat < n2 := by omega
              have hbl' := own_blen hb
              obtain ⟨c, hc⟩ : ∃ c, bs'[v.toNat]? = some c := ⟨_, List.getElem?_eq_getElem (by omega)⟩
              obtain ⟨g0, g1⟩ := own_bool hb hc hvn
              obtain ⟨R1, R2⟩ := own_set_bool hb v.toNat true
              have HR1 := Lib.hid R1
              have HR2 := Lib.hid R2
              have Hgrow := Lib.hid hgrow
              have v1 : v < (n2 : Int) := by omega
              clear hc R1 R2 hgrow hb hE6
              go_wp2_with fail
              go_roundw
              case rel => exact ⟨q + 1, by omega, by go_num, ⟨_, HR1.out⟩, grown_trans Hgrow.out HR2.out⟩
              case measure => simp [intOf]; omega
            · have tv : decide (0 ≤ v) = false := decide_eq_false hv0
              have Hb := Lib.hid hb
              have Hgrow := Lib.hid hgrow
              clear hb hgrow hE6
              go_wp2_with fail
              go_roundw
              case rel => exact ⟨q + 1, by omega, by go_num, ⟨_, Hb.out⟩, Hgrow.out⟩
              case measure => simp [intOf]; omega
          · obtain rfl : q = n1 := by omega
            have z0 := (hgrow.cell_far _ (lt_of_cell y0) (by simp; omega)).trans y0
            have z1 := (hgrow.cell_far _ (lt_of_cell y1) (by simp; omega)).trans y1
            have Hb := Lib.hid hb
            have HG6 := Lib.hid (HG5.out.kept hgrow (Or.inr fun e => hGF (Option.some.inj e)))
            have hgw6 := hgw5.grown hgrow (fun _ e => by injection e with e; omega)
            clear hb hgrow hE6 y0 y1
            go_wp2_with fail
            go_roundw
            case rel => exact ⟨k + 1, by omega, by go_num, ⟨_, Hb.out⟩, HG6.out, hgw6, z0, z1⟩
            case measure => simp [intOf]; omega
      · have tb : (z != (k : Int)) = true := by simp [hz]
        clear hcl
        go_wp2_with fail
        go_roundw
        case rel => exact ⟨k + 1, by omega, by go_num, ⟨_, HO.out⟩, HG2.out, hgr, y0, y1⟩
        case measure => simp [intOf]; omega
    · obtain rfl : k = n1 := by omega
      have hfb := own_blen HO.out
      have hbs := hgr.size
      have hFl6 := own_block_lt HO.out (k := F) rfl
      go_wp2_with fail
      generalize hw7 : World.alloc wr _ = w7
      have hg7 : Gr wr w7 := by rw [← hw7]; exact (Gr.refl _).alloc _
      have o7 : w7.ownsRow wr.heap.size 2 1 (.slice (some ⟨wr.heap.size, 0, none⟩) 0 0) 0 (ints []) := by
        rw [← hw7]; exact World.ownsRow_lit wr (e := 2) (size := 1) #[] 0 (Nat.le_refl _) (by unfold maxLen; omega) rfl
      have O7 := Lib.hid o7
      have HO7 := Lib.hid (own_gr HO.out hg7)
      have hgw7 := hgr.trans hg7
      obtain ⟨B, hB⟩ : ∃ B, B = wr.heap.size := ⟨_, rfl⟩
      rw [← hB] at O7 hbs hFl6 ⊢
      have HfB := Lib.hid hfb
      have hB7 : B ≤ w7.heap.size := by have := hg7.size; omega
      clear hw7 o7 hg7 HO HG2 hB y0 y1 hfb
      go_loopw [9, 10] (fun o i wq => ∃ q : Nat, q ≤ n2 ∧ i = .int .i64 q ∧ (∃ u A c zs, u ≤ q ∧ o = .slice A u c ∧ wq.ownsRow B 2 1 (.slice A u c) u (ints zs)) ∧ wq.ownsRow w.heap.size 4 1 (.slice (some ⟨F, 0, none⟩) n2 n2) n2 (bools bs) ∧ Gr w wq ∧ B ≤ wq.heap.size) (fun _ i _ => n2 - (intOf i).toNat)
      case atStart => exact ⟨0, Nat.zero_le _, rfl, ⟨0, _, _, _, Nat.le_refl _, rfl, O7.out⟩, HO7.out, hgw7, hB7⟩
      case round =>
        obtain ⟨q, hq, rfl, ⟨u, A, c, zs, hu, rfl, hown⟩, hbo, hgq, hBq⟩ := hrel
        have Hown := Lib.hid hown
        have Hbo := Lib.hid hbo
        clear hown hbo O7 HO7 hgw7
        by_cases hql : q < n2
        · obtain ⟨bv, hbv⟩ : ∃ b, bs[q]? = some b := ⟨_, List.getElem?_eq_getElem (by have := HfB.out; omega)⟩
          obtain ⟨g0, _⟩ := own_bool Hbo.out hbv hql
          have u1 : (q : Int) < (n2 : Int) := by omega
          have u0 : (0 : Int) ≤ (q : Int) := by omega
          have hqs := own_block_lt Hbo.out (k := F) rfl
          clear hbv
          cases bv with
          | false =>
            go_wp2_with fail
            go_roundw
            case rel => exact ⟨q + 1, by omega, by go_num, ⟨_, _, _, _, by omega, rfl, Hown.out⟩, Hbo.out, hgq, hBq⟩
            case measure => simp [intOf]; omega
          | true =>
            go_wp2_with (at_builtin; (refine wpList_append_own _ rfl _ _ _ rfl B 2 i0 _ 1 8 Try.underlying28 hi0 hz0 hz1 hz2 rfl (by omega) _ u _ rfl (Hown.out.alloc _) ⟨wr.heap.size, 0, none⟩ 1 1 [.int .i64 (q : Int)] rfl rfl (World.news_of_block (cs := #[.int .i64 (q : Int)]) (t := 2) (fr := (0, 0)) (heap_alloc_new wr _)) (by simp [Value.oneCell']) (by unfold maxLen; omega) (by omega) (by simp; omega) ?_; intro v' w9 hown9 hg9 _))
            obtain ⟨A', c', rfl⟩ := own_shape hown9
            have Ho9 := Lib.hid (own_cells_eq hown9 (ints_snoc _ (q : Int)).symm)
            have hbo9 := (Hbo.out.alloc (.cells #[.int .i64 (q : Int)] 2)).kept hg9 (Or.inr fun e => by have h1 : B ≤ F := own_base_le Hown.out (k := F) e.symm; omega)
            have Hbo9 := Lib.hid hbo9
            have hgw9 := (hgq.alloc (.cells #[.int .i64 (q : Int)] 2)).grown hg9 (fun j hj => by have := own_base_le Hown.out hj; omega)
            have hB9 : B ≤ w9.heap.size := by have := hg9.size; simp at this; omega
            clear hown9 hg9 hbo9
            go_wp2_with fail
            go_roundw
            case rel => exact ⟨q + 1, by omega, by go_num, ⟨_, _, _, _, by omega, rfl, Ho9.out⟩, Hbo9.out, hgw9, hB9⟩
            case measure => simp [intOf]; omega
        · obtain rfl : q = n2 := by omega
          go_wp2_with fail
          go_ret
          exact ⟨_, _, _, _, rfl, hu, own_base Hown.out (by omega), hgq⟩
set_option maxHeartbeats 1600000 in
set_option maxRecDepth 100000 in
theorem l05Chords_any {A1 A2 : Option Addr} {n1 c1 n2 c2 : Nat} (n : GNet) (w : World) (hA : NetAt w A1 n1 c1 A2 n2 c2 n) (hok : netOk n = true) :
    Calls Try.prog 67 #[.agg #[.slice A1 n1 c1, .slice A2 n2 c2]] w fun e w' => ∃ A m c zs, e = .returned (.slice A m c) ∧ m ≤ n2 ∧ w'.ownsRow w.heap.size 2 1 (.slice A m c) m (ints zs) ∧ Gr w w' := by
  obtain ⟨i0, hi0, hz0, hz1, hz2⟩ := info_parts infoInt64
  have hm2 := hA.m2
  have HA := Lib.hid hA
  have Hok := Lib.hid hok
  clear hA hok
  go_enter Try.func67, Try.ntmps67
  go_wp2_with fail
  refine (l04Forest_any n _ (HA.out.gr ((Gr.refl _).alloc _)) Hok.out).mono ?_
  rintro e w1 ⟨A, m, c, zs, rfl, hm, ho, hg1⟩
  have hg0 : Gr w w1 := ((Gr.refl _).alloc _).trans hg1
  have b1 : w1.cell? ⟨w.heap.size, 1, none⟩ = some (.slice A2 n2 c2) := hg1.has (by simp [go_sem])
  have HF := Lib.hid (SlAt.of_own ho (by omega))
  clear hg1 ho
  go_wp2_with fail
  generalize hw2 : World.alloc w1 _ = w2
  have hg2 : Gr w1 w2 := by rw [← hw2]; exact (Gr.refl _).alloc _
  have o2 : w2.ownsRow w1.heap.size 2 1 (.slice (some ⟨w1.heap.size, 0, none⟩) 0 0) 0 (ints []) := by
    rw [← hw2]; exact World.ownsRow_lit w1 (e := 2) (size := 1) #[] 0 (Nat.le_refl _) (by unfold maxLen; omega) rfl
  have O2 := Lib.hid o2
  clear hw2 o2
  go_loopw [4, 5] (fun o i wq => ∃ q : Nat, q ≤ n2 ∧ i = .int .i64 q ∧ (∃ u A c zs, u ≤ q ∧ o = .slice A u c ∧ wq.ownsRow w1.heap.size 2 1 (.slice A u c) u (ints zs)) ∧ Gr w1 wq) (fun _ i _ => n2 - (intOf i).toNat)
  case atStart => exact ⟨0, Nat.zero_le _, rfl, ⟨0, _, _, _, Nat.le_refl _, rfl, O2.out⟩, hg2⟩
  case round =>
    obtain ⟨q, hq, rfl, ⟨u, A', c', zs', hu, rfl, hown⟩, hgq⟩ := hrel
    have Hown := Lib.hid hown
    have y1 := hgq.has b1
    have hqs := hgq.size
    clear hown O2 hg2
    by_cases hql : q < n2
    · have u1 : (q : Int) < (n2 : Int) := by omega
      go_wp2_with fail
      refine (l02Has_any zs (q : Int) _ (HF.out.gr hgq)).mono ?_
      rintro e wz ⟨rfl, hwz⟩
      rw [← hwz]
      clear hwz
      cases hb : decide ((q : Int) ∈ zs) with
      | true =>
        clear hb
        go_wp2_with fail
        go_roundw
        case rel => exact ⟨q + 1, by omega, by go_num, ⟨_, _, _, _, by omega, rfl, Hown.out⟩, hgq⟩
        case measure => simp [intOf]; omega
      | false =>
        clear hb
        go_wp2_with (at_builtin; (refine wpList_append_own _ rfl _ _ _ rfl w1.heap.size 2 i0 _ 1 8 Try.underlying28 hi0 hz0 hz1 hz2 rfl (by omega) _ u _ rfl (Hown.out.alloc _) ⟨wr.heap.size, 0, none⟩ 1 1 [.int .i64 (q : Int)] rfl rfl (World.news_of_block (cs := #[.int .i64 (q : Int)]) (t := 2) (fr := (0, 0)) (heap_alloc_new wr _)) (by simp [Value.oneCell']) (by unfold maxLen; omega) (by omega) (by simp; omega) ?_; intro v' w9 hown9 hg9 _))
        obtain ⟨A9, c9, rfl⟩ := own_shape hown9
        have Ho9 := Lib.hid (own_cells_eq hown9 (ints_snoc _ (q : Int)).symm)
        have hgw9 := (hgq.alloc (.cells #[.int .i64 (q : Int)] 2)).grown hg9 (fun j hj => own_base_le Hown.out hj)
        clear hown9 hg9
        go_wp2_with fail
        go_roundw
        case rel => exact ⟨q + 1, by omega, by go_num, ⟨_, _, _, _, by omega, rfl, Ho9.out⟩, hgw9⟩
        case measure => simp [intOf]; omega
    · obtain rfl : q = n2 := by omega
      go_wp2_with fail
      go_ret
      exact ⟨_, _, _, _, rfl, hu, own_base Hown.out hg0.size, hg0.trans hgq⟩
theorem spChordsOf_any {A1 A2 : Option Addr} {n1 c1 n2 c2 : Nat} (n : GNet) (w : World) (hA : NetAt w A1 n1 c1 A2 n2 c2 n) :
    Calls Try.prog 57 #[.agg #[.slice A1 n1 c1, .slice A2 n2 c2]] w fun e w' => ∃ A m c zs, ∃ q : Int, e = .returned (.tuple #[.slice A m c, .int .i64 q]) ∧ m ≤ n2 ∧ w'.ownsRow w.heap.size 2 1 (.slice A m c) m (ints zs) ∧ Gr w w' := by
  have HA := Lib.hid hA
  clear hA
  go_enter Try.func57, Try.ntmps57
  go_wp2_with fail
  refine (spIsNetwork_any _ _ _ _ _ _ n _ (HA.out.gr ((Gr.refl _).alloc _))).mono ?_
  rintro e w1 ⟨rfl, hg1⟩
  have hg0 : Gr w w1 := ((Gr.refl _).alloc _).trans hg1
  have b0 : w1.cell? ⟨w.heap.size, 0, none⟩ = some (.slice A1 n1 c1) := hg1.has (by simp [go_sem])
  have b1 : w1.cell? ⟨w.heap.size, 1, none⟩ = some (.slice A2 n2 c2) := hg1.has (by simp [go_sem])
  clear hg1
  cases hn : netOk n with
  | false =>
    clear hn
    go_wp2_with fail
    go_ret2
    exact ⟨none, 0, 0, [], _, rfl, by omega, World.ownsRow_nil _ _ _ _, hg0⟩
  | true =>
    have Hn := Lib.hid hn
    clear hn
    go_wp2_with fail
    refine (l05Chords_any n _ (HA.out.gr hg0) Hn.out).mono ?_
    rintro e w2 ⟨A, m, c, zs, rfl, hm, ho, hg2⟩
    have Ho := Lib.hid ho
    clear ho
    go_wp2_with fail
    go_ret2
    exact ⟨_, _, _, _, _, rfl, hm, own_base Ho.out hg0.size, hg0.trans hg2⟩
end Go.Proofs.Ytbbecboihmmllaa
