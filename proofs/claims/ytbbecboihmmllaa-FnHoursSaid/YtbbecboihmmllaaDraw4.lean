/-
  Draws: valid networks.
-/
import Derived.Test.YtbbecboihmmllaaDraw3
import Derived.Deep.AppendLies
namespace Go.Proofs.Ytbbecboihmmllaa
open Go.ChangeShapes Go.WideShapes Go.ChangeAt Go.RowKit

theorem Drw.grown {w0 w w' : World} {S : Nat} {row : Option Nat} (h : Drw w0 w S) (hg : w.grownBy w' row) (hr : ∀ j, row = some j → w0.heap.size ≤ j ∧ j ≠ S) : Drw w0 w' S := by
  obtain ⟨A, m, c, bs, a, d, h1, h2, h3, h4⟩ := h.blk
  refine ⟨h.gr.grown hg (fun j hj => (hr j hj).1), h.base, A, m, c, bs, a, d, h1, ?_, h3, h4⟩
  exact (hg.block S h2.lt (fun e => (hr S e.symm).2 rfl)).trans h2
theorem Chg.grown' {P : Nat → Prop} {w w1 w2 : World} {row : Option Nat} (h : Chg P w w1) (hg : w1.grownBy w2 row) (hr : ∀ j, row = some j → w.heap.size ≤ j) : Chg P w w2 :=
  ⟨hg.os.trans h.os, hg.tape.trans h.tape, hg.output.trans h.output, Nat.le_trans h.size hg.size, fun k hk hn =>
    (hg.block k (Nat.lt_of_lt_of_le hk h.size) (fun e => by have := hr k e.symm; omega)).trans (h.block k hk hn)⟩
theorem flat_snoc' {α : Type} (f : α → List Value) (l : List α) (x : α) : (l ++ [x]).flatMap f = l.flatMap f ++ f x := by simp
theorem own_eq' {w : World} {base : Nat} {e : TypeId} {size n : Nat} {v : Value} {xs ys : List Value} (h : w.ownsRow base e size v n xs) (he : xs = ys) : w.ownsRow base e size v n ys := he ▸ h
theorem own_low {w : World} {base : Nat} {e : TypeId} {size n k : Nat} {v : Value} {xs : List Value} (h : w.ownsRow base e size v n xs) (hk : v.ownBlock = some k) : base ≤ k := by
  rcases h.2 with ⟨hv, _⟩ | ⟨g, cap, cur, hv, hb, _⟩
  · rw [hv] at hk; simp [Value.ownBlock] at hk
  · rw [hv] at hk; simp [Value.ownBlock] at hk; omega
/-- The rows of a network that is being drawn; the result's block stands at R, still empty. -/
structure NetSt (w0 w wr : World) (S R g c k h d u : Nat) : Prop where
  ne : g ≠ h
  nodes : ∃ ns : List GNode, wr.ownsRow (R + 1) 74 3 (.slice (some ⟨g, 0, none⟩) k c) k (ns.flatMap GNode.cells) ∧ ∀ x ∈ ns, x.name.size ≤ maxLen
  pipes : ∃ ps : List GPipe, wr.ownsRow (R + 1) 59 5 (.slice (some ⟨h, 0, none⟩) u d) u (ps.flatMap GPipe.cells)
  dr : Drw w0 wr S
  ch : Chg (fun j => j = S) w wr
  res : wr.heap[R]? = some (.cells #[.slice none 0 0, .slice none 0 0] 27 (0, 0))
section
variable {w0 w wr w' : World} {S R g c k h d u : Nat}
theorem NetSt.next (q : NetSt w0 w wr S R g c k h d u) (hSR : S < R) (hd : Drw w0 w' S) (hc : Chg (fun j => j = S) wr w') : NetSt w0 w w' S R g c k h d u := by
  obtain ⟨ns, hn, hs⟩ := q.nodes
  obtain ⟨ps, hp⟩ := q.pipes
  exact ⟨q.ne, ⟨ns, own_chg hn hc (fun j hj e => by have := own_low hn hj; omega), hs⟩, ⟨ps, own_chg hp hc (fun j hj e => by have := own_low hp hj; omega)⟩, hd, q.ch.trans hc, rb_chg q.res hc (by omega)⟩
theorem NetSt.addN (q : NetSt w0 w wr S R g c k h d u) (hw : w.heap.size ≤ R) (hw0 : w0.heap.size ≤ R) (hSR : S < R) {ns : List GNode} {x : GNode} {ob : Obj} {g' cap : Nat} (hs : ∀ x ∈ ns, x.name.size ≤ maxLen) (hx : x.name.size ≤ maxLen)
    (hown : w'.ownsRow (R + 1) 74 3 (.slice (some ⟨g', 0, none⟩) (k + 1) cap) (k + 1) (ns.flatMap GNode.cells ++ x.cells)) (hg : (wr.alloc ob).grownBy w' (some g)) (hat : some g = some g' ∨ g' = wr.heap.size + 1) : NetSt w0 w w' S R g' cap (k + 1) h d u := by
  obtain ⟨ns0, hn, _⟩ := q.nodes
  obtain ⟨ps, hp⟩ := q.pipes
  have hgb := own_low hn (k := g) rfl
  have hhl := (World.ownsRow.lt hp h rfl).2
  refine ⟨?_, ⟨ns ++ [x], own_eq' hown (flat_snoc' _ _ _).symm, fun y hy => ?_⟩, ⟨ps, (hp.alloc _).kept hg (Or.inr fun e => q.ne (Option.some.inj e).symm)⟩, (q.dr.grow ((Gr.refl _).alloc _)).grown hg (fun j hj => by injection hj with hj; omega), (q.ch.trans (((Gr.refl _).alloc _).chg _)).grown' hg (fun j hj => by injection hj with hj; omega), ?_⟩
  · rcases hat with e | e
    · injection e with e; rw [← e]; exact q.ne
    · omega
  · rcases List.mem_append.1 hy with hy | hy
    · exact hs y hy
    · rw [List.mem_singleton.1 hy]; exact hx
  · have h1 : (wr.alloc ob).heap[R]? = some (.cells #[.slice none 0 0, .slice none 0 0] 27 (0, 0)) := (((Gr.refl wr).alloc ob).below.block R (rb_lt q.res)).trans q.res
    exact (hg.block R (rb_lt h1) (fun e => by injection e with e; omega)).trans h1
theorem NetSt.addP (q : NetSt w0 w wr S R g c k h d u) (hw : w.heap.size ≤ R) (hw0 : w0.heap.size ≤ R) (hSR : S < R) {ps : List GPipe} {x : GPipe} {ob : Obj} {h' cap : Nat}
    (hown : w'.ownsRow (R + 1) 59 5 (.slice (some ⟨h', 0, none⟩) (u + 1) cap) (u + 1) (ps.flatMap GPipe.cells ++ x.cells)) (hg : (wr.alloc ob).grownBy w' (some h)) (hat : some h = some h' ∨ h' = wr.heap.size + 1) : NetSt w0 w w' S R g c k h' cap (u + 1) := by
  obtain ⟨ns, hn, hs⟩ := q.nodes
  obtain ⟨ps0, hp⟩ := q.pipes
  have hhb := own_low hp (k := h) rfl
  have hgl := (World.ownsRow.lt hn g rfl).2
  refine ⟨?_, ⟨ns, (hn.alloc _).kept hg (Or.inr fun e => q.ne (Option.some.inj e)), hs⟩, ⟨ps ++ [x], own_eq' hown (flat_snoc' _ _ _).symm⟩, (q.dr.grow ((Gr.refl _).alloc _)).grown hg (fun j hj => by injection hj with hj; omega), (q.ch.trans (((Gr.refl _).alloc _).chg _)).grown' hg (fun j hj => by injection hj with hj; omega), ?_⟩
  · rcases hat with e | e
    · injection e with e; rw [← e]; exact q.ne
    · omega
  · have h1 : (wr.alloc ob).heap[R]? = some (.cells #[.slice none 0 0, .slice none 0 0] 27 (0, 0)) := (((Gr.refl wr).alloc ob).below.block R (rb_lt q.res)).trans q.res
    exact (hg.block R (rb_lt h1) (fun e => by injection e with e; omega)).trans h1
end
set_option maxHeartbeats 6400000 in
set_option maxRecDepth 100000 in
theorem l02Draw_any {w0 w : World} {S : Nat} (h : Drw w0 w S) :
    Calls Try.prog 65 #[.pointer (some ⟨S, 0, none⟩)] w fun e w' => ∃ A1 n1 c1 A2 n2 c2 n, e = .returned (.agg #[.slice A1 n1 c1, .slice A2 n2 c2]) ∧ OwnNet w' w.heap.size A1 n1 c1 A2 n2 c2 n ∧ (1 ≤ n1 ∧ n1 ≤ 7 ∧ n2 ≤ 9) ∧ Drw w0 w' S ∧ Chg (fun k => k = S) w w' := by
  obtain ⟨i0, hi0, hz0, hz1, hz2⟩ := info_parts infoNode
  obtain ⟨i1, hi1, hv0, hv1, hv2⟩ := info_parts infoPipe
  have hlt := h.lt
  have hbw := h.gr.size
  have H := Lib.hid h
  clear h
  go_enter Try.func65, Try.ntmps65
  go_wp2_with fail
  generalize hw1 : World.alloc w _ = w1
  have hR : w1.heap[w.heap.size]? = some (.cells #[.slice none 0 0, .slice none 0 0] 27 (0, 0)) := by rw [← hw1]; exact heap_alloc_new w _
  have hg1 : Gr w w1 := by rw [← hw1]; exact (Gr.refl _).alloc _
  obtain ⟨R, hRe⟩ : ∃ R, R = w.heap.size := ⟨_, rfl⟩
  rw [← hRe] at hR ⊢
  have hSR : S < R := by omega
  have hRw : w.heap.size ≤ R := by omega
  have hRw0 : w0.heap.size ≤ R := by omega
  have HR := Lib.hid hR
  clear hw1 hRe hR
  refine (l01Next_any 7 (H.out.grow hg1) (by omega)).mono ?_
  rintro e w2 ⟨x, rfl, hx, hd2, hc2⟩
  obtain ⟨x0, x1⟩ := hx.lt (by omega)
  obtain ⟨N, hN⟩ : ∃ N : Nat, (N : Int) = 1 + x := ⟨(1 + x).toNat, by omega⟩
  have hN' := hN.symm
  have hN1 : 1 ≤ N := by omega
  have hN7 : N ≤ 7 := by omega
  have hR2 := rb_chg HR.out hc2 (by omega)
  have hcc2 := (hg1.chg (fun k => k = S)).trans hc2
  have hs2 := rb_lt hR2
  clear hx HR hc2 hN
  go_wp2_with fail
  generalize hw3 : World.alloc (World.alloc w2 _) _ = w3
  have hg3 : Gr w2 w3 := by rw [← hw3]; exact ((Gr.refl _).alloc _).alloc _
  have on0 : w3.ownsRow w2.heap.size 74 3 (.slice (some ⟨w2.heap.size, 0, none⟩) 0 0) 0 [] := by
    rw [← hw3]; exact (World.ownsRow_lit w2 (e := 74) (size := 3) #[] 0 (Nat.le_refl _) (by unfold maxLen; omega) rfl).alloc _
  have op0 : w3.ownsRow w2.heap.size 59 5 (.slice (some ⟨w2.heap.size + 1, 0, none⟩) 0 0) 0 [] := by
    have q := World.ownsRow_lit (w2.alloc (.cells #[] 74)) (e := 59) (size := 5) #[] 0 (Nat.le_refl _) (by unfold maxLen; omega) rfl
    rw [World.size_alloc, hw3] at q
    exact own_base q (by omega)
  have st0 : NetSt w0 w w3 S R w2.heap.size 0 0 (w2.heap.size + 1) 0 0 := ⟨by omega, ⟨[], own_base on0 hs2, fun x hx => by cases hx⟩, ⟨[], own_base op0 hs2⟩, hd2.grow hg3, hcc2.trans (hg3.chg _), (hg3.below.block R hs2).trans hR2⟩
  have St0 := Lib.hid st0
  clear hw3 hg3 on0 op0 st0 hd2 hR2 hcc2 hs2
  go_loopw [4, 5, 6] (fun nd pp i wr => ∃ k : Nat, k ≤ N ∧ i = .int .i64 k ∧ ∃ g c h d u, u ≤ k ∧ nd = .slice (some ⟨g, 0, none⟩) k c ∧ pp = .slice (some ⟨h, 0, none⟩) u d ∧ NetSt w0 w wr S R g c k h d u) (fun _ _ i _ => N - (intOf i).toNat)
  case atStart => exact ⟨0, Nat.zero_le _, rfl, _, _, _, _, _, Nat.le_refl _, rfl, rfl, St0.out⟩
  case round =>
    obtain ⟨k, hk, rfl, g, c, h, d, u, hu, rfl, rfl, st⟩ := hrel
    have St := Lib.hid st
    clear st St0
    by_cases hkN : k < N
    · go_wp2_with fail
      refine (l02DrawNode_any (k : Int) St.out.dr (by omega)).mono ?_
      rintro e w4 ⟨x, rfl, hxs, hd4, hc4⟩
      have St4 := Lib.hid (St.out.next hSR hd4 hc4)
      obtain ⟨ns, hns, hnn⟩ := St4.out.nodes
      have Hns := Lib.hid hns
      have Hnn := Lib.hid hnn
      have hb4 := rb_lt St4.out.res
      clear hns hnn hd4 hc4 St
      by_cases hk0 : k = 0
      all_goals
        (first | (have tb : decide (0 < k) = false := decide_eq_false (by omega)) | (have tb : decide (0 < k) = true := decide_eq_true (by omega)))
        (first | (have tc : decide ((0 : Int) < (k : Int)) = false := decide_eq_false (by omega)) | (have tc : decide ((0 : Int) < (k : Int)) = true := decide_eq_true (by omega)))
        clear hk0
        go_wp2_with (at_builtin; (refine wpList_append_lies _ rfl _ _ _ rfl (R + 1) 74 i0 _ 3 32 Try.underlying24 hi0 hz0 hz1 hz2 rfl (by omega) _ k _ rfl (Hns.out.alloc _) ⟨w4.heap.size, 0, none⟩ 1 1 [.string x.name, .int .i64 x.low, .int .i64 x.high] rfl rfl (World.news_of_block (cs := #[.string x.name, .int .i64 x.low, .int .i64 x.high]) (t := 74) (fr := (0, 0)) (heap_alloc_new w4 _)) (by simp [Value.oneCell']) (by omega) (by unfold maxLen; omega) (by omega) (by simp; omega) (w4.heap.size + 1) (by simp) ?_; intro g5 cap5 w5 ho5 hg5 hat5 hlt5))
        have St5 := Lib.hid (St4.out.addN hRw hRw0 hSR Hnn.out hxs ho5 hg5 hat5)
        clear ho5 hg5 hat5 hlt5 St4 Hns Hnn
      · go_roundw
        case rel => exact ⟨k + 1, by omega, by go_num, _, _, _, _, _, by omega, rfl, rfl, St5.out⟩
        case measure => simp [intOf]; omega
      · refine (l01Next_any 16 St5.out.dr (by omega)).mono ?_
        rintro e w6 ⟨y, rfl, hy, hd6, hc6⟩
        obtain ⟨y0, y1⟩ := hy.lt (by omega)
        have St6 := Lib.hid (St5.out.next hSR hd6 hc6)
        clear hy hd6 hc6 St5
        by_cases hy0 : y = 0
        · have ty : decide ((0 : Int) < y) = false := by simp; omega
          go_wp2_with fail
          go_roundw
          case rel => exact ⟨k + 1, by omega, by go_num, _, _, _, _, _, by omega, rfl, rfl, St6.out⟩
          case measure => simp [intOf]; omega
        · have ty : decide ((0 : Int) < y) = true := by simp; omega
          go_wp2_with fail
          refine (l01Next_any (k : Int) St6.out.dr (by omega)).mono ?_
          rintro e w7 ⟨z, rfl, hz, hd7, hc7⟩
          have St7 := Lib.hid (St6.out.next hSR hd7 hc7)
          clear hz hd7 hc7 St6
          go_wp2_with fail
          refine (l02DrawPipe_any z (k : Int) St7.out.dr).mono ?_
          rintro e w8 ⟨p, rfl, hd8, hc8⟩
          have St8 := Lib.hid (St7.out.next hSR hd8 hc8)
          obtain ⟨ps, hps⟩ := St8.out.pipes
          have Hps := Lib.hid hps
          have hb8 := rb_lt St8.out.res
          clear hd8 hc8 St7 hps
          go_wp2_with (at_builtin; (refine wpList_append_lies _ rfl _ _ _ rfl (R + 1) 59 i1 _ 5 40 Try.underlying25 hi1 hv0 hv1 hv2 rfl (by omega) _ u _ rfl (Hps.out.alloc _) ⟨w8.heap.size, 0, none⟩ 1 1 [.int .i64 p.src, .int .i64 p.dst, .int .i64 p.k, .int .i64 p.vol, .int .i64 p.lim] rfl rfl (World.news_of_block (cs := #[.int .i64 p.src, .int .i64 p.dst, .int .i64 p.k, .int .i64 p.vol, .int .i64 p.lim]) (t := 59) (fr := (0, 0)) (heap_alloc_new w8 _)) (by simp [Value.oneCell']) (by omega) (by unfold maxLen; omega) (by omega) (by simp; omega) (w8.heap.size + 1) (by simp) ?_; intro g9 cap9 w9 ho9 hg9 hat9 hlt9))
          have St9 := Lib.hid (St8.out.addP hRw hRw0 hSR ho9 hg9 hat9)
          clear ho9 hg9 hat9 hlt9 St8 Hps
          go_wp2_with fail
          go_roundw
          case rel => exact ⟨k + 1, by omega, by go_num, _, _, _, _, _, by omega, rfl, rfl, St9.out⟩
          case measure => simp [intOf]; omega
    · obtain rfl : k = N := by omega
      go_wp2_with fail
      refine (l01Next_any 3 St.out.dr (by omega)).mono ?_
      rintro e w4 ⟨y, rfl, hy, hd4, hc4⟩
      obtain ⟨y0, y1⟩ := hy.lt (by omega)
      have St4 := Lib.hid (St.out.next hSR hd4 hc4)
      obtain ⟨J, hJ⟩ : ∃ J : Nat, y = (J : Int) := ⟨y.toNat, by omega⟩
      subst hJ
      clear hy hd4 hc4 St
      go_wp2_with fail
      go_loopw [5, 7] (fun pp i wq => ∃ j : Nat, j ≤ J ∧ i = .int .i64 j ∧ ∃ h d u, u + j ≤ 9 ∧ pp = .slice (some ⟨h, 0, none⟩) u d ∧ NetSt w0 w wq S R g c k h d u) (fun _ i _ => (intOf i).toNat)
      case atStart => exact ⟨J, Nat.le_refl _, rfl, _, _, _, by omega, rfl, St4.out⟩
      case round =>
        obtain ⟨j, hj, rfl, h', d', u', hu', rfl, st⟩ := hrel
        have St := Lib.hid st
        clear st St4
        have hwn : w.heap.size ≤ R + 1 := by omega
        have ex : ∀ wz, NetSt w0 w wz S R g c k h' d' u' → Drw w0 ((wz.setCell ⟨R, 0, none⟩ (.slice (some ⟨g, 0, none⟩) k c)).setCell ⟨R, 1, none⟩ (.slice (some ⟨h', 0, none⟩) u' d')) S ∧ Chg (fun j => j = S) w ((wz.setCell ⟨R, 0, none⟩ (.slice (some ⟨g, 0, none⟩) k c)).setCell ⟨R, 1, none⟩ (.slice (some ⟨h', 0, none⟩) u' d')) ∧ ∃ n, OwnNet ((wz.setCell ⟨R, 0, none⟩ (.slice (some ⟨g, 0, none⟩) k c)).setCell ⟨R, 1, none⟩ (.slice (some ⟨h', 0, none⟩) u' d')) w.heap.size (some ⟨g, 0, none⟩) k c (some ⟨h', 0, none⟩) u' d' n := by
          intro wz q
          obtain ⟨ns, hn, hs⟩ := q.nodes
          obtain ⟨ps, hp⟩ := q.pipes
          have hcc : Chg (fun j => j = R) wz ((wz.setCell ⟨R, 0, none⟩ (.slice (some ⟨g, 0, none⟩) k c)).setCell ⟨R, 1, none⟩ (.slice (some ⟨h', 0, none⟩) u' d')) := (chg_put _ _).trans (chg_put _ _)
          exact ⟨(q.dr.set hRw0 (by omega)).set hRw0 (by omega), (q.ch.fresh hRw).fresh hRw, ⟨ns, ps⟩, own_base (own_chg hn hcc (fun j hj e => by have := own_low hn hj; omega)) hwn, own_base (own_chg hp hcc (fun j hj e => by have := own_low hp hj; omega)) hwn, hs, by omega, by omega⟩
        have Ex := Lib.hid ex
        clear ex
        by_cases hgo : 0 < j ∧ 1 < k
        · have t1 : decide ((0 : Int) < (j : Int)) = true := by simp; omega
          have t2 : decide ((1 : Int) < (k : Int)) = true := by simp; omega
          have hk0 : ¬ ((k : Int) = 0) := by omega
          have hj1 : 0 < j := hgo.1
          have hk1 : 1 < k := hgo.2
          clear hgo
          go_wp2_with fail
          refine (l01Next_any (k : Int) St.out.dr (by omega)).mono ?_
          rintro e w5 ⟨a, rfl, ha, hd5, hc5⟩
          obtain ⟨a0, a1⟩ := ha.lt (by omega)
          have St5 := Lib.hid (St.out.next hSR hd5 hc5)
          clear ha hd5 hc5 St
          go_wp2_with fail
          refine (l01Next_any ((k : Int) - 1) St5.out.dr (by omega)).mono ?_
          rintro e w6 ⟨b, rfl, hb, hd6, hc6⟩
          have b0 := hb.1
          have b1 : b ≤ 7 := by
            rcases Int.lt_or_le 1 ((k : Int) - 1) with h | h
            · have := hb.2.1 h; omega
            · have := hb.2.2 h; omega
          have St6 := Lib.hid (St5.out.next hSR hd6 hc6)
          clear hb hd6 hc6 St5
          go_wp2_with fail
          refine (l02DrawPipe_any a _ St6.out.dr).mono ?_
          rintro e w8 ⟨p, rfl, hd8, hc8⟩
          have St8 := Lib.hid (St6.out.next hSR hd8 hc8)
          obtain ⟨ps, hps⟩ := St8.out.pipes
          have Hps := Lib.hid hps
          have hb8 := rb_lt St8.out.res
          clear hd8 hc8 St6 hps
          go_wp2_with (at_builtin; (refine wpList_append_lies _ rfl _ _ _ rfl (R + 1) 59 i1 _ 5 40 Try.underlying25 hi1 hv0 hv1 hv2 rfl (by omega) _ u' _ rfl (Hps.out.alloc _) ⟨w8.heap.size, 0, none⟩ 1 1 [.int .i64 p.src, .int .i64 p.dst, .int .i64 p.k, .int .i64 p.vol, .int .i64 p.lim] rfl rfl (World.news_of_block (cs := #[.int .i64 p.src, .int .i64 p.dst, .int .i64 p.k, .int .i64 p.vol, .int .i64 p.lim]) (t := 59) (fr := (0, 0)) (heap_alloc_new w8 _)) (by simp [Value.oneCell']) (by omega) (by unfold maxLen; omega) (by omega) (by simp; omega) (w8.heap.size + 1) (by simp) ?_; intro g9 cap9 w9 ho9 hg9 hat9 hlt9))
          have St9 := Lib.hid (St8.out.addP hRw hRw0 hSR ho9 hg9 hat9)
          clear ho9 hg9 hat9 hlt9 St8 Hps
          go_wp2_with fail
          go_roundw
          case rel => exact ⟨j - 1, by omega, by go_num, _, _, _, by omega, rfl, St9.out⟩
          case measure => simp [intOf]; omega
        · have hR9 := St.out.res
          have c0 := rb_cell (j := 0) hR9 rfl
          have c1 := rb_cell (j := 1) hR9 rfl
          have f0 := rb_frozen hR9 0
          have f1 := rb_frozen hR9 1
          have HR9 := Lib.hid hR9
          obtain ⟨q1, q2, n, q3⟩ := Ex.out _ St.out
          have Q1 := Lib.hid q1
          have Q2 := Lib.hid q2
          have Q3 := Lib.hid q3
          have hbp : ((wr.setCell ⟨R, 0, none⟩ (.slice (some ⟨g, 0, none⟩) k c)).setCell ⟨R, 1, none⟩ (.slice (some ⟨h', 0, none⟩) u' d')).heap[R]? = some (.cells #[.slice (some ⟨g, 0, none⟩) k c, .slice (some ⟨h', 0, none⟩) u' d'] 27 (0, 0)) := by simp [World.setCell, Array.getElem?_modify, hR9]
          have Hbp := Lib.hid hbp
          clear hR9 q1 q2 q3 Ex hbp
          by_cases hj0 : 0 < j
          all_goals
            (first
              | (have t1 : decide (0 < j) = true := decide_eq_true (by omega)
                 have t2 : decide (1 < k) = false := decide_eq_false (by omega)
                 have t3 : k ≤ 1 := by omega)
              | (have t1 : decide (0 < j) = false := decide_eq_false (by omega)
                 have t3 : j = 0 := by omega
                 subst t3))
            clear hgo hj0
            go_wp2_with fail
            (try simp only [Exit.inBlock, Exit.then])
            refine bodyPost_ret (results_cell_row Try.results65 _ _ R 27 #[.slice (some ⟨g, 0, none⟩) k c, .slice (some ⟨h', 0, none⟩) u' d'] (0, 0) _ ?_ Hbp.out Try.underlying27 rfl (by kernel_rfl)) ?_ ?_
            · rfl
            · rfl
            exact ⟨_, _, _, _, _, _, n, rfl, Q3.out, ⟨by omega, by omega, by omega⟩, Q1.out, Q2.out⟩
end Go.Proofs.Ytbbecboihmmllaa
