/-
  Draws: networks with more pipes than a tree.
-/
import Derived.Test.YtbbecboihmmllaaDraw4
import Derived.Test.YtbbecboihmmllaaClone
import Derived.Deep.Upon
namespace Go.Proofs.Ytbbecboihmmllaa
open Go.ChangeShapes Go.WideShapes Go.ChangeAt Go.RowKit

/-- Nothing is appended. -/
theorem wpList_append_zero {P : Program} {w : World} {ops : Array Oper} {rest : List Oper} {o : Oper} {a : Act} {Q : Exit → Act → World → Prop} (hgd : o.guard = none) (s x : Operand) (t e : TypeId) (i : TypeInfo)
    (ho : o.op = .call { callee := .builtin .append, args := #[s, x], argTypes := #[t, t] }) (ht : P.underlying t = some (.slice e)) (hi : P.info? e = some i)
    (A B : Option Addr) (n c d : Nat) (hle : n ≤ c) (hs : a.eval s = .slice A n c) (hx : a.eval x = .slice B 0 d)
    (h : wpList P ops Q rest (a.put o.dst (.slice A n c)) w) : wpList P ops Q (o :: rest) a w := by
  refine wpList_plain hgd fun K hK => ?_
  have hsrc : Src P i.size t (.slice B 0 d) 0 [] w := by
    cases B with
    | none => exact Src.ofNil w ht d
    | some b => exact Src.ofSlice w ht b 0 d [] (by simp) (fun j u hj => by cases hj) (fun u hu => by cases hu)
  have hrun := run_append_nothing (P := P) w t t o.type e i ht hi A n c hle (.slice B 0 d) hsrc
  unfold Oper.wp
  simp [execOp, ho, resolve, invoke, builtin, hs, hx, hrun, Result.andThen]
  exact hK _ _ h
theorem pipes_one (ps : List GPipe) : ∀ u ∈ ps.flatMap GPipe.cells, u.oneCell' = true := by
  intro u hu
  obtain ⟨p, _, hp⟩ := List.mem_flatMap.1 hu
  simp only [GPipe.cells, List.mem_cons, List.not_mem_nil, or_false] at hp
  rcases hp with rfl | rfl | rfl | rfl | rfl <;> rfl
theorem net_end {w0 w wz : World} {S R g c k h d u : Nat} (hRw : w.heap.size ≤ R) (hRw0 : w0.heap.size ≤ R) (hSR : S < R) (hk : k ≤ 1048576) (hu : u ≤ 1048576) (q : NetSt w0 w wz S R g c k h d u) :
    Drw w0 ((wz.setCell ⟨R, 0, none⟩ (.slice (some ⟨g, 0, none⟩) k c)).setCell ⟨R, 1, none⟩ (.slice (some ⟨h, 0, none⟩) u d)) S ∧ Chg (fun j => j = S) w ((wz.setCell ⟨R, 0, none⟩ (.slice (some ⟨g, 0, none⟩) k c)).setCell ⟨R, 1, none⟩ (.slice (some ⟨h, 0, none⟩) u d)) ∧ ∃ n, OwnNet ((wz.setCell ⟨R, 0, none⟩ (.slice (some ⟨g, 0, none⟩) k c)).setCell ⟨R, 1, none⟩ (.slice (some ⟨h, 0, none⟩) u d)) w.heap.size (some ⟨g, 0, none⟩) k c (some ⟨h, 0, none⟩) u d n := by
  obtain ⟨ns, hn, hs⟩ := q.nodes
  obtain ⟨ps, hp⟩ := q.pipes
  have hcc : Chg (fun j => j = R) wz ((wz.setCell ⟨R, 0, none⟩ (.slice (some ⟨g, 0, none⟩) k c)).setCell ⟨R, 1, none⟩ (.slice (some ⟨h, 0, none⟩) u d)) := (chg_put _ _).trans (chg_put _ _)
  exact ⟨(q.dr.set hRw0 (by omega)).set hRw0 (by omega), (q.ch.fresh hRw).fresh hRw, ⟨ns, ps⟩, own_base (own_chg hn hcc (fun j hj e => by have := own_low hn hj; omega)) (by omega), own_base (own_chg hp hcc (fun j hj e => by have := own_low hp hj; omega)) (by omega), hs, hk, hu⟩
set_option maxHeartbeats 6400000 in
set_option maxRecDepth 100000 in
theorem l05DrawLoops_any {w0 w : World} {S : Nat} (h : Drw w0 w S) :
    Calls Try.prog 55 #[.pointer (some ⟨S, 0, none⟩)] w fun e w' => ∃ A1 n1 c1 A2 n2 c2 n, e = .returned (.agg #[.slice A1 n1 c1, .slice A2 n2 c2]) ∧ OwnNet w' w.heap.size A1 n1 c1 A2 n2 c2 n ∧ (1 ≤ n1 ∧ n1 ≤ 7 ∧ n2 ≤ 12) ∧ Drw w0 w' S ∧ Chg (fun k => k = S) w w' := by
  obtain ⟨i1, hi1, hv0, hv1, hv2⟩ := info_parts infoPipe
  have hlt := h.lt
  have hbw := h.gr.size
  have H := Lib.hid h
  clear h
  go_enter Try.func55, Try.ntmps55
  go_wp2_with fail
  generalize hw1 : World.alloc w _ = w1
  have hR : w1.heap[w.heap.size]? = some (.cells #[.slice none 0 0, .slice none 0 0] 27 (0, 0)) := by rw [← hw1]; exact heap_alloc_new w _
  have hg1 : Gr w w1 := by rw [← hw1]; exact (Gr.refl _).alloc _
  have hs1 : w1.heap.size = w.heap.size + 1 := by rw [← hw1]; simp
  obtain ⟨R, hRe⟩ : ∃ R, R = w.heap.size := ⟨_, rfl⟩
  rw [← hRe] at hR ⊢
  have hSR : S < R := by omega
  have hRw : w.heap.size ≤ R := by omega
  have hR1 : w1.heap.size = R + 1 := by omega
  have hRw0 : w0.heap.size ≤ R := by omega
  have HR := Lib.hid hR
  clear hw1 hRe hR
  refine (l02Draw_any (H.out.grow hg1)).mono ?_
  rintro e w2 ⟨A1, n1, c1, A2, n2, c2, n, rfl, hown, ⟨hn1, hn7, hn9⟩, hd2, hc2⟩
  obtain ⟨g, rfl, hgb, hgl⟩ := own_form hown.nodes (by omega)
  have hR2 := rb_chg HR.out hc2 (by omega)
  have hcc2 := (hg1.chg (fun k => k = S)).trans hc2
  have hs2 := rb_lt hR2
  have HO := Lib.hid hown
  have hD2 := Lib.hid hd2
  have HR2 := Lib.hid hR2
  have c12 := hown.at_.c2
  clear HR hc2 hown hd2 hR2
  obtain ⟨M, hM⟩ : ∃ M, M = w2.heap.size := ⟨_, rfl⟩
  have hMS : M ≠ S := by omega
  obtain ⟨w3, hw3⟩ : ∃ w3, w3 = (w2.alloc (.cells #[.slice (some ⟨g, 0, none⟩) n1 c1, .slice A2 n2 c2] 27)).alloc (.cells #[] 59) := ⟨_, rfl⟩
  have hg3 : Gr w2 w3 := by rw [hw3]; exact ((Gr.refl _).alloc _).alloc _
  have hs3 : w3.heap.size = M + 2 := by rw [hw3, hM]; simp
  have hM3 : w3.heap[M]? = some (.cells #[.slice (some ⟨g, 0, none⟩) n1 c1, .slice A2 n2 c2] 27 (0, 0)) := by
    rw [hw3, hM]
    exact (((Gr.refl _).alloc _).below.block _ (by simp)).trans (heap_alloc_new w2 _)
  have op3 : w3.ownsRow (M + 1) 59 5 (.slice (some ⟨M + 1, 0, none⟩) 0 0) 0 [] := by
    have q := World.ownsRow_lit (w2.alloc (.cells #[.slice (some ⟨g, 0, none⟩) n1 c1, .slice A2 n2 c2] 27)) (e := 59) (size := 5) #[] 0 (Nat.le_refl _) (by unfold maxLen; omega) rfl
    rw [World.size_alloc, ← hw3, ← hM] at q
    exact q
  have hR3 := (hg3.below.block R hs2).trans HR2.out
  have hnod := own_base (own_gr HO.out.nodes hg3) (base' := R + 1) (by omega)
  have Hnod := Lib.hid hnod
  have hd3 := hD2.out.grow hg3
  have hcc3 := hcc2.trans (hg3.chg (fun k => k = S))
  have HD3 := Lib.hid hd3
  have HR3 := Lib.hid hR3
  have Op3 := Lib.hid op3
  have HM3 := Lib.hid hM3
  have Hnm := Lib.hid HO.out.names
  have Hw3 := Lib.hid hw3
  have HMe := Lib.hid hM
  have hMR : R < M := by omega
  have hgM : g < M := by omega
  clear hw3 hM hgl hs2
  clear hnod hd3 hR3 op3 hM3
  by_cases hz : n2 = 0
  · subst hz
    have st4 : NetSt w0 w w3 S R g c1 n1 (M + 1) 0 0 := ⟨by omega, ⟨n.nodes, Hnod.out, Hnm.out⟩, ⟨[], own_base Op3.out (by omega)⟩, HD3.out, hcc3, HR3.out⟩
    have hM4 := HM3.out
    have hhM : M + 1 ≠ M := by omega
    go_wp2_with (at_builtin; (refine wpList_append_zero rfl _ _ _ _ i1 rfl Try.underlying25 hi1 _ _ 0 0 _ (Nat.le_refl _) rfl rfl ?_))
    rw [← Hw3.out, ← HMe.out]
    have St4 := Lib.hid st4
    have HM4 := Lib.hid hM4
    clear st4 hM4
    refine (l01Next_any 3 St4.out.dr (by omega)).mono ?_
    rintro e w5 ⟨y, rfl, hy, hd5, hc5⟩
    obtain ⟨y0, y1⟩ := hy.lt (by omega)
    have St5 := Lib.hid (St4.out.next hSR hd5 hc5)
    have HM5 := Lib.hid (rb_chg HM4.out hc5 (by omega))
    obtain ⟨J, hJ⟩ : ∃ J : Nat, y = (J : Int) := ⟨y.toNat, by omega⟩
    subst hJ
    clear hy hd5 hc5 St4 HM4
    go_wp2_with fail
    go_loopw [5, 6] (fun pp i wq => ∃ j : Nat, j ≤ J ∧ i = .int .i64 j ∧ ∃ h d u, u + j ≤ 11 ∧ pp = .slice (some ⟨h, 0, none⟩) u d ∧ h ≠ M ∧ wq.heap[M]? = some (.cells #[.slice (some ⟨g, 0, none⟩) n1 c1, .slice A2 0 c2] 27 (0, 0)) ∧ NetSt w0 w wq S R g c1 n1 h d u) (fun _ i _ => (intOf i).toNat)
    case atStart => exact ⟨J, Nat.le_refl _, rfl, _, _, _, by omega, rfl, hhM, HM5.out, St5.out⟩
    case round =>
      obtain ⟨j, hj, rfl, h', d', u', hu', rfl, hhM', hM, st⟩ := hrel
      have St := Lib.hid st
      have HM := Lib.hid hM
      clear st hM St5 HM5
      have hwn : w.heap.size ≤ R + 1 := by omega
      by_cases hgo : 0 < j ∧ 1 < n1
      · have hj1 : 0 < j := hgo.1
        have hk1 : 1 < n1 := hgo.2
        have t1 : decide ((0 : Int) < (j : Int)) = true := by simp; omega
        have t2 : decide ((1 : Int) < (n1 : Int)) = true := by simp; omega
        have hk0 : ¬ ((n1 : Int) = 0) := by omega
        clear hgo
        go_wp2_with fail
        refine (l01Next_any (n1 : Int) St.out.dr (by omega)).mono ?_
        rintro e w6 ⟨a, rfl, ha, hd6, hc6⟩
        obtain ⟨a0, a1⟩ := ha.lt (by omega)
        have St6 := Lib.hid (St.out.next hSR hd6 hc6)
        have HM6 := Lib.hid (rb_chg HM.out hc6 (by omega))
        clear ha hd6 hc6 St HM
        go_wp2_with fail
        refine (l01Next_any ((n1 : Int) - 1) St6.out.dr (by omega)).mono ?_
        rintro e w7 ⟨b, rfl, hb, hd7, hc7⟩
        have b0 := hb.1
        have b1 : b ≤ 7 := by
          rcases Int.lt_or_le 1 ((n1 : Int) - 1) with h | h
          · have := hb.2.1 h; omega
          · have := hb.2.2 h; omega
        have St7 := Lib.hid (St6.out.next hSR hd7 hc7)
        have HM7 := Lib.hid (rb_chg HM6.out hc7 (by omega))
        clear hb hd7 hc7 St6 HM6
        go_wp2_with fail
        refine (l02DrawPipe_any a _ St7.out.dr).mono ?_
        rintro e w8 ⟨p, rfl, hd8, hc8⟩
        have St8 := Lib.hid (St7.out.next hSR hd8 hc8)
        have HM8 := Lib.hid (rb_chg HM7.out hc8 (by omega))
        obtain ⟨ps, hps⟩ := St8.out.pipes
        have Hps := Lib.hid hps
        have hb8 := rb_lt St8.out.res
        have hm8 := rb_lt HM8.out
        clear hd8 hc8 St7 HM7 hps
        go_wp2_with (at_builtin; (refine wpList_append_lies _ rfl _ _ _ rfl (R + 1) 59 i1 _ 5 40 Try.underlying25 hi1 hv0 hv1 hv2 rfl (by omega) _ u' _ rfl (Hps.out.alloc _) ⟨w8.heap.size, 0, none⟩ 1 1 [.int .i64 p.src, .int .i64 p.dst, .int .i64 p.k, .int .i64 p.vol, .int .i64 p.lim] rfl rfl (World.news_of_block (cs := #[.int .i64 p.src, .int .i64 p.dst, .int .i64 p.k, .int .i64 p.vol, .int .i64 p.lim]) (t := 59) (fr := (0, 0)) (heap_alloc_new w8 _)) (by simp [Value.oneCell']) (by omega) (by unfold maxLen; omega) (by omega) (by simp; omega) (w8.heap.size + 1) (by simp) ?_; intro g9 cap9 w9 ho9 hg9 hat9 hlt9))
        have St9 := Lib.hid (St8.out.addP hRw hRw0 hSR ho9 hg9 hat9)
        have hM9 : w9.heap[M]? = some (.cells #[.slice (some ⟨g, 0, none⟩) n1 c1, .slice A2 0 c2] 27 (0, 0)) := by
          have h1 := (((Gr.refl w8).alloc (.cells #[.int .i64 p.src, .int .i64 p.dst, .int .i64 p.k, .int .i64 p.vol, .int .i64 p.lim] 59)).below.block M hm8).trans HM8.out
          exact (hg9.block M (rb_lt h1) (fun e => hhM' (Option.some.inj e).symm)).trans h1
        have HM9 := Lib.hid hM9
        have hhM9 : g9 ≠ M := by
          rcases hat9 with e | e
          · intro e2; exact hhM' ((Option.some.inj e).trans e2)
          · omega
        clear ho9 hg9 hat9 hlt9 St8 Hps HM8 hM9
        go_wp2_with fail
        go_roundw
        case rel => exact ⟨j - 1, by omega, by go_num, _, _, _, by omega, rfl, hhM9, HM9.out, St9.out⟩
        case measure => simp [intOf]; omega
      · have hR9 := St.out.res
        have c0 := rb_cell (j := 0) hR9 rfl
        have c1' := rb_cell (j := 1) hR9 rfl
        have f0 := rb_frozen hR9 0
        have f1 := rb_frozen hR9 1
        have m0 := rb_cell (j := 0) HM.out rfl
        have m1 := rb_cell (j := 1) HM.out rfl
        obtain ⟨q1, q2, nn, q3⟩ := net_end hRw hRw0 hSR (by omega) (by omega) St.out
        have Q1 := Lib.hid q1
        have Q2 := Lib.hid q2
        have Q3 := Lib.hid q3
        have hbp : ((wr.setCell ⟨R, 0, none⟩ (.slice (some ⟨g, 0, none⟩) n1 c1)).setCell ⟨R, 1, none⟩ (.slice (some ⟨h', 0, none⟩) u' d')).heap[R]? = some (.cells #[.slice (some ⟨g, 0, none⟩) n1 c1, .slice (some ⟨h', 0, none⟩) u' d'] 27 (0, 0)) := by simp [World.setCell, Array.getElem?_modify, hR9]
        have Hbp := Lib.hid hbp
        clear hR9 q1 q2 q3 hbp
        by_cases hj0 : 0 < j
        all_goals
          (first
            | (have t1 : decide (0 < j) = true := decide_eq_true (by omega)
               have t2 : decide (1 < n1) = false := decide_eq_false (by omega)
               have t3 : n1 ≤ 1 := by omega)
            | (have t1 : decide (0 < j) = false := decide_eq_false (by omega)
               have t3 : j = 0 := by omega
               subst t3))
          clear hgo hj0
          go_wp2_with fail
          (try simp only [Exit.inBlock, Exit.then])
          refine bodyPost_ret (results_cell_row Try.results55 _ _ R 27 #[.slice (some ⟨g, 0, none⟩) n1 c1, .slice (some ⟨h', 0, none⟩) u' d'] (0, 0) _ ?_ Hbp.out Try.underlying27 rfl (by kernel_rfl)) ?_ ?_
          · rfl
          · rfl
          exact ⟨_, _, _, _, _, _, nn, rfl, Q3.out, ⟨by omega, by omega, by omega⟩, Q1.out, Q2.out⟩
  · obtain ⟨bq, rfl, hbb, hbl⟩ := own_form HO.out.pipes (by omega)
    have hnews := ((Sl.of_own HO.out.pipes).gr hg3).cells
    have hlenp : (n.pipes.flatMap GPipe.cells).length = n2 * 5 := HO.out.pipes.1
    have Hnews := Lib.hid hnews
    have Hlenp := Lib.hid hlenp
    clear hnews hlenp hbb hbl
    go_wp2_with (at_builtin; (rw [← Hw3.out, ← HMe.out]; refine wpList_append_lies _ rfl _ _ _ rfl (M + 1) 59 i1 _ 5 40 Try.underlying25 hi1 hv0 hv1 hv2 rfl (by omega) _ 0 _ rfl Op3.out ⟨bq, 0, none⟩ n2 c2 (n.pipes.flatMap GPipe.cells) rfl Hlenp.out Hnews.out (pipes_one _) (by omega) (by unfold maxLen; omega) (by omega) (by omega) (M + 2) hs3 ?_; intro h4 cap4 w4 ho4 hg4 hat4 hlt4; rw [Nat.zero_add, List.nil_append] at ho4; rw [Nat.zero_add]))
    have hgr4 : ∀ j, (Value.slice (some ⟨M + 1, 0, none⟩) 0 0).ownBlock = some j → j = M + 1 := fun j hj => (Option.some.inj hj).symm
    have hh4 : h4 = M + 1 ∨ h4 = M + 2 := by
      rcases hat4 with e | e
      · exact Or.inl (Option.some.inj e).symm
      · exact Or.inr e
    have st4 : NetSt w0 w w4 S R g c1 n1 h4 cap4 n2 := ⟨by omega, ⟨n.nodes, Hnod.out.kept hg4 (Or.inr fun e => by have := hgr4 g e.symm; omega), Hnm.out⟩, ⟨n.pipes, own_base ho4 (by omega)⟩, HD3.out.grown hg4 (fun j hj => by have := hgr4 j hj; omega), hcc3.grown' hg4 (fun j hj => by have := hgr4 j hj; omega), (hg4.block R (by omega) (fun e => by have := hgr4 R e.symm; omega)).trans HR3.out⟩
    have hM4 := (hg4.block M (by omega) (fun e => by have := hgr4 M e.symm; omega)).trans HM3.out
    have hhM : h4 ≠ M := by omega
    clear ho4 hg4 hat4 hlt4 hgr4 hh4
    have St4 := Lib.hid st4
    have HM4 := Lib.hid hM4
    clear st4 hM4
    refine (l01Next_any 3 St4.out.dr (by omega)).mono ?_
    rintro e w5 ⟨y, rfl, hy, hd5, hc5⟩
    obtain ⟨y0, y1⟩ := hy.lt (by omega)
    have St5 := Lib.hid (St4.out.next hSR hd5 hc5)
    have HM5 := Lib.hid (rb_chg HM4.out hc5 (by omega))
    obtain ⟨J, hJ⟩ : ∃ J : Nat, y = (J : Int) := ⟨y.toNat, by omega⟩
    subst hJ
    clear hy hd5 hc5 St4 HM4
    go_wp2_with fail
    go_loopw [5, 6] (fun pp i wq => ∃ j : Nat, j ≤ J ∧ i = .int .i64 j ∧ ∃ h d u, u + j ≤ 11 ∧ pp = .slice (some ⟨h, 0, none⟩) u d ∧ h ≠ M ∧ wq.heap[M]? = some (.cells #[.slice (some ⟨g, 0, none⟩) n1 c1, .slice (some ⟨bq, 0, none⟩) n2 c2] 27 (0, 0)) ∧ NetSt w0 w wq S R g c1 n1 h d u) (fun _ i _ => (intOf i).toNat)
    case atStart => exact ⟨J, Nat.le_refl _, rfl, _, _, _, by omega, rfl, hhM, HM5.out, St5.out⟩
    case round =>
      obtain ⟨j, hj, rfl, h', d', u', hu', rfl, hhM', hM, st⟩ := hrel
      have St := Lib.hid st
      have HM := Lib.hid hM
      clear st hM St5 HM5
      have hwn : w.heap.size ≤ R + 1 := by omega
      by_cases hgo : 0 < j ∧ 1 < n1
      · have hj1 : 0 < j := hgo.1
        have hk1 : 1 < n1 := hgo.2
        have t1 : decide ((0 : Int) < (j : Int)) = true := by simp; omega
        have t2 : decide ((1 : Int) < (n1 : Int)) = true := by simp; omega
        have hk0 : ¬ ((n1 : Int) = 0) := by omega
        clear hgo
        go_wp2_with fail
        refine (l01Next_any (n1 : Int) St.out.dr (by omega)).mono ?_
        rintro e w6 ⟨a, rfl, ha, hd6, hc6⟩
        obtain ⟨a0, a1⟩ := ha.lt (by omega)
        have St6 := Lib.hid (St.out.next hSR hd6 hc6)
        have HM6 := Lib.hid (rb_chg HM.out hc6 (by omega))
        clear ha hd6 hc6 St HM
        go_wp2_with fail
        refine (l01Next_any ((n1 : Int) - 1) St6.out.dr (by omega)).mono ?_
        rintro e w7 ⟨b, rfl, hb, hd7, hc7⟩
        have b0 := hb.1
        have b1 : b ≤ 7 := by
          rcases Int.lt_or_le 1 ((n1 : Int) - 1) with h | h
          · have := hb.2.1 h; omega
          · have := hb.2.2 h; omega
        have St7 := Lib.hid (St6.out.next hSR hd7 hc7)
        have HM7 := Lib.hid (rb_chg HM6.out hc7 (by omega))
        clear hb hd7 hc7 St6 HM6
        go_wp2_with fail
        refine (l02DrawPipe_any a _ St7.out.dr).mono ?_
        rintro e w8 ⟨p, rfl, hd8, hc8⟩
        have St8 := Lib.hid (St7.out.next hSR hd8 hc8)
        have HM8 := Lib.hid (rb_chg HM7.out hc8 (by omega))
        obtain ⟨ps, hps⟩ := St8.out.pipes
        have Hps := Lib.hid hps
        have hb8 := rb_lt St8.out.res
        have hm8 := rb_lt HM8.out
        clear hd8 hc8 St7 HM7 hps
        go_wp2_with (at_builtin; (refine wpList_append_lies _ rfl _ _ _ rfl (R + 1) 59 i1 _ 5 40 Try.underlying25 hi1 hv0 hv1 hv2 rfl (by omega) _ u' _ rfl (Hps.out.alloc _) ⟨w8.heap.size, 0, none⟩ 1 1 [.int .i64 p.src, .int .i64 p.dst, .int .i64 p.k, .int .i64 p.vol, .int .i64 p.lim] rfl rfl (World.news_of_block (cs := #[.int .i64 p.src, .int .i64 p.dst, .int .i64 p.k, .int .i64 p.vol, .int .i64 p.lim]) (t := 59) (fr := (0, 0)) (heap_alloc_new w8 _)) (by simp [Value.oneCell']) (by omega) (by unfold maxLen; omega) (by omega) (by simp; omega) (w8.heap.size + 1) (by simp) ?_; intro g9 cap9 w9 ho9 hg9 hat9 hlt9))
        have St9 := Lib.hid (St8.out.addP hRw hRw0 hSR ho9 hg9 hat9)
        have hM9 : w9.heap[M]? = some (.cells #[.slice (some ⟨g, 0, none⟩) n1 c1, .slice (some ⟨bq, 0, none⟩) n2 c2] 27 (0, 0)) := by
          have h1 := (((Gr.refl w8).alloc (.cells #[.int .i64 p.src, .int .i64 p.dst, .int .i64 p.k, .int .i64 p.vol, .int .i64 p.lim] 59)).below.block M hm8).trans HM8.out
          exact (hg9.block M (rb_lt h1) (fun e => hhM' (Option.some.inj e).symm)).trans h1
        have HM9 := Lib.hid hM9
        have hhM9 : g9 ≠ M := by
          rcases hat9 with e | e
          · intro e2; exact hhM' ((Option.some.inj e).trans e2)
          · omega
        clear ho9 hg9 hat9 hlt9 St8 Hps HM8 hM9
        go_wp2_with fail
        go_roundw
        case rel => exact ⟨j - 1, by omega, by go_num, _, _, _, by omega, rfl, hhM9, HM9.out, St9.out⟩
        case measure => simp [intOf]; omega
      · have hR9 := St.out.res
        have c0 := rb_cell (j := 0) hR9 rfl
        have c1' := rb_cell (j := 1) hR9 rfl
        have f0 := rb_frozen hR9 0
        have f1 := rb_frozen hR9 1
        have m0 := rb_cell (j := 0) HM.out rfl
        have m1 := rb_cell (j := 1) HM.out rfl
        obtain ⟨q1, q2, nn, q3⟩ := net_end hRw hRw0 hSR (by omega) (by omega) St.out
        have Q1 := Lib.hid q1
        have Q2 := Lib.hid q2
        have Q3 := Lib.hid q3
        have hbp : ((wr.setCell ⟨R, 0, none⟩ (.slice (some ⟨g, 0, none⟩) n1 c1)).setCell ⟨R, 1, none⟩ (.slice (some ⟨h', 0, none⟩) u' d')).heap[R]? = some (.cells #[.slice (some ⟨g, 0, none⟩) n1 c1, .slice (some ⟨h', 0, none⟩) u' d'] 27 (0, 0)) := by simp [World.setCell, Array.getElem?_modify, hR9]
        have Hbp := Lib.hid hbp
        clear hR9 q1 q2 q3 hbp
        by_cases hj0 : 0 < j
        all_goals
          (first
            | (have t1 : decide (0 < j) = true := decide_eq_true (by omega)
               have t2 : decide (1 < n1) = false := decide_eq_false (by omega)
               have t3 : n1 ≤ 1 := by omega)
            | (have t1 : decide (0 < j) = false := decide_eq_false (by omega)
               have t3 : j = 0 := by omega
               subst t3))
          clear hgo hj0
          go_wp2_with fail
          (try simp only [Exit.inBlock, Exit.then])
          refine bodyPost_ret (results_cell_row Try.results55 _ _ R 27 #[.slice (some ⟨g, 0, none⟩) n1 c1, .slice (some ⟨h', 0, none⟩) u' d'] (0, 0) _ ?_ Hbp.out Try.underlying27 rfl (by kernel_rfl)) ?_ ?_
          · rfl
          · rfl
          exact ⟨_, _, _, _, _, _, nn, rfl, Q3.out, ⟨by omega, by omega, by omega⟩, Q1.out, Q2.out⟩
end Go.Proofs.Ytbbecboihmmllaa
