/-
  Conflicts: Relievers of the program and the reference.
-/
import Derived.Test.YtaicmgbmlkhagaaConf5
import Derived.Test.YtaicmgbmlkhagaaFlowB
namespace Go.Proofs.Ytaicmgbmlkhagaa
open Go.ChangeShapes Go.WideShapes Go.ChangeAt Go.RowKit

theorem step_append_g {P : Program} (w : World) {ops : Array Oper} {o : Oper} {a : Act} {K : Act → World → Prop} {Q : Exit → Act → World → Prop} {E : Prop} (hw : Region.wanted o (yielded ops a.tmps) = true) (s x : Operand) (t : TypeId)
    (ho : o.op = .call { callee := .builtin .append, args := #[s, x], argTypes := #[t, t] })
    (base : Nat) (e : TypeId) (i : TypeInfo) (z : Value) (size bytes : Nat) (ht : P.underlying t = some (.slice e)) (hi : P.info? e = some i) (hz : i.zero = some z)
    (hsize : i.size = size) (hby : i.bytes = bytes) (hzs : z.cells.size = size) (hsz : 0 < size)
    (v : Value) (n : Nat) (xs : List Value) (hs : a.eval s = v) (hown : w.ownsRow base e size v n xs)
    (ad : Addr) (m c : Nat) (news : List Value) (hx : a.eval x = .slice (some ad) m c) (hl : news.length = m * size) (hnews : ∀ j u, news[j]? = some u → w.cell? (ad.add j) = some u) (h1 : ∀ u ∈ news, u.oneCell' = true)
    (hm : 0 < m) (h63 : n + m ≤ maxLen) (hbytes : (n + m) * bytes ≤ 140737488355328) (hbase : base ≤ w.heap.size) (q : Nat) (hq : n + m = q)
    (h : ∀ g cap w', w'.ownsRow base e size (.slice (some ⟨g, 0, none⟩) q cap) q (xs ++ news) → w.grownBy w' v.ownBlock → K (a.put o.dst (.slice (some ⟨g, 0, none⟩) q cap)) w') :
    if Region.wanted o (yielded ops a.tmps) = true then Oper.wp P o a w K Q else E := by
  subst hq
  rw [if_pos hw]
  exact wp_append_lies w s x t ho base e i z size bytes ht hi hz hsize hby hzs hsz v n xs hs hown ad m c news hx hl hnews h1 hm h63 hbytes hbase _ rfl (fun g cap w' h2 h3 _ _ => h g cap w' h2 h3)
theorem news_one {w : World} {ad : Addr} {v : Value} (h : w.cell? ad = some v) : ∀ j u, [v][j]? = some u → w.cell? (ad.add j) = some u := by
  intro j u hu
  cases j with
  | zero => simp at hu; subst hu; simpa [Addr.add] using h
  | succ j => simp at hu
noncomputable def reRes (n : GNet) (l : List GTr) (s : List Int) : List Int := if cfCode n l s = 0 then relTo (confB n l) s l.length else []
theorem re_in {p : List Int → Bool} {s : List Int} {k : Nat} (h : (k : Int) ∈ s) : relTo p s (k + 1) = relTo p s k := by
  rw [relTo, if_neg (by simp [h])]
theorem re_no {p : List Int → Bool} {s : List Int} {k : Nat} (h : p (s ++ [(k : Int)]) = true) : relTo p s (k + 1) = relTo p s k := by
  rw [relTo, if_neg (by simp [h])]
theorem re_add {p : List Int → Bool} {s : List Int} {k : Nat} (h : ¬ (k : Int) ∈ s) (hp : p (s ++ [(k : Int)]) = false) : relTo p s (k + 1) = relTo p s k ++ [(k : Int)] := by
  rw [relTo, if_pos (by simp [h, hp])]
theorem re_bad {n : GNet} {l : List GTr} {s : List Int} (h : ¬ cfCode n l s = 0) : reRes n l s = [] := by rw [reRes, if_neg h]
set_option maxHeartbeats 4000000 in
set_option maxRecDepth 100000 in
theorem Relievers_any {A1 A2 A3 A4 : Option Addr} {n1 c1 n2 c2 n3 c3 n4 c4 : Nat} (n : GNet) (l : List GTr) (s : List Int) (w : World) (hA : NetAt w A1 n1 c1 A2 n2 c2 n) (hL : SlAt w 4 A3 n3 c3 (l.flatMap GTr.cells)) (hS : SlAt w 1 A4 n4 c4 (ints s)) :
    Calls Try.prog 56 #[.agg #[.slice A1 n1 c1, .slice A2 n2 c2], .slice A3 n3 c3, .slice A4 n4 c4] w fun e w' => ∃ A m c, e = .returned (.tuple #[.slice A m c, .int .i64 (cfCode n l s)]) ∧ m ≤ 1048576 ∧ w'.ownsRow w.heap.size 2 1 (.slice A m c) m (ints (reRes n l s)) ∧ Gr w w' := by
  obtain ⟨i0, hi0, hz0, hz1, hz2⟩ := info_parts infoInt64
  have hm4 := hS.small
  have HA := Lib.hid hA
  have hm3 := hL.small
  have hl3 := hL.sl.len GTr.cells_len (by omega)
  have hl4 := hS.sl.ilen
  have HL := Lib.hid hL
  have HS := Lib.hid hS
  have Hl3 := Lib.hid hl3
  have Hl4 := Lib.hid hl4
  clear hA hL hS hl3 hl4
  go_enter Try.func56, Try.ntmps56
  go_wp2_with fail
  refine (checkSet_any n l s _ (HA.out.gr ((Gr.refl _).alloc _)) (HL.out.gr ((Gr.refl _).alloc _)) (HS.out.gr ((Gr.refl _).alloc _))).mono ?_
  rintro e w1 ⟨rfl, hg1⟩
  have hg0 : Gr w w1 := ((Gr.refl _).alloc _).trans hg1
  have b0 : w1.cell? ⟨w.heap.size, 0, none⟩ = some (.slice A1 n1 c1) := hg1.has (by simp [go_sem])
  have b1 : w1.cell? ⟨w.heap.size, 1, none⟩ = some (.slice A2 n2 c2) := hg1.has (by simp [go_sem])
  clear hg1
  by_cases hc : csCode n l s = 0
  · have Hc := Lib.hid hc
    have Hn := Lib.hid (trCode_zero (csCode_zero hc).1).1
    have Hok1 : Hid (trsOk n1 l = true) := Lib.hid (by rw [← HA.out.l1]; exact (trCode_zero (csCode_zero hc).1).2)
    have Hs := Lib.hid (setOk_nd (csCode_zero hc).2)
    have tb : (csCode n l s != 0) = false := by simp [hc]
    have tc : (csCode n l s == 0) = true := by simp [hc]
    clear hc
    go_wp2_with fail
    refine (isConflict_any n l s _ (HA.out.gr hg0) (HL.out.gr hg0) (HS.out.gr hg0) Hok1.out Hs.out).mono ?_
    rintro e w2 ⟨rfl, hg2⟩
    have hgw := hg0.trans hg2
    replace b0 := hg2.has b0
    replace b1 := hg2.has b1
    cases hf : confB n l s with
    | false =>
      have Hv := Lib.hid (cf_no Hc.out hf)
      clear hf
      go_wp2_with fail
      go_ret2
      refine ⟨none, 0, 0, by rw [Hv.out.1]; rfl, by omega, ?_, hgw⟩
      rw [re_bad (by rw [Hv.out.1]; decide)]
      exact World.ownsRow_nil _ _ _ _
    | true =>
      have Hv := Lib.hid (cf_yes Hc.out hf)
      clear hf
      go_wp2_with fail
      go_loopw [9, 25] (fun o i wr => ∃ k : Nat, k ≤ n3 ∧ i = .int .i64 k ∧ (∃ A m c, o = .slice A m c ∧ m = (relTo (confB n l) s k).length ∧ wr.ownsRow w2.heap.size 2 1 (.slice A m c) m (ints (relTo (confB n l) s k))) ∧ Gr w2 wr) (fun _ i _ => n3 - (intOf i).toNat)
      case atStart => exact ⟨0, Nat.zero_le _, rfl, ⟨_, _, _, rfl, rfl, World.ownsRow_nil _ _ _ _⟩, Gr.refl _⟩
      case round =>
        obtain ⟨k, hk, rfl, ⟨A, m, c, rfl, hm, hown⟩, hgr⟩ := hrel
        have hmk : m ≤ k := by rw [hm]; exact relTo_len _ _ _
        have Hown := Lib.hid hown
        have Hm := Lib.hid hm
        have hsz := hgr.size
        clear hown hm
        by_cases hlt : k < n3
        · have hgx := hgw.trans hgr
          have d0 := hgr.has b0
          have d1 := hgr.has b1
          have t1 : (k : Int) < (n3 : Int) := by omega
          have t0 : (0 : Int) ≤ (k : Int) := by omega
          by_cases hin : (k : Int) ∈ s
          · have tin : decide ((k : Int) ∈ s) = true := by simp [hin]
            have Hst := Lib.hid (re_in (p := confB n l) hin)
            have Htin := Lib.hid tin
            clear hin tin
            go_wp2_with fail
            refine wp_region_text (fun w' => Gr wr w') (by kernel_rfl) (by kernel_rfl) (by decide) (Gr.refl _).drew ?_
            repeat (first
            | ((with_reducible refine wpText_skip ?_ ?_)
               · rfl
               simp only [Act.put, List.setIfInBounds_toArray, List.set_cons_zero, List.set_cons_succ])
            | ((with_reducible refine wpText_yield (v := ?_) ?_ ?_ ?_)
               rotate_left
               · rfl
               · intro W hW; first | (go_simp; done) | (go_simp; with_reducible rfl)
               simp only [Act.put, List.setIfInBounds_toArray, List.set_cons_zero, List.set_cons_succ])
            | ((with_reducible refine wpText_yield1 (v := ?_) ?_ ?_ ?_)
               rotate_left
               · rfl
               · intro W hW; first | (go_simp; done) | (go_simp; with_reducible rfl)
               simp only [Act.put, List.setIfInBounds_toArray, List.set_cons_zero, List.set_cons_succ]))
            refine wpText_do (.bool true) (by rfl) (fun W hW K hK => ?_) ?_
            · go_simp
              refine (containsInt_any s (k : Int) _ (HS.out.gr (hgx.trans hW))).mono ?_
              rintro e w' ⟨rfl, rfl⟩
              rw [Htin.out]
              exact hK _ hW
            simp only [Act.put, List.setIfInBounds_toArray, List.set_cons_zero, List.set_cons_succ]
            repeat (first
            | ((with_reducible refine wpText_skip ?_ ?_)
               · rfl
               simp only [Act.put, List.setIfInBounds_toArray, List.set_cons_zero, List.set_cons_succ])
            | ((with_reducible refine wpText_yield (v := ?_) ?_ ?_ ?_)
               rotate_left
               · rfl
               · intro W hW; first | (go_simp; done) | (go_simp; with_reducible rfl)
               simp only [Act.put, List.setIfInBounds_toArray, List.set_cons_zero, List.set_cons_succ])
            | ((with_reducible refine wpText_yield1 (v := ?_) ?_ ?_ ?_)
               rotate_left
               · rfl
               · intro W hW; first | (go_simp; done) | (go_simp; with_reducible rfl)
               simp only [Act.put, List.setIfInBounds_toArray, List.set_cons_zero, List.set_cons_succ]))
            intro w6 hS6
            go_wp2_with fail
            go_roundw
            case rel => exact ⟨k + 1, by omega, by go_num, ⟨_, _, _, rfl, by rw [Hst.out]; exact Hm.out, by rw [Hst.out]; exact own_gr Hown.out hS6⟩, hgr.trans hS6⟩
            case measure => simp [intOf]; omega
          · have tin : decide ((k : Int) ∈ s) = false := by simp [hin]
            have Hnd : Hid (Nd l.length (s ++ [(k : Int)])) := Lib.hid (Hs.out.snoc hin (by omega) (by rw [Hl3.out]; omega))
            have h44 : n4 + 1 ≤ 1048576 := by have h1 := Hnd.out.len; have h2 := Hl3.out; have h3 := Hl4.out; simp at h1; omega
            have Hin := Lib.hid hin
            clear hin
            have hlit : (wr.alloc (.cells #[.int .i64 (k : Int)] 2)).cell? ⟨wr.heap.size, 0, none⟩ = some (.int .i64 (k : Int)) := by simp [go_sem]
            go_wp2_with fail
            go_region_held3 (fun w' => Gr wr w' ∧ w'.cell? ⟨w.heap.size, 0, none⟩ = some (.slice A1 n1 c1) ∧ w'.cell? ⟨w.heap.size, 1, none⟩ = some (.slice A2 n2 c2))
              (first | exact ⟨(Gr.refl _).drew, d0, d1⟩ | exact ⟨((Gr.refl _).alloc _).drew, ((Gr.refl _).alloc _).has d0, ((Gr.refl _).alloc _).has d1⟩ | exact ⟨by assumption, (by assumption : Gr wr _).has d0, (by assumption : Gr wr _).has d1⟩ | exact ⟨Gr.alloc (by assumption) _, (Gr.alloc (by assumption : Gr wr _) _).has d0, (Gr.alloc (by assumption : Gr wr _) _).has d1⟩)
              (first
                | (go_at_call 100; refine (containsInt_any s (k : Int) _ (HS.out.gr (by first | exact hgx.drew | exact (hgx.alloc _).drew))).mono ?_; rintro e w' ⟨rfl, rfl⟩; rw [tin])
                | (go_at_call 98; refine (cloneInt_any (ints s) _ hm4 (HS.out.gr (by first | exact hgx.drew | exact (hgx.alloc _).drew)).sl (ints_one s)).mono ?_; rintro e w5 ⟨A', c', rfl, ho, hg5⟩; have Ho := Lib.hid (own_base ho (by simp : wr.heap.size ≤ _)); clear ho; have hx : Gr wr w5 := Gr.trans (by first | exact (Gr.refl _).drew | exact ((Gr.refl _).alloc _).drew) hg5; have hx5 := hx.size)
                | (refine step_append_g _ (by rfl) _ _ _ (by rfl) wr.heap.size 2 i0 _ 1 8 Try.underlying26 hi0 hz0 hz1 hz2 rfl (by omega) _ n4 _ (by rfl) (Ho.out.alloc _) ⟨w5.heap.size, 0, none⟩ 1 1 [.int .i64 (k : Int)] (by rfl) (by rfl) (news_one (by simp [go_sem])) (by simp [Value.oneCell']) (by omega) (by unfold maxLen; omega) (by omega) (by simp; omega) _ rfl ?_; intro g6 cap6 w6 ho6 hg6; have Ho6 := Lib.hid (own_cells_eq ho6 (ints_snoc s (k : Int)).symm); clear ho6; have hy : Gr wr w6 := (hx.alloc _).grown hg6 (fun j hj => own_base_le Ho.out hj))
                | (refine step_append_g _ (by rfl) _ _ _ (by rfl) wr.heap.size 2 i0 _ 1 8 Try.underlying26 hi0 hz0 hz1 hz2 rfl (by omega) _ n4 _ (by rfl) Ho.out ⟨wr.heap.size, 0, none⟩ 1 1 [.int .i64 (k : Int)] (by rfl) (by rfl) (news_one (hg5.has hlit)) (by simp [Value.oneCell']) (by omega) (by unfold maxLen; omega) (by omega) (by omega) _ rfl ?_; intro g6 cap6 w6 ho6 hg6; have Ho6 := Lib.hid (own_cells_eq ho6 (ints_snoc s (k : Int)).symm); clear ho6; have hy : Gr wr w6 := hx.grown hg6 (fun j hj => own_base_le Ho.out hj))
                | (go_at_call 95; refine (isConflict_any n l (s ++ [(k : Int)]) _ (HA.out.gr (hgx.trans hy)) (HL.out.gr (hgx.trans hy)) (SlAt.of_own Ho6.out h44) Hok1.out Hnd.out).mono ?_; rintro e w7 ⟨rfl, hg7⟩; have hz : Gr wr w7 := hy.trans hg7))
            all_goals
              clear hlit
              have hsz7 := (hgr.trans hz).size
              have Hown7 := Lib.hid (own_gr Hown.out hz)
              have hg9 : Gr w2 w7 := hgr.trans hz
              cases hf : confB n l (s ++ [(k : Int)]) with
              | true =>
                have Hst := Lib.hid (re_no hf)
                clear hf
                go_wp2_with fail
                go_roundw
                case rel => exact ⟨k + 1, by omega, by go_num, ⟨_, _, _, rfl, by rw [Hst.out]; exact Hm.out, by rw [Hst.out]; exact Hown7.out⟩, hg9⟩
                case measure => simp [intOf]; omega
              | false =>
                have Hst := Lib.hid (re_add Hin.out hf)
                clear hf
                go_wp2_with (at_builtin; refine wpList_append_own _ rfl _ _ _ rfl w2.heap.size 2 i0 _ 1 8 Try.underlying26 hi0 hz0 hz1 hz2 rfl (by omega) _ m _ rfl (Hown7.out.alloc _) ⟨w7.heap.size, 0, none⟩ 1 1 [.int .i64 (k : Int)] rfl rfl (World.news_of_block (cs := #[.int .i64 (k : Int)]) (t := 2) (fr := (0, 0)) (heap_alloc_new w7 _)) (by simp [Value.oneCell']) (by unfold maxLen; omega) (by omega) (by simp; omega) ?_; intro v' w8 hown8 hg8 _)
                obtain ⟨A8, c8, rfl⟩ := own_shape hown8
                have Ho8 := Lib.hid (own_cells_eq hown8 (ints_snoc (relTo (confB n l) s k) (k : Int)).symm)
                clear hown8
                go_wp2_with fail
                go_roundw
                case rel => exact ⟨k + 1, by omega, by go_num, ⟨_, _, _, rfl, by rw [Hst.out, List.length_append, ← Hm.out]; rfl, by rw [Hst.out]; exact Ho8.out⟩, (hg9.alloc _).grown hg8 (fun j hj => own_base_le Hown7.out hj)⟩
                case measure => simp [intOf]; omega
        · obtain rfl : k = n3 := by omega
          go_wp2_with fail
          go_ret2
          refine ⟨_, _, _, by rw [Hv.out.1]; rfl, by omega, ?_, hgw.trans hgr⟩
          rw [reRes, if_pos Hv.out.1, Hl3.out]
          exact own_base Hown.out hgw.size
  · have Hv := Lib.hid (cf_bad (n := n) (l := l) (s := s) hc)
    have Hne := Lib.hid hc
    have Hc := Lib.hid hc
    have tb : (csCode n l s != 0) = true := by simp [hc]
    have tc : (csCode n l s == 0) = false := by simp [hc]
    clear hc
    go_wp2_with fail
    go_ret2
    refine ⟨none, 0, 0, by rw [Hv.out.1]; rfl, by omega, ?_, hg0⟩
    rw [re_bad (by rw [Hv.out.1]; exact Hne.out)]
    exact World.ownsRow_nil _ _ _ _
set_option maxHeartbeats 4000000 in
set_option maxRecDepth 100000 in
theorem spRelievers_any {A1 A2 A3 A4 : Option Addr} {n1 c1 n2 c2 n3 c3 n4 c4 : Nat} (n : GNet) (l : List GTr) (s : List Int) (w : World) (hA : NetAt w A1 n1 c1 A2 n2 c2 n) (hL : SlAt w 4 A3 n3 c3 (l.flatMap GTr.cells)) (hS : SlAt w 1 A4 n4 c4 (ints s)) :
    Calls Try.prog 55 #[.agg #[.slice A1 n1 c1, .slice A2 n2 c2], .slice A3 n3 c3, .slice A4 n4 c4] w fun e w' => ∃ A m c, e = .returned (.tuple #[.slice A m c, .int .i64 (cfCode n l s)]) ∧ m ≤ 1048576 ∧ w'.ownsRow w.heap.size 2 1 (.slice A m c) m (ints (reRes n l s)) ∧ Gr w w' := by
  obtain ⟨i0, hi0, hz0, hz1, hz2⟩ := info_parts infoInt64
  have hm4 := hS.small
  have HA := Lib.hid hA
  have hm3 := hL.small
  have hl3 := hL.sl.len GTr.cells_len (by omega)
  have hl4 := hS.sl.ilen
  have HL := Lib.hid hL
  have HS := Lib.hid hS
  have Hl3 := Lib.hid hl3
  have Hl4 := Lib.hid hl4
  clear hA hL hS hl3 hl4
  go_enter Try.func55, Try.ntmps55
  go_wp2_with fail
  refine (l26Code_any n l s _ (HA.out.gr ((Gr.refl _).alloc _)) (HL.out.gr ((Gr.refl _).alloc _)) (HS.out.gr ((Gr.refl _).alloc _))).mono ?_
  rintro e w1 ⟨rfl, hg1⟩
  have hg0 : Gr w w1 := ((Gr.refl _).alloc _).trans hg1
  have b0 : w1.cell? ⟨w.heap.size, 0, none⟩ = some (.slice A1 n1 c1) := hg1.has (by simp [go_sem])
  have b1 : w1.cell? ⟨w.heap.size, 1, none⟩ = some (.slice A2 n2 c2) := hg1.has (by simp [go_sem])
  clear hg1
  by_cases hc : csCode n l s = 0
  · have Hc := Lib.hid hc
    have Hn := Lib.hid (trCode_zero (csCode_zero hc).1).1
    have Hok1 : Hid (trsOk n1 l = true) := Lib.hid (by rw [← HA.out.l1]; exact (trCode_zero (csCode_zero hc).1).2)
    have Hs := Lib.hid (setOk_nd (csCode_zero hc).2)
    have tb : (csCode n l s != 0) = false := by simp [hc]
    have tc : (csCode n l s == 0) = true := by simp [hc]
    clear hc
    go_wp2_with fail
    refine (l26Fit_any n l s _ (HA.out.gr hg0) (HL.out.gr hg0) (HS.out.gr hg0) Hok1.out Hs.out).mono ?_
    rintro e w2 ⟨rfl, hg2⟩
    have hgw := hg0.trans hg2
    replace b0 := hg2.has b0
    replace b1 := hg2.has b1
    cases hf : confB n l s with
    | false =>
      have Hv := Lib.hid (cf_no Hc.out hf)
      clear hf
      go_wp2_with fail
      go_ret2
      refine ⟨none, 0, 0, by rw [Hv.out.1]; rfl, by omega, ?_, hgw⟩
      rw [re_bad (by rw [Hv.out.1]; decide)]
      exact World.ownsRow_nil _ _ _ _
    | true =>
      have Hv := Lib.hid (cf_yes Hc.out hf)
      have hpos : 0 < n4 := by
        rcases Nat.eq_zero_or_pos n4 with h0 | h0
        · have h1 := Hl4.out
          rw [h0] at h1
          rw [List.eq_nil_of_length_eq_zero h1, confB_nil Hn.out l] at hf
          cases hf
        · exact h0
      obtain ⟨b4, o4, rfl, _⟩ := HS.out.sl.2 hpos
      have Hcells := Lib.hid (HS.out.sl.cells)
      have Hlen4 := Lib.hid HS.out.sl.1
      clear hf
      go_wp2_with fail
      go_loopw [9, 10] (fun o i wr => ∃ k : Nat, k ≤ n3 ∧ i = .int .i64 k ∧ (∃ A m c, o = .slice A m c ∧ m = (relTo (confB n l) s k).length ∧ wr.ownsRow w2.heap.size 2 1 (.slice A m c) m (ints (relTo (confB n l) s k))) ∧ Gr w2 wr) (fun _ i _ => n3 - (intOf i).toNat)
      case atStart => exact ⟨0, Nat.zero_le _, rfl, ⟨_, _, _, rfl, rfl, World.ownsRow_lit w2 #[] 0 (Nat.le_refl _) (by unfold maxLen; omega) rfl⟩, (Gr.refl _).alloc _⟩
      case round =>
        obtain ⟨k, hk, rfl, ⟨A, m, c, rfl, hm, hown⟩, hgr⟩ := hrel
        have hmk : m ≤ k := by rw [hm]; exact relTo_len _ _ _
        have Hown := Lib.hid hown
        have Hm := Lib.hid hm
        have hsz := hgr.size
        clear hown hm
        by_cases hlt : k < n3
        · have hgx := hgw.trans hgr
          have d0 := hgr.has b0
          have d1 := hgr.has b1
          have t1 : (k : Int) < (n3 : Int) := by omega
          have t0 : (0 : Int) ≤ (k : Int) := by omega
          by_cases hin : (k : Int) ∈ s
          · have tin : decide ((k : Int) ∈ s) = true := by simp [hin]
            have Hst := Lib.hid (re_in (p := confB n l) hin)
            have Htin := Lib.hid tin
            clear hin tin
            go_wp2_with fail
            refine wp_region_text (fun w' => Gr wr w') (by kernel_rfl) (by kernel_rfl) (by decide) (Gr.refl _).drew ?_
            repeat (first
            | ((with_reducible refine wpText_skip ?_ ?_)
               · rfl
               simp only [Act.put, List.setIfInBounds_toArray, List.set_cons_zero, List.set_cons_succ])
            | ((with_reducible refine wpText_yield (v := ?_) ?_ ?_ ?_)
               rotate_left
               · rfl
               · intro W hW; first | (go_simp; done) | (go_simp; with_reducible rfl)
               simp only [Act.put, List.setIfInBounds_toArray, List.set_cons_zero, List.set_cons_succ])
            | ((with_reducible refine wpText_yield1 (v := ?_) ?_ ?_ ?_)
               rotate_left
               · rfl
               · intro W hW; first | (go_simp; done) | (go_simp; with_reducible rfl)
               simp only [Act.put, List.setIfInBounds_toArray, List.set_cons_zero, List.set_cons_succ]))
            refine wpText_do (.bool true) (by rfl) (fun W hW K hK => ?_) ?_
            · go_simp
              refine (l02Has_any s (k : Int) _ (HS.out.gr (hgx.trans hW))).mono ?_
              rintro e w' ⟨rfl, rfl⟩
              rw [Htin.out]
              exact hK _ hW
            simp only [Act.put, List.setIfInBounds_toArray, List.set_cons_zero, List.set_cons_succ]
            repeat (first
            | ((with_reducible refine wpText_skip ?_ ?_)
               · rfl
               simp only [Act.put, List.setIfInBounds_toArray, List.set_cons_zero, List.set_cons_succ])
            | ((with_reducible refine wpText_yield (v := ?_) ?_ ?_ ?_)
               rotate_left
               · rfl
               · intro W hW; first | (go_simp; done) | (go_simp; with_reducible rfl)
               simp only [Act.put, List.setIfInBounds_toArray, List.set_cons_zero, List.set_cons_succ])
            | ((with_reducible refine wpText_yield1 (v := ?_) ?_ ?_ ?_)
               rotate_left
               · rfl
               · intro W hW; first | (go_simp; done) | (go_simp; with_reducible rfl)
               simp only [Act.put, List.setIfInBounds_toArray, List.set_cons_zero, List.set_cons_succ]))
            intro w6 hS6
            go_wp2_with fail
            go_roundw
            case rel => exact ⟨k + 1, by omega, by go_num, ⟨_, _, _, rfl, by rw [Hst.out]; exact Hm.out, by rw [Hst.out]; exact own_gr Hown.out hS6⟩, hgr.trans hS6⟩
            case measure => simp [intOf]; omega
          · have tin : decide ((k : Int) ∈ s) = false := by simp [hin]
            have Hnd : Hid (Nd l.length (s ++ [(k : Int)])) := Lib.hid (Hs.out.snoc hin (by omega) (by rw [Hl3.out]; omega))
            have h44 : n4 + 1 ≤ 1048576 := by have h1 := Hnd.out.len; have h2 := Hl3.out; have h3 := Hl4.out; simp at h1; omega
            have Hin := Lib.hid hin
            clear hin
            have own0 : (wr.alloc (.cells #[] 2)).ownsRow wr.heap.size 2 1 (.slice (some ⟨wr.heap.size, 0, none⟩) 0 0) 0 [] := World.ownsRow_lit wr #[] 0 (Nat.le_refl _) (by unfold maxLen; omega) rfl
            have own1 : ((wr.alloc (.cells #[.int .i64 (k : Int)] 2)).alloc (.cells #[] 2)).ownsRow wr.heap.size 2 1 (.slice (some ⟨wr.heap.size + 1, 0, none⟩) 0 0) 0 [] := by
              have q := World.ownsRow_lit (wr.alloc (.cells #[.int .i64 (k : Int)] 2)) (e := 2) (size := 1) #[] 0 (Nat.le_refl _) (by unfold maxLen; omega) rfl
              rw [World.size_alloc] at q
              exact own_base q (by omega)
            have Own0 := Lib.hid own0
            have Own1 := Lib.hid own1
            have HcW : Hid (∀ j u, (ints s)[j]? = some u → wr.cell? ((⟨b4, o4, none⟩ : Addr).add j) = some u) := Lib.hid (fun j u hu => hgx.has (Hcells.out j u hu))
            clear own0 own1
            go_wp2_with fail
            go_region_held3 (fun w' => Gr wr w' ∧ w'.cell? ⟨w.heap.size, 0, none⟩ = some (.slice A1 n1 c1) ∧ w'.cell? ⟨w.heap.size, 1, none⟩ = some (.slice A2 n2 c2))
              (first | exact ⟨(Gr.refl _).drew, d0, d1⟩ | exact ⟨((Gr.refl _).alloc _).drew, ((Gr.refl _).alloc _).has d0, ((Gr.refl _).alloc _).has d1⟩ | exact ⟨(((Gr.refl _).alloc _).alloc _).drew, (((Gr.refl _).alloc _).alloc _).has d0, (((Gr.refl _).alloc _).alloc _).has d1⟩ | exact ⟨by assumption, (by assumption : Gr wr _).has d0, (by assumption : Gr wr _).has d1⟩ | exact ⟨Gr.alloc (by assumption) _, (Gr.alloc (by assumption : Gr wr _) _).has d0, (Gr.alloc (by assumption : Gr wr _) _).has d1⟩)
              (first
                | (go_at_call 99; refine (l02Has_any s (k : Int) _ (HS.out.gr (by first | exact hgx.drew | exact (hgx.alloc _).drew))).mono ?_; rintro e w' ⟨rfl, rfl⟩; rw [tin])
                | (refine step_append_g _ (by rfl) _ _ _ (by rfl) wr.heap.size 2 i0 _ 1 8 Try.underlying26 hi0 hz0 hz1 hz2 rfl (by omega) _ n4 _ (by rfl) (Ho.out.alloc _) ⟨w5.heap.size, 0, none⟩ 1 1 [.int .i64 (k : Int)] (by rfl) (by rfl) (news_one (by simp [go_sem])) (by simp [Value.oneCell']) (by omega) (by unfold maxLen; omega) (by omega) (by simp; omega) _ rfl ?_; intro g6 cap6 w6 ho6 hg6; have Ho6 := Lib.hid (own_cells_eq ho6 (ints_snoc s (k : Int)).symm); clear ho6; have hy : Gr wr w6 := (hx.alloc _).grown hg6 (fun j hj => own_base_le Ho.out hj))
                | (refine step_append_g _ (by rfl) _ _ _ (by rfl) wr.heap.size 2 i0 _ 1 8 Try.underlying26 hi0 hz0 hz1 hz2 rfl (by omega) _ n4 _ (by rfl) Ho.out ⟨wr.heap.size + 1, 0, none⟩ 1 1 [.int .i64 (k : Int)] (by rfl) (by rfl) (news_one hl1) (by simp [Value.oneCell']) (by omega) (by unfold maxLen; omega) (by omega) (by omega) _ rfl ?_; intro g6 cap6 w6 ho6 hg6; have Ho6 := Lib.hid (own_cells_eq ho6 (ints_snoc s (k : Int)).symm); clear ho6; have hy : Gr wr w6 := hx.grown hg6 (fun j hj => own_base_le Ho.out hj))
                | (refine step_append_g _ (by rfl) _ _ _ (by rfl) wr.heap.size 2 i0 _ 1 8 Try.underlying26 hi0 hz0 hz1 hz2 rfl (by omega) _ n4 _ (by rfl) Ho.out ⟨wr.heap.size, 0, none⟩ 1 1 [.int .i64 (k : Int)] (by rfl) (by rfl) (news_one hl1) (by simp [Value.oneCell']) (by omega) (by unfold maxLen; omega) (by omega) (by omega) _ rfl ?_; intro g6 cap6 w6 ho6 hg6; have Ho6 := Lib.hid (own_cells_eq ho6 (ints_snoc s (k : Int)).symm); clear ho6; have hy : Gr wr w6 := hx.grown hg6 (fun j hj => own_base_le Ho.out hj))
                | (refine step_append_g _ (by rfl) _ _ _ (by rfl) wr.heap.size 2 i0 _ 1 8 Try.underlying26 hi0 hz0 hz1 hz2 rfl (by omega) _ 0 [] (by rfl) Own0.out.drew ⟨b4, o4, none⟩ n4 c4 (ints s) (by rfl) Hlen4.out (fun j u hu => ((Gr.refl wr).alloc _).has (HcW.out j u hu)) (ints_one s) hpos (by unfold maxLen; omega) (by omega) (by simp) n4 (Nat.zero_add n4) ?_; intro g5 cap5 w5 ho5 hg5; rw [List.nil_append] at ho5; have Ho := Lib.hid ho5; clear ho5; have hx : Gr wr w5 := (((Gr.refl wr).alloc _).drew).grown hg5 (fun j hj => by injection hj with hj; exact Nat.le_of_eq hj); have hx5 := hx.size)
                | (refine step_append_g _ (by rfl) _ _ _ (by rfl) wr.heap.size 2 i0 _ 1 8 Try.underlying26 hi0 hz0 hz1 hz2 rfl (by omega) _ 0 [] (by rfl) (Own0.out.alloc _).drew ⟨b4, o4, none⟩ n4 c4 (ints s) (by rfl) Hlen4.out (fun j u hu => (((Gr.refl wr).alloc _).alloc _).has (HcW.out j u hu)) (ints_one s) hpos (by unfold maxLen; omega) (by omega) (by simp; omega) n4 (Nat.zero_add n4) ?_; intro g5 cap5 w5 ho5 hg5; rw [List.nil_append] at ho5; have Ho := Lib.hid ho5; clear ho5; have hl1 : w5.cell? ⟨wr.heap.size + 1, 0, none⟩ = some (.int .i64 (k : Int)) := hg5.cell (by simp [go_sem]) (by simp [Value.ownBlock]); have hx : Gr wr w5 := ((((Gr.refl wr).alloc _).alloc _).drew).grown hg5 (fun j hj => by injection hj with hj; exact Nat.le_of_eq hj); have hx5 := hx.size)
                | (refine step_append_g _ (by rfl) _ _ _ (by rfl) wr.heap.size 2 i0 _ 1 8 Try.underlying26 hi0 hz0 hz1 hz2 rfl (by omega) _ 0 [] (by rfl) Own1.out.drew ⟨b4, o4, none⟩ n4 c4 (ints s) (by rfl) Hlen4.out (fun j u hu => (((Gr.refl wr).alloc _).alloc _).has (HcW.out j u hu)) (ints_one s) hpos (by unfold maxLen; omega) (by omega) (by simp; omega) n4 (Nat.zero_add n4) ?_; intro g5 cap5 w5 ho5 hg5; rw [List.nil_append] at ho5; have Ho := Lib.hid ho5; clear ho5; have hl1 : w5.cell? ⟨wr.heap.size, 0, none⟩ = some (.int .i64 (k : Int)) := hg5.cell (by simp [go_sem]) (by simp [Value.ownBlock]); have hx : Gr wr w5 := ((((Gr.refl wr).alloc _).alloc _).drew).grown hg5 (fun j hj => by injection hj with hj; exact Nat.le_trans (Nat.le_succ _) (Nat.le_of_eq hj)); have hx5 := hx.size)
                | (go_at_call 93; refine (l26Fit_any n l (s ++ [(k : Int)]) _ (HA.out.gr (hgx.trans hy)) (HL.out.gr (hgx.trans hy)) (SlAt.of_own Ho6.out (by omega)) Hok1.out Hnd.out).mono ?_; rintro e w7 ⟨rfl, hg7⟩; have hz : Gr wr w7 := hy.trans hg7))
            all_goals
              have hsz7 := (hgr.trans hz).size
              have Hown7 := Lib.hid (own_gr Hown.out hz)
              have hg9 : Gr w2 w7 := hgr.trans hz
              cases hf : confB n l (s ++ [(k : Int)]) with
              | true =>
                have Hst := Lib.hid (re_no hf)
                clear hf
                go_wp2_with fail
                go_roundw
                case rel => exact ⟨k + 1, by omega, by go_num, ⟨_, _, _, rfl, by rw [Hst.out]; exact Hm.out, by rw [Hst.out]; exact Hown7.out⟩, hg9⟩
                case measure => simp [intOf]; omega
              | false =>
                have Hst := Lib.hid (re_add Hin.out hf)
                clear hf
                go_wp2_with (at_builtin; refine wpList_append_own _ rfl _ _ _ rfl w2.heap.size 2 i0 _ 1 8 Try.underlying26 hi0 hz0 hz1 hz2 rfl (by omega) _ m _ rfl (Hown7.out.alloc _) ⟨w7.heap.size, 0, none⟩ 1 1 [.int .i64 (k : Int)] rfl rfl (World.news_of_block (cs := #[.int .i64 (k : Int)]) (t := 2) (fr := (0, 0)) (heap_alloc_new w7 _)) (by simp [Value.oneCell']) (by unfold maxLen; omega) (by omega) (by simp; omega) ?_; intro v' w8 hown8 hg8 _)
                obtain ⟨A8, c8, rfl⟩ := own_shape hown8
                have Ho8 := Lib.hid (own_cells_eq hown8 (ints_snoc (relTo (confB n l) s k) (k : Int)).symm)
                clear hown8
                go_wp2_with fail
                go_roundw
                case rel => exact ⟨k + 1, by omega, by go_num, ⟨_, _, _, rfl, by rw [Hst.out, List.length_append, ← Hm.out]; rfl, by rw [Hst.out]; exact Ho8.out⟩, (hg9.alloc _).grown hg8 (fun j hj => own_base_le Hown7.out hj)⟩
                case measure => simp [intOf]; omega
        · obtain rfl : k = n3 := by omega
          go_wp2_with fail
          go_ret2
          refine ⟨_, _, _, by rw [Hv.out.1]; rfl, by omega, ?_, hgw.trans hgr⟩
          rw [reRes, if_pos Hv.out.1, Hl3.out]
          exact own_base Hown.out hgw.size
  · have Hv := Lib.hid (cf_bad (n := n) (l := l) (s := s) hc)
    have Hne := Lib.hid hc
    have Hc := Lib.hid hc
    have tb : (csCode n l s != 0) = true := by simp [hc]
    have tc : (csCode n l s == 0) = false := by simp [hc]
    clear hc
    go_wp2_with fail
    go_ret2
    refine ⟨none, 0, 0, by rw [Hv.out.1]; rfl, by omega, ?_, hg0⟩
    rw [re_bad (by rw [Hv.out.1]; exact Hne.out)]
    exact World.ownsRow_nil _ _ _ _
end Go.Proofs.Ytaicmgbmlkhagaa
