/-
  Conflicts: AcceptInOrder of the program and the reference.
-/
import Derived.Test.YtaicmgbmlkhagaaConf2
namespace Go.Proofs.Ytaicmgbmlkhagaa
open Go.ChangeShapes Go.WideShapes Go.ChangeAt Go.RowKit

noncomputable def acRes (n : GNet) (l : List GTr) : List Int := if trCode n l = 0 then accTo (confB n l) l.length else []
theorem accTo_keep {p : List Int → Bool} {k : Nat} (h : p (accTo p k ++ [(k : Int)]) = true) : accTo p (k + 1) = accTo p k := by rw [accTo, if_pos h]
theorem accTo_add {p : List Int → Bool} {k : Nat} (h : p (accTo p k ++ [(k : Int)]) = false) : accTo p (k + 1) = accTo p k ++ [(k : Int)] := by rw [accTo, if_neg (by simp [h])]
theorem accTo_len (p : List Int → Bool) (k : Nat) : (accTo p k).length ≤ k := (accTo_nd p k).len
set_option maxHeartbeats 2000000 in
set_option maxRecDepth 100000 in
theorem AcceptInOrder_any {A1 A2 A3 : Option Addr} {n1 c1 n2 c2 n3 c3 : Nat} (n : GNet) (l : List GTr) (w : World) (hA : NetAt w A1 n1 c1 A2 n2 c2 n) (hL : SlAt w 4 A3 n3 c3 (l.flatMap GTr.cells)) :
    Calls Try.prog 54 #[.agg #[.slice A1 n1 c1, .slice A2 n2 c2], .slice A3 n3 c3] w fun e w' => ∃ A m c, e = .returned (.tuple #[.slice A m c, .int .i64 (trCode n l)]) ∧ m ≤ 1048576 ∧ w'.ownsRow w.heap.size 2 1 (.slice A m c) m (ints (acRes n l)) ∧ Gr w w' := by
  obtain ⟨i0, hi0, hz0, hz1, hz2⟩ := info_parts infoInt64
  have HA := Lib.hid hA
  have hm3 := hL.small
  have hl3 := hL.sl.len GTr.cells_len (by omega)
  have HL := Lib.hid hL
  have Hl3 := Lib.hid hl3
  clear hA hL hl3
  go_enter Try.func54, Try.ntmps54
  go_wp2_with fail
  refine (checkTransports_any _ _ _ _ _ _ _ _ _ n l _ (HA.out.gr ((Gr.refl _).alloc _)) (HL.out.sl.gr ((Gr.refl _).alloc _)) HL.out.small).mono ?_
  rintro e w1 ⟨rfl, hg1⟩
  have hg0 : Gr w w1 := ((Gr.refl _).alloc _).trans hg1
  have b0 : w1.cell? ⟨w.heap.size, 0, none⟩ = some (.slice A1 n1 c1) := hg1.has (by simp [go_sem])
  have b1 : w1.cell? ⟨w.heap.size, 1, none⟩ = some (.slice A2 n2 c2) := hg1.has (by simp [go_sem])
  clear hg1
  by_cases hc : trCode n l = 0
  · have Hc := Lib.hid hc
    have Hn := Lib.hid (trCode_zero hc).1
    have Hok := Lib.hid (trCode_zero hc).2
    have Hok1 : Hid (trsOk n1 l = true) := Lib.hid (by rw [← HA.out.l1]; exact (trCode_zero hc).2)
    have tb : (trCode n l != 0) = false := by simp [hc]
    clear hc
    go_wp2_with fail
    go_loopw [7, 18] (fun o i wr => ∃ k : Nat, k ≤ n3 ∧ i = .int .i64 k ∧ (∃ A m c, o = .slice A m c ∧ m = (accTo (confB n l) k).length ∧ wr.ownsRow w1.heap.size 2 1 (.slice A m c) m (ints (accTo (confB n l) k))) ∧ Gr w1 wr) (fun _ i _ => n3 - (intOf i).toNat)
    case atStart => exact ⟨0, Nat.zero_le _, rfl, ⟨_, _, _, rfl, rfl, World.ownsRow_nil _ _ _ _⟩, Gr.refl _⟩
    case round =>
      obtain ⟨k, hk, rfl, ⟨A, m, c, rfl, hm, hown⟩, hgr⟩ := hrel
      have hmk : m ≤ k := by rw [hm]; exact accTo_len _ _
      have Hown := Lib.hid hown
      have Hm := Lib.hid hm
      clear hown hm
      by_cases hlt : k < n3
      · have hgx := hg0.trans hgr
        have d0 := hgr.has b0
        have d1 := hgr.has b1
        have t1 : (k : Int) < (n3 : Int) := by omega
        have t0 : (0 : Int) ≤ (k : Int) := by omega
        have Hnd : Hid (Nd l.length (accTo (confB n l) k ++ [(k : Int)])) := Lib.hid (accTo_next _ k (by rw [Hl3.out]; exact hlt))
        have hsz := hgr.size
        go_wp2_with fail
        refine (cloneInt_any _ _ (by omega) (Sl.of_own Hown.out) (ints_one _)).mono ?_
        rintro e w2 ⟨A', c', rfl, ho, hg2⟩
        have Ho := Lib.hid ho
        have hx2 := hg2.size
        clear ho
        go_wp2_with (at_builtin; refine wpList_append_own _ rfl _ _ _ rfl wr.heap.size 2 i0 _ 1 8 Try.underlying26 hi0 hz0 hz1 hz2 rfl (by omega) _ m _ rfl (Ho.out.alloc _) ⟨w2.heap.size, 0, none⟩ 1 1 [.int .i64 (k : Int)] rfl rfl (World.news_of_block (cs := #[.int .i64 (k : Int)]) (t := 2) (fr := (0, 0)) (heap_alloc_new w2 _)) (by simp [Value.oneCell']) (by unfold maxLen; omega) (by omega) (by simp; omega) ?_; intro v' w4 hown hg4 _; have hx4 : Gr wr w4 := (hg2.alloc _).grown hg4 (fun j hj => own_base_le Ho.out hj); replace d0 := hx4.has d0; replace d1 := hx4.has d1)
        have hsh := own_shape hown
        obtain ⟨A4, c4, rfl⟩ := hsh
        have o4 := own_cells_eq hown (ints_snoc (accTo (confB n l) k) (k : Int)).symm
        have O4 := Lib.hid o4
        clear hown o4
        refine (isConflict_any n l _ _ (HA.out.gr (hgx.trans hx4)) (HL.out.gr (hgx.trans hx4)) (SlAt.of_own O4.out (by omega)) Hok1.out Hnd.out).mono ?_
        rintro e w5 ⟨rfl, hg5⟩
        have hg6 : Gr w1 w5 := (hgr.trans hx4).trans hg5
        cases hf : confB n l (accTo (confB n l) k ++ [(k : Int)]) with
        | true =>
          have Hst := Lib.hid (accTo_keep hf)
          clear hf
          go_wp2_with fail
          go_roundw
          case rel => exact ⟨k + 1, by omega, by go_num, ⟨_, _, _, rfl, by rw [Hst.out]; exact Hm.out, by rw [Hst.out]; exact own_gr Hown.out (hx4.trans hg5)⟩, hg6⟩
          case measure => simp [intOf]; omega
        | false =>
          have Hst := Lib.hid (accTo_add hf)
          clear hf
          go_wp2_with fail
          go_roundw
          case rel => exact ⟨k + 1, by omega, by go_num, ⟨_, _, _, rfl, by rw [Hst.out, List.length_append, ← Hm.out]; rfl, by rw [Hst.out]; exact own_base (own_gr O4.out hg5) hsz⟩, hg6⟩
          case measure => simp [intOf]; omega
      · obtain rfl : k = n3 := by omega
        go_wp2_with fail
        go_ret2
        refine ⟨_, _, _, by rw [Hc.out]; rfl, by omega, ?_, hg0.trans hgr⟩
        rw [acRes, if_pos Hc.out, Hl3.out]
        exact own_base Hown.out hg0.size
  · have Hc := Lib.hid hc
    have tb : (trCode n l != 0) = true := by simp [hc]
    clear hc
    go_wp2_with fail
    go_ret2
    refine ⟨none, 0, 0, rfl, by omega, ?_, hg0⟩
    rw [acRes, if_neg Hc.out]
    exact World.ownsRow_nil _ _ _ _
set_option maxHeartbeats 2000000 in
set_option maxRecDepth 100000 in
theorem spAcceptInOrder_any {A1 A2 A3 : Option Addr} {n1 c1 n2 c2 n3 c3 : Nat} (n : GNet) (l : List GTr) (w : World) (hA : NetAt w A1 n1 c1 A2 n2 c2 n) (hL : SlAt w 4 A3 n3 c3 (l.flatMap GTr.cells)) :
    Calls Try.prog 53 #[.agg #[.slice A1 n1 c1, .slice A2 n2 c2], .slice A3 n3 c3] w fun e w' => ∃ A m c, e = .returned (.tuple #[.slice A m c, .int .i64 (trCode n l)]) ∧ m ≤ 1048576 ∧ w'.ownsRow w.heap.size 2 1 (.slice A m c) m (ints (acRes n l)) ∧ Gr w w' := by
  obtain ⟨i0, hi0, hz0, hz1, hz2⟩ := info_parts infoInt64
  have HA := Lib.hid hA
  have hm3 := hL.small
  have hl3 := hL.sl.len GTr.cells_len (by omega)
  have HL := Lib.hid hL
  have Hl3 := Lib.hid hl3
  clear hA hL hl3
  go_enter Try.func53, Try.ntmps53
  go_wp2_with fail
  refine (l24Code_any n l _ (HA.out.gr ((Gr.refl _).alloc _)) (HL.out.gr ((Gr.refl _).alloc _))).mono ?_
  rintro e w1 ⟨rfl, hg1⟩
  have hg0 : Gr w w1 := ((Gr.refl _).alloc _).trans hg1
  have b0 : w1.cell? ⟨w.heap.size, 0, none⟩ = some (.slice A1 n1 c1) := hg1.has (by simp [go_sem])
  have b1 : w1.cell? ⟨w.heap.size, 1, none⟩ = some (.slice A2 n2 c2) := hg1.has (by simp [go_sem])
  clear hg1
  by_cases hc : trCode n l = 0
  · have Hc := Lib.hid hc
    have Hn := Lib.hid (trCode_zero hc).1
    have Hok := Lib.hid (trCode_zero hc).2
    have Hok1 : Hid (trsOk n1 l = true) := Lib.hid (by rw [← HA.out.l1]; exact (trCode_zero hc).2)
    have tb : (trCode n l != 0) = false := by simp [hc]
    clear hc
    go_wp2_with fail
    go_loopw [7, 8] (fun o i wr => ∃ k : Nat, k ≤ n3 ∧ i = .int .i64 k ∧ (∃ g m c, o = .slice (some ⟨g, 0, none⟩) m c ∧ m = (accTo (confB n l) k).length ∧ wr.ownsRow w1.heap.size 2 1 (.slice (some ⟨g, 0, none⟩) m c) m (ints (accTo (confB n l) k))) ∧ Gr w1 wr) (fun _ i _ => n3 - (intOf i).toNat)
    case atStart => exact ⟨0, Nat.zero_le _, rfl, ⟨_, _, _, rfl, rfl, World.ownsRow_lit w1 #[] 0 (Nat.le_refl _) (by unfold maxLen; omega) rfl⟩, (Gr.refl _).alloc _⟩
    case round =>
      obtain ⟨k, hk, rfl, ⟨g, m, c, rfl, hm, hown⟩, hgr⟩ := hrel
      have hmk : m ≤ k := by rw [hm]; exact accTo_len _ _
      have hcells := (Sl.of_own hown).cells
      have Hcells := Lib.hid hcells
      have Hlen := Lib.hid (Sl.of_own hown).1
      have Hown := Lib.hid hown
      have Hm := Lib.hid hm
      clear hown hm hcells
      by_cases hlt : k < n3
      · have hgx := hg0.trans hgr
        have d0 := hgr.has b0
        have d1 := hgr.has b1
        have t1 : (k : Int) < (n3 : Int) := by omega
        have t0 : (0 : Int) ≤ (k : Int) := by omega
        have Hnd : Hid (Nd l.length (accTo (confB n l) k ++ [(k : Int)])) := Lib.hid (accTo_next _ k (by rw [Hl3.out]; exact hlt))
        have hsz := hgr.size
        go_wp2_with (at_builtin; first
          | (refine wpList_append_own _ rfl _ _ _ rfl wr.heap.size 2 i0 _ 1 8 Try.underlying26 hi0 hz0 hz1 hz2 rfl (by omega) _ m _ rfl (Ho5.out.alloc _) ⟨w5.heap.size, 0, none⟩ 1 1 [.int .i64 (k : Int)] rfl rfl (World.news_of_block (cs := #[.int .i64 (k : Int)]) (t := 2) (fr := (0, 0)) (heap_alloc_new w5 _)) (by simp [Value.oneCell']) (by unfold maxLen; omega) (by omega) (by simp; omega) ?_; intro v' w6 hown6 hg6 _; obtain ⟨A6, c6, rfl⟩ := own_shape hown6; have Ho6 := Lib.hid hown6; clear hown6; have hx6 : Gr wr w6 := (hx5.alloc _).grown hg6 (fun j hj => own_base_le Ho5.out hj); replace d0 := hx6.has d0; replace d1 := hx6.has d1)
          | (refine wpList_append_own _ rfl _ _ _ rfl wr.heap.size 2 i0 _ 1 8 Try.underlying26 hi0 hz0 hz1 hz2 rfl (by omega) _ 0 [] rfl (World.ownsRow_lit wr #[] 0 (Nat.le_refl _) (by unfold maxLen; omega) rfl) ⟨g, 0, none⟩ m c (ints (accTo (confB n l) k)) rfl Hlen.out (fun j u hu => ((Gr.refl wr).alloc _).has (Hcells.out j u hu)) (ints_one _) (by unfold maxLen; omega) (by omega) (by simp) ?_; intro v' w5 hown5 hg5 _; obtain ⟨A5, c5, rfl⟩ := own_shape hown5; rw [Nat.zero_add, List.nil_append] at hown5; have Ho5 := Lib.hid hown5; clear hown5; have hx5 : Gr wr w5 := ((Gr.refl wr).alloc _).grown hg5 (fun j hj => by injection hj with hj; exact Nat.le_of_eq hj); have hs5 := hx5.size))
        have o6 : w6.ownsRow wr.heap.size 2 1 (.slice A6 (m + 1) c6) (m + 1) (ints (accTo (confB n l) k ++ [(k : Int)])) := by
          have := Ho6.out
          rw [← ints_snoc] at this
          exact this
        obtain ⟨g6, rfl, _, _⟩ := own_form o6 (by omega)
        have O6 := Lib.hid o6
        clear o6 Ho6 Ho5
        try rw [Nat.zero_add]
        refine (l26Fit_any n l _ _ (HA.out.gr (hgx.trans hx6)) (HL.out.gr (hgx.trans hx6)) (SlAt.of_own O6.out (by omega)) Hok1.out Hnd.out).mono ?_
        rintro e w7 ⟨rfl, hg7⟩
        have hg8 : Gr w1 w7 := (hgr.trans hx6).trans hg7
        cases hf : confB n l (accTo (confB n l) k ++ [(k : Int)]) with
        | true =>
          have Hst := Lib.hid (accTo_keep hf)
          clear hf
          go_wp2_with fail
          go_roundw
          case rel => exact ⟨k + 1, by omega, by go_num, ⟨_, _, _, rfl, by rw [Hst.out]; exact Hm.out, by rw [Hst.out]; exact own_gr Hown.out (hx6.trans hg7)⟩, hg8⟩
          case measure => simp [intOf]; omega
        | false =>
          have Hst := Lib.hid (accTo_add hf)
          clear hf
          go_wp2_with fail
          go_roundw
          case rel => exact ⟨k + 1, by omega, by go_num, ⟨_, _, _, rfl, by rw [Hst.out, List.length_append, ← Hm.out]; rfl, by rw [Hst.out]; exact own_base (own_gr O6.out hg7) hsz⟩, hg8⟩
          case measure => simp [intOf]; omega
      · obtain rfl : k = n3 := by omega
        go_wp2_with fail
        go_ret2
        refine ⟨_, _, _, by rw [Hc.out]; rfl, by omega, ?_, hg0.trans hgr⟩
        rw [acRes, if_pos Hc.out, Hl3.out]
        exact own_base Hown.out hg0.size
  · have Hc := Lib.hid hc
    have tb : (trCode n l != 0) = true := by simp [hc]
    clear hc
    go_wp2_with fail
    go_ret2
    refine ⟨none, 0, 0, rfl, by omega, ?_, hg0⟩
    rw [acRes, if_neg Hc.out]
    exact World.ownsRow_nil _ _ _ _
end Go.Proofs.Ytaicmgbmlkhagaa
