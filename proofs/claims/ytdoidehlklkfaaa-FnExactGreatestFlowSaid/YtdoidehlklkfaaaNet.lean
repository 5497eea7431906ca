/-
  The law's helpers on networks: copies, comparison, marks.
-/
import Derived.Test.YtdoidehlklkfaaaHelp
import Derived.Laws.BytesArg
namespace Go.Proofs.Ytdoidehlklkfaaa
open Go.ChangeShapes Go.WideShapes Go.ChangeAt Go.RowKit

theorem toNetwork_any (A1 A2 : Option Addr) (n1 c1 n2 c2 : Nat) (n : GNet) (w : World) (hl1 : n1 ≤ 1048576) (hl2 : n2 ≤ 1048576) (hA : NetRaw w A1 n1 A2 n2 n) :
    Calls Try.prog 18 #[.agg #[.slice A1 n1 c1, .slice A2 n2 c2]] w fun e w' => ∃ B1 d1 B2 d2, e = .returned (.agg #[.slice B1 n1 d1, .slice B2 n2 d2]) ∧ OwnNet w' w.heap.size B1 n1 d1 B2 n2 d2 n ∧ Gr w w' := by
  have HA := Lib.hid hA
  clear hA
  go_enter Try.func18, Try.ntmps18
  go_wp2_with fail
  refine (toNodeS_any A1 n1 c1 n.nodes _ hl1 (HA.out.1.gr ((((Gr.refl _).alloc _).alloc _).alloc _))).mono ?_
  rintro e w1 ⟨B1, d1, rfl, hown1, hg1⟩
  have Hown1 := Lib.hid hown1
  clear hown1
  have k1 := hg1.has (p := ⟨w.heap.size, 1, none⟩) (v := .slice A2 n2 c2) (by simp [go_sem])
  have k2 := hg1.has (p := ⟨w.heap.size + 1 + 1, 0, none⟩) (v := .slice none 0 0) (by simp [go_sem])
  have k3 := hg1.has (p := ⟨w.heap.size + 1 + 1, 1, none⟩) (v := .slice none 0 0) (by simp [go_sem])
  have k4 := hg1.has (p := ⟨w.heap.size + 1, 0, none⟩) (v := .slice none 0 0) (by simp [go_sem])
  have k5 := hg1.has (p := ⟨w.heap.size + 1, 1, none⟩) (v := .slice none 0 0) (by simp [go_sem])
  have f1 : w1.frozen? ⟨w.heap.size + 1 + 1, 0, none⟩ = false := by rw [hg1.frozen (by simp)]; simp [go_sem]
  have f2 : w1.frozen? ⟨w.heap.size + 1 + 1, 1, none⟩ = false := by rw [hg1.frozen (by simp)]; simp [go_sem]
  have f3 : w1.frozen? ⟨w.heap.size + 1, 0, none⟩ = false := by rw [hg1.frozen (by simp)]; simp [go_sem]
  have f4 : w1.frozen? ⟨w.heap.size + 1, 1, none⟩ = false := by rw [hg1.frozen (by simp)]; simp [go_sem]
  have hz := hg1.size
  simp at hz
  go_wp2_with fail
  have hgw : Gr w w1 := ((((Gr.refl _).alloc _).alloc _).alloc _).trans hg1
  have hgs : Gr w (w1.setCell ⟨w.heap.size + 1 + 1, 0, none⟩ (Value.slice B1 n1 d1)) := hgw.setCell (by show w.heap.size ≤ w.heap.size + 1 + 1; omega) _
  refine (toPipeS_any A2 n2 c2 n.pipes _ hl2 (HA.out.2.1.gr hgs)).mono ?_
  rintro e w2 ⟨B2, d2, rfl, hown2, hg2⟩
  have Hown2 := Lib.hid hown2
  clear hown2
  have g2 := hg2.has (p := ⟨w.heap.size + 1 + 1, 0, none⟩) (v := .slice B1 n1 d1) (by simp [go_sem, k2])
  have g3 := hg2.has (p := ⟨w.heap.size + 1 + 1, 1, none⟩) (v := .slice none 0 0) (by simp [go_sem, k3])
  have g4 := hg2.has (p := ⟨w.heap.size + 1, 0, none⟩) (v := .slice none 0 0) (by simp [go_sem, k4])
  have g5 := hg2.has (p := ⟨w.heap.size + 1, 1, none⟩) (v := .slice none 0 0) (by simp [go_sem, k5])
  have h1 : w2.frozen? ⟨w.heap.size + 1 + 1, 0, none⟩ = false := by rw [hg2.frozen (by simp; omega)]; simp [go_sem, f1]
  have h2 : w2.frozen? ⟨w.heap.size + 1 + 1, 1, none⟩ = false := by rw [hg2.frozen (by simp; omega)]; simp [go_sem, f2]
  have h3 : w2.frozen? ⟨w.heap.size + 1, 0, none⟩ = false := by rw [hg2.frozen (by simp; omega)]; simp [go_sem, f3]
  have h4 : w2.frozen? ⟨w.heap.size + 1, 1, none⟩ = false := by rw [hg2.frozen (by simp; omega)]; simp [go_sem, f4]
  clear k1 k2 k3 k4 k5 f1 f2 f3 f4
  go_wp2_with fail
  refine bodyPost_ret (v := .agg #[.slice B1 n1 d1, .slice B2 n2 d2]) (by simp [results, Try.results18, go_sem, g4, g5]) rfl ⟨B1, d1, B2, d2, rfl, ⟨?_, ?_, HA.out.2.2, hl1, hl2⟩, ?_⟩
  · have r1 := own_base Hown1.out (base' := w.heap.size + 1 + 1 + 1) (by simp)
    have r2 := own_gr (ownsRow_setCell_below r1 (a := ⟨w.heap.size + 1 + 1, 0, none⟩) (by simp) (Value.slice B1 n1 d1)) hg2
    exact own_base (ownsRow_setCell_below (ownsRow_setCell_below (ownsRow_setCell_below r2 (by simp) _) (by simp) _) (by simp) _) (by omega)
  · have r1 := own_base Hown2.out (base' := w.heap.size + 1 + 1 + 1) (by simp; omega)
    exact own_base (ownsRow_setCell_below (ownsRow_setCell_below (ownsRow_setCell_below r1 (by simp) _) (by simp) _) (by simp) _) (by omega)
  · exact (((hgs.trans hg2).setCell (by simp; omega) _).setCell (by simp) _).setCell (by simp) _

theorem eqNetwork_same (A1 A2 B1 B2 : Option Addr) (n1 c1 n2 c2 d1 d2 : Nat) (n : GNet) (w : World) (hA : NetAt w A1 n1 c1 A2 n2 c2 n) (hB : NetAt w B1 n1 d1 B2 n2 d2 n) :
    Calls Try.prog 21 #[.agg #[.slice A1 n1 c1, .slice A2 n2 c2], .agg #[.slice B1 n1 d1, .slice B2 n2 d2]] w fun e w' => e = .returned (.bool true) ∧ Gr w w' := by
  have HA := Lib.hid hA
  have HB := Lib.hid hB
  clear hA hB
  go_enter Try.func21, Try.ntmps21
  go_wp2_with fail
  refine (eqNodeS_same A1 B1 n1 c1 d1 n.nodes _ HA.out.m1 (HA.out.nodes.gr (((Gr.refl _).alloc _).alloc _)) (HB.out.nodes.gr (((Gr.refl _).alloc _).alloc _))).mono ?_
  rintro e w1 ⟨rfl, hg1⟩
  have k1 := hg1.has (p := ⟨w.heap.size, 1, none⟩) (v := .slice A2 n2 c2) (by simp [go_sem])
  have k2 := hg1.has (p := ⟨w.heap.size + 1, 1, none⟩) (v := .slice B2 n2 d2) (by simp [go_sem])
  have hgw : Gr w w1 := (((Gr.refl _).alloc _).alloc _).trans hg1
  go_wp2_with fail
  refine (eqPipeS_same A2 B2 n2 c2 d2 n.pipes _ HA.out.m2 (HA.out.pipes.gr hgw) (HB.out.pipes.gr hgw)).mono ?_
  rintro e w2 ⟨rfl, hg2⟩
  go_wp2_with fail
  go_ret
  exact ⟨rfl, hgw.trans hg2⟩
theorem markText_any (k : Int) (w : World) (h1 : 0 ≤ k) (h2 : k ≤ 1099511627776) :
    Calls Try.prog 128 #[.int .i64 k] w fun e w' => ∃ s : ByteArray, e = .returned (.string s) ∧ Gr w w' := by
  by_cases h : k ≤ 0
  · go_enter Try.func128, Try.ntmps128
    go_wp2_with fail
    go_ret
    exact ⟨_, rfl, Gr.refl _⟩
  · have hcv : ∀ (W : World) (v : Int) (t : TypeId), (convert 172 9 (.slice (some ⟨W.heap.size, 0, none⟩) 1 1)).run Try.prog (W.alloc (.cells #[.int .u8 v] t)) = .ok (.string (strOfNums [v])) (W.alloc (.cells #[.int .u8 v] t)) := by
      intro W v t
      refine run_convert_bytes_arg (P := Try.prog) _ 172 5 Try.underlying172 Try.underlying5 W.heap.size 0 1 1 [v] rfl ?_ _ Try.underlying9
      intro i hi
      obtain rfl : i = 0 := by omega
      simp [go_sem]
    have hsz : ∀ v : Int, (strOfNums [v]).size = 1 := fun v => rfl
    go_enter Try.func128, Try.ntmps128
    go_wp2_with fail
    go_loopw [0, 3] (fun i s wr => ∃ j : Int, ∃ t : ByteArray, i = .int .i64 j ∧ s = .string t ∧ 0 ≤ j ∧ j ≤ k ∧ (t.size : Int) + j ≤ k ∧ Gr w wr) (fun i _ _ => (intOf i).toNat)
    case atStart => exact ⟨k, _, rfl, rfl, by omega, by omega, by simp [ByteArray.size], Gr.refl _⟩
    case round =>
      obtain ⟨j, t, rfl, rfl, hj1, hj2, hj3, hgr⟩ := hrel
      by_cases hj : 0 < j
      · go_wp2_with fail
        go_roundw
        case rel => exact ⟨j / 10, _, rfl, rfl, by omega, by omega, by simp [hsz]; omega, hgr.alloc _⟩
        case measure => simp [intOf]; omega
      · go_wp2_with fail
        go_ret
        exact ⟨⟨_, rfl⟩, hgr⟩
theorem markNodeS_any (A : Option Addr) (n cp base : Nat) (e0 : TypeId) (ys : List GNode) (c0 : Int) (w : World) (hn : n ≤ 1048576) (h0 : 0 ≤ c0) (h1 : c0 ≤ 549755813888) (hA : w.ownsRow base e0 3 (.slice A n cp) n (ys.flatMap GNode.cells)) :
    Calls Try.prog 79 #[.slice A n cp, .int .i64 c0] w fun e w' => e = .returned (.int .i64 (c0 + 3 * n)) ∧ w.grownBy w' (Value.slice A n cp).ownBlock := by
  have HA := Lib.hid hA
  clear hA
  go_enter Try.func79, Try.ntmps79
  go_wp2_with fail
  go_loopw [1, 5, 15, 16, 17] (fun q i _ _ _ wr => ∃ k : Nat, ∃ c : Int, ∃ zs : List GNode, k ≤ n ∧ i = .int .i64 k ∧ q = .int .i64 c ∧ c = c0 + 3 * k ∧ wr.ownsRow base e0 3 (.slice A n cp) n (zs.flatMap GNode.cells) ∧ w.grownBy wr (Value.slice A n cp).ownBlock) (fun _ i _ _ _ _ => n - (intOf i).toNat)
  case atStart => exact ⟨0, c0, ys, Nat.zero_le _, rfl, rfl, by omega, HA.out, World.grownBy.refl w _⟩
  case round =>
    obtain ⟨k, c, zs, hk, rfl, rfl, hc, hown, hgr⟩ := hrel
    by_cases hlt : k < n
    · have c1 : 0 ≤ c := by omega
      have c2 : c ≤ 1099511627776 := by omega
      have hlen := own_len hown GNode.cells_len (by omega)
      obtain ⟨x, hx⟩ : ∃ x, zs[k]? = some x := ⟨_, List.getElem?_eq_getElem (by omega)⟩
      obtain ⟨g, rfl, _, _⟩ := own_form hown (by omega)
      have Hc := Lib.hid hc
      have Hg := Lib.hid hgr
      have Hown := Lib.hid hown
      have Hx := Lib.hid hx
      clear hown hc hx hgr hlen
      go_wp2_with fail
      refine (markText_any c _ (by omega) (by omega)).mono ?_
      rintro e w1 ⟨t, rfl, hg1⟩
      have hown := own_gr Hown.out hg1
      obtain ⟨d0, d1, d2, f0, f1, f2⟩ := own_nd hown Hx.out
      have R := own_set_nd hown ⟨t, c + 1, c + 1 + 1⟩ hlt
      have HR := Lib.hid R
      clear hown R
      go_wp2_with fail
      go_roundw
      case rel => exact ⟨k + 1, c + 1 + 1 + 1, _, by omega, by go_num, rfl, by have := Hc.out; omega, HR.out.1, grown_trans Hg.out (grown_trans (grown_gr hg1 _) HR.out.2)⟩
      case measure => simp [intOf]; omega
    · obtain rfl : k = n := by omega
      have Hc := Lib.hid hc
      clear hc
      go_wp2_with fail
      go_ret
      exact ⟨ret_int Hc.out, hgr⟩
/-- The marks on a network: what lies outside of its own two rows is as it was. -/
theorem markNetwork_any (A1 A2 : Option Addr) (n1 d1 n2 d2 lo hi : Nat) (n : GNet) (c0 : Int) (w : World) (h0 : 0 ≤ c0) (h1 : c0 ≤ 274877906944)
    (hA : OwnNet w lo A1 n1 d1 A2 n2 d2 n) (hh1 : ∀ k, (Value.slice A1 n1 d1).ownBlock = some k → k < hi) (hh2 : ∀ k, (Value.slice A2 n2 d2).ownBlock = some k → k < hi) :
    Calls Try.prog 33 #[.agg #[.slice A1 n1 d1, .slice A2 n2 d2], .int .i64 c0] w fun e w' => e = .returned (.int .i64 (c0 + 3 * n1 + 5 * n2)) ∧ Chg (fun k => lo ≤ k ∧ k < hi) w w' := by
  have HA := Lib.hid hA
  have H1 := Lib.hid hh1
  have H2 := Lib.hid hh2
  clear hA hh1 hh2
  have hl1 := HA.out.m1
  have hl2 := HA.out.m2
  have L1 := Lib.hid HA.out.nodes.lt
  have L2 := Lib.hid HA.out.pipes.lt
  have hne : (Value.slice A2 n2 d2).ownBlock = none ∨ (Value.slice A2 n2 d2).ownBlock ≠ (Value.slice A1 n1 d1).ownBlock := by
    obtain ⟨h1, h2, _, _, _⟩ := HA.out
    rcases h2.2 with ⟨hv, _⟩ | ⟨k, cap, cur, hv, _, hk, _⟩
    · left; rw [hv]; rfl
    · right
      rw [hv]
      rcases h1.2 with ⟨hu, _⟩ | ⟨k', cap', cur', hu, _, hk', _⟩
      · rw [hu]; simp [Value.ownBlock]
      · rw [hu]
        simp only [Value.ownBlock, ne_eq, Option.some.injEq]
        rintro rfl
        rw [hk] at hk'
        injection hk' with hk'
        injection hk' with _ ht
        simp at ht
  have Hne := Lib.hid hne
  clear hne
  go_enter Try.func33, Try.ntmps33
  go_wp2_with fail
  refine (markNodeS_any A1 n1 d1 lo 142 n.nodes c0 _ hl1 h0 (by omega) (own_gr HA.out.nodes ((Gr.refl _).alloc _))).mono ?_
  rintro e w1 ⟨rfl, hg1⟩
  have hb1 : ∀ k, (Value.slice A1 n1 d1).ownBlock = some k → k < w.heap.size := fun k hk => (L1.out k hk).2
  have k1 : w1.cell? ⟨w.heap.size, 1, none⟩ = some (.slice A2 n2 d2) := hg1.cell (by simp [go_sem]) (fun e => by have := hb1 _ e.symm; simp at this)
  have hown2 := (own_gr HA.out.pipes ((Gr.refl _).alloc (.cells #[.slice A1 n1 d1, .slice A2 n2 d2] 33))).kept hg1 Hne.out
  have Hown2 := Lib.hid hown2
  clear hown2
  go_wp2_with fail
  refine (markPipeS_any A2 n2 d2 lo 145 n.pipes _ _ hl2 (by omega) (by omega) Hown2.out).mono ?_
  rintro e w2 ⟨rfl, _, hg2⟩
  go_wp2_with fail
  go_ret
  refine ⟨rfl, ?_⟩
  have q1 : Chg (fun k => lo ≤ k ∧ k < hi) w w1 := (((Gr.refl w).alloc _).chg _).trans (chg_of_grown hg1 (fun k hk => ⟨(L1.out k hk).1, H1.out k hk⟩))
  exact q1.trans (chg_of_grown hg2 (fun k hk => ⟨(L2.out k hk).1, H2.out k hk⟩))
end Go.Proofs.Ytdoidehlklkfaaa
