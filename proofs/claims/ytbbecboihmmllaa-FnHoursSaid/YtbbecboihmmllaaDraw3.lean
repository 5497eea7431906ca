/-
  Draws: numbers in decimal, nodes.
-/
import Derived.Test.YtbbecboihmmllaaDraw2
import Derived.Laws.BytesArg
namespace Go.Proofs.Ytbbecboihmmllaa
open Go.ChangeShapes Go.WideShapes Go.ChangeAt Go.RowKit

set_option maxRecDepth 100000 in
theorem l01Dec_any (n : Int) (w : World) (hn : 0 ≤ n ∧ n < 10) :
    Calls Try.prog 71 #[.int .i64 n] w fun e w' => ∃ s : ByteArray, e = .returned (.string s) ∧ s.size = 1 ∧ Gr w w' := by
  have t1 : decide (n < 10) = true := by simp; omega
  have hg : Gr w (w.alloc (.cells #[.int .u8 (48 + n)] 5)) := (Gr.refl _).alloc _
  have hcv := run_convert_bytes_arg (P := Try.prog) (w.alloc (.cells #[.int .u8 (48 + n)] 5)) 22 5 Try.underlying22 Try.underlying5 w.heap.size 0 1 1 [48 + n] rfl (fun i hi => by
    have : i = 0 := by omega
    subst this
    simp [go_sem]) 9 Try.underlying9
  have hsz : (strOfNums [48 + n]).size = 1 := strOfNums_size _
  generalize strOfNums [48 + n] = s at hcv hsz
  go_enter Try.func71, Try.ntmps71
  go_wp2_with fail
  go_ret
  exact ⟨s, rfl, hsz, hg⟩
set_option maxHeartbeats 1600000 in
theorem l02DrawNode_any {w0 w : World} {S : Nat} (i : Int) (h : Drw w0 w S) (hi : 0 ≤ i ∧ i < 10) :
    Calls Try.prog 68 #[.pointer (some ⟨S, 0, none⟩), .int .i64 i] w fun e w' => ∃ x : GNode, e = .returned (.agg #[.string x.name, .int .i64 x.low, .int .i64 x.high]) ∧ x.name.size ≤ maxLen ∧ Drw w0 w' S ∧ Chg (fun k => k = S) w w' := by
  have hlt := h.lt
  have hbw := h.gr.size
  have H := Lib.hid h
  clear h
  go_enter Try.func68, Try.ntmps68
  go_wp2_with fail
  generalize hw1 : World.alloc w _ = w1
  have hR : w1.heap[w.heap.size]? = some (.cells #[.string ByteArray.empty, .int .i64 0, .int .i64 0] 74 (0, 0)) := by rw [← hw1]; exact heap_alloc_new w _
  have hg1 : Gr w w1 := by rw [← hw1]; exact (Gr.refl _).alloc _
  obtain ⟨R, hRe⟩ : ∃ R, R = w.heap.size := ⟨_, rfl⟩
  rw [← hRe] at hR ⊢
  have hRS : R ≠ S := by omega
  have hRw : w.heap.size ≤ R := by omega
  have hRw0 : w0.heap.size ≤ R := by omega
  have HR := Lib.hid hR
  clear hw1 hRe hR
  refine (l01Next_any 4000 (H.out.grow hg1) (by omega)).mono ?_
  rintro e w2 ⟨x, rfl, hx, hd2, hc2⟩
  obtain ⟨x0, x1⟩ := hx.lt (by omega)
  have Hd2 := Lib.hid hd2
  have HR2 := Lib.hid (rb_chg HR.out hc2 hRS)
  have hcc2 := (hg1.chg (fun k => k = S)).trans hc2
  clear hx hd2 HR hc2
  go_wp2_with fail
  refine (l01Dec_any i _ hi).mono ?_
  rintro e w3 ⟨s, rfl, hs, hg3⟩
  have hs1 : 1 + s.size ≤ maxLen := by unfold maxLen; omega
  have Hd3 := Lib.hid (Hd2.out.grow hg3)
  have HR3 := Lib.hid ((hg3.below.block R (rb_lt HR2.out)).trans HR2.out)
  have hcc3 := hcc2.trans (hg3.chg (fun k => k = S))
  clear HR2 Hd2 hcc2 hg3
  go_wp2_with fail
  have hss : (({ data := #[110] } : ByteArray) ++ s).size ≤ maxLen := by
    rw [ByteArray.size_append]
    exact hs1
  generalize (({ data := #[110] } : ByteArray) ++ s) = nm at hss ⊢
  refine (l01Next_any 60000 Hd3.out (by omega)).mono ?_
  rintro e w4 ⟨y, rfl, hy, hd4, hc4⟩
  obtain ⟨y0, y1⟩ := hy.lt (by omega)
  have Hd4 := Lib.hid hd4
  have hR4 := rb_chg HR3.out hc4 hRS
  have hcc4 := hcc3.trans hc4
  have c0 := rb_cell (j := 0) hR4 rfl
  have c1 := rb_cell (j := 1) hR4 rfl
  have c2 := rb_cell (j := 2) hR4 rfl
  have f0 := rb_frozen hR4 0
  have f1 := rb_frozen hR4 1
  have f2 := rb_frozen hR4 2
  have HR4 := Lib.hid hR4
  clear hy hd4 hR4 hc4 hcc3 HR3 Hd3
  go_wp2_with fail
  refine bodyPost_ret (results_cell_row Try.results68 _ _ R 74 #[.string nm, .int .i64 x, .int .i64 (x + 2000 + y)] (0, 0) _ rfl (by simp [World.setCell, Array.getElem?_modify, HR4.out]) Try.underlying74 rfl (by kernel_rfl)) rfl ⟨⟨nm, x, x + 2000 + y⟩, rfl, hss, ?_, ?_⟩
  · exact ((Hd4.out.set hRw0 hRS).set hRw0 hRS).set hRw0 hRS
  · exact ((hcc4.fresh hRw).fresh hRw).fresh hRw
end Go.Proofs.Ytbbecboihmmllaa
