/-
  Draws: flow lists. Printed by gen_draw17.py.
-/
import Derived.Test.YtbbecboihmmllaaDrawG
set_option linter.unusedSimpArgs false
set_option linter.unusedVariables false
namespace Go.Proofs.Ytbbecboihmmllaa
open Go.ChangeShapes Go.WideShapes Go.ChangeAt Go.RowKit

set_option maxHeartbeats 6400000 in
set_option maxRecDepth 100000 in
theorem l05DrawFlows_any {w0 w : World} {S : Nat} {A1 A2 : Option Addr} {n1 c1 n2 c2 : Nat} (h : Drw w0 w S) (hn : n2 ≤ 1000) :
    Calls Try.prog 38 #[.pointer (some ⟨S, 0, none⟩), .agg #[.slice A1 n1 c1, .slice A2 n2 c2]] w fun e w' => ∃ A m c, ∃ zs : List Int, e = .returned (.slice A m c) ∧ m ≤ n2 + 1 ∧ w'.ownsRow w.heap.size 2 1 (.slice A m c) m (ints zs) ∧ Drw w0 w' S ∧ Chg (fun k => k = S) w w' := by
  obtain ⟨i0, hi0, hz0, hz1, hz2⟩ := info_parts infoInt64
  have hlt := h.lt
  have hbw := h.gr.size
  have H := Lib.hid h
  clear h
  go_enter Try.func38, Try.ntmps38
  go_wp2_with fail
  obtain ⟨w4, hw4⟩ : ∃ W, W = w.alloc (.cells #[.slice A1 n1 c1, .slice A2 n2 c2] 27) := ⟨_, rfl⟩
  have hg4 : Gr w w4 := by rw [hw4]; exact (Gr.refl _).alloc _
  have b1 : w4.cell? ⟨w.heap.size, 1, none⟩ = some (.slice A2 n2 c2) := by rw [hw4]; simp [go_sem]
  have hs4 : w4.heap.size = w.heap.size + 1 := by rw [hw4]; simp
  rw [← hw4]
  obtain ⟨B, hB⟩ : ∃ B, B = w.heap.size := ⟨_, rfl⟩
  rw [← hB] at b1 hs4
  rw [← hB]
  have hBS : S < B := by omega
  have hS4 : S < w4.heap.size := by omega
  have h04 : w0.heap.size ≤ w4.heap.size := by omega
  have Hd4 := Lib.hid (H.out.grow hg4)
  have Q5 : Hid (RowSt (fun z : Int => [Value.int .i64 z]) 2 1 w0 w4 (w4.alloc (.cells #[] 2)) S (some ⟨B + 1, 0, none⟩) 0 0) := Lib.hid (by have := RowSt.init (f := fun z : Int => [Value.int .i64 z]) (e := 2) (sz := 1) Hd4.out (by omega); rw [hs4] at this; exact this)
  have HB := Lib.hid hB
  have Hw4 := Lib.hid hw4
  clear hw4 hB
  have Hend : Hid (∀ (wz : World) (A' : Option Addr) (u' c' : Nat), RowSt (fun z : Int => [Value.int .i64 z]) 2 1 w0 w4 wz S A' u' c' → ∃ zs : List Int, wz.ownsRow w.heap.size 2 1 (.slice A' u' c') u' (ints zs) ∧ Drw w0 wz S ∧ Chg (fun k => k = S) w wz) := Lib.hid (fun wz A' u' c' q => by
    obtain ⟨ls, hls⟩ := q.row
    have hb := HB.out
    exact ⟨ls, own_base (own_eq' hls (flat_int ls)) (by omega), q.dr, (hg4.chg _).trans q.ch⟩)
  clear hg4
  go_loopw [5, 6] (fun o i wq => ∃ k : Nat, k ≤ n2 ∧ i = .int .i64 k ∧ ∃ A c, o = .slice A k c ∧ RowSt (fun z : Int => [Value.int .i64 z]) 2 1 w0 w4 wq S A k c) (fun _ i _ => n2 - (intOf i).toNat)
  case atStart => exact ⟨0, Nat.zero_le _, rfl, _, _, rfl, Q5.out⟩
  case round =>
    obtain ⟨u, hk, rfl, A, cc, rfl, q⟩ := hrel
    have QQ := Lib.hid q
    have m1 := chg_cell' QQ.out.ch b1 (by simp only; omega)
    clear q Q5
    by_cases hkn : u < n2
    · have t1 : (u : Int) < (n2 : Int) := by omega
      go_wp2_with fail
      refine (l01Next_any 60 QQ.out.dr (by omega)).mono ?_
      rintro e w5 ⟨x, rfl, hx, hd5, hc5⟩
      obtain ⟨x0, x1⟩ := hx.lt (by omega)
      have Q := Lib.hid (QQ.out.next hS4 hd5 hc5)
      have hwx : IntKind.i64.wrap (x - 30) = x - 30 := IntWalk.i64_in _ (by omega)
      clear hx hd5 hc5 QQ m1
      obtain ⟨ls, hls⟩ := Q.out.row
      have Hls := Lib.hid hls
      have hws := Q.out.ch.size
      clear hls
      go_wp2_with (at_builtin; (refine wpList_append_own _ rfl _ _ _ rfl w4.heap.size 2 i0 _ 1 8 Try.underlying28 hi0 hz0 hz1 hz2 rfl (by omega) _ u _ rfl (Hls.out.alloc _) ⟨w5.heap.size, 0, none⟩ 1 1 [.int .i64 (x - 30)] rfl rfl (World.news_of_block (cs := #[.int .i64 (x - 30)]) (t := 2) (fr := (0, 0)) (heap_alloc_new w5 _)) (by simp [Value.oneCell']) (by unfold maxLen; omega) (by omega) (by simp; omega) ?_; intro v' w20 hown20 hg20 _; obtain ⟨A', c', rfl⟩ := own_shape hown20; have Q20 := Lib.hid (Q.out.add (x := (x - 30)) hS4 h04 hown20 hg20); clear hown20 hg20 Hls))
      go_wp2_with fail
      go_roundw
      case rel => exact ⟨u + 1, by omega, by go_num, _, _, rfl, Q20.out⟩
      case measure => simp [intOf]; omega
    · obtain rfl : n2 = u := by omega
      go_wp2_with fail
      refine (l01Next_any 30 QQ.out.dr (by omega)).mono ?_
      rintro e w5 ⟨t, rfl, ht, hd5, hc5⟩
      have Q := Lib.hid (QQ.out.next hS4 hd5 hc5)
      clear ht hd5 hc5 QQ m1
      by_cases h0 : t = 0
      · subst h0
        obtain ⟨ls, hls⟩ := Q.out.row
        have Hls := Lib.hid hls
        have hws := Q.out.ch.size
        clear hls
        go_wp2_with (at_builtin; (refine wpList_append_own _ rfl _ _ _ rfl w4.heap.size 2 i0 _ 1 8 Try.underlying28 hi0 hz0 hz1 hz2 rfl (by omega) _ n2 _ rfl (Hls.out.alloc _) ⟨w5.heap.size, 0, none⟩ 1 1 [.int .i64 0] rfl rfl (World.news_of_block (cs := #[.int .i64 0]) (t := 2) (fr := (0, 0)) (heap_alloc_new w5 _)) (by simp [Value.oneCell']) (by unfold maxLen; omega) (by omega) (by simp; omega) ?_; intro v' w20 hown20 hg20 _; obtain ⟨A', c', rfl⟩ := own_shape hown20; have Q20 := Lib.hid (Q.out.add (x := 0) hS4 h04 hown20 hg20); clear hown20 hg20 Hls))
        go_wp2_with fail
        go_ret
        obtain ⟨zs, e1, e2, e3⟩ := Hend.out _ _ _ _ Q20.out
        exact ⟨_, _, _, zs, rfl, by omega, e1, e2, e3⟩
      by_cases h1 : t = 1
      · subst h1
        by_cases hu0 : n2 = 0
        · subst hu0
          go_wp2_with fail
          go_ret
          obtain ⟨zs, e1, e2, e3⟩ := Hend.out _ _ _ _ Q.out
          exact ⟨_, _, _, zs, rfl, by omega, e1, e2, e3⟩
        have tu : decide ((0 : Int) < (n2 : Int)) = true := by simp; omega
        have lo := World.ownsRow_lit w5 (e := 2) (size := 1) #[.int .i64 30000, .int .i64 30001, .int .i64 (-30000)] 3 (Nat.le_refl _) (by unfold maxLen; omega) rfl
        have LO := Lib.hid lo
        have Q7 := Lib.hid (Q.out.next hS4 (Q.out.dr.grow ((Gr.refl _).alloc (.cells #[.int .i64 30000, .int .i64 30001, .int .i64 (-30000)] 2))) (((Gr.refl _).alloc (.cells #[.int .i64 30000, .int .i64 30001, .int .i64 (-30000)] 2)).chg _))
        have hS5 : S < w5.heap.size := Q.out.dr.lt
        clear lo
        go_wp2_with fail
        refine (l01Next_any 3 Q7.out.dr (by omega)).mono ?_
        rintro e w6 ⟨z, rfl, hz, hd6, hc6⟩
        obtain ⟨z0, z1⟩ := hz.lt (by omega)
        have lo2 := own_chg LO.out hc6 (fun j hj e => by have := own_low LO.out hj; omega)
        obtain ⟨v, hv⟩ := own_pick (zs := [30000, 30001, -30000]) lo2 z0 z1
        have Q8 := Lib.hid (Q7.out.next hS4 hd6 hc6)
        obtain ⟨ls, hls⟩ := Q8.out.row
        obtain ⟨b, rfl, hbb, hbl⟩ := own_form hls (by omega)
        obtain ⟨x, hx⟩ : ∃ x, ls[0]? = some x := ⟨_, List.getElem?_eq_getElem (by have := own_ilen (own_eq' hls (flat_int ls)); omega)⟩
        obtain ⟨p0, p1⟩ := own_int (own_eq' hls (flat_int ls)) hx
        have t0 : (0 : Int) < (n2 : Int) := by omega
        have Q20 := Lib.hid (Q8.out.put hS4 h04 0 v)
        clear hz hd6 hc6 lo2 LO Q7 Q hls hx
        go_wp2_with fail
        go_ret
        obtain ⟨zs, e1, e2, e3⟩ := Hend.out _ _ _ _ Q20.out
        exact ⟨_, _, _, zs, rfl, by omega, e1, e2, e3⟩
      have tt0 : (t == 0) = false := by simp [h0]
      have tt1 : (t == 1) = false := by simp [h1]
      clear h0 h1
      go_wp2_with fail
      go_ret
      obtain ⟨zs, e1, e2, e3⟩ := Hend.out _ _ _ _ Q.out
      exact ⟨_, _, _, zs, rfl, by omega, e1, e2, e3⟩
end Go.Proofs.Ytbbecboihmmllaa
