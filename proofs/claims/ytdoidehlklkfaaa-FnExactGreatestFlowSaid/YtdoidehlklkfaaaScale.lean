/-
  Scales and scaled transports: the program's part.
-/
import Derived.Test.YtdoidehlklkfaaaScaleM
namespace Go.Proofs.Ytdoidehlklkfaaa
open Go.ChangeShapes Go.WideShapes Go.ChangeAt Go.RowKit

theorem areScales_any {A : Option Addr} {n c : Nat} (sc : List Int) (w : World) (hL : SlAt w 1 A n c (ints sc)) :
    Calls Try.prog 99 #[.slice A n c] w fun e w' => e = .returned (.bool (scOk sc)) ∧ w = w' := by
  have hlen := hL.sl.ilen
  have Hlen := Lib.hid hlen
  have hm := hL.small
  have HL := Lib.hid hL
  clear hL hlen
  by_cases h : n = 4
  · subst h
    go_enter Try.func99, Try.ntmps99
    go_wp2_with fail
    refine (allWithin_any sc _ _ _ HL.out).mono ?_
    rintro e w1 ⟨rfl, rfl⟩
    go_wp2_with fail
    go_ret
    exact ⟨ret_bool (by simp [scOk, Hlen.out]), rfl⟩
  · have t : ((n : Int) == 4) = false := by simp; omega
    go_enter Try.func99, Try.ntmps99
    go_wp2_with fail
    go_ret
    exact ⟨ret_bool (by simp [scOk, Hlen.out, h]), rfl⟩
set_option maxRecDepth 100000 in
theorem scaledTransports_any {A A4 : Option Addr} {n c n4 c4 : Nat} (nn : Int) (l : List GTr) (sc : List Int) (w : World) (hL : SlAt w 4 A n c (l.flatMap GTr.cells)) (hS : SlAt w 1 A4 n4 c4 (ints sc)) (hok : trsOk nn l = true) (hsc : scOk sc = true) :
    Calls Try.prog 100 #[.slice A n c, .slice A4 n4 c4] w fun e w' => ∃ A' c', e = .returned (.slice A' n c') ∧ w'.ownsRow w.heap.size 86 4 (.slice A' n c') n ((scaled sc l).flatMap GTr.cells) ∧ Gr w w' := by
  have hlen := hL.sl.len GTr.cells_len (by omega)
  have hlen4 := hS.sl.ilen
  have Hlen := Lib.hid hlen
  have Hlen4 := Lib.hid hlen4
  have hm := hL.small
  have HL := Lib.hid hL
  have HS := Lib.hid hS
  have Hok := Lib.hid hok
  have Hsc := Lib.hid hsc
  clear hL hS hok hsc hlen hlen4
  go_enter Try.func100, Try.ntmps100
  go_wp2_with fail
  refine (cloneTr_any (l.flatMap GTr.cells) _ hm HL.out.sl (flat_one GTr.one l)).mono ?_
  rintro e w1 ⟨A', c', rfl, hown, hg1⟩
  have Hown := Lib.hid hown
  clear hown
  go_wp2_with fail
  go_loopw [11] (fun i wr => ∃ k : Nat, k ≤ n ∧ i = .int .i64 k ∧ wr.ownsRow w.heap.size 86 4 (.slice A' n c') n ((mapTo (scaleOne sc) l k).flatMap GTr.cells) ∧ Gr w wr) (fun i _ => n - (intOf i).toNat)
  case atStart => exact ⟨0, Nat.zero_le _, rfl, by rw [mapTo_zero]; exact Hown.out, hg1⟩
  case round =>
    obtain ⟨k, hk, rfl, hownr, hgr⟩ := hrel
    by_cases hlt : k < n
    · obtain ⟨x, hx⟩ : ∃ x, l[k]? = some x := ⟨_, List.getElem?_eq_getElem (by have := Hlen.out; omega)⟩
      obtain ⟨_, _, _, p4, p5⟩ := trOk_all ((trsOk_all Hok.out).2 k x hx)
      obtain ⟨q1, q2⟩ := scOk_all Hsc.out
      have hn4 : n4 = 4 := by have := Hlen4.out; omega
      subst hn4
      have hgs := get_of_lt (l := sc) (k := x.cls.toNat) (by omega)
      obtain ⟨s, hs⟩ : ∃ s, s = sc.getD x.cls.toNat 0 := ⟨_, rfl⟩
      rw [← hs] at hgs
      obtain ⟨b4, o4, rfl, hb4, r0⟩ := (HS.out.sl.gr hgr).int hgs
      have hsb := q2 _ _ hgs
      obtain ⟨g, rfl, hgb, hgl⟩ := own_form hownr (by omega)
      obtain ⟨d0, d1, d2, d3, f0, f1, f2, f3⟩ := own_tr hownr (mapTo_get (scaleOne sc) l hx)
      have R := own_set_tr_amount hownr (scaleAmt sc x) (mapTo_get (scaleOne sc) l hx)
      have eR : (mapTo (scaleOne sc) l k).set k ⟨x.entry, x.exit, scaleAmt sc x, x.cls⟩ = mapTo (scaleOne sc) l (k + 1) := mapTo_set (scaleOne sc) l hx
      rw [eR] at R
      have HR := Lib.hid R
      have hp := mul_bnd p4 hsb
      obtain ⟨p, hpe⟩ : ∃ p, p = x.amount * s := ⟨_, rfl⟩
      rw [← hpe] at hp
      have hae : p / 100 = scaleAmt sc x := by rw [hpe, hs]; rfl
      have Hae := Lib.hid hae
      have s1 : 0 ≤ x.cls := p5.1
      have s2 : x.cls < 4 := by omega
      have t1 : (k : Int) < (n : Int) := by omega
      have t0 : (0 : Int) ≤ (k : Int) := by omega
      have Hpe := Lib.hid hpe
      clear hx hownr R eR hs hgs hae hpe p5 d0 d1 f0 f1 f3 q2
      go_wp2_with fail
      have hw1 : IntKind.i64.wrap (x.amount * s) = p := by rw [IntWalk.i64_in _ (by rw [← Hpe.out]; omega), Hpe.out]
      have hw2 : IntKind.i64.wrap (p.tdiv 100) = p / 100 := by rw [Int.tdiv_eq_ediv_of_nonneg hp.1]; exact IntWalk.i64_in _ (by omega)
      refine wp_region_last (fun w' => w' = wr.drew) (fun w' => w' = (wr.setCell ⟨g, k * 4 + 2, none⟩ (.int .i64 (p / 100))).drew) (by kernel_rfl) (by kernel_rfl) (by decide) rfl ?_
      repeat (first
            | ((with_reducible refine wpText_skip ?_ ?_)
               · rfl
               simp only [Act.put, List.setIfInBounds_toArray, List.set_cons_zero, List.set_cons_succ])
            | ((with_reducible refine wpText_yield (v := ?_) ?_ ?_ ?_)
               rotate_left
               · rfl
               · intro W hW; first | (go_simp; done) | (go_simp; with_reducible rfl)
               simp only [Act.put, List.setIfInBounds_toArray, List.set_cons_zero, List.set_cons_succ])
            | ((with_reducible refine wpText_yield1 (v := ?_) ?_ ?_ ?_)
               rotate_left
               · rfl
               · intro W hW; first | (go_simp; done) | (go_simp; with_reducible rfl)
               simp only [Act.put, List.setIfInBounds_toArray, List.set_cons_zero, List.set_cons_succ]))
      (first
            | ((with_reducible refine wpText_do1 undef ?_ ?_ ?_)
               · rfl
               · intro W hW K hK
                 subst hW
                 go_simp
                 exact hK _ rfl
               simp only [Act.put]))
      rintro w3 rfl
      clear hw1 hw2
      go_wp2_with fail
      go_roundw
      case rel =>
        refine ⟨k + 1, by omega, by go_num, ?_, ?_⟩
        · rw [Hae.out]; exact HR.out.1.drew
        · rw [Hae.out]; exact (hgr.grown HR.out.2 (fun _ e => by injection e with e; omega)).drew
      case measure => simp [intOf]; omega
    · obtain rfl : k = n := by omega
      have Hownr := Lib.hid hownr
      clear hownr
      go_wp2_with fail
      go_ret
      refine ⟨_, _, rfl, ?_, hgr⟩
      have h := Hownr.out
      rw [mapTo_full _ _ _ (by rw [Hlen.out]; exact Nat.le_refl _)] at h
      exact h
end Go.Proofs.Ytdoidehlklkfaaa
