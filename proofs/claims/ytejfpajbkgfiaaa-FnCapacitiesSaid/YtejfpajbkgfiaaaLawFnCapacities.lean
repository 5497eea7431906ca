/-
  For every input the law FnCapacities returns true. No condition. The walk is printed by gen_laws.py.
-/
import Derived.Test.YtejfpajbkgfiaaaLawKs
import Derived.Test.YtejfpajbkgfiaaaDraw16
import Derived.Test.YtejfpajbkgfiaaaCap
import Derived.Test.YtejfpajbkgfiaaaPlain5
import Derived.Test.YtejfpajbkgfiaaaLawKs
import Derived.Test.YtejfpajbkgfiaaaSeat
import Derived.Test.YtejfpajbkgfiaaaOpen
import Derived.Test.YtejfpajbkgfiaaaText
namespace Go.Proofs.Ytejfpajbkgfiaaa
open Go.ChangeShapes Go.WideShapes Go.ChangeAt Go.RowKit Go.Deep Go.Joins

namespace FnCapacities
set_option maxHeartbeats 4000000 in
set_option maxRecDepth 100000 in
theorem walk (A : Option Addr) (n c : Nat) (bs : List UInt8) (w : World) (hR : Sl w 1 A n (byts bs)) (hnc : n ≤ c) (_hm : n ≤ maxLen) :
    Calls Try.prog 14 #[.slice A n c] w fun e w' => e = .returned (.bool true) ∧ Gr w w' := by
  have HR := Lib.hid hR
  clear hR
  go_enter Try.func14, Try.ntmps14
  go_wp2_with fail
  refine (big_any _).mono ?_
  rintro e w' ⟨rfl, hw'⟩
  rw [← hw']
  clear hw'
  by_cases hb : 4096 < n
  · have tb : decide (4096 < n) = true := decide_eq_true hb
    go_wp2_with fail
    go_ret
    exact ⟨rfl, Gr.refl _⟩
  have tb : decide (4096 < n) = false := decide_eq_false hb
  go_wp2_with fail
  obtain ⟨i0, hi0, hz0, hz1, hz2⟩ := info_parts infoInt64
  refine (DrawSetCapacity_any bs _ ⟨HR.out, hnc, by omega⟩).mono ?_
  rintro e w0 ⟨A1, n1, c1, A2, n2, c2, v, A4, n4, c4, s, rfl, hN, lHS, hHS, gw⟩
  obtain ⟨w1, hw1⟩ : ∃ W, W = w0.alloc (.cells #[.slice A1 n1 c1, .slice A2 n2 c2] 27) := ⟨_, rfl⟩
  obtain ⟨M, hM⟩ : ∃ M, M = w0.heap.size := ⟨_, rfl⟩
  have a0 : w1.cell? ⟨M, 0, none⟩ = some (.slice A1 n1 c1) := by rw [hw1, hM]; simp [go_sem]
  have a1 : w1.cell? ⟨M, 1, none⟩ = some (.slice A2 n2 c2) := by rw [hw1, hM]; simp [go_sem]
  have h01 : Gr w0 w1 := by rw [hw1]; exact (Gr.refl _).alloc _
  replace gw : Gr w w1 := gw.trans h01
  have HN := Lib.hid (hN.gr h01)
  replace hHS := SlAt.of_own hHS lHS
  have mHS := hHS.small
  have HS := Lib.hid (hHS.gr h01)
  have Hw1 := Lib.hid hw1
  have HM := Lib.hid hM
  clear hw1 hM hN h01 hHS
  go_wp2_with fail
  rw [← Hw1.out, ← HM.out]
  refine (SetCapacity_any v s _ HN.out HS.out).mono ?_
  rintro e w2 ⟨rfl, h⟩
  replace gw := gw.trans h
  replace a0 := h.has a0
  replace a1 := h.has a1
  replace HN := Lib.hid (HN.out.gr h)
  replace HS := Lib.hid (HS.out.gr h)
  clear h
  go_wp2_with fail
  refine (spSetCapacity_any v s _ HN.out HS.out).mono ?_
  rintro e w3 ⟨rfl, h⟩
  replace gw := gw.trans h
  replace a0 := h.has a0
  replace a1 := h.has a1
  replace HN := Lib.hid (HN.out.gr h)
  replace HS := Lib.hid (HS.out.gr h)
  clear h
  by_cases hc : caCode v s = 0
  · have o1 := cplt_code hc
    have o2 := cplt_val hc
    have hl1 := HN.out.l1
    rw [hl1] at o1 o2
    have O1 := Lib.hid o1
    have O2 := Lib.hid o2
    have hm1 := HN.out.m1
    have hsw : w.heap.size ≤ w3.heap.size := gw.size
    have tc : (caCode v s != 0) = false := by simp [hc]
    clear hc o1 o2 hl1
    go_wp2_with fail
    go_loopw [9, 10] (fun o i wr => ∃ k : Nat, k ≤ n1 ∧ i = .int .i64 k ∧ (∃ A m c, o = .slice A m c ∧ m = (cplt s k).length ∧ wr.ownsRow w3.heap.size 2 1 (.slice A m c) m (ints (cplt s k))) ∧ Gr w3 wr) (fun _ i _ => n1 - (intOf i).toNat)
    case atStart => exact ⟨0, Nat.zero_le _, rfl, ⟨_, _, _, rfl, rfl, World.ownsRow_lit w3 (e := 2) (size := 1) #[] 0 (Nat.le_refl _) (by unfold maxLen; omega) rfl⟩, (Gr.refl _).alloc _⟩
    case round =>
      obtain ⟨k, hk, rfl, ⟨A', m', c', rfl, hm, hown⟩, hgr⟩ := hrel
      have hmk : m' ≤ k := by rw [hm]; exact cplt_len _ _
      have d0 := hgr.has a0
      have hsz := hgr.size
      by_cases hlt : k < n1
      · have t1 : (k : Int) < (n1 : Int) := by omega
        have Hown := Lib.hid hown
        have Hm := Lib.hid hm
        clear hown hm
        go_wp2_with fail
        refine (hasInt_any s (k : Int) _ (HS.out.gr hgr)).mono ?_
        rintro e w' ⟨rfl, hw'⟩
        rw [← hw']
        clear hw'
        by_cases hin : (k : Int) ∈ s
        · have tin : decide ((k : Int) ∈ s) = true := by simp [hin]
          have Hst := Lib.hid (cplt_in hin)
          clear hin
          go_wp2_with fail
          go_roundw
          case rel => exact ⟨k + 1, by omega, by go_num, ⟨_, _, _, rfl, by rw [Hst.out]; exact Hm.out, by rw [Hst.out]; exact Hown.out⟩, hgr⟩
          case measure => simp [intOf]; omega
        · have tin : decide ((k : Int) ∈ s) = false := by simp [hin]
          have Hst := Lib.hid (cplt_out hin)
          clear hin
          go_wp2_with (at_builtin; (refine wpList_append_own _ rfl _ _ _ rfl w3.heap.size 2 i0 _ 1 8 Try.underlying33 hi0 hz0 hz1 hz2 rfl (by omega) _ m' _ rfl (Hown.out.alloc _) ⟨wr.heap.size, 0, none⟩ 1 1 [.int .i64 (k : Int)] rfl rfl (World.news_of_block (cs := #[.int .i64 (k : Int)]) (t := 2) (fr := (0, 0)) (heap_alloc_new wr _)) (by simp [Value.oneCell']) (by unfold maxLen; omega) (by omega) (by simp; omega) ?_; intro v' w20 hown20 hg20 _; obtain ⟨A20, c20, rfl⟩ := own_shape hown20; have Ho20 := Lib.hid (own_cells_eq hown20 (ints_snoc (cplt s k) (k : Int)).symm); have hg21 : Gr w3 w20 := (hgr.alloc _).grown hg20 (fun j hj => own_base_le Hown.out hj); clear hown20 hg20))
          go_wp2_with fail
          go_roundw
          case rel => exact ⟨k + 1, by omega, by go_num, ⟨_, _, _, rfl, by rw [Hst.out, Hm.out]; simp, by rw [Hst.out]; exact Ho20.out⟩, hg21⟩
          case measure => simp [intOf]; omega
      · obtain rfl : n1 = k := by omega
        have d1 := hgr.has a1
        replace gw := gw.trans hgr
        replace HN := Lib.hid (HN.out.gr hgr)
        have HO := Lib.hid (SlAt.of_own hown (by omega))
        clear hown hm
        go_wp2_with fail
        refine (SetCapacity_any v (cplt s n1) _ HN.out HO.out).mono ?_
        rintro e w9 ⟨rfl, h⟩
        rw [O1.out, O2.out]
        go_wp2_with fail
        go_ret
        exact ⟨ret_bool (by simp), (gw.trans h)⟩
  · have tc : (caCode v s != 0) = true := by simp [hc]
    clear hc
    go_wp2_with fail
    go_ret
    exact ⟨rfl, gw⟩
set_option maxRecDepth 100000 in
theorem lifted (os : Os) (started : os.Started) (H : Type) (enc : TypeId × Value → H) :
    ReturnsInHanded {} Try.checked os 14 .any (Rows.fnCapacitiesSpec.pre6 enc Try.prog Try.f14 Rows.fnCapacitiesRow.domain false) (Rows.fnCapacitiesSpec.post enc Try.prog Try.f14 false true false false) := by
  refine returnsInHanded_of_change (C := Try.checked) own started (by kernel_rfl) Try.func14
    (ChangeSpec.witness6 (enc := enc) (C := Try.checked) false ⟨#[], #[.slice none 0 0], []⟩ 8 (by kernel_rfl) (by kernel_rfl) (by kernel_rfl) (by kernel_rfl)) ?_
  intro W base args ds gs before hval0 hW hcnd _
  have hval : ∀ (j : Nat) t v, Try.f14.params[j]? = some t → args[j]? = some v → Value.okWide Try.prog W .any base t v := hval0
  have hW' := hW
  obtain ⟨p, q, hA0, hV, rfl, hfz, hnd⟩ := hW
  have hA : DataW.TrodAll enc Try.prog W 0 (fun _ => true) true Try.f14.params.toList args.toList ds p := hA0
  have hAk := hA0
  have hlt : ∀ x ∈ p, x.block < W.heap.size := fun x hx => hW'.lt x (List.mem_append_left _ hx)
  rw [Try.params14] at hA hval
  obtain ⟨u0, vs0, e0, ds0, p0, q0, hargs, rfl, rfl, h0, r0⟩ := trodAll_cons hA
  obtain ⟨rfl, rfl, rfl⟩ := trodAll_nil r0
  obtain rfl : args = #[u0] := by cases args; simp_all
  obtain ⟨rfl, rfl⟩ := trodVars_none hV
  obtain ⟨fu0, hf0⟩ := h0
  obtain ⟨aa0, bb0, cc0, rfl⟩ := okWide_slice Try.underlying22 (hval 0 _ u0 rfl rfl)
  obtain ⟨A0, n0, c0, v0, hv0, k0, k0x, hR0⟩ := open_bytes (by simpa [Value.cells] using hf0)
  injection hv0 with ha0 hb0 hc0
  subst ha0 hb0 hc0
  clear hA0 hval0
  refine (walk _ _ _ v0 W hR0 k0 (Nat.le_trans k0 k0x)).mono fun e W' ⟨he, hg⟩ => ?_
  subst he
  exact ⟨_, rfl, _, [], _, [], _, [], hW', trodAll_cons_mk (shut_bool Try.underlying4 _) trodAll_mk0, trodAll_stays hg.below _ _ _ _ _ (by rw [Try.params14]; intro t ht; simp only [List.mem_cons, List.not_mem_nil, or_false] at ht; rcases ht with rfl <;> exact ⟨by kernel_rfl, of_decide_eq_true (by kernel_rfl)⟩) hAk hlt (fun x hx => by simpa using hlt x hx), rfl, hg.below.frame _, fun h => by cases h⟩
set_option maxHeartbeats 8000000 in
set_option maxRecDepth 100000 in
theorem closed : joinedFacts Try.prog 14 Try.f14 Rows.fnCapacitiesSpec Rows.fnCapacitiesRow = true := by
  unfold joinedFacts
  simp only [Bool.and_eq_true]
  repeat' (with_reducible apply And.intro)
  all_goals (first | with_reducible exact seat_laid | with_reducible exact seat_maps | with_reducible exact seat_heard | with_reducible exact seat_enter | (with_reducible rw [seat_stops]; as_aux_lemma => kernel_rfl) | (with_reducible rw [seat_knobs]; as_aux_lemma => kernel_rfl) | (with_reducible rw [seat_keys]; as_aux_lemma => kernel_rfl) | (with_reducible rw [seat_final]; as_aux_lemma => kernel_rfl) | (with_reducible rw [seat_make]; as_aux_lemma => kernel_rfl) | as_aux_lemma => kernel_rfl)
theorem named : Try.prog.funcNamed Rows.fnCapacitiesRow.func = some 14 := by kernel_rfl
theorem over : Rows.fnCapacitiesRow.holds Try.pinned (OpenSpec.ofChange Rows.fnCapacitiesSpec) :=
  OpenClaim.holds_of_wide 14 Try.f14 rfl rfl rfl rfl rfl rfl rfl ⟨rfl, rfl, rfl, rfl, rfl⟩ rfl rfl rfl rfl rfl named Try.func14 closed
    (of_decide_eq_true (by as_aux_lemma => kernel_rfl)) (by unfold Func.isWrapper; first | (rw [if_pos (by decide +kernel)]; kernel_rfl) | (rw [if_neg (by decide +kernel)]; exact ⟨rfl, rfl⟩))
    (fun os started H enc _ => lifted os started H enc)
theorem proved : Rows.FnCapacitiesSaid := over
#print axioms proved
end FnCapacities
end Go.Proofs.Ytejfpajbkgfiaaa
