/-
  Least cuts: LeastCut of both sides. Printed by gen_cut.py.
-/
import Derived.Test.YtbckjlejkedonaaCutM
set_option linter.unusedSimpArgs false
set_option linter.unusedVariables false
namespace Go.Proofs.Ytbckjlejkedonaa
open Go.ChangeShapes Go.WideShapes Go.ChangeAt Go.RowKit

theorem lc_bad {n : GNet} {a b : Int} (h : gfCode n a b ≠ 0) : lcRes n a b = [] := by rw [lcRes, if_neg h]
theorem spLeastCut_any {A1 A2 : Option Addr} {n1 c1 n2 c2 : Nat} (n : GNet) (a b : Int) (w : World) (hA : NetAt w A1 n1 c1 A2 n2 c2 n) (_wa : (Lit.int .i64 a).wf = true) (_wb : (Lit.int .i64 b).wf = true) :
    Calls Try.prog 13 #[.agg #[.slice A1 n1 c1, .slice A2 n2 c2], .int .i64 a, .int .i64 b] w fun e w' => ∃ A m c, e = .returned (.tuple #[.slice A m c, .int .i64 (gfCode n a b)]) ∧ m ≤ 1048576 ∧ w'.ownsRow w.heap.size 2 1 (.slice A m c) m (ints (lcRes n a b)) ∧ Gr w w' := by
  have hl1 := hA.l1
  have hm1 := hA.m1
  have HA := Lib.hid hA
  have Hl1 := Lib.hid hl1
  clear hA hl1
  go_enter Try.func13, Try.ntmps13
  go_wp2_with fail
  refine (l23Pair_any n a b _ (HA.out.gr ((Gr.refl _).alloc _))).mono ?_
  rintro e w1 ⟨rfl, hg1⟩
  have b0 : w1.cell? ⟨w.heap.size, 0, none⟩ = some (.slice A1 n1 c1) := hg1.has (by simp [go_sem])
  have b1 : w1.cell? ⟨w.heap.size, 1, none⟩ = some (.slice A2 n2 c2) := hg1.has (by simp [go_sem])
  have hgw1 : Gr w w1 := ((Gr.refl _).alloc _).trans hg1
  clear hg1
  by_cases hc : gfCode n a b = 0
  · obtain ⟨hok, h1, h2, h3⟩ := gfCode_zero hc
    have tb : (gfCode n a b != 0) = false := by simp [hc]
    rw [inN_iff, Hl1.out] at h1 h2
    obtain ⟨p, rfl⟩ : ∃ p : Nat, a = p := ⟨a.toNat, by omega⟩
    obtain ⟨q, rfl⟩ : ∃ q : Nat, b = q := ⟨b.toNat, by omega⟩
    have Hc := Lib.hid hc
    have Hok := Lib.hid hok
    clear hok hc
    go_wp2_with fail
    refine (l23Between_any n p q _ (HA.out.gr hgw1) Hok.out (by omega) (by omega) (by omega)).mono ?_
    rintro e w2 ⟨A, m, c, rfl, hm, ho, hg2⟩
    have hml : m ≤ n1 := by rw [hm]; exact memTo_len _ _
    have Ho := Lib.hid ho
    clear ho hm
    go_wp2_with fail
    go_ret2
    refine ⟨_, _, _, by rw [Hc.out]; rfl, by omega, ?_, hgw1.trans hg2⟩
    rw [lcRes, if_pos Hc.out, lcList, Hl1.out]
    exact own_base Ho.out hgw1.size
  · have tb : (gfCode n a b != 0) = true := by simp [hc]
    have Hc := Lib.hid hc
    clear hc
    go_wp2_with fail
    go_ret2
    exact ⟨_, _, _, rfl, Nat.zero_le _, by rw [lc_bad Hc.out]; exact World.ownsRow_nil _ _ _ _, hgw1⟩
set_option maxRecDepth 100000 in
theorem LeastCut_any {A1 A2 : Option Addr} {n1 c1 n2 c2 : Nat} (n : GNet) (a b : Int) (w : World) (hA : NetAt w A1 n1 c1 A2 n2 c2 n) (_wa : (Lit.int .i64 a).wf = true) (_wb : (Lit.int .i64 b).wf = true) :
    Calls Try.prog 15 #[.agg #[.slice A1 n1 c1, .slice A2 n2 c2], .int .i64 a, .int .i64 b] w fun e w' => ∃ A m c, e = .returned (.tuple #[.slice A m c, .int .i64 (gfCode n a b)]) ∧ m ≤ 1048576 ∧ w'.ownsRow w.heap.size 2 1 (.slice A m c) m (ints (lcRes n a b)) ∧ Gr w w' := by
  have hl1 := hA.l1
  have hm1 := hA.m1
  have HA := Lib.hid hA
  have Hl1 := Lib.hid hl1
  clear hA hl1
  go_enter Try.func15, Try.ntmps15
  go_wp2_with fail
  generalize hw0 : World.alloc (World.alloc w _) _ = w0
  have hg0 : Gr w w0 := by rw [← hw0]; exact ((Gr.refl _).alloc _).alloc _
  have d0 : w0.cell? ⟨w.heap.size, 0, none⟩ = some (.slice A1 n1 c1) := by rw [← hw0]; simp [go_sem]
  have d1 : w0.cell? ⟨w.heap.size, 1, none⟩ = some (.slice A2 n2 c2) := by rw [← hw0]; simp [go_sem]
  have hrow : SlAt w0 1 (some ⟨w.heap.size + 1, 0, none⟩) 2 2 (ints [a, b]) := by
    have q := World.ownsRow_lit (w.alloc (.cells #[.slice A1 n1 c1, .slice A2 n2 c2] 33)) (e := 2) (size := 1) #[.int .i64 a, .int .i64 b] 2 (Nat.le_refl _) (by unfold maxLen; omega) rfl
    rw [hw0] at q
    exact SlAt.of_own (by simpa [ints] using q) (by omega)
  have Hrow := Lib.hid hrow
  clear hw0 hrow
  refine (checkNodes_any n [a, b] _ (HA.out.gr hg0) Hrow.out).mono ?_
  rintro e w1 ⟨rfl, hg1⟩
  have b0 := hg1.has d0
  have b1 := hg1.has d1
  have hgw1 : Gr w w1 := hg0.trans hg1
  have hgf := nd_gf (n := n) (a := a) (b := b)
  clear hg1 d0 d1
  by_cases hn : ndCode n [a, b] = 0
  · rw [if_pos hn] at hgf
    have tb : (ndCode n [a, b] != 0) = false := by simp [hn]
    by_cases hab : a = b
    · rw [if_pos hab] at hgf
      have Hgf := Lib.hid hgf
      have tc : (a == b) = true := by simp [hab]
      clear hgf hn hab
      go_wp2_with fail
      go_ret2
      exact ⟨_, _, _, by rw [Hgf.out]; rfl, Nat.zero_le _, by rw [lc_bad (by rw [Hgf.out]; decide)]; exact World.ownsRow_nil _ _ _ _, hgw1⟩
    · rw [if_neg hab] at hgf
      obtain ⟨hok, h1, h2, h3⟩ := gfCode_zero hgf
      rw [inN_iff, Hl1.out] at h1 h2
      have tc : (a == b) = false := by simp [hab]
      obtain ⟨p, rfl⟩ : ∃ p : Nat, a = p := ⟨a.toNat, by omega⟩
      obtain ⟨q, rfl⟩ : ∃ q : Nat, b = q := ⟨b.toNat, by omega⟩
      have hEs : EsOk (eds n.pipes) n1 := by have := eds_ok hok; rw [Hl1.out] at this; exact this
      have HEs := Lib.hid hEs
      have Hgf := Lib.hid hgf
      have Hok := Lib.hid hok
      clear hok hgf hn hab hEs
      go_wp2_with fail
      refine (fullFlow_any n p q _ (HA.out.gr hgw1) Hok.out (by omega) (by omega)).mono ?_
      rintro e w2 ⟨g, F, rfl, hR, hF, hK, hg2⟩
      have hm2 := HA.out.m2
      have HR := Lib.hid hR
      have HF := Lib.hid (SlAt.of_own hF (by omega))
      have HK := Lib.hid hK
      have hgw2 := hgw1.trans hg2
      clear hR hF hK
      go_wp2_with fail
      refine (search_any n _ p _ HR.out (HA.out.gr hgw2) HF.out Hok.out HK.out (by omega)).mono ?_
      rintro e w3 ⟨O, E, rfl, ⟨A, c, rfl⟩, hE, hO, _, hg3⟩
      have hI := inv_srch (fl := mfl (eds n.pipes) n1 p q) HEs.out (show p < n1 by omega)
      have hlen := hI.len
      have hpos : 0 < (srch (eds n.pipes) (mfl (eds n.pipes) n1 p q) n1 p).ord.length := (List.getElem?_eq_some_iff.1 hI.hd).1
      obtain ⟨m, hme⟩ : ∃ m, m = (srch (eds n.pipes) (mfl (eds n.pipes) n1 p q) n1 p).ord.length := ⟨_, rfl⟩
      rw [← hme] at hO hlen hpos ⊢
      have HO := Lib.hid (own_base hO hgw2.size)
      have HI := Lib.hid hI
      have hgw3 := hgw2.trans hg3
      have hfd : ∀ W : World, (Instr.field 109 (.agg #[.slice A m c, .slice none 0 0, .slice (some ⟨E, 0, none⟩) n1 n1]) 0).run Try.prog W = .ok (.slice A m c) W := fun _ => by kernel_rfl
      clear hE hO hI hme
      go_wp2_with fail
      refine (sortInt_any (casts (srch (eds n.pipes) (mfl (eds n.pipes) n1 p q) n1 p).ord) _ HO.out hpos (by omega)).mono ?_
      rintro e w4 ⟨rfl, ho, hc4⟩
      have hfr : Gr w w4 := hgw3.of_chg hc4 (fun k hk => own_base_le HO.out (by rw [hk]; rfl))
      have Ho := Lib.hid ho
      clear ho hc4
      go_wp2_with fail
      go_ret2
      refine ⟨_, _, _, by rw [Hgf.out]; rfl, by omega, ?_, hfr⟩
      rw [lcRes, if_pos Hgf.out, lcList, Hl1.out]
      rw [srt_nodes HI.out.nd HI.out.lt] at Ho
      exact Ho.out
  · rw [if_neg hn] at hgf
    have tb : (ndCode n [a, b] != 0) = true := by simp [hn]
    have Hgf := Lib.hid hgf
    have Hn := Lib.hid hn
    clear hgf hn
    go_wp2_with fail
    go_ret2
    exact ⟨_, _, _, by rw [Hgf.out]; rfl, Nat.zero_le _, by rw [lc_bad (by rw [Hgf.out]; exact Hn.out)]; exact World.ownsRow_nil _ _ _ _, hgw1⟩
end Go.Proofs.Ytbckjlejkedonaa
