/-
  GreatestFlow, of the program and of the reference.
-/
import Derived.Test.YtdoidehlklkfaaaFlow10
namespace Go.Proofs.Ytdoidehlklkfaaa
open Go.ChangeShapes Go.WideShapes Go.ChangeAt Go.RowKit

def inN (n : GNet) (v : Int) : Bool := inB 0 v ((n.nodes.length : Int) - 1)
def ndCode (n : GNet) (l : List Int) : Int := if netOk n = true then (if l.all (inN n) = true then 0 else 2) else 1
theorem all_take_step {p : Int → Bool} {l : List Int} {k : Nat} {x : Int} (hx : l[k]? = some x) (h : (l.take k).all p = true) (hp : p x = true) : (l.take (k + 1)).all p = true := by
  rw [List.take_add_one, hx]
  simp only [Option.toList_some, List.all_append, h, List.all_cons, List.all_nil, hp, Bool.and_self]
theorem all_bad {p : Int → Bool} {l : List Int} {k : Nat} {x : Int} (hx : l[k]? = some x) (hp : p x = false) : l.all p = false := by
  rw [List.all_eq_false]
  exact ⟨x, List.mem_of_getElem? hx, by simp [hp]⟩
set_option maxRecDepth 100000 in
theorem checkNodes_any {A1 A2 A : Option Addr} {n1 c1 n2 c2 m c : Nat} (n : GNet) (l : List Int) (w : World) (hA : NetAt w A1 n1 c1 A2 n2 c2 n) (hL : SlAt w 1 A m c (ints l)) :
    Calls Try.prog 89 #[.agg #[.slice A1 n1 c1, .slice A2 n2 c2], .slice A m c] w fun e w' => e = .returned (.int .i64 (ndCode n l)) ∧ Gr w w' := by
  have hm1 := hA.m1
  have hl1 := hA.l1
  have hm := hL.small
  have hlen := hL.sl.ilen
  have Hlen := Lib.hid hlen
  have HA := Lib.hid hA
  have HL := Lib.hid hL
  have Hl1 := Lib.hid hl1
  clear hA hL hlen hl1
  go_enter Try.func89, Try.ntmps89
  go_wp2_with fail
  refine (IsNetwork_any _ _ _ _ _ _ n _ (HA.out.gr ((Gr.refl _).alloc _))).mono ?_
  rintro e w1 ⟨rfl, hg1⟩
  have b0 : w1.cell? ⟨w.heap.size, 0, none⟩ = some (.slice A1 n1 c1) := hg1.has (by simp [go_sem])
  have b1 : w1.cell? ⟨w.heap.size, 1, none⟩ = some (.slice A2 n2 c2) := hg1.has (by simp [go_sem])
  have hgw1 : Gr w w1 := ((Gr.refl _).alloc _).trans hg1
  clear hg1
  cases hok : netOk n with
  | false =>
    have Hok := Lib.hid hok
    clear hok
    go_wp2_with fail
    go_ret
    exact ⟨ret_int (by rw [ndCode, if_neg (by rw [Hok.out]; simp)]), hgw1⟩
  | true =>
    have Hok := Lib.hid hok
    clear hok
    go_wp2_with fail
    go_loopw [12] (fun i wr => ∃ k : Nat, k ≤ m ∧ i = .int .i64 k ∧ (l.take k).all (inN n) = true ∧ Gr w wr ∧ wr.cell? ⟨w.heap.size, 0, none⟩ = some (.slice A1 n1 c1) ∧ wr.cell? ⟨w.heap.size, 1, none⟩ = some (.slice A2 n2 c2)) (fun i _ => m - (intOf i).toNat)
    case atStart => exact ⟨0, Nat.zero_le _, rfl, rfl, hgw1, b0, b1⟩
    case round =>
      obtain ⟨k, hk, rfl, hall, hgr, x0, x1⟩ := hrel
      have Hall := Lib.hid hall
      clear hall b0 b1 hgw1
      by_cases hlt : k < m
      · obtain ⟨x, hx⟩ : ∃ x, l[k]? = some x := ⟨_, List.getElem?_eq_getElem (by have := Hlen.out; omega)⟩
        obtain ⟨b, o, rfl, hb, e0⟩ := (HL.out.sl.gr hgr).int hx
        have Hx := Lib.hid hx
        clear hx
        go_wp2_with fail
        refine (isNodeOf_any A1 A2 n1 c1 n2 c2 x _ hm1).mono ?_
        rintro e w2 ⟨rfl, hg2⟩
        have y0 := hg2.has x0
        have y1 := hg2.has x1
        have hin : inN n x = inB 0 x (n1 - 1) := by rw [inN, Hl1.out]
        rw [← hin]
        clear hin
        cases hc : inN n x with
        | true =>
          have Hc := Lib.hid hc
          clear hc
          go_wp2_with fail
          go_roundw
          case rel => exact ⟨k + 1, by omega, by go_num, all_take_step Hx.out Hall.out Hc.out, hgr.trans hg2, y0, y1⟩
          case measure => simp [intOf]; omega
        | false =>
          have Hc := Lib.hid hc
          clear hc
          go_wp2_with fail
          go_ret
          exact ⟨ret_int (by rw [ndCode, if_pos Hok.out, if_neg (by rw [all_bad Hx.out Hc.out]; simp)]), hgr.trans hg2⟩
      · obtain rfl : k = m := by omega
        go_wp2_with fail
        go_ret
        have h := Hall.out
        rw [List.take_of_length_le (by have := Hlen.out; omega)] at h
        exact ⟨ret_int (by rw [ndCode, if_pos Hok.out, if_pos h]), hgr⟩
def gfCode (n : GNet) (a b : Int) : Int := if netOk n = true then (if (inN n a && inN n b && !(a == b)) = true then 0 else 2) else 1
theorem inN_iff {n : GNet} {v : Int} : inN n v = true ↔ 0 ≤ v ∧ v ≤ (n.nodes.length : Int) - 1 := inB_iff
theorem gfCode_zero {n : GNet} {a b : Int} (h : gfCode n a b = 0) : netOk n = true ∧ inN n a = true ∧ inN n b = true ∧ a ≠ b := by
  unfold gfCode at h
  split at h
  · rename_i h1
    split at h
    · rename_i h2
      simp only [Bool.and_eq_true, Bool.not_eq_true', beq_eq_false_iff_ne, ne_eq] at h2
      exact ⟨h1, h2.1.1, h2.1.2, h2.2⟩
    · omega
  · omega
noncomputable def gfVal (n : GNet) (a b : Int) : Int := if gfCode n a b = 0 then outOf (eds n.pipes) (mfl (eds n.pipes) n.nodes.length a.toNat b.toNat) a.toNat else 0
set_option maxRecDepth 100000 in
theorem l23Pair_any {A1 A2 : Option Addr} {n1 c1 n2 c2 : Nat} (n : GNet) (a b : Int) (w : World) (hA : NetAt w A1 n1 c1 A2 n2 c2 n) :
    Calls Try.prog 87 #[.agg #[.slice A1 n1 c1, .slice A2 n2 c2], .int .i64 a, .int .i64 b] w fun e w' => e = .returned (.int .i64 (gfCode n a b)) ∧ Gr w w' := by
  have hm1 := hA.m1
  have hl1 := hA.l1
  have HA := Lib.hid hA
  have hia : ∀ v : Int, inB 0 v (n1 - 1) = inN n v := fun v => by rw [inN, hl1]
  have Hia := Lib.hid hia
  clear hA hl1 hia
  go_enter Try.func87, Try.ntmps87
  go_wp2_with fail
  refine (spIsNetwork_any _ _ _ _ _ _ n _ (HA.out.gr ((Gr.refl _).alloc _))).mono ?_
  rintro e w1 ⟨rfl, hg1⟩
  have b0 : w1.cell? ⟨w.heap.size, 0, none⟩ = some (.slice A1 n1 c1) := hg1.has (by simp [go_sem])
  have b1 : w1.cell? ⟨w.heap.size, 1, none⟩ = some (.slice A2 n2 c2) := hg1.has (by simp [go_sem])
  have hgw1 : Gr w w1 := ((Gr.refl _).alloc _).trans hg1
  clear hg1
  cases hok : netOk n with
  | false =>
    have Hok := Lib.hid hok
    clear hok
    go_wp2_with fail
    go_ret
    exact ⟨ret_int (by rw [gfCode, if_neg (by rw [Hok.out]; simp)]), hgw1⟩
  | true =>
    have Hok := Lib.hid hok
    clear hok
    go_wp2_with fail
    refine (l02Node_any A1 A2 n1 c1 n2 c2 a _ hm1).mono ?_
    rintro e w2 ⟨rfl, hg2⟩
    rw [Hia.out]
    have c0 := hg2.has b0
    have c1 := hg2.has b1
    have hgw2 := hgw1.trans hg2
    cases ha : inN n a with
    | false =>
      have Ha := Lib.hid ha
      clear ha
      go_wp2_with fail
      go_ret
      exact ⟨ret_int (by rw [gfCode, if_pos Hok.out, if_neg (by rw [Ha.out]; simp)]), hgw2⟩
    | true =>
      have Ha := Lib.hid ha
      clear ha
      go_wp2_with fail
      refine (l02Node_any A1 A2 n1 _ n2 c2 b _ hm1).mono ?_
      rintro e w3 ⟨rfl, hg3⟩
      rw [Hia.out]
      have hgw3 := hgw2.trans hg3
      cases hb : inN n b with
      | false =>
        have Hb := Lib.hid hb
        clear hb
        go_wp2_with fail
        go_ret
        exact ⟨ret_int (by rw [gfCode, if_pos Hok.out, if_neg (by rw [Hb.out]; simp)]), hgw3⟩
      | true =>
        have Hb := Lib.hid hb
        clear hb
        cases hc : (a == b) with
        | true =>
          go_wp2_with fail
          go_ret
          exact ⟨ret_int (by rw [gfCode, if_pos Hok.out, if_neg (by rw [hc]; simp)]), hgw3⟩
        | false =>
          go_wp2_with fail
          go_ret
          exact ⟨ret_int (by rw [gfCode, if_pos Hok.out, if_pos (by rw [Ha.out, Hb.out, hc]; rfl)]), hgw3⟩
set_option maxRecDepth 100000 in
theorem spGreatestFlow_any {A1 A2 : Option Addr} {n1 c1 n2 c2 : Nat} (n : GNet) (a b : Int) (w : World) (hA : NetAt w A1 n1 c1 A2 n2 c2 n) (_wa : (Lit.int .i64 a).wf = true) (_wb : (Lit.int .i64 b).wf = true) :
    Calls Try.prog 40 #[.agg #[.slice A1 n1 c1, .slice A2 n2 c2], .int .i64 a, .int .i64 b] w fun e w' => e = .returned (.tuple #[.int .i64 (gfVal n a b), .int .i64 (gfCode n a b)]) ∧ Gr w w' := by
  have hl1 := hA.l1
  have HA := Lib.hid hA
  have Hl1 := Lib.hid hl1
  clear hA hl1
  go_enter Try.func40, Try.ntmps40
  go_wp2_with fail
  refine (l23Pair_any n a b _ (HA.out.gr ((Gr.refl _).alloc _))).mono ?_
  rintro e w1 ⟨rfl, hg1⟩
  have b0 : w1.cell? ⟨w.heap.size, 0, none⟩ = some (.slice A1 n1 c1) := hg1.has (by simp [go_sem])
  have b1 : w1.cell? ⟨w.heap.size, 1, none⟩ = some (.slice A2 n2 c2) := hg1.has (by simp [go_sem])
  have hgw1 : Gr w w1 := ((Gr.refl _).alloc _).trans hg1
  clear hg1
  by_cases hc : gfCode n a b = 0
  · obtain ⟨hok, h1, h2, h3⟩ := gfCode_zero hc
    have tb : (gfCode n a b != 0) = false := by simp [hc]
    rw [inN_iff, Hl1.out] at h1 h2
    obtain ⟨p, rfl⟩ : ∃ p : Nat, a = p := ⟨a.toNat, by omega⟩
    obtain ⟨q, rfl⟩ : ∃ q : Nat, b = q := ⟨b.toNat, by omega⟩
    have Hc := Lib.hid hc
    have Hok := Lib.hid hok
    clear hok hc
    go_wp2_with fail
    refine (l23Between_any n p q _ (HA.out.gr hgw1) Hok.out (by omega) (by omega) (by omega)).mono ?_
    rintro e w2 ⟨A, m, c, rfl, _, _, hg2⟩
    go_wp2_with fail
    go_ret2
    refine ⟨?_, hgw1.trans hg2⟩
    rw [gfVal, if_pos Hc.out, Hc.out, Hl1.out]
    rfl
  · have tb : (gfCode n a b != 0) = true := by simp [hc]
    have Hc := Lib.hid hc
    clear hc
    go_wp2_with fail
    go_ret2
    exact ⟨by rw [gfVal, if_neg Hc.out]; rfl, hgw1⟩
theorem nd_gf {n : GNet} {a b : Int} : gfCode n a b = if ndCode n [a, b] = 0 then (if a = b then 2 else 0) else ndCode n [a, b] := by
  unfold gfCode ndCode
  cases netOk n with
  | false => simp
  | true =>
    cases ha : inN n a <;> cases hb : inN n b <;> by_cases h : a = b <;> simp [ha, hb, h] <;> (subst h; simp_all)
set_option maxRecDepth 100000 in
theorem GreatestFlow_any {A1 A2 : Option Addr} {n1 c1 n2 c2 : Nat} (n : GNet) (a b : Int) (w : World) (hA : NetAt w A1 n1 c1 A2 n2 c2 n) (_wa : (Lit.int .i64 a).wf = true) (_wb : (Lit.int .i64 b).wf = true) :
    Calls Try.prog 41 #[.agg #[.slice A1 n1 c1, .slice A2 n2 c2], .int .i64 a, .int .i64 b] w fun e w' => e = .returned (.tuple #[.int .i64 (gfVal n a b), .int .i64 (gfCode n a b)]) ∧ Gr w w' := by
  have hl1 := hA.l1
  have HA := Lib.hid hA
  have Hl1 := Lib.hid hl1
  clear hA hl1
  go_enter Try.func41, Try.ntmps41
  go_wp2_with fail
  generalize hw0 : World.alloc (World.alloc w _) _ = w0
  have hg0 : Gr w w0 := by rw [← hw0]; exact ((Gr.refl _).alloc _).alloc _
  have d0 : w0.cell? ⟨w.heap.size, 0, none⟩ = some (.slice A1 n1 c1) := by rw [← hw0]; simp [go_sem]
  have d1 : w0.cell? ⟨w.heap.size, 1, none⟩ = some (.slice A2 n2 c2) := by rw [← hw0]; simp [go_sem]
  have hrow : SlAt w0 1 (some ⟨w.heap.size + 1, 0, none⟩) 2 2 (ints [a, b]) := by
    have q := World.ownsRow_lit (w.alloc (.cells #[.slice A1 n1 c1, .slice A2 n2 c2] 33)) (e := 2) (size := 1) #[.int .i64 a, .int .i64 b] 2 (Nat.le_refl _) (by unfold maxLen; omega) rfl
    rw [hw0] at q
    exact SlAt.of_own (by simpa [ints] using q) (by omega)
  have Hrow := Lib.hid hrow
  clear hw0 hrow
  refine (checkNodes_any n [a, b] _ (HA.out.gr hg0) Hrow.out).mono ?_
  rintro e w1 ⟨rfl, hg1⟩
  have b0 := hg1.has d0
  have b1 := hg1.has d1
  have hgw1 : Gr w w1 := hg0.trans hg1
  have hgf := nd_gf (n := n) (a := a) (b := b)
  clear hg1 d0 d1
  by_cases hn : ndCode n [a, b] = 0
  · rw [if_pos hn] at hgf
    have tb : (ndCode n [a, b] != 0) = false := by simp [hn]
    by_cases hab : a = b
    · rw [if_pos hab] at hgf
      have Hgf := Lib.hid hgf
      have tc : (a == b) = true := by simp [hab]
      clear hgf hn hab
      go_wp2_with fail
      go_ret2
      exact ⟨by rw [gfVal, if_neg (by rw [Hgf.out]; decide), Hgf.out]; rfl, hgw1⟩
    · rw [if_neg hab] at hgf
      obtain ⟨hok, h1, h2, h3⟩ := gfCode_zero hgf
      rw [inN_iff, Hl1.out] at h1 h2
      have tc : (a == b) = false := by simp [hab]
      obtain ⟨p, rfl⟩ : ∃ p : Nat, a = p := ⟨a.toNat, by omega⟩
      obtain ⟨q, rfl⟩ : ∃ q : Nat, b = q := ⟨b.toNat, by omega⟩
      have Hgf := Lib.hid hgf
      have Hok := Lib.hid hok
      clear hok hgf hn hab
      go_wp2_with fail
      refine (fullFlow_any n p q _ (HA.out.gr hgw1) Hok.out (by omega) (by omega)).mono ?_
      rintro e w2 ⟨g, F, rfl, _, _, _, hg2⟩
      go_wp2_with fail
      go_ret2
      refine ⟨?_, hgw1.trans hg2⟩
      rw [gfVal, if_pos Hgf.out, Hgf.out, Hl1.out]
      rfl
  · rw [if_neg hn] at hgf
    have tb : (ndCode n [a, b] != 0) = true := by simp [hn]
    have Hgf := Lib.hid hgf
    have Hn := Lib.hid hn
    clear hgf hn
    go_wp2_with fail
    go_ret2
    exact ⟨by rw [gfVal, if_neg (by rw [Hgf.out]; exact Hn.out), Hgf.out]; rfl, hgw1⟩
end Go.Proofs.Ytdoidehlklkfaaa
