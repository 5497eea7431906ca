/-
  Weights of orders at a reading, and sums.
-/
import Derived.Test.YtejfpajbkgfiaaaOrd
import Derived.Test.YtejfpajbkgfiaaaScales
import Derived.BigQuiet
namespace Go.Proofs.Ytejfpajbkgfiaaa
open Go.ChangeShapes Go.WideShapes Go.ChangeAt Go.RowKit

def sgn (a : Int) : Int := if a < 0 then -1 else 1
def wt (node sg : Int) (x : GOrd) : Int := if x.node = node then max 0 (sg * x.amount) else 0
def wts (os : List GOrd) (node sg : Int) : List Int := os.map (wt node sg)
theorem wt_bnd {nn node sg : Int} {x : GOrd} (h : ordOk nn x = true) (hs : sg = 1 ∨ sg = -1) : 0 ≤ wt node sg x ∧ wt node sg x ≤ 30000 := by
  have := (ordOk_all h).2.2.1
  unfold wt
  split
  · rcases hs with rfl | rfl <;> omega
  · omega
theorem wts_bnd {nn node sg : Int} {os : List GOrd} (h : ordsOk nn os = true) (hs : sg = 1 ∨ sg = -1) : ∀ z ∈ wts os node sg, 0 ≤ z ∧ z ≤ 30000 := by
  intro z hz
  obtain ⟨x, hx, rfl⟩ := List.mem_map.1 hz
  obtain ⟨k, hk⟩ := List.mem_iff_getElem?.1 hx
  exact wt_bnd ((ordsOk_all h).2 k x hk) hs
theorem own_cells_eq {w : World} {base : Nat} {e : TypeId} {size n : Nat} {v : Value} {xs ys : List Value} (h : w.ownsRow base e size v n xs) (he : xs = ys) : w.ownsRow base e size v n ys := he ▸ h
theorem sum_take_step {l : List Int} {k : Nat} {x : Int} (hx : l[k]? = some x) : (l.take (k + 1)).sum = (l.take k).sum + x := by
  rw [List.take_add_one, hx]; simp
theorem sum_take_bnd {M : Int} (_hM : 0 ≤ M) {l : List Int} (h : ∀ z ∈ l, -M ≤ z ∧ z ≤ M) (k : Nat) : -(M * (k : Int)) ≤ (l.take k).sum ∧ (l.take k).sum ≤ M * (k : Int) := by
  induction k with
  | zero => simp
  | succ k ih =>
    cases hx : l[k]? with
    | none =>
      have hl : l.length ≤ k := List.getElem?_eq_none_iff.1 hx
      rw [List.take_of_length_le (by omega)]
      rw [List.take_of_length_le hl] at ih
      have e : M * ((k + 1 : Nat) : Int) = M * (k : Int) + M := by push_cast; rw [Int.mul_add, Int.mul_one]
      omega
    | some x =>
      rw [sum_take_step hx]
      have := h x (List.mem_of_getElem? hx)
      have e : M * ((k + 1 : Nat) : Int) = M * (k : Int) + M := by push_cast; rw [Int.mul_add, Int.mul_one]
      omega
theorem l01Sum_any {A : Option Addr} {m c : Nat} (zs : List Int) (w : World) (hL : SlAt w 1 A m c (ints zs)) (hb : ∀ z ∈ zs, -1000000000 ≤ z ∧ z ≤ 1000000000) :
    Calls Try.prog 134 #[.slice A m c] w fun e w' => e = .returned (.int .i64 zs.sum) ∧ w = w' := by
  have hlen := hL.sl.ilen
  have Hlen := Lib.hid hlen
  have hm := hL.small
  have HL := Lib.hid hL
  have Hb := Lib.hid hb
  clear hL hlen hb
  go_enter Try.func134, Try.ntmps134
  go_wp2_with fail
  go_loop [3, 4] (fun s i => ∃ k : Nat, k ≤ m ∧ i = .int .i64 k ∧ s = .int .i64 (zs.take k).sum) (fun _ i => m - (intOf i).toNat)
  case atStart => exact ⟨0, Nat.zero_le _, rfl, rfl⟩
  case round =>
    obtain ⟨k, hk, rfl, rfl⟩ := hrel
    by_cases hlt : k < m
    · obtain ⟨x, hx⟩ : ∃ x, zs[k]? = some x := ⟨_, List.getElem?_eq_getElem (by have := Hlen.out; omega)⟩
      obtain ⟨b, o, rfl, hb, e0⟩ := HL.out.sl.int hx
      have hst := sum_take_step hx
      have hbd := sum_take_bnd (M := 1000000000) (by decide) Hb.out k
      have hxb := Hb.out x (List.mem_of_getElem? hx)
      obtain ⟨S, hS⟩ : ∃ S, S = (zs.take k).sum := ⟨_, rfl⟩
      rw [← hS] at hst hbd ⊢
      have Hst := Lib.hid hst
      clear hx hS hst
      go_wp2_with fail
      go_round
      case rel => exact ⟨k + 1, by omega, by go_num, by rw [Hst.out]⟩
      case measure => simp [intOf]; omega
    · obtain rfl : k = m := by omega
      go_wp2_with fail
      go_ret
      exact ⟨ret_int (by rw [List.take_of_length_le (by rw [Hlen.out]; exact Nat.le_refl _)]), rfl⟩

set_option maxHeartbeats 1600000 in
set_option maxRecDepth 100000 in
theorem l28Weights_any {A : Option Addr} {n c : Nat} (nn : Int) (os : List GOrd) (y : GRd) (w : World) (hL : SlAt w 4 A n c (os.flatMap GOrd.cells)) (hok : ordsOk nn os = true) :
    Calls Try.prog 135 #[.slice A n c, .agg #[.int .i64 y.node, .int .i64 y.amount]] w fun e w' => ∃ A' c', e = .returned (.slice A' n c') ∧ w'.ownsRow w.heap.size 2 1 (.slice A' n c') n (ints (wts os y.node (sgn y.amount))) ∧ Gr w w' := by
  obtain ⟨i0, hi0, hz0, hz1, hz2⟩ := info_parts infoInt64
  have hlen := hL.sl.len GOrd.cells_len (by omega)
  have Hlen := Lib.hid hlen
  have hm := hL.small
  have HL := Lib.hid hL
  have Hok := Lib.hid hok
  clear hL hok hlen
  obtain ⟨sg, hsg⟩ : ∃ sg, sg = sgn y.amount := ⟨_, rfl⟩
  have hs1 : sg = 1 ∨ sg = -1 := by rw [hsg]; unfold sgn; split <;> simp
  rw [← hsg]
  by_cases hneg : y.amount < 0
  all_goals
    first
      | (have hsv : sg = -1 := by rw [hsg, sgn, if_pos hneg])
      | (have hsv : sg = 1 := by rw [hsg, sgn, if_neg hneg])
    have Hsv := Lib.hid hsv
    clear hsg hsv
    go_enter Try.func135, Try.ntmps135
    go_wp2_with fail
    generalize hw2 : World.alloc (World.alloc w _) _ = w2
    have hg2 : Gr w w2 := by rw [← hw2]; exact ((Gr.refl _).alloc _).alloc _
    have b0 : w2.cell? ⟨w.heap.size, 0, none⟩ = some (.int .i64 y.node) := by rw [← hw2]; simp [go_sem]
    have hown0 : w2.ownsRow (w.heap.size + 1) 2 1 (.slice (some ⟨w.heap.size + 1, 0, none⟩) 0 0) 0 [] := by
      rw [← hw2]
      have := World.ownsRow_lit (w.alloc (.cells #[.int .i64 y.node, .int .i64 y.amount] 113)) (e := 2) (size := 1) #[] 0 (Nat.le_refl _) (by unfold maxLen; omega) rfl
      simpa using this
    have hs2 : w.heap.size + 2 ≤ w2.heap.size := by rw [← hw2]; simp
    have Hown0 := Lib.hid hown0
    clear hw2 hown0
    go_loopw [6, 7] (fun o i wr => ∃ k : Nat, k ≤ n ∧ i = .int .i64 k ∧ (∃ A c, o = .slice A k c) ∧ wr.ownsRow (w.heap.size + 1) 2 1 o k (ints ((wts os y.node sg).take k)) ∧ Gr w wr ∧ wr.cell? ⟨w.heap.size, 0, none⟩ = some (.int .i64 y.node) ∧ w.heap.size + 2 ≤ wr.heap.size) (fun _ i _ => n - (intOf i).toNat)
    case atStart => exact ⟨0, Nat.zero_le _, rfl, ⟨_, _, rfl⟩, Hown0.out, hg2, b0, hs2⟩
    case round =>
      obtain ⟨k, hk, rfl, ⟨A1, c1, rfl⟩, hownr, hgr, hbr, hsr⟩ := hrel
      have Hown := Lib.hid hownr
      clear hownr
      by_cases hlt : k < n
      · obtain ⟨x, hx⟩ : ∃ x, os[k]? = some x := ⟨_, List.getElem?_eq_getElem (by have := Hlen.out; omega)⟩
        obtain ⟨b, o, rfl, hb, r0, r1, r2, r3⟩ := (HL.out.sl.gr hgr).ord hx
        have hxb := (ordOk_all ((ordsOk_all Hok.out).2 k x hx)).2.2.1
        have hn : (wts os y.node sg)[k]? = some (wt y.node sg x) := by simp [wts, hx]
        have hstep : (wts os y.node sg).take (k + 1) = (wts os y.node sg).take k ++ [wt y.node sg x] := by rw [List.take_add_one, hn]; rfl
        have Hst := Lib.hid hstep
        have t1 : (k : Int) < (n : Int) := by omega
        have t0 : (0 : Int) ≤ (k : Int) := by omega
        clear hx hn hstep r0 r3
        obtain ⟨z, hz⟩ : ∃ z, z = wt y.node sg x := ⟨_, rfl⟩
        rw [← hz] at Hst
        have hz' : z = if (x.node == y.node) = true then max 0 (sg * x.amount) else 0 := by rw [hz, wt]; simp
        have Hz := Lib.hid hz'
        clear hz hz'
        cases hc : (x.node == y.node)
        all_goals
          go_wp2_with fail
          go_quiet (fail)
          generalize hwq : wr.drewN _ = wq
          have hgq : Gr wr wq := by rw [← hwq]; exact (Gr.refl _).drewN _
          have hsz : w.heap.size + 2 ≤ wq.heap.size := by rw [← hwq]; exact hsr
          have hq0 := hgq.has hbr
          have hq1 := hgq.has r1
          have hq2 := hgq.has r2
          have Hoq := Lib.hid (own_gr Hown.out hgq)
          have hgw : Gr w wq := hgr.trans hgq
          clear hwq hbr r1 r2
          go_wp2_with (at_builtin; refine wpList_append_own _ rfl _ _ _ rfl (w.heap.size + 1) 2 i0 _ 1 8 Try.underlying33 hi0 hz0 hz1 hz2 rfl (by omega) _ k _ rfl (Hoq.out.alloc _) ⟨wq.heap.size, 0, none⟩ 1 1 [.int .i64 _] rfl rfl (World.news_of_block (cs := #[.int .i64 _]) (t := 2) (fr := (0, 0)) (heap_alloc_new wq _)) (by simp [Value.oneCell']) (by unfold maxLen; omega) (by omega) (by simp; omega) ?_; intro v' w1 hown hg _)
          have hsh := own_shape hown
          obtain ⟨A', c', rfl⟩ := hsh
          have Ho := Lib.hid hown
          have hgw1 : Gr w w1 := (hgw.alloc _).grown hg (fun j hj => by have := own_base_le Hoq.out hj; omega)
          have hb1 : w1.cell? ⟨w.heap.size, 0, none⟩ = some (.int .i64 y.node) := by
            rw [hg.cell_far _ (by simp; omega) (fun e => absurd (own_base_le Hoq.out e.symm) (Nat.not_succ_le_self _))]
            exact ((Gr.refl _).alloc _).has hq0
          have hs1 : w.heap.size + 2 ≤ w1.heap.size := by have := hg.size; simp at this; omega
          clear hown hg
          go_wp2_with fail
          go_roundw
          case rel =>
            refine ⟨k + 1, by omega, by go_num, ⟨_, _, rfl⟩, own_cells_eq Ho.out ?_, hgw1, hb1, hs1⟩
            rw [Hst.out, ints_snoc]
            have h1 := Hz.out
            have h2 := Hsv.out
            rw [hc] at h1
            subst h2
            simp only [if_true, Bool.false_eq_true, if_false] at h1
            first
              | (rw [h1]; done)
              | (rw [h1]; congr 3; split <;> omega)
          case measure => simp [intOf]; omega
      · obtain rfl : k = n := by omega
        go_wp2_with fail
        go_ret
        refine ⟨_, _, rfl, ?_, hgr⟩
        have h := Hown.out
        rw [List.take_of_length_le (by rw [wts, List.length_map, Hlen.out]; exact Nat.le_refl _)] at h
        exact own_base h (by omega)
end Go.Proofs.Ytejfpajbkgfiaaa
