import Derived.Test.YtbbecboihmmllaaTrs
import Derived.Test.YtbbecboihmmllaaWts
import Derived.Test.YtbbecboihmmllaaText
import Derived.Deep.AppendLies
import Derived.Deep.RegionHeld3
import Derived.Test.YtbbecboihmmllaaPlainA
import Derived.Test.YtbbecboihmmllaaOut
import Derived.Test.YtbbecboihmmllaaSups
import Derived.Test.YtbbecboihmmllaaRoute1
import Derived.Test.YtbbecboihmmllaaSums
import Derived.Test.YtbbecboihmmllaaOut2
import Derived.Test.YtbbecboihmmllaaDraw4
import Derived.Test.YtbbecboihmmllaaIndex
import Derived.Test.YtbbecboihmmllaaDraw8
/-
  The reference's sum of a list and a multiple of another one. Printed by gen_add.py.
-/
set_option linter.unusedSimpArgs false
set_option linter.unusedVariables false
namespace Go.Proofs.Ytbbecboihmmllaa
open Go.ChangeShapes Go.WideShapes Go.ChangeAt Go.RowKit

def addV (a b : List Int) (s : Int) : List Int := List.zipWith (fun x y => x + s * y) a b
theorem addV_len {a b : List Int} {s : Int} (h : b.length = a.length) : (addV a b s).length = a.length := by simp [addV, h]
theorem addV_getD {a b : List Int} (s : Int) (h : b.length = a.length) (i : Nat) : (addV a b s).getD i 0 = a.getD i 0 + s * b.getD i 0 := by
  rw [addV, List.getD_eq_getElem?_getD, List.getElem?_zipWith]
  by_cases hi : i < a.length
  · have hb : i < b.length := by omega
    simp [hi, hb]
  · rw [List.getElem?_eq_none (by omega)]
    have e1 : a.getD i 0 = 0 := by rw [List.getD_eq_getElem?_getD, List.getElem?_eq_none (by omega)]; rfl
    have e2 : b.getD i 0 = 0 := by rw [List.getD_eq_getElem?_getD, List.getElem?_eq_none (by omega)]; rfl
    rw [e1, e2]; simp
def addVAt (a b : List Int) (s : Int) (k : Nat) : Int := a.getD k 0 + s * b.getD k 0
theorem addV_take {a b : List Int} {s : Int} (h : b.length = a.length) {k : Nat} (hk : k < a.length) : (addV a b s).take (k + 1) = (addV a b s).take k ++ [addVAt a b s k] := by
  have h1 : (addV a b s)[k]? = some (addVAt a b s k) := by
    rw [get_of_lt (by rw [addV_len h]; exact hk), addV_getD s h]; rfl
  rw [List.take_add_one, h1]; rfl
set_option maxHeartbeats 1600000 in
set_option maxRecDepth 100000 in
theorem l05AddV_any {A1 A2 : Option Addr} {m c1 c2 : Nat} (a b : List Int) (s : Int) (w : World) (hA : SlAt w 1 A1 m c1 (ints a)) (hB : SlAt w 1 A2 m c2 (ints b)) (ha : ∀ i, -1000000000000 ≤ a.getD i 0 ∧ a.getD i 0 ≤ 1000000000000) (hb : ∀ i, -1000000000000 ≤ s * b.getD i 0 ∧ s * b.getD i 0 ≤ 1000000000000) :
    Calls Try.prog 47 #[.slice A1 m c1, .slice A2 m c2, .int .i64 s] w fun e w' => ∃ g d, e = .returned (.slice (some ⟨g, 0, none⟩) m d) ∧ w'.ownsRow w.heap.size 2 1 (.slice (some ⟨g, 0, none⟩) m d) m (ints (addV a b s)) ∧ Gr w w' := by
  obtain ⟨i0, hi0, hz0, hz1, hz2⟩ := info_parts infoInt64
  have hla := hA.sl.ilen
  have hlb := hB.sl.ilen
  have hm := hA.small
  have HA := Lib.hid hA
  have HB := Lib.hid hB
  have Hla := Lib.hid hla
  have Hlb := Lib.hid hlb
  have Ha := Lib.hid ha
  have Hb := Lib.hid hb
  clear hA hB hla hlb ha hb
  go_enter Try.func47, Try.ntmps47
  go_wp2_with fail
  go_loopw [7, 8] (fun o i wr => ∃ k : Nat, k ≤ m ∧ i = .int .i64 k ∧ (∃ g c, o = .slice (some ⟨g, 0, none⟩) k c ∧ wr.ownsRow w.heap.size 2 1 (.slice (some ⟨g, 0, none⟩) k c) k (ints ((addV a b s).take k))) ∧ Gr w wr) (fun _ i _ => m - (intOf i).toNat)
  case atStart => exact ⟨0, Nat.zero_le _, rfl, ⟨_, _, rfl, World.ownsRow_lit w #[] 0 (Nat.le_refl _) (by unfold maxLen; omega) rfl⟩, (Gr.refl _).alloc _⟩
  case round =>
    obtain ⟨k, hk, rfl, ⟨g1, c3, rfl, hownr⟩, hgr⟩ := hrel
    have Hown := Lib.hid hownr
    clear hownr
    by_cases hlt : k < m
    · have hxa := get_of_lt (l := a) (k := k) (by have := Hla.out; omega)
      have hxb := get_of_lt (l := b) (k := k) (by have := Hlb.out; omega)
      have hba := Ha.out k
      have hbb := Hb.out k
      have hst := addV_take (a := a) (b := b) (s := s) (by have := Hla.out; have := Hlb.out; omega) (k := k) (by have := Hla.out; omega)
      rw [addVAt] at hst
      obtain ⟨x, hx⟩ : ∃ x, x = a.getD k 0 := ⟨_, rfl⟩
      obtain ⟨y, hy⟩ : ∃ y, y = b.getD k 0 := ⟨_, rfl⟩
      rw [← hx] at hxa hba hst
      rw [← hy] at hxb hbb hst
      obtain ⟨bA, oA, rfl, hb1, e1⟩ := HA.out.sl.int hxa
      obtain ⟨bB, oB, rfl, hb2, e2⟩ := HB.out.sl.int hxb
      replace e1 := hgr.has e1
      replace e2 := hgr.has e2
      have hbase := hgr.size
      have Hst := Lib.hid hst
      have hp : IntKind.i64.wrap (s * y) = s * y := IntWalk.i64_in _ (by omega)
      have hsy : -1000000000000 ≤ s * y ∧ s * y ≤ 1000000000000 := hbb
      obtain ⟨p, hpe⟩ : ∃ p, p = s * y := ⟨_, rfl⟩
      rw [← hpe] at hp hsy Hst
      have hq : IntKind.i64.wrap (x + p) = x + p := IntWalk.i64_in _ (by omega)
      have t1 : (k : Int) < (m : Int) := by omega
      have t0 : (0 : Int) ≤ (k : Int) := by omega
      have hp' : s * y = p := hpe.symm
      clear hxa hxb hx hy hst hpe
      have hfar : ∀ j, (Value.slice (some ⟨g1, 0, none⟩) k c3).ownBlock = some j → j ≠ bA ∧ j ≠ bB := by
        intro j hj
        have e1 := own_base_le Hown.out hj
        omega
      have hnew : ∀ o : Obj, (wr.alloc o).heap[wr.heap.size]? = some o := fun o => heap_alloc_new wr o
      go_wp2_with fail
      go_region_held3 (fun w' => w'.cell? ⟨bA, oA + k, none⟩ = some (.int .i64 x) ∧ w'.cell? ⟨bB, oB + k, none⟩ = some (.int .i64 y))
        (first
          | go_keep
          | (go_split_ands
             refine ⟨?_, ?_⟩
             · (rw [hgrow.cell_far _ (by simp; omega) (fun e => (hfar _ e.symm).1 rfl)]; assumption)
             · (rw [hgrow.cell_far _ (by simp; omega) (fun e => (hfar _ e.symm).2 rfl)]; assumption)))
        ((refine step_append_lies _ (by rfl) _ _ _ (by rfl) w.heap.size 2 i0 _ 1 8 Try.underlying28 hi0 hz0 hz1 hz2 rfl (by omega) _ k _ (by rfl) ((Hown.out.alloc _).drew) ⟨wr.heap.size, 0, none⟩ 1 1 [.int .i64 (x + p)] (by rfl) (by rfl) (World.news_of_block (cs := #[.int .i64 (x + p)]) (t := 2) (fr := (0, 0)) (hnew _)) (by simp [Value.oneCell']) (by omega) (by unfold maxLen; omega) (by omega) (by simp; omega) (wr.heap.size + 1) (by simp) ?_; intro gg cap w2 hown1 hgrow hat hlt2))
      clear hp hq hfar
      have Ho2 := Lib.hid (own_cells_eq hown1 (ints_snoc _ (x + p)).symm)
      clear hown1
      go_wp2_with fail
      go_roundw
      case rel =>
        refine ⟨k + 1, by omega, by go_num, ⟨_, _, rfl, ?_⟩, ?_⟩
        · rw [Hst.out]; exact Ho2.out
        · exact ((hgr.alloc _).drew).grown hgrow (fun j hj => own_base_le Hown.out hj)
      case measure => simp [intOf]; omega
    · obtain rfl : k = m := by omega
      go_wp2_with fail
      go_ret
      refine ⟨_, _, rfl, ?_, hgr⟩
      have h := Hown.out
      rw [List.take_of_length_le (by rw [addV_len (by have := Hla.out; have := Hlb.out; omega), Hla.out]; exact Nat.le_refl _)] at h
      exact h
end Go.Proofs.Ytbbecboihmmllaa
/-
  Buffers: whether they are valid, and their codes. Printed by gen_hr1.py.
-/
set_option linter.unusedSimpArgs false
set_option linter.unusedVariables false
namespace Go.Proofs.Ytbbecboihmmllaa
open Go.ChangeShapes Go.WideShapes Go.ChangeAt Go.RowKit

/-- Buffers' value reads as b. -/
structure BufAt (w : World) (B1 : Option Addr) (m1 d1 : Nat) (B2 : Option Addr) (m2 d2 : Nat) (B3 : Option Addr) (m3 d3 : Nat) (b : GBuf) : Prop where
  lo : SlAt w 1 B1 m1 d1 (ints b.lo)
  hi : SlAt w 1 B2 m2 d2 (ints b.hi)
  nw : SlAt w 1 B3 m3 d3 (ints b.nw)
theorem BufAt.gr {w w' : World} {B1 B2 B3 : Option Addr} {m1 d1 m2 d2 m3 d3 : Nat} {b : GBuf} (h : BufAt w B1 m1 d1 B2 m2 d2 B3 m3 d3 b) (hg : Gr w w') : BufAt w' B1 m1 d1 B2 m2 d2 B3 m3 d3 b := ⟨h.lo.gr hg, h.hi.gr hg, h.nw.gr hg⟩
theorem bfLen_eq {N m1 m2 m3 : Nat} {b : GBuf} (h1 : b.lo.length = m1) (h2 : b.hi.length = m2) (h3 : b.nw.length = m3) : bfLen N b = (decide (m1 = N) && decide (m2 = N) && decide (m3 = N)) := by rw [bfLen, h1, h2, h3]
theorem bfOk_no {N : Nat} {b : GBuf} (h : bfLen N b = false) : bfOk N b = false := by rw [bfOk, h]; rfl
theorem bfOk_bad {N k : Nat} {b : GBuf} (hk : k < N) (h : bfAt b k = false) : bfOk N b = false := by
  rw [bfOk, Bool.and_eq_false_iff]
  right
  rw [List.all_eq_false]
  exact ⟨k, List.mem_range.2 hk, by simp [h]⟩
theorem bfOk_yes {N : Nat} {b : GBuf} (h : bfLen N b = true) (hA : ∀ j, j < N → bfAt b j = true) : bfOk N b = true := by
  rw [bfOk, h, Bool.true_and, List.all_eq_true]
  intro i hi
  exact hA i (List.mem_range.1 hi)
theorem bfAt_is {b : GBuf} {k : Nat} {x y z : Int} (hx : b.lo[k]? = some x) (hy : b.hi[k]? = some y) (hz : b.nw[k]? = some z) : bfAt b k = (decide (0 ≤ x) && decide (x ≤ z) && decide (z ≤ y) && decide (y ≤ 1000000000)) := by
  rw [bfAt, List.getD_eq_getElem?_getD, List.getD_eq_getElem?_getD, List.getD_eq_getElem?_getD, hx, hy, hz]; rfl
set_option maxHeartbeats 6400000 in
set_option maxRecDepth 100000 in
theorem areBuffers_any {A1 A2 : Option Addr} {n1 c1 n2 c2 : Nat} {B1 B2 B3 : Option Addr} {m1 d1 m2 d2 m3 d3 : Nat} (b : GBuf) (w : World) (hB : BufAt w B1 m1 d1 B2 m2 d2 B3 m3 d3 b) :
    Calls Try.prog 30 #[.agg #[.slice A1 n1 c1, .slice A2 n2 c2], .agg #[.slice B1 m1 d1, .slice B2 m2 d2, .slice B3 m3 d3]] w fun e w' => e = .returned (.bool (bfOk n1 b)) ∧ Gr w w' := by
  have hl1 := hB.lo.sl.ilen
  have hl2 := hB.hi.sl.ilen
  have hl3 := hB.nw.sl.ilen
  have s3 := hB.nw.small
  have hlen := bfLen_eq (N := n1) hl1 hl2 hl3
  obtain ⟨w2, hw2⟩ : ∃ W, W = (w.alloc (.cells #[.slice A1 n1 c1, .slice A2 n2 c2] 27)).alloc (.cells #[.slice B1 m1 d1, .slice B2 m2 d2, .slice B3 m3 d3] 30) := ⟨_, rfl⟩
  have hg2 : Gr w w2 := by rw [hw2]; exact ((Gr.refl _).alloc _).alloc _
  have y0 : w2.cell? ⟨w.heap.size, 0, none⟩ = some (.slice A1 n1 c1) := by rw [hw2]; simp [go_sem]
  have z0 : w2.cell? ⟨w.heap.size + 1, 0, none⟩ = some (.slice B1 m1 d1) := by rw [hw2]; simp [go_sem]
  have z1 : w2.cell? ⟨w.heap.size + 1, 1, none⟩ = some (.slice B2 m2 d2) := by rw [hw2]; simp [go_sem]
  have z2 : w2.cell? ⟨w.heap.size + 1, 2, none⟩ = some (.slice B3 m3 d3) := by rw [hw2]; simp [go_sem]
  have HB := Lib.hid (hB.gr hg2)
  have H1 := Lib.hid hl1
  have H2 := Lib.hid hl2
  have H3 := Lib.hid hl3
  have HL := Lib.hid hlen
  clear hB hl1 hl2 hl3 hlen
  go_enter Try.func30, Try.ntmps30
  go_upto_region 1 with fail
  have ez : w.heap.size + 1 = (w.alloc (.cells #[.slice A1 n1 c1, .slice A2 n2 c2] 27)).heap.size := by simp
  rw [← hw2]
  clear hw2 ez
  by_cases e1 : m1 = n1
  case neg =>
    have t1 : ((m1 : Int) != (n1 : Int)) = true := by simp; omega
    have Hn := Lib.hid (bfOk_no (HL.out.trans (by simp [e1])))
    clear e1
    go_wp2_with fail
    go_ret
    exact ⟨ret_bool Hn.out.symm, hg2⟩
  have t1 : ((m1 : Int) != (n1 : Int)) = false := by simp; omega
  by_cases e2 : m2 = n1
  case neg =>
    have t2 : ((m2 : Int) != (n1 : Int)) = true := by simp; omega
    have Hn := Lib.hid (bfOk_no (HL.out.trans (by simp [e2])))
    clear e2
    go_wp2_with fail
    go_ret
    exact ⟨ret_bool Hn.out.symm, hg2⟩
  have t2 : ((m2 : Int) != (n1 : Int)) = false := by simp; omega
  by_cases e3 : m3 = n1
  case neg =>
    have t3 : ((m3 : Int) != (n1 : Int)) = true := by simp; omega
    have Hn := Lib.hid (bfOk_no (HL.out.trans (by simp [e3])))
    clear e3
    go_wp2_with fail
    go_ret
    exact ⟨ret_bool Hn.out.symm, hg2⟩
  have t3 : ((m3 : Int) != (n1 : Int)) = false := by simp; omega
  have Hl : Hid (bfLen n1 b = true) := Lib.hid (HL.out.trans (by simp [e1, e2, e3]))
  clear HL
  go_wp2_with fail
  clear t1 t2 t3
  have q1 : m1 = m3 := e1.trans e3.symm
  have q2 : m2 = m3 := e2.trans e3.symm
  clear e1 e2
  go_loop [35] (fun i => ∃ k : Nat, k ≤ m3 ∧ i = .int .i64 k ∧ ∀ j, j < k → bfAt b j = true) (fun i => m3 - (intOf i).toNat)
  case atStart => exact ⟨0, Nat.zero_le _, rfl, fun j h => absurd h (by omega)⟩
  case round =>
    obtain ⟨k, hk, rfl, hno⟩ := hrel
    have Hno := Lib.hid hno
    clear hno
    by_cases hlt : k < m3
    · obtain ⟨x, hx⟩ : ∃ x, b.lo[k]? = some x := ⟨_, List.getElem?_eq_getElem (by have := H1.out; omega)⟩
      obtain ⟨y, hy⟩ : ∃ y, b.hi[k]? = some y := ⟨_, List.getElem?_eq_getElem (by have := H2.out; omega)⟩
      obtain ⟨z, hz⟩ : ∃ z, b.nw[k]? = some z := ⟨_, List.getElem?_eq_getElem (by have := H3.out; omega)⟩
      obtain ⟨p1, o1, rfl, _, x0⟩ := HB.out.lo.sl.int hx
      obtain ⟨p2, o2, rfl, _, y0'⟩ := HB.out.hi.sl.int hy
      obtain ⟨p3, o3, rfl, _, z0'⟩ := HB.out.nw.sl.int hz
      have HA := Lib.hid (bfAt_is hx hy hz)
      have tk : (k : Int) < (m3 : Int) := by omega
      have tk1 : (k : Int) < (m1 : Int) := by omega
      have tk2 : (k : Int) < (m2 : Int) := by omega
      have t0 : (0 : Int) ≤ (k : Int) := by omega
      clear hx hy hz
      by_cases f1 : x < 0
      · have tf1 : decide (x < 0) = true := by simp [f1]
        have Hb := Lib.hid (bfOk_bad (N := n1) (by omega) (HA.out.trans (by simp; omega)))
        go_wp2_with fail
        go_ret
        exact ⟨ret_bool Hb.out.symm, hg2⟩
      have tf1 : decide (x < 0) = false := by simp; omega
      by_cases f2 : z < x
      · have tf2 : decide (z < x) = true := by simp [f2]
        have Hb := Lib.hid (bfOk_bad (N := n1) (by omega) (HA.out.trans (by simp; omega)))
        clear f1
        go_wp2_with fail
        go_ret
        exact ⟨ret_bool Hb.out.symm, hg2⟩
      have tf2 : decide (z < x) = false := by simp; omega
      by_cases f3 : y < z
      · have tf3 : decide (y < z) = true := by simp [f3]
        have Hb := Lib.hid (bfOk_bad (N := n1) (by omega) (HA.out.trans (by simp; omega)))
        clear f1 f2
        go_wp2_with fail
        go_ret
        exact ⟨ret_bool Hb.out.symm, hg2⟩
      have tf3 : decide (y < z) = false := by simp; omega
      by_cases f4 : 1000000000 < y
      · have tf4 : decide (1000000000 < y) = true := by simp [f4]
        have Hb := Lib.hid (bfOk_bad (N := n1) (by omega) (HA.out.trans (by simp; omega)))
        clear f1 f2 f3
        go_wp2_with fail
        go_ret
        exact ⟨ret_bool Hb.out.symm, hg2⟩
      have tf4 : decide (1000000000 < y) = false := by simp; omega
      have Hb : Hid (bfAt b k = true) := Lib.hid (HA.out.trans (by simp; omega))
      clear f1 f2 f3 f4
      go_wp2_with fail
      go_round
      case rel => exact ⟨k + 1, by omega, by go_num, fun j hj => by
        by_cases e : j = k
        · rw [e]; exact Hb.out
        · exact Hno.out j (by omega)⟩
      case measure => simp [intOf]; omega
    · obtain rfl : k = m3 := by omega
      go_wp2_with fail
      go_ret
      exact ⟨ret_bool (bfOk_yes Hl.out (fun j hj => Hno.out j (by omega))).symm, hg2⟩
set_option maxHeartbeats 6400000 in
set_option maxRecDepth 100000 in
theorem l19Is_any {A1 A2 : Option Addr} {n1 c1 n2 c2 : Nat} {B1 B2 B3 : Option Addr} {m1 d1 m2 d2 m3 d3 : Nat} (b : GBuf) (w : World) (hB : BufAt w B1 m1 d1 B2 m2 d2 B3 m3 d3 b) :
    Calls Try.prog 32 #[.agg #[.slice A1 n1 c1, .slice A2 n2 c2], .agg #[.slice B1 m1 d1, .slice B2 m2 d2, .slice B3 m3 d3]] w fun e w' => e = .returned (.bool (bfOk n1 b)) ∧ Gr w w' := by
  have hl1 := hB.lo.sl.ilen
  have hl2 := hB.hi.sl.ilen
  have hl3 := hB.nw.sl.ilen
  have s3 := hB.nw.small
  have hlen := bfLen_eq (N := n1) hl1 hl2 hl3
  obtain ⟨w2, hw2⟩ : ∃ W, W = (w.alloc (.cells #[.slice A1 n1 c1, .slice A2 n2 c2] 27)).alloc (.cells #[.slice B1 m1 d1, .slice B2 m2 d2, .slice B3 m3 d3] 30) := ⟨_, rfl⟩
  have hg2 : Gr w w2 := by rw [hw2]; exact ((Gr.refl _).alloc _).alloc _
  have y0 : w2.cell? ⟨w.heap.size, 0, none⟩ = some (.slice A1 n1 c1) := by rw [hw2]; simp [go_sem]
  have z0 : w2.cell? ⟨w.heap.size + 1, 0, none⟩ = some (.slice B1 m1 d1) := by rw [hw2]; simp [go_sem]
  have z1 : w2.cell? ⟨w.heap.size + 1, 1, none⟩ = some (.slice B2 m2 d2) := by rw [hw2]; simp [go_sem]
  have z2 : w2.cell? ⟨w.heap.size + 1, 2, none⟩ = some (.slice B3 m3 d3) := by rw [hw2]; simp [go_sem]
  have HB := Lib.hid (hB.gr hg2)
  have H1 := Lib.hid hl1
  have H2 := Lib.hid hl2
  have H3 := Lib.hid hl3
  have HL := Lib.hid hlen
  clear hB hl1 hl2 hl3 hlen
  go_enter Try.func32, Try.ntmps32
  go_upto_region 1 with fail
  have ez : w.heap.size + 1 = (w.alloc (.cells #[.slice A1 n1 c1, .slice A2 n2 c2] 27)).heap.size := by simp
  rw [← hw2]
  clear hw2 ez
  by_cases e1 : m1 = n1
  case neg =>
    have t1 : ((m1 : Int) != (n1 : Int)) = true := by simp; omega
    have Hn := Lib.hid (bfOk_no (HL.out.trans (by simp [e1])))
    clear e1
    go_wp2_with fail
    go_ret
    exact ⟨ret_bool Hn.out.symm, hg2⟩
  have t1 : ((m1 : Int) != (n1 : Int)) = false := by simp; omega
  by_cases e2 : m2 = n1
  case neg =>
    have t2 : ((m2 : Int) != (n1 : Int)) = true := by simp; omega
    have Hn := Lib.hid (bfOk_no (HL.out.trans (by simp [e2])))
    clear e2
    go_wp2_with fail
    go_ret
    exact ⟨ret_bool Hn.out.symm, hg2⟩
  have t2 : ((m2 : Int) != (n1 : Int)) = false := by simp; omega
  by_cases e3 : m3 = n1
  case neg =>
    have t3 : ((m3 : Int) != (n1 : Int)) = true := by simp; omega
    have Hn := Lib.hid (bfOk_no (HL.out.trans (by simp [e3])))
    clear e3
    go_wp2_with fail
    go_ret
    exact ⟨ret_bool Hn.out.symm, hg2⟩
  have t3 : ((m3 : Int) != (n1 : Int)) = false := by simp; omega
  have Hl : Hid (bfLen n1 b = true) := Lib.hid (HL.out.trans (by simp [e1, e2, e3]))
  clear HL
  go_wp2_with fail
  clear t1 t2 t3
  have q1 : m1 = m3 := e1.trans e3.symm
  have q2 : m2 = m3 := e2.trans e3.symm
  clear e1 e2
  go_loopw [5] (fun i wr => ∃ k : Nat, k ≤ m3 ∧ i = .int .i64 k ∧ (∀ j, j < k → bfAt b j = true) ∧ Gr w2 wr) (fun i _ => m3 - (intOf i).toNat)
  case atStart => exact ⟨0, Nat.zero_le _, rfl, fun j h => absurd h (by omega), Gr.refl _⟩
  case round =>
    obtain ⟨k, hk, rfl, hno, hgr⟩ := hrel
    replace y0 := hgr.has y0
    replace z0 := hgr.has z0
    replace z1 := hgr.has z1
    replace z2 := hgr.has z2
    have Hno := Lib.hid hno
    clear hno
    by_cases hlt : k < m3
    · obtain ⟨x, hx⟩ : ∃ x, b.lo[k]? = some x := ⟨_, List.getElem?_eq_getElem (by have := H1.out; omega)⟩
      obtain ⟨y, hy⟩ : ∃ y, b.hi[k]? = some y := ⟨_, List.getElem?_eq_getElem (by have := H2.out; omega)⟩
      obtain ⟨z, hz⟩ : ∃ z, b.nw[k]? = some z := ⟨_, List.getElem?_eq_getElem (by have := H3.out; omega)⟩
      obtain ⟨p1, o1, rfl, _, x0⟩ := (HB.out.gr hgr).lo.sl.int hx
      obtain ⟨p2, o2, rfl, _, y0'⟩ := (HB.out.gr hgr).hi.sl.int hy
      obtain ⟨p3, o3, rfl, _, z0'⟩ := (HB.out.gr hgr).nw.sl.int hz
      have HA := Lib.hid (bfAt_is hx hy hz)
      have tk : (k : Int) < (m3 : Int) := by omega
      have tk1 : (k : Int) < (m1 : Int) := by omega
      have tk2 : (k : Int) < (m2 : Int) := by omega
      have t0 : (0 : Int) ≤ (k : Int) := by omega
      clear hx hy hz
      by_cases f1 : x < 0
      · have tf1 : decide (x < 0) = true := by simp [f1]
        have Hb := Lib.hid (bfOk_bad (N := n1) (by omega) (HA.out.trans (by simp; omega)))
        go_wp2_with fail
        refine wp_region_text (fun w' => Gr wr w') (by kernel_rfl) (by kernel_rfl) (by decide) (Gr.refl _).drew ?_
        repeat (first
          | ((with_reducible refine wpText_skip ?_ ?_)
             · rfl
             simp only [Act.put, List.setIfInBounds_toArray, List.set_cons_zero, List.set_cons_succ])
          | ((with_reducible refine wpText_yield (v := ?_) ?_ ?_ ?_)
             rotate_left
             · rfl
             · (intro W hW; have kz0 := hW.has z0; have kz1 := hW.has z1; have kz2 := hW.has z2; have kx0 := hW.has x0; have ky0' := hW.has y0'; have kz0' := hW.has z0'; first | (go_simp; done) | (go_simp; with_reducible rfl))
             simp only [Act.put, List.setIfInBounds_toArray, List.set_cons_zero, List.set_cons_succ])
          | ((with_reducible refine wpText_yield1 (v := ?_) ?_ ?_ ?_)
             rotate_left
             · rfl
             · (intro W hW; have kz0 := hW.has z0; have kz1 := hW.has z1; have kz2 := hW.has z2; have kx0 := hW.has x0; have ky0' := hW.has y0'; have kz0' := hW.has z0'; first | (go_simp; done) | (go_simp; with_reducible rfl))
             simp only [Act.put, List.setIfInBounds_toArray, List.set_cons_zero, List.set_cons_succ]))
        intro w6 hS6
        go_wp2_with fail
        go_ret
        exact ⟨ret_bool Hb.out.symm, (hg2.trans hgr).trans hS6⟩
      have tf1 : decide (x < 0) = false := by simp; omega
      by_cases f2 : z < x
      · have tf2 : decide (z < x) = true := by simp [f2]
        have Hb := Lib.hid (bfOk_bad (N := n1) (by omega) (HA.out.trans (by simp; omega)))
        clear f1
        go_wp2_with fail
        refine wp_region_text (fun w' => Gr wr w') (by kernel_rfl) (by kernel_rfl) (by decide) (Gr.refl _).drew ?_
        repeat (first
          | ((with_reducible refine wpText_skip ?_ ?_)
             · rfl
             simp only [Act.put, List.setIfInBounds_toArray, List.set_cons_zero, List.set_cons_succ])
          | ((with_reducible refine wpText_yield (v := ?_) ?_ ?_ ?_)
             rotate_left
             · rfl
             · (intro W hW; have kz0 := hW.has z0; have kz1 := hW.has z1; have kz2 := hW.has z2; have kx0 := hW.has x0; have ky0' := hW.has y0'; have kz0' := hW.has z0'; first | (go_simp; done) | (go_simp; with_reducible rfl))
             simp only [Act.put, List.setIfInBounds_toArray, List.set_cons_zero, List.set_cons_succ])
          | ((with_reducible refine wpText_yield1 (v := ?_) ?_ ?_ ?_)
             rotate_left
             · rfl
             · (intro W hW; have kz0 := hW.has z0; have kz1 := hW.has z1; have kz2 := hW.has z2; have kx0 := hW.has x0; have ky0' := hW.has y0'; have kz0' := hW.has z0'; first | (go_simp; done) | (go_simp; with_reducible rfl))
             simp only [Act.put, List.setIfInBounds_toArray, List.set_cons_zero, List.set_cons_succ]))
        intro w6 hS6
        go_wp2_with fail
        go_ret
        exact ⟨ret_bool Hb.out.symm, (hg2.trans hgr).trans hS6⟩
      have tf2 : decide (z < x) = false := by simp; omega
      by_cases f3 : y < z
      · have tf3 : decide (y < z) = true := by simp [f3]
        have Hb := Lib.hid (bfOk_bad (N := n1) (by omega) (HA.out.trans (by simp; omega)))
        clear f1 f2
        go_wp2_with fail
        refine wp_region_text (fun w' => Gr wr w') (by kernel_rfl) (by kernel_rfl) (by decide) (Gr.refl _).drew ?_
        repeat (first
          | ((with_reducible refine wpText_skip ?_ ?_)
             · rfl
             simp only [Act.put, List.setIfInBounds_toArray, List.set_cons_zero, List.set_cons_succ])
          | ((with_reducible refine wpText_yield (v := ?_) ?_ ?_ ?_)
             rotate_left
             · rfl
             · (intro W hW; have kz0 := hW.has z0; have kz1 := hW.has z1; have kz2 := hW.has z2; have kx0 := hW.has x0; have ky0' := hW.has y0'; have kz0' := hW.has z0'; first | (go_simp; done) | (go_simp; with_reducible rfl))
             simp only [Act.put, List.setIfInBounds_toArray, List.set_cons_zero, List.set_cons_succ])
          | ((with_reducible refine wpText_yield1 (v := ?_) ?_ ?_ ?_)
             rotate_left
             · rfl
             · (intro W hW; have kz0 := hW.has z0; have kz1 := hW.has z1; have kz2 := hW.has z2; have kx0 := hW.has x0; have ky0' := hW.has y0'; have kz0' := hW.has z0'; first | (go_simp; done) | (go_simp; with_reducible rfl))
             simp only [Act.put, List.setIfInBounds_toArray, List.set_cons_zero, List.set_cons_succ]))
        intro w6 hS6
        go_wp2_with fail
        go_ret
        exact ⟨ret_bool Hb.out.symm, (hg2.trans hgr).trans hS6⟩
      have tf3 : decide (y < z) = false := by simp; omega
      by_cases f4 : 1000000000 < y
      · have tf4 : decide (1000000000 < y) = true := by simp [f4]
        have Hb := Lib.hid (bfOk_bad (N := n1) (by omega) (HA.out.trans (by simp; omega)))
        clear f1 f2 f3
        go_wp2_with fail
        refine wp_region_text (fun w' => Gr wr w') (by kernel_rfl) (by kernel_rfl) (by decide) (Gr.refl _).drew ?_
        repeat (first
          | ((with_reducible refine wpText_skip ?_ ?_)
             · rfl
             simp only [Act.put, List.setIfInBounds_toArray, List.set_cons_zero, List.set_cons_succ])
          | ((with_reducible refine wpText_yield (v := ?_) ?_ ?_ ?_)
             rotate_left
             · rfl
             · (intro W hW; have kz0 := hW.has z0; have kz1 := hW.has z1; have kz2 := hW.has z2; have kx0 := hW.has x0; have ky0' := hW.has y0'; have kz0' := hW.has z0'; first | (go_simp; done) | (go_simp; with_reducible rfl))
             simp only [Act.put, List.setIfInBounds_toArray, List.set_cons_zero, List.set_cons_succ])
          | ((with_reducible refine wpText_yield1 (v := ?_) ?_ ?_ ?_)
             rotate_left
             · rfl
             · (intro W hW; have kz0 := hW.has z0; have kz1 := hW.has z1; have kz2 := hW.has z2; have kx0 := hW.has x0; have ky0' := hW.has y0'; have kz0' := hW.has z0'; first | (go_simp; done) | (go_simp; with_reducible rfl))
             simp only [Act.put, List.setIfInBounds_toArray, List.set_cons_zero, List.set_cons_succ]))
        intro w6 hS6
        go_wp2_with fail
        go_ret
        exact ⟨ret_bool Hb.out.symm, (hg2.trans hgr).trans hS6⟩
      have tf4 : decide (1000000000 < y) = false := by simp; omega
      have Hb : Hid (bfAt b k = true) := Lib.hid (HA.out.trans (by simp; omega))
      clear f1 f2 f3 f4
      go_wp2_with fail
      refine wp_region_text (fun w' => Gr wr w') (by kernel_rfl) (by kernel_rfl) (by decide) (Gr.refl _).drew ?_
      repeat (first
        | ((with_reducible refine wpText_skip ?_ ?_)
           · rfl
           simp only [Act.put, List.setIfInBounds_toArray, List.set_cons_zero, List.set_cons_succ])
        | ((with_reducible refine wpText_yield (v := ?_) ?_ ?_ ?_)
           rotate_left
           · rfl
           · (intro W hW; have kz0 := hW.has z0; have kz1 := hW.has z1; have kz2 := hW.has z2; have kx0 := hW.has x0; have ky0' := hW.has y0'; have kz0' := hW.has z0'; first | (go_simp; done) | (go_simp; with_reducible rfl))
           simp only [Act.put, List.setIfInBounds_toArray, List.set_cons_zero, List.set_cons_succ])
        | ((with_reducible refine wpText_yield1 (v := ?_) ?_ ?_ ?_)
           rotate_left
           · rfl
           · (intro W hW; have kz0 := hW.has z0; have kz1 := hW.has z1; have kz2 := hW.has z2; have kx0 := hW.has x0; have ky0' := hW.has y0'; have kz0' := hW.has z0'; first | (go_simp; done) | (go_simp; with_reducible rfl))
           simp only [Act.put, List.setIfInBounds_toArray, List.set_cons_zero, List.set_cons_succ]))
      intro w6 hS6
      go_wp2_with fail
      go_roundw
      case rel => exact ⟨k + 1, by omega, by go_num, fun j hj => by
        by_cases e : j = k
        · rw [e]; exact Hb.out
        · exact Hno.out j (by omega), hgr.trans hS6⟩
      case measure => simp [intOf]; omega
    · obtain rfl : k = m3 := by omega
      go_wp2_with fail
      go_ret
      exact ⟨ret_bool (bfOk_yes Hl.out (fun j hj => Hno.out j (by omega))).symm, hg2.trans hgr⟩
end Go.Proofs.Ytbbecboihmmllaa
/-
  Buffers and hours: their codes, of both sides. Printed by gen_hr2.py.
-/
set_option linter.unusedSimpArgs false
set_option linter.unusedVariables false
namespace Go.Proofs.Ytbbecboihmmllaa
open Go.ChangeShapes Go.WideShapes Go.ChangeAt Go.RowKit

theorem bc_net {n : GNet} {b : GBuf} (h : netOk n = false) : bcCode n b = 1 := by rw [bcCode, h]; rfl
theorem bc_buf {n : GNet} {b : GBuf} {N : Nat} (hl : n.nodes.length = N) (h : netOk n = true) (h2 : bfOk N b = false) : bcCode n b = 3 := by rw [bcCode, h, hl, h2]; rfl
theorem bc_ok {n : GNet} {b : GBuf} {N : Nat} (hl : n.nodes.length = N) (h : netOk n = true) (h2 : bfOk N b = true) : bcCode n b = 0 := by rw [bcCode, h, hl, h2]; rfl
theorem hr_bad {n : GNet} {b : GBuf} {fl sup : List Int} {c : Int} (h : bcCode n b = c) (hc : c ≠ 0) : hrCode n b fl sup = c := by rw [hrCode, h, if_neg hc]
theorem hr_fl {n : GNet} {b : GBuf} {fl sup : List Int} {M : Nat} (hl : n.pipes.length = M) (h : bcCode n b = 0) (hf : supOk M fl = false) : hrCode n b fl sup = 2 := by
  rw [hrCode, if_pos h, hrOk, flOk, hl, hf]; rfl
theorem hr_sup {n : GNet} {b : GBuf} {fl sup : List Int} {N : Nat} (hl : n.nodes.length = N) (h : bcCode n b = 0) (hf : supOk N sup = false) : hrCode n b fl sup = 2 := by
  rw [hrCode, if_pos h, hrOk, hl, hf, Bool.and_false]; rfl
theorem hr_ok {n : GNet} {b : GBuf} {fl sup : List Int} {N M : Nat} (hl : n.nodes.length = N) (hl2 : n.pipes.length = M) (h : bcCode n b = 0) (hf : supOk M fl = true) (hs : supOk N sup = true) : hrCode n b fl sup = 0 := by
  rw [hrCode, if_pos h, hrOk, flOk, hl, hl2, hf, hs]; rfl
theorem ib_net {n : GNet} {b : GBuf} (h : netOk n = false) : ibB n b = false := by rw [ibB, h]; rfl
theorem ib_is {n : GNet} {b : GBuf} {N : Nat} (hl : n.nodes.length = N) (h : netOk n = true) : ibB n b = bfOk N b := by rw [ibB, h, hl]; rfl
theorem nw_small {N : Nat} {b : GBuf} (h : bfOk N b = true) : ∀ z ∈ b.nw, -1000000000 ≤ z ∧ z ≤ 1000000000 := by
  obtain ⟨h1, h2⟩ := bfOk_all h
  intro z hz
  obtain ⟨i, hi, e⟩ := List.mem_iff_getElem.1 hz
  have q := h2 i (by omega)
  have e2 : b.nw.getD i 0 = z := by rw [List.getD_eq_getElem?_getD, List.getElem?_eq_getElem hi, e]; rfl
  omega
theorem co_ok {n : GNet} {b : GBuf} (h : bcCode n b = 0) : coVal n b = b.nw.sum := by rw [coVal, if_pos h]
theorem co_no {n : GNet} {b : GBuf} (h : bcCode n b ≠ 0) : coVal n b = 0 := by rw [coVal, if_neg h]
set_option maxHeartbeats 6400000 in
set_option maxRecDepth 100000 in
theorem IsBuffers_any {A1 A2 : Option Addr} {n1 c1 n2 c2 : Nat} {B1 B2 B3 : Option Addr} {m1 d1 m2 d2 m3 d3 : Nat} (n : GNet) (b : GBuf) (w : World) (hN : NetAt w A1 n1 c1 A2 n2 c2 n) (hB : BufAt w B1 m1 d1 B2 m2 d2 B3 m3 d3 b) :
    Calls Try.prog 11 #[.agg #[.slice A1 n1 c1, .slice A2 n2 c2], .agg #[.slice B1 m1 d1, .slice B2 m2 d2, .slice B3 m3 d3]] w fun e w' => e = .returned (.bool (ibB n b)) ∧ Gr w w' := by
  have hl1 := hN.l1
  have hl2 := hN.l2
  have hm1 := hN.m1
  have hm2 := hN.m2
  obtain ⟨w2, hw2⟩ : ∃ W, W = (w.alloc (.cells #[.slice A1 n1 c1, .slice A2 n2 c2] 27)).alloc (.cells #[.slice B1 m1 d1, .slice B2 m2 d2, .slice B3 m3 d3] 30) := ⟨_, rfl⟩
  have hg2 : Gr w w2 := by rw [hw2]; exact ((Gr.refl _).alloc _).alloc _
  have y0 : w2.cell? ⟨w.heap.size, 0, none⟩ = some (.slice A1 n1 c1) := by rw [hw2]; simp [go_sem]
  have y1 : w2.cell? ⟨w.heap.size, 1, none⟩ = some (.slice A2 n2 c2) := by rw [hw2]; simp [go_sem]
  have z0 : w2.cell? ⟨w.heap.size + 1, 0, none⟩ = some (.slice B1 m1 d1) := by rw [hw2]; simp [go_sem]
  have z1 : w2.cell? ⟨w.heap.size + 1, 1, none⟩ = some (.slice B2 m2 d2) := by rw [hw2]; simp [go_sem]
  have z2 : w2.cell? ⟨w.heap.size + 1, 2, none⟩ = some (.slice B3 m3 d3) := by rw [hw2]; simp [go_sem]
  have HN := Lib.hid (hN.gr hg2)
  have HB := Lib.hid (hB.gr hg2)
  have Hl1 := Lib.hid hl1
  have Hl2 := Lib.hid hl2
  clear hN hB hl1 hl2
  go_enter Try.func11, Try.ntmps11
  go_upto_region 1 with fail
  rw [← hw2]
  clear hw2
  go_wp2_with fail
  refine (IsNetwork_any _ _ _ _ _ _ n _ HN.out).mono ?_
  rintro e w3 ⟨rfl, hg3⟩
  replace y0 := hg3.has y0
  replace y1 := hg3.has y1
  replace z0 := hg3.has z0
  replace z1 := hg3.has z1
  replace z2 := hg3.has z2
  replace HN := Lib.hid (HN.out.gr hg3)
  replace HB := Lib.hid (HB.out.gr hg3)
  replace hg2 := hg2.trans hg3
  clear hg3
  cases hn : netOk n with
  | false =>
    have Hn := Lib.hid hn
    clear hn
    go_wp2_with fail
    go_ret
    exact ⟨ret_bool (ib_net Hn.out).symm, hg2⟩
  | true =>
    have Hn := Lib.hid hn
    clear hn
    go_wp2_with fail
    refine (areBuffers_any b _ HB.out).mono ?_
    rintro e w4 ⟨rfl, hg4⟩
    replace hg2 := hg2.trans hg4
    clear hg4
    go_wp2_with fail
    go_ret
    exact ⟨ret_bool (ib_is Hl1.out Hn.out).symm, hg2⟩
set_option maxHeartbeats 6400000 in
set_option maxRecDepth 100000 in
theorem spIsBuffers_any {A1 A2 : Option Addr} {n1 c1 n2 c2 : Nat} {B1 B2 B3 : Option Addr} {m1 d1 m2 d2 m3 d3 : Nat} (n : GNet) (b : GBuf) (w : World) (hN : NetAt w A1 n1 c1 A2 n2 c2 n) (hB : BufAt w B1 m1 d1 B2 m2 d2 B3 m3 d3 b) :
    Calls Try.prog 12 #[.agg #[.slice A1 n1 c1, .slice A2 n2 c2], .agg #[.slice B1 m1 d1, .slice B2 m2 d2, .slice B3 m3 d3]] w fun e w' => e = .returned (.bool (ibB n b)) ∧ Gr w w' := by
  have hl1 := hN.l1
  have hl2 := hN.l2
  have hm1 := hN.m1
  have hm2 := hN.m2
  obtain ⟨w2, hw2⟩ : ∃ W, W = (w.alloc (.cells #[.slice A1 n1 c1, .slice A2 n2 c2] 27)).alloc (.cells #[.slice B1 m1 d1, .slice B2 m2 d2, .slice B3 m3 d3] 30) := ⟨_, rfl⟩
  have hg2 : Gr w w2 := by rw [hw2]; exact ((Gr.refl _).alloc _).alloc _
  have y0 : w2.cell? ⟨w.heap.size, 0, none⟩ = some (.slice A1 n1 c1) := by rw [hw2]; simp [go_sem]
  have y1 : w2.cell? ⟨w.heap.size, 1, none⟩ = some (.slice A2 n2 c2) := by rw [hw2]; simp [go_sem]
  have z0 : w2.cell? ⟨w.heap.size + 1, 0, none⟩ = some (.slice B1 m1 d1) := by rw [hw2]; simp [go_sem]
  have z1 : w2.cell? ⟨w.heap.size + 1, 1, none⟩ = some (.slice B2 m2 d2) := by rw [hw2]; simp [go_sem]
  have z2 : w2.cell? ⟨w.heap.size + 1, 2, none⟩ = some (.slice B3 m3 d3) := by rw [hw2]; simp [go_sem]
  have HN := Lib.hid (hN.gr hg2)
  have HB := Lib.hid (hB.gr hg2)
  have Hl1 := Lib.hid hl1
  have Hl2 := Lib.hid hl2
  clear hN hB hl1 hl2
  go_enter Try.func12, Try.ntmps12
  go_upto_region 1 with fail
  rw [← hw2]
  clear hw2
  go_wp2_with fail
  refine (spIsNetwork_any _ _ _ _ _ _ n _ HN.out).mono ?_
  rintro e w3 ⟨rfl, hg3⟩
  replace y0 := hg3.has y0
  replace y1 := hg3.has y1
  replace z0 := hg3.has z0
  replace z1 := hg3.has z1
  replace z2 := hg3.has z2
  replace HN := Lib.hid (HN.out.gr hg3)
  replace HB := Lib.hid (HB.out.gr hg3)
  replace hg2 := hg2.trans hg3
  clear hg3
  cases hn : netOk n with
  | false =>
    have Hn := Lib.hid hn
    clear hn
    go_wp2_with fail
    go_ret
    exact ⟨ret_bool (ib_net Hn.out).symm, hg2⟩
  | true =>
    have Hn := Lib.hid hn
    clear hn
    go_wp2_with fail
    refine (l19Is_any b _ HB.out).mono ?_
    rintro e w4 ⟨rfl, hg4⟩
    replace hg2 := hg2.trans hg4
    clear hg4
    go_wp2_with fail
    go_ret
    exact ⟨ret_bool (ib_is Hl1.out Hn.out).symm, hg2⟩
set_option maxHeartbeats 6400000 in
set_option maxRecDepth 100000 in
theorem l19Code_any {A1 A2 : Option Addr} {n1 c1 n2 c2 : Nat} {B1 B2 B3 : Option Addr} {m1 d1 m2 d2 m3 d3 : Nat} (n : GNet) (b : GBuf) (w : World) (hN : NetAt w A1 n1 c1 A2 n2 c2 n) (hB : BufAt w B1 m1 d1 B2 m2 d2 B3 m3 d3 b) :
    Calls Try.prog 41 #[.agg #[.slice A1 n1 c1, .slice A2 n2 c2], .agg #[.slice B1 m1 d1, .slice B2 m2 d2, .slice B3 m3 d3]] w fun e w' => e = .returned (.int .i64 (bcCode n b)) ∧ Gr w w' := by
  have hl1 := hN.l1
  have hl2 := hN.l2
  have hm1 := hN.m1
  have hm2 := hN.m2
  obtain ⟨w2, hw2⟩ : ∃ W, W = (w.alloc (.cells #[.slice A1 n1 c1, .slice A2 n2 c2] 27)).alloc (.cells #[.slice B1 m1 d1, .slice B2 m2 d2, .slice B3 m3 d3] 30) := ⟨_, rfl⟩
  have hg2 : Gr w w2 := by rw [hw2]; exact ((Gr.refl _).alloc _).alloc _
  have y0 : w2.cell? ⟨w.heap.size, 0, none⟩ = some (.slice A1 n1 c1) := by rw [hw2]; simp [go_sem]
  have y1 : w2.cell? ⟨w.heap.size, 1, none⟩ = some (.slice A2 n2 c2) := by rw [hw2]; simp [go_sem]
  have z0 : w2.cell? ⟨w.heap.size + 1, 0, none⟩ = some (.slice B1 m1 d1) := by rw [hw2]; simp [go_sem]
  have z1 : w2.cell? ⟨w.heap.size + 1, 1, none⟩ = some (.slice B2 m2 d2) := by rw [hw2]; simp [go_sem]
  have z2 : w2.cell? ⟨w.heap.size + 1, 2, none⟩ = some (.slice B3 m3 d3) := by rw [hw2]; simp [go_sem]
  have HN := Lib.hid (hN.gr hg2)
  have HB := Lib.hid (hB.gr hg2)
  have Hl1 := Lib.hid hl1
  have Hl2 := Lib.hid hl2
  clear hN hB hl1 hl2
  go_enter Try.func41, Try.ntmps41
  go_upto_region 1 with fail
  rw [← hw2]
  clear hw2
  go_wp2_with fail
  refine (spIsNetwork_any _ _ _ _ _ _ n _ HN.out).mono ?_
  rintro e w3 ⟨rfl, hg3⟩
  replace y0 := hg3.has y0
  replace y1 := hg3.has y1
  replace z0 := hg3.has z0
  replace z1 := hg3.has z1
  replace z2 := hg3.has z2
  replace HN := Lib.hid (HN.out.gr hg3)
  replace HB := Lib.hid (HB.out.gr hg3)
  replace hg2 := hg2.trans hg3
  clear hg3
  cases hn : netOk n with
  | false =>
    have Hn := Lib.hid hn
    clear hn
    go_wp2_with fail
    go_ret
    exact ⟨ret_int (bc_net Hn.out).symm, hg2⟩
  | true =>
    have Hn := Lib.hid hn
    clear hn
    go_wp2_with fail
    refine (l19Is_any b _ HB.out).mono ?_
    rintro e w4 ⟨rfl, hg4⟩
    replace hg2 := hg2.trans hg4
    clear hg4
    cases hb : bfOk n1 b with
    | false =>
      have Hb := Lib.hid hb
      clear hb
      go_wp2_with fail
      go_ret
      exact ⟨ret_int (bc_buf Hl1.out Hn.out Hb.out).symm, hg2⟩
    | true =>
      have Hb := Lib.hid hb
      clear hb
      go_wp2_with fail
      go_ret
      exact ⟨ret_int (bc_ok Hl1.out Hn.out Hb.out).symm, hg2⟩
set_option maxHeartbeats 6400000 in
set_option maxRecDepth 100000 in
theorem l19Hour_any {A1 A2 : Option Addr} {n1 c1 n2 c2 : Nat} {B1 B2 B3 : Option Addr} {m1 d1 m2 d2 m3 d3 : Nat} {G1 G2 : Option Addr} {q1 r1 q2 r2 : Nat} (n : GNet) (b : GBuf) (fl sup : List Int) (w : World) (hN : NetAt w A1 n1 c1 A2 n2 c2 n) (hB : BufAt w B1 m1 d1 B2 m2 d2 B3 m3 d3 b) (hF : SlAt w 1 G1 q1 r1 (ints fl)) (hS : SlAt w 1 G2 q2 r2 (ints sup)) :
    Calls Try.prog 20 #[.agg #[.slice A1 n1 c1, .slice A2 n2 c2], .agg #[.slice B1 m1 d1, .slice B2 m2 d2, .slice B3 m3 d3], .agg #[.slice G1 q1 r1, .slice G2 q2 r2]] w fun e w' => e = .returned (.int .i64 (hrCode n b fl sup)) ∧ Gr w w' := by
  have hl1 := hN.l1
  have hl2 := hN.l2
  have hm1 := hN.m1
  have hm2 := hN.m2
  obtain ⟨w2, hw2⟩ : ∃ W, W = ((w.alloc (.cells #[.slice A1 n1 c1, .slice A2 n2 c2] 27)).alloc (.cells #[.slice B1 m1 d1, .slice B2 m2 d2, .slice B3 m3 d3] 30)).alloc (.cells #[.slice G1 q1 r1, .slice G2 q2 r2] 32) := ⟨_, rfl⟩
  have hg2 : Gr w w2 := by rw [hw2]; exact (((Gr.refl _).alloc _).alloc _).alloc _
  have y0 : w2.cell? ⟨w.heap.size, 0, none⟩ = some (.slice A1 n1 c1) := by rw [hw2]; simp [go_sem]
  have y1 : w2.cell? ⟨w.heap.size, 1, none⟩ = some (.slice A2 n2 c2) := by rw [hw2]; simp [go_sem]
  have z0 : w2.cell? ⟨w.heap.size + 1, 0, none⟩ = some (.slice B1 m1 d1) := by rw [hw2]; simp [go_sem]
  have z1 : w2.cell? ⟨w.heap.size + 1, 1, none⟩ = some (.slice B2 m2 d2) := by rw [hw2]; simp [go_sem]
  have z2 : w2.cell? ⟨w.heap.size + 1, 2, none⟩ = some (.slice B3 m3 d3) := by rw [hw2]; simp [go_sem]
  have u0 : w2.cell? ⟨w.heap.size + 2, 0, none⟩ = some (.slice G1 q1 r1) := by rw [hw2]; simp [go_sem]
  have u1 : w2.cell? ⟨w.heap.size + 2, 1, none⟩ = some (.slice G2 q2 r2) := by rw [hw2]; simp [go_sem]
  have HN := Lib.hid (hN.gr hg2)
  have HB := Lib.hid (hB.gr hg2)
  have Hl1 := Lib.hid hl1
  have Hl2 := Lib.hid hl2
  have HF := Lib.hid (hF.gr hg2)
  have HS := Lib.hid (hS.gr hg2)
  clear hN hB hl1 hl2 hF hS
  go_enter Try.func20, Try.ntmps20
  go_upto_region 1 with fail
  rw [← hw2]
  clear hw2
  go_wp2_with fail
  refine (l19Code_any n b _ HN.out HB.out).mono ?_
  rintro e w3 ⟨rfl, hg3⟩
  replace y0 := hg3.has y0
  replace y1 := hg3.has y1
  replace z0 := hg3.has z0
  replace z1 := hg3.has z1
  replace z2 := hg3.has z2
  replace u0 := hg3.has u0
  replace u1 := hg3.has u1
  replace HN := Lib.hid (HN.out.gr hg3)
  replace HB := Lib.hid (HB.out.gr hg3)
  replace HF := Lib.hid (HF.out.gr hg3)
  replace HS := Lib.hid (HS.out.gr hg3)
  replace hg2 := hg2.trans hg3
  clear hg3
  by_cases hc : bcCode n b = 0
  case neg =>
    have tc : (bcCode n b == 0) = false := by simp [hc]
    have Hc := Lib.hid (hr_bad (fl := fl) (sup := sup) (rfl : bcCode n b = bcCode n b) hc)
    clear hc
    go_wp2_with fail
    go_ret
    exact ⟨ret_int Hc.out.symm, hg2⟩
  have Hc := Lib.hid hc
  rw [hc]
  clear hc
  go_wp2_with fail
  refine (l05List_any fl _ HF.out hm2).mono ?_
  rintro e w4 ⟨rfl, hg4⟩
  replace y0 := hg4.has y0
  replace y1 := hg4.has y1
  replace z0 := hg4.has z0
  replace z1 := hg4.has z1
  replace z2 := hg4.has z2
  replace u0 := hg4.has u0
  replace u1 := hg4.has u1
  replace HN := Lib.hid (HN.out.gr hg4)
  replace HB := Lib.hid (HB.out.gr hg4)
  replace HF := Lib.hid (HF.out.gr hg4)
  replace HS := Lib.hid (HS.out.gr hg4)
  replace hg2 := hg2.trans hg4
  clear hg4
  cases hf : supOk n2 fl with
  | false =>
    have Hf := Lib.hid hf
    clear hf
    go_wp2_with fail
    go_ret
    exact ⟨ret_int (hr_fl Hl2.out Hc.out Hf.out).symm, hg2⟩
  | true =>
    have Hf := Lib.hid hf
    clear hf
    go_wp2_with fail
    refine (l06List_any sup _ HS.out hm1).mono ?_
    rintro e w5 ⟨rfl, hg5⟩
    replace hg2 := hg2.trans hg5
    clear hg5
    cases hs : supOk n1 sup with
    | false =>
      have Hs := Lib.hid hs
      clear hs
      go_wp2_with fail
      go_ret
      exact ⟨ret_int (hr_sup Hl1.out Hc.out Hs.out).symm, hg2⟩
    | true =>
      have Hs := Lib.hid hs
      clear hs
      go_wp2_with fail
      go_ret
      exact ⟨ret_int (hr_ok Hl1.out Hl2.out Hc.out Hf.out Hs.out).symm, hg2⟩
set_option maxHeartbeats 6400000 in
set_option maxRecDepth 100000 in
theorem checkBuffers0_any {A1 A2 : Option Addr} {n1 c1 n2 c2 : Nat} {B1 B2 B3 : Option Addr} {m1 d1 m2 d2 m3 d3 : Nat} (n : GNet) (b : GBuf) (w : World) (hN : NetAt w A1 n1 c1 A2 n2 c2 n) (hB : BufAt w B1 m1 d1 B2 m2 d2 B3 m3 d3 b) :
    Calls Try.prog 18 #[.agg #[.slice A1 n1 c1, .slice A2 n2 c2], .agg #[.slice B1 m1 d1, .slice B2 m2 d2, .slice B3 m3 d3], .slice none 0 0] w fun e w' => e = .returned (.int .i64 (bcCode n b)) ∧ Gr w w' := by
  have hl1 := hN.l1
  have hl2 := hN.l2
  have hm1 := hN.m1
  have hm2 := hN.m2
  obtain ⟨w2, hw2⟩ : ∃ W, W = (w.alloc (.cells #[.slice A1 n1 c1, .slice A2 n2 c2] 27)).alloc (.cells #[.slice B1 m1 d1, .slice B2 m2 d2, .slice B3 m3 d3] 30) := ⟨_, rfl⟩
  have hg2 : Gr w w2 := by rw [hw2]; exact ((Gr.refl _).alloc _).alloc _
  have y0 : w2.cell? ⟨w.heap.size, 0, none⟩ = some (.slice A1 n1 c1) := by rw [hw2]; simp [go_sem]
  have y1 : w2.cell? ⟨w.heap.size, 1, none⟩ = some (.slice A2 n2 c2) := by rw [hw2]; simp [go_sem]
  have z0 : w2.cell? ⟨w.heap.size + 1, 0, none⟩ = some (.slice B1 m1 d1) := by rw [hw2]; simp [go_sem]
  have z1 : w2.cell? ⟨w.heap.size + 1, 1, none⟩ = some (.slice B2 m2 d2) := by rw [hw2]; simp [go_sem]
  have z2 : w2.cell? ⟨w.heap.size + 1, 2, none⟩ = some (.slice B3 m3 d3) := by rw [hw2]; simp [go_sem]
  have HN := Lib.hid (hN.gr hg2)
  have HB := Lib.hid (hB.gr hg2)
  have Hl1 := Lib.hid hl1
  have Hl2 := Lib.hid hl2
  clear hN hB hl1 hl2
  go_enter Try.func18, Try.ntmps18
  go_upto_region 1 with fail
  rw [← hw2]
  clear hw2
  go_wp2_with fail
  refine (IsNetwork_any _ _ _ _ _ _ n _ HN.out).mono ?_
  rintro e w3 ⟨rfl, hg3⟩
  replace y0 := hg3.has y0
  replace y1 := hg3.has y1
  replace z0 := hg3.has z0
  replace z1 := hg3.has z1
  replace z2 := hg3.has z2
  replace HN := Lib.hid (HN.out.gr hg3)
  replace HB := Lib.hid (HB.out.gr hg3)
  replace hg2 := hg2.trans hg3
  clear hg3
  cases hn : netOk n with
  | false =>
    have Hn := Lib.hid hn
    clear hn
    go_wp2_with fail
    go_ret
    exact ⟨ret_int (bc_net Hn.out).symm, hg2⟩
  | true =>
    have Hn := Lib.hid hn
    clear hn
    go_wp2_with fail
    refine (areBuffers_any b _ HB.out).mono ?_
    rintro e w4 ⟨rfl, hg4⟩
    replace y0 := hg4.has y0
    replace y1 := hg4.has y1
    replace z0 := hg4.has z0
    replace z1 := hg4.has z1
    replace z2 := hg4.has z2
    replace HN := Lib.hid (HN.out.gr hg4)
    replace HB := Lib.hid (HB.out.gr hg4)
    replace hg2 := hg2.trans hg4
    clear hg4
    cases hb : bfOk n1 b with
    | false =>
      have Hb := Lib.hid hb
      clear hb
      go_wp2_with fail
      go_ret
      exact ⟨ret_int (bc_buf Hl1.out Hn.out Hb.out).symm, hg2⟩
    | true =>
      have Hb := Lib.hid hb
      clear hb
      have Hc := Lib.hid (bc_ok Hl1.out Hn.out Hb.out)
      go_wp2_with fail
      go_loopw [20] (fun i wr => i = .int .i64 0 ∧ Gr w4 wr) (fun i _ => 0)
      case atStart => exact ⟨rfl, Gr.refl _⟩
      case round =>
        obtain ⟨rfl, hgr⟩ := hrel
        go_wp2_with fail
        go_ret
        exact ⟨ret_int Hc.out.symm, hg2.trans hgr⟩
set_option maxHeartbeats 6400000 in
set_option maxRecDepth 100000 in
theorem checkBuffers1_any {A1 A2 : Option Addr} {n1 c1 n2 c2 : Nat} {B1 B2 B3 : Option Addr} {m1 d1 m2 d2 m3 d3 : Nat} {G1 G2 : Option Addr} {q1 r1 q2 r2 : Nat} (n : GNet) (b : GBuf) (fl sup : List Int) (g : Nat) (w : World) (hN : NetAt w A1 n1 c1 A2 n2 c2 n) (hB : BufAt w B1 m1 d1 B2 m2 d2 B3 m3 d3 b) (hF : SlAt w 1 G1 q1 r1 (ints fl)) (hS : SlAt w 1 G2 q2 r2 (ints sup)) (x0 : w.cell? ⟨g, 0, none⟩ = some (.slice G1 q1 r1)) (x1 : w.cell? ⟨g, 1, none⟩ = some (.slice G2 q2 r2)) :
    Calls Try.prog 18 #[.agg #[.slice A1 n1 c1, .slice A2 n2 c2], .agg #[.slice B1 m1 d1, .slice B2 m2 d2, .slice B3 m3 d3], .slice (some ⟨g, 0, none⟩) 1 1] w fun e w' => e = .returned (.int .i64 (hrCode n b fl sup)) ∧ Gr w w' := by
  have hl1 := hN.l1
  have hl2 := hN.l2
  have hm1 := hN.m1
  have hm2 := hN.m2
  obtain ⟨w2, hw2⟩ : ∃ W, W = (w.alloc (.cells #[.slice A1 n1 c1, .slice A2 n2 c2] 27)).alloc (.cells #[.slice B1 m1 d1, .slice B2 m2 d2, .slice B3 m3 d3] 30) := ⟨_, rfl⟩
  have hg2 : Gr w w2 := by rw [hw2]; exact ((Gr.refl _).alloc _).alloc _
  have y0 : w2.cell? ⟨w.heap.size, 0, none⟩ = some (.slice A1 n1 c1) := by rw [hw2]; simp [go_sem]
  have y1 : w2.cell? ⟨w.heap.size, 1, none⟩ = some (.slice A2 n2 c2) := by rw [hw2]; simp [go_sem]
  have z0 : w2.cell? ⟨w.heap.size + 1, 0, none⟩ = some (.slice B1 m1 d1) := by rw [hw2]; simp [go_sem]
  have z1 : w2.cell? ⟨w.heap.size + 1, 1, none⟩ = some (.slice B2 m2 d2) := by rw [hw2]; simp [go_sem]
  have z2 : w2.cell? ⟨w.heap.size + 1, 2, none⟩ = some (.slice B3 m3 d3) := by rw [hw2]; simp [go_sem]
  replace x0 := hg2.has x0
  replace x1 := hg2.has x1
  have HF := Lib.hid (hF.gr hg2)
  have HS := Lib.hid (hS.gr hg2)
  clear hF hS
  have HN := Lib.hid (hN.gr hg2)
  have HB := Lib.hid (hB.gr hg2)
  have Hl1 := Lib.hid hl1
  have Hl2 := Lib.hid hl2
  clear hN hB hl1 hl2
  go_enter Try.func18, Try.ntmps18
  go_upto_region 1 with fail
  rw [← hw2]
  clear hw2
  go_wp2_with fail
  refine (IsNetwork_any _ _ _ _ _ _ n _ HN.out).mono ?_
  rintro e w3 ⟨rfl, hg3⟩
  replace y0 := hg3.has y0
  replace y1 := hg3.has y1
  replace z0 := hg3.has z0
  replace z1 := hg3.has z1
  replace z2 := hg3.has z2
  replace x0 := hg3.has x0
  replace x1 := hg3.has x1
  replace HN := Lib.hid (HN.out.gr hg3)
  replace HB := Lib.hid (HB.out.gr hg3)
  replace HF := Lib.hid (HF.out.gr hg3)
  replace HS := Lib.hid (HS.out.gr hg3)
  replace hg2 := hg2.trans hg3
  clear hg3
  cases hn : netOk n with
  | false =>
    have Hn := Lib.hid hn
    clear hn
    go_wp2_with fail
    go_ret
    exact ⟨ret_int (hr_bad (bc_net Hn.out) (by decide)).symm, hg2⟩
  | true =>
    have Hn := Lib.hid hn
    clear hn
    go_wp2_with fail
    refine (areBuffers_any b _ HB.out).mono ?_
    rintro e w4 ⟨rfl, hg4⟩
    replace y0 := hg4.has y0
    replace y1 := hg4.has y1
    replace z0 := hg4.has z0
    replace z1 := hg4.has z1
    replace z2 := hg4.has z2
    replace x0 := hg4.has x0
    replace x1 := hg4.has x1
    replace HN := Lib.hid (HN.out.gr hg4)
    replace HB := Lib.hid (HB.out.gr hg4)
    replace HF := Lib.hid (HF.out.gr hg4)
    replace HS := Lib.hid (HS.out.gr hg4)
    replace hg2 := hg2.trans hg4
    clear hg4
    cases hb : bfOk n1 b with
    | false =>
      have Hb := Lib.hid hb
      clear hb
      go_wp2_with fail
      go_ret
      exact ⟨ret_int (hr_bad (bc_buf Hl1.out Hn.out Hb.out) (by decide)).symm, hg2⟩
    | true =>
      have Hb := Lib.hid hb
      clear hb
      have Hc := Lib.hid (bc_ok Hl1.out Hn.out Hb.out)
      go_wp2_with fail
      go_loopw [20] (fun i wr => ∃ k : Nat, k ≤ 1 ∧ i = .int .i64 k ∧ (k = 1 → hrCode n b fl sup = 0) ∧ Gr w4 wr) (fun i _ => 1 - (intOf i).toNat)
      case atStart => exact ⟨0, by omega, rfl, fun h => absurd h (by omega), Gr.refl _⟩
      case round =>
        obtain ⟨k, hk, rfl, hno, hgr⟩ := hrel
        have Hno := Lib.hid hno
        clear hno
        by_cases hlt : k < 1
        · obtain rfl : k = 0 := by omega
          replace y0 := hgr.has y0
          replace y1 := hgr.has y1
          replace z0 := hgr.has z0
          replace z1 := hgr.has z1
          replace z2 := hgr.has z2
          replace x0 := hgr.has x0
          replace x1 := hgr.has x1
          go_upto_region 8 with fail
          obtain ⟨w5, hw5⟩ : ∃ W, W = wr.alloc (.cells #[.slice G1 q1 r1, .slice G2 q2 r2] 32) := ⟨_, rfl⟩
          have hg5 : Gr wr w5 := by rw [hw5]; exact (Gr.refl _).alloc _
          have v0 : w5.cell? ⟨wr.heap.size, 0, none⟩ = some (.slice G1 q1 r1) := by rw [hw5]; simp [go_sem]
          have v1 : w5.cell? ⟨wr.heap.size, 1, none⟩ = some (.slice G2 q2 r2) := by rw [hw5]; simp [go_sem]
          replace y0 := hg5.has y0
          replace y1 := hg5.has y1
          replace z0 := hg5.has z0
          replace z1 := hg5.has z1
          replace z2 := hg5.has z2
          replace x0 := hg5.has x0
          replace x1 := hg5.has x1
          have hgw := hgr.trans hg5
          have HF5 := Lib.hid (HF.out.gr hgw)
          have HS5 := Lib.hid (HS.out.gr hgw)
          rw [← hw5]
          clear hw5 hg5
          go_wp2_with fail
          refine (isFlowList_any fl _ HF5.out hm2).mono ?_
          rintro e w6 ⟨rfl, hg6⟩
          replace y0 := hg6.has y0
          replace y1 := hg6.has y1
          replace z0 := hg6.has z0
          replace z1 := hg6.has z1
          replace z2 := hg6.has z2
          replace x0 := hg6.has x0
          replace x1 := hg6.has x1
          replace v0 := hg6.has v0
          replace v1 := hg6.has v1
          replace HS5 := Lib.hid (HS5.out.gr hg6)
          replace hgw := hgw.trans hg6
          clear hg6
          cases hf : supOk n2 fl with
          | false =>
            have Hf := Lib.hid hf
            clear hf
            go_wp2_with fail
            go_ret
            exact ⟨ret_int (hr_fl Hl2.out Hc.out Hf.out).symm, hg2.trans hgw⟩
          | true =>
            have Hf := Lib.hid hf
            clear hf
            go_wp2_with fail
            refine (areSupplies_any sup _ HS5.out hm1).mono ?_
            rintro e w7 ⟨rfl, hg7⟩
            replace hgw := hgw.trans hg7
            clear hg7
            cases hs : supOk n1 sup with
            | false =>
              have Hs := Lib.hid hs
              clear hs
              go_wp2_with fail
              go_ret
              exact ⟨ret_int (hr_sup Hl1.out Hc.out Hs.out).symm, hg2.trans hgw⟩
            | true =>
              have Hs := Lib.hid hs
              clear hs
              go_wp2_with fail
              go_roundw
              case rel => exact ⟨1, by omega, by go_num, fun _ => hr_ok Hl1.out Hl2.out Hc.out Hf.out Hs.out, hgw⟩
              case measure => simp [intOf]
        · obtain rfl : k = 1 := by omega
          go_wp2_with fail
          go_ret
          exact ⟨ret_int (Hno.out trivial).symm, hg2.trans hgr⟩
set_option maxHeartbeats 6400000 in
set_option maxRecDepth 100000 in
theorem ContentOf_any {A1 A2 : Option Addr} {n1 c1 n2 c2 : Nat} {B1 B2 B3 : Option Addr} {m1 d1 m2 d2 m3 d3 : Nat} (n : GNet) (b : GBuf) (w : World) (hN : NetAt w A1 n1 c1 A2 n2 c2 n) (hB : BufAt w B1 m1 d1 B2 m2 d2 B3 m3 d3 b) :
    Calls Try.prog 14 #[.agg #[.slice A1 n1 c1, .slice A2 n2 c2], .agg #[.slice B1 m1 d1, .slice B2 m2 d2, .slice B3 m3 d3]] w fun e w' => e = .returned (.tuple #[.int .i64 (coVal n b), .int .i64 (bcCode n b)]) ∧ Gr w w' := by
  have hl1 := hN.l1
  have hl2 := hN.l2
  have hm1 := hN.m1
  have hm2 := hN.m2
  obtain ⟨w2, hw2⟩ : ∃ W, W = (w.alloc (.cells #[.slice A1 n1 c1, .slice A2 n2 c2] 27)).alloc (.cells #[.slice B1 m1 d1, .slice B2 m2 d2, .slice B3 m3 d3] 30) := ⟨_, rfl⟩
  have hg2 : Gr w w2 := by rw [hw2]; exact ((Gr.refl _).alloc _).alloc _
  have y0 : w2.cell? ⟨w.heap.size, 0, none⟩ = some (.slice A1 n1 c1) := by rw [hw2]; simp [go_sem]
  have y1 : w2.cell? ⟨w.heap.size, 1, none⟩ = some (.slice A2 n2 c2) := by rw [hw2]; simp [go_sem]
  have z0 : w2.cell? ⟨w.heap.size + 1, 0, none⟩ = some (.slice B1 m1 d1) := by rw [hw2]; simp [go_sem]
  have z1 : w2.cell? ⟨w.heap.size + 1, 1, none⟩ = some (.slice B2 m2 d2) := by rw [hw2]; simp [go_sem]
  have z2 : w2.cell? ⟨w.heap.size + 1, 2, none⟩ = some (.slice B3 m3 d3) := by rw [hw2]; simp [go_sem]
  have HN := Lib.hid (hN.gr hg2)
  have HB := Lib.hid (hB.gr hg2)
  have Hl1 := Lib.hid hl1
  have Hl2 := Lib.hid hl2
  clear hN hB hl1 hl2
  go_enter Try.func14, Try.ntmps14
  go_upto_region 1 with fail
  rw [← hw2]
  clear hw2
  go_wp2_with fail
  refine (checkBuffers0_any n b _ HN.out HB.out).mono ?_
  rintro e w3 ⟨rfl, hg3⟩
  replace y0 := hg3.has y0
  replace y1 := hg3.has y1
  replace z0 := hg3.has z0
  replace z1 := hg3.has z1
  replace z2 := hg3.has z2
  replace HN := Lib.hid (HN.out.gr hg3)
  replace HB := Lib.hid (HB.out.gr hg3)
  replace hg2 := hg2.trans hg3
  clear hg3
  by_cases hc : bcCode n b = 0
  case neg =>
    have tc : (bcCode n b != 0) = true := by simp [hc]
    have Hc := Lib.hid (co_no hc)
    clear hc
    go_wp2_with fail
    go_ret2
    exact ⟨by rw [Hc.out]; rfl, hg2⟩
  have Hv := Lib.hid (co_ok hc)
  have Hz := Lib.hid (nw_small (bcCode_zero hc).2)
  have Hc := Lib.hid hc
  rw [hc]
  clear hc
  go_wp2_with fail
  refine (sumOf_any b.nw _ HB.out.nw Hz.out).mono ?_
  rintro e w' ⟨rfl, rfl⟩
  go_wp2_with fail
  go_ret2
  exact ⟨by rw [Hv.out, Hc.out]; rfl, hg2⟩
end Go.Proofs.Ytbbecboihmmllaa
/-
  Contents after an hour, of both sides. Printed by gen_hr3.py.
-/
set_option linter.unusedSimpArgs false
set_option linter.unusedVariables false
namespace Go.Proofs.Ytbbecboihmmllaa
open Go.ChangeShapes Go.WideShapes Go.ChangeAt Go.RowKit

/-- The first k elements of a list are turned. -/
def upL (f : Nat → Int) (l : List Int) (k : Nat) : List Int := (List.range l.length).map fun i => if i < k then f i else l.getD i 0
theorem upL_len (f : Nat → Int) (l : List Int) (k : Nat) : (upL f l k).length = l.length := by simp [upL]
theorem upL_zero (f : Nat → Int) (l : List Int) : upL f l 0 = l := by
  refine List.ext_getElem? fun i => ?_
  rw [upL, List.getElem?_map]
  by_cases h : i < l.length
  · rw [List.getElem?_range h, List.getElem?_eq_getElem h]
    simp [h]
  · rw [List.getElem?_eq_none (by simpa using h), List.getElem?_eq_none (by omega)]; rfl
theorem upL_get {f : Nat → Int} {l : List Int} {k : Nat} (h : k < l.length) : (upL f l k)[k]? = some (l.getD k 0) := by
  rw [upL, List.getElem?_map, List.getElem?_range h]
  simp
theorem upL_step {f : Nat → Int} {l : List Int} {k : Nat} (h : k < l.length) : upL f l (k + 1) = (upL f l k).set k (f k) := by
  refine List.ext_getElem? fun i => ?_
  by_cases e : i = k
  · subst e
    rw [List.getElem?_set_self (by rw [upL_len]; exact h), upL, List.getElem?_map, List.getElem?_range h]
    simp
  · rw [List.getElem?_set_ne (by omega), upL, upL, List.getElem?_map, List.getElem?_map]
    by_cases hi : i < l.length
    · rw [List.getElem?_range hi]
      have : (i < k + 1) = (i < k) := by apply propext; omega
      simp [this]
    · rw [List.getElem?_eq_none (by simpa using hi)]; rfl
theorem upL_full (f : Nat → Int) (l : List Int) : upL f l l.length = (List.range l.length).map f := by
  rw [upL]
  refine List.map_congr_left fun i hi => ?_
  rw [if_pos (List.mem_range.1 hi)]
theorem out_bnd {n : GNet} {fl : List Int} (hn : netOk n = true) (h : flOk n fl = true) (k : Nat) : -2400000 ≤ (outL n fl).getD k 0 ∧ (outL n fl).getD k 0 ≤ 2400000 := by
  rw [← outTo_full]
  by_cases hk : k < n.nodes.length
  · have e : (outTo n fl n.pipes.length).getD k 0 = outK n fl n.pipes.length k := by rw [List.getD_eq_getElem?_getD, outTo_get hk]; rfl
    have h2 := outK_bnd h n.pipes.length k
    have h3 := (netOk_all hn).1.2.2
    rw [e]
    omega
  · have e : (outTo n fl n.pipes.length).getD k 0 = 0 := by rw [List.getD_eq_getElem?_getD, List.getElem?_eq_none (by rw [outTo_len]; omega)]; rfl
    omega
theorem hsup_bnd {N : Nat} {sup : List Int} (h : supOk N sup = true) (k : Nat) : -30000 ≤ sup.getD k 0 ∧ sup.getD k 0 ≤ 30000 := by
  by_cases hk : k < sup.length
  · have e : sup[k]? = some (sup.getD k 0) := get_of_lt hk
    exact (supOk_all h).2 _ (List.mem_of_getElem? e)
  · have e : sup.getD k 0 = 0 := by rw [List.getD_eq_getElem?_getD, List.getElem?_eq_none (by omega)]; rfl
    omega
theorem nw_bnd {N : Nat} {b : GBuf} (h : bfOk N b = true) (k : Nat) : 0 ≤ b.nw.getD k 0 ∧ b.nw.getD k 0 ≤ 1000000000 := by
  obtain ⟨h1, h2⟩ := bfOk_all h
  by_cases hk : k < N
  · have := h2 k hk; omega
  · have e : b.nw.getD k 0 = 0 := by rw [List.getD_eq_getElem?_getD, List.getElem?_eq_none (by omega)]; rfl
    omega
theorem nxL_up {n : GNet} {b : GBuf} {fl sup : List Int} (h : b.nw.length = n.nodes.length) : upL (nxAt n b fl sup) b.nw b.nw.length = nxL n b fl sup := by rw [upL_full, h]; rfl
theorem nxL_add {n : GNet} {b : GBuf} {fl sup : List Int} (h : b.nw.length = n.nodes.length) (h2 : sup.length = n.nodes.length) : addV (addV b.nw sup 1) (outL n fl) (-1) = nxL n b fl sup := by
  have l1 : (addV b.nw sup 1).length = b.nw.length := addV_len (by omega)
  have l2 : (outL n fl).length = n.nodes.length := outL_len2 n fl
  refine List.ext_getElem? fun i => ?_
  by_cases hi : i < n.nodes.length
  · rw [get_of_lt (by rw [addV_len (by omega)]; omega), addV_getD _ (by omega), addV_getD _ (by omega), nxL_get hi, nxAt]
    congr 1
    omega
  · rw [List.getElem?_eq_none (by rw [addV_len (by omega)]; omega), List.getElem?_eq_none (by rw [nxL_len]; omega)]
theorem hr_lens {n : GNet} {b : GBuf} {fl sup : List Int} (h : hrCode n b fl sup = 0) : netOk n = true ∧ bfOk n.nodes.length b = true ∧ flOk n fl = true ∧ supOk n.nodes.length sup = true ∧ b.nw.length = n.nodes.length ∧ fl.length = n.pipes.length ∧ sup.length = n.nodes.length := by
  obtain ⟨h1, h2, h3⟩ := hrCode_zero h
  obtain ⟨h4, h5⟩ := bcCode_zero h1
  exact ⟨h4, h5, h2, h3, (bfOk_all h5).1.2.2, (flOk_all h2).1, (supOk_all h3).1⟩
set_option maxHeartbeats 6400000 in
set_option maxRecDepth 100000 in
theorem contentAfter_any {A1 A2 : Option Addr} {n1 c1 n2 c2 : Nat} {B1 B2 B3 : Option Addr} {m1 d1 m2 d2 m3 d3 : Nat} {G1 G2 : Option Addr} {q1 r1 q2 r2 : Nat} (n : GNet) (b : GBuf) (fl sup : List Int) (w : World) (hN : NetAt w A1 n1 c1 A2 n2 c2 n) (hB : BufAt w B1 m1 d1 B2 m2 d2 B3 m3 d3 b) (hF : SlAt w 1 G1 q1 r1 (ints fl)) (hS : SlAt w 1 G2 q2 r2 (ints sup)) (hc : hrCode n b fl sup = 0) :
    Calls Try.prog 26 #[.agg #[.slice A1 n1 c1, .slice A2 n2 c2], .agg #[.slice B1 m1 d1, .slice B2 m2 d2, .slice B3 m3 d3], .agg #[.slice G1 q1 r1, .slice G2 q2 r2]] w fun e w' => ∃ A c, e = .returned (.slice A n1 c) ∧ w'.ownsRow w.heap.size 2 1 (.slice A n1 c) n1 (ints (nxL n b fl sup)) ∧ Gr w w' := by
  obtain ⟨g1, g2, g3, g4, g5, g6, g7⟩ := hr_lens hc
  have hq1 : q1 = n2 := by have := hF.sl.ilen; have := hN.l2; omega
  have hq2 : q2 = n1 := by have := hS.sl.ilen; have := hN.l1; omega
  have hm3 : m3 = n1 := by have := hB.nw.sl.ilen; have := hN.l1; omega
  subst hq1
  subst hq2
  subst hm3
  have Hn := Lib.hid g1
  have Hb := Lib.hid g2
  have Hf := Lib.hid g3
  have Hs := Lib.hid g4
  have H5 := Lib.hid g5
  have H7 := Lib.hid g7
  clear g1 g2 g3 g4 g5 g6 g7 hc
  have hl1 := hN.l1
  have hl2 := hN.l2
  have hm1 := hN.m1
  have hm2 := hN.m2
  obtain ⟨w2, hw2⟩ : ∃ W, W = ((w.alloc (.cells #[.slice A1 m3 c1, .slice A2 q1 c2] 27)).alloc (.cells #[.slice B1 m1 d1, .slice B2 m2 d2, .slice B3 m3 d3] 30)).alloc (.cells #[.slice G1 q1 r1, .slice G2 m3 r2] 32) := ⟨_, rfl⟩
  have hg2 : Gr w w2 := by rw [hw2]; exact (((Gr.refl _).alloc _).alloc _).alloc _
  have y0 : w2.cell? ⟨w.heap.size, 0, none⟩ = some (.slice A1 m3 c1) := by rw [hw2]; simp [go_sem]
  have y1 : w2.cell? ⟨w.heap.size, 1, none⟩ = some (.slice A2 q1 c2) := by rw [hw2]; simp [go_sem]
  have z0 : w2.cell? ⟨w.heap.size + 1, 0, none⟩ = some (.slice B1 m1 d1) := by rw [hw2]; simp [go_sem]
  have z1 : w2.cell? ⟨w.heap.size + 1, 1, none⟩ = some (.slice B2 m2 d2) := by rw [hw2]; simp [go_sem]
  have z2 : w2.cell? ⟨w.heap.size + 1, 2, none⟩ = some (.slice B3 m3 d3) := by rw [hw2]; simp [go_sem]
  have u0 : w2.cell? ⟨w.heap.size + 2, 0, none⟩ = some (.slice G1 q1 r1) := by rw [hw2]; simp [go_sem]
  have u1 : w2.cell? ⟨w.heap.size + 2, 1, none⟩ = some (.slice G2 m3 r2) := by rw [hw2]; simp [go_sem]
  have HN := Lib.hid (hN.gr hg2)
  have HB := Lib.hid (hB.gr hg2)
  have Hl1 := Lib.hid hl1
  have Hl2 := Lib.hid hl2
  have HF := Lib.hid (hF.gr hg2)
  have HS := Lib.hid (hS.gr hg2)
  clear hN hB hl1 hl2 hF hS
  go_enter Try.func26, Try.ntmps26
  go_upto_region 1 with fail
  rw [← hw2]
  clear hw2
  go_wp2_with fail
  have hsw := hg2.size
  have hsw2 : w.heap.size + 2 < w2.heap.size := lt_of_cell u1
  refine (cloneInt_any (ints b.nw) _ HB.out.nw.small HB.out.nw.sl (ints_one _)).mono ?_
  rintro e w3 ⟨E, d, rfl, ho, h⟩
  replace y0 := h.has y0
  replace y1 := h.has y1
  replace z0 := h.has z0
  replace z1 := h.has z1
  replace z2 := h.has z2
  replace u0 := h.has u0
  replace u1 := h.has u1
  replace HN := Lib.hid (HN.out.gr h)
  replace HF := Lib.hid (HF.out.gr h)
  have hg23 := h
  have hs3 := h.size
  have HEl := Lib.hid (World.ownsRow.lt ho)
  have Ho := Lib.hid ho
  clear ho h
  go_wp2_with fail
  refine (outflows_any n fl _ HN.out HF.out Hn.out Hf.out).mono ?_
  rintro e w4 ⟨O, d4, rfl, ho, h⟩
  replace y0 := h.has y0
  replace y1 := h.has y1
  replace z0 := h.has z0
  replace z1 := h.has z1
  replace z2 := h.has z2
  replace u0 := h.has u0
  replace u1 := h.has u1
  have hg24 := hg23.trans h
  have hg4 := hg2.trans hg24
  have HO := Lib.hid ho
  replace Ho := Lib.hid (own_eq' (own_gr Ho.out h) (congrArg ints (upL_zero (nxAt n b fl sup) b.nw).symm))
  clear ho h HN HB HF hg23
  go_wp2_with fail
  go_loopw [18] (fun i wr => ∃ k : Nat, k ≤ m3 ∧ i = .int .i64 k ∧ wr.ownsRow w2.heap.size 2 1 (.slice E m3 d) m3 (ints (upL (nxAt n b fl sup) b.nw k)) ∧ Chg (fun j => (Value.slice E m3 d).ownBlock = some j) w4 wr ∧ Gr w wr) (fun i _ => m3 - (intOf i).toNat)
  case atStart => exact ⟨0, Nat.zero_le _, rfl, Ho.out, (Gr.refl _).chg _, hg4⟩
  case round =>
    obtain ⟨k, hk, rfl, hown, hch, hgr⟩ := hrel
    have Hown := Lib.hid hown
    have Hch := Lib.hid hch
    clear hown hch Ho
    have hl3 : b.nw.length = m3 := H5.out.trans Hl1.out
    by_cases hlt : k < m3
    · obtain ⟨X, rfl, hX0, hX1⟩ := own_form Hown.out (by omega)
      obtain ⟨Y, rfl, hY0, hY1⟩ := own_form HO.out (by omega)
      have hX3 := (HEl.out X rfl).2
      have hXY : ¬ X = Y := by omega
      obtain ⟨s, hs⟩ : ∃ s, s = sup.getD k 0 := ⟨_, rfl⟩
      obtain ⟨o, ho⟩ : ∃ o, o = (outL n fl).getD k 0 := ⟨_, rfl⟩
      obtain ⟨x, hx⟩ : ∃ x, x = b.nw.getD k 0 := ⟨_, rfl⟩
      have es : sup[k]? = some s := by rw [hs]; exact get_of_lt (by have := H7.out; have := Hl1.out; omega)
      have eo : (outL n fl)[k]? = some o := by rw [ho]; exact get_of_lt (by rw [outL_len2]; have := Hl1.out; omega)
      have ex := upL_get (f := nxAt n b fl sup) (l := b.nw) (k := k) (by omega)
      rw [← hx] at ex
      have b1 := hsup_bnd Hs.out k
      have b2 := out_bnd Hn.out Hf.out k
      have b3 := nw_bnd Hb.out k
      rw [← hs] at b1
      rw [← ho] at b2
      rw [← hx] at b3
      have hst : upL (nxAt n b fl sup) b.nw (k + 1) = (upL (nxAt n b fl sup) b.nw k).set k (x + (s - o)) := by
        rw [upL_step (by omega), nxAt, ← hx, ← hs, ← ho]
        congr 1
        omega
      have hw1 : IntKind.i64.wrap (s - o) = s - o := IntWalk.i64_in _ (by omega)
      have hw2' : IntKind.i64.wrap (x + (s - o)) = x + (s - o) := IntWalk.i64_in _ (by omega)
      have Hst := Lib.hid hst
      obtain ⟨bS, oS, rfl, hbS, xs⟩ := HS.out.sl.int es
      have xs' : wr.cell? ⟨bS, oS + k, none⟩ = some (.int .i64 s) := chg_cell' Hch.out (hg24.has xs) (by simp [Value.ownBlock]; omega)
      have xo : wr.cell? ⟨Y, k, none⟩ = some (.int .i64 o) := chg_cell' Hch.out (own_int HO.out eo).1 (by simp [Value.ownBlock]; omega)
      have xu : wr.cell? ⟨w.heap.size + 2, 1, none⟩ = some (.slice (some ⟨bS, oS, none⟩) m3 r2) := chg_cell' Hch.out u1 (by simp [Value.ownBlock]; omega)
      obtain ⟨d0, f0⟩ := own_int Hown.out ex
      have HR := Lib.hid (own_set_int Hown.out k (x + (s - o)))
      have t1 : (k : Int) < (m3 : Int) := by omega
      have t0 : (0 : Int) ≤ (k : Int) := by omega
      clear hs ho hx es eo ex hst xs u1
      go_upto_region 5 with fail
      refine wp_region_last (fun w' => w' = wr.drew) (fun w' => w' = (wr.setCell ⟨X, k, none⟩ (.int .i64 (x + (s - o)))).drew) (by kernel_rfl) (by kernel_rfl) (by decide) rfl ?_
      repeat (first
            | ((with_reducible refine wpText_skip ?_ ?_)
               · rfl
               simp only [Act.put, List.setIfInBounds_toArray, List.set_cons_zero, List.set_cons_succ])
            | ((with_reducible refine wpText_yield (v := ?_) ?_ ?_ ?_)
               rotate_left
               · rfl
               · intro W hW; first | (go_simp; done) | (go_simp; with_reducible rfl)
               simp only [Act.put, List.setIfInBounds_toArray, List.set_cons_zero, List.set_cons_succ])
            | ((with_reducible refine wpText_yield1 (v := ?_) ?_ ?_ ?_)
               rotate_left
               · rfl
               · intro W hW; first | (go_simp; done) | (go_simp; with_reducible rfl)
               simp only [Act.put, List.setIfInBounds_toArray, List.set_cons_zero, List.set_cons_succ]))
      (first
            | ((with_reducible refine wpText_do1 undef ?_ ?_ ?_)
               · rfl
               · intro W hW K hK
                 subst hW
                 go_simp
                 exact hK _ rfl
               simp only [Act.put]))
      rintro w5 rfl
      clear hw1 hw2' d0 f0
      go_wp2_with fail
      go_roundw
      case rel => exact ⟨k + 1, by omega, by go_num, by rw [Hst.out]; exact HR.out.1.drew, (Hch.out.trans (chg_of_grown HR.out.2 (fun j e => e))).trans ((Gr.refl _).drew.chg _), (hgr.setCell (show w.heap.size ≤ X by omega) _).drew⟩
      case measure => simp [intOf]; omega
    · obtain rfl : k = m3 := by omega
      go_wp2_with fail
      go_ret
      refine ⟨_, _, rfl, own_base ?_ hsw, hgr⟩
      have h := Hown.out
      rw [← hl3, nxL_up H5.out, hl3] at h
      exact h
end Go.Proofs.Ytbbecboihmmllaa
/-
  Hours: pieces of both sides. Printed by gen_hr4.py.
-/
set_option linter.unusedSimpArgs false
set_option linter.unusedVariables false
namespace Go.Proofs.Ytbbecboihmmllaa
open Go.ChangeShapes Go.WideShapes Go.ChangeAt Go.RowKit

set_option maxHeartbeats 6400000 in
set_option maxRecDepth 100000 in
theorem indicesOf_any {A1 A2 : Option Addr} {n1 c1 n2 c2 : Nat} (w : World) (hm : n1 ≤ 1048576) :
    Calls Try.prog 23 #[.agg #[.slice A1 n1 c1, .slice A2 n2 c2]] w fun e w' => ∃ A c, e = .returned (.slice A n1 c) ∧ w'.ownsRow w.heap.size 2 1 (.slice A n1 c) n1 (ints ((List.range n1).map fun (i : Nat) => (i : Int))) ∧ Gr w w' := by
  obtain ⟨i0, hi0, hz0, hz1, hz2⟩ := info_parts infoInt64
  go_enter Try.func23, Try.ntmps23
  go_wp2_with (at_make; refine wpList_make_full _ rfl _ _ _ rfl w.heap.size 2 i0 _ 1 Try.underlying28 hi0 hz0 hz1 .i64 .i64 _ _ n1 rfl rfl rfl rfl (by rw [hz2]; omega) (by unfold maxLen; omega) (by simp) ?_; intro w0 hown hg; have hgb : Gr (w.alloc (.cells #[.slice A1 n1 c1, .slice A2 n2 c2] 27)) w0 := Gr.of_grown hg; have Hown0 := Lib.hid hown; clear hown)
  have hown := Hown0.out
  have hg0 : Gr w w0 := ((Gr.refl _).alloc _).trans hgb
  have ez : (madeCells (Value.int .i64 0).cells (n1 * 1)).toList = ints (upL (fun i => (i : Int)) (List.replicate n1 0) 0) := by rw [upL_zero]; exact made_ints n1
  rw [ez] at hown
  have eg : (w.alloc (.cells #[.slice A1 n1 c1, .slice A2 n2 c2] 27)).heap.size = w.heap.size + 1 := by simp
  rw [eg] at hown
  clear ez hg hi0 hz0 hz1 hz2 eg hgb Hown0
  go_loopw [11] (fun i wr => ∃ k : Nat, k ≤ n1 ∧ i = .int .i64 k ∧ wr.ownsRow w.heap.size 2 1 (.slice (some ⟨w.heap.size + 1, 0, none⟩) n1 n1) n1 (ints (upL (fun i => (i : Int)) (List.replicate n1 0) k)) ∧ Gr w wr) (fun i _ => n1 - (intOf i).toNat)
  case atStart => exact ⟨0, Nat.zero_le _, rfl, hown, hg0⟩
  case round =>
    obtain ⟨k, hk, rfl, hownr, hgr⟩ := hrel
    have Hown := Lib.hid hownr
    clear hownr hown
    by_cases hlt : k < n1
    · have ex := upL_get (f := fun i => (i : Int)) (l := List.replicate n1 0) (k := k) (by simpa using hlt)
      obtain ⟨d0, f0⟩ := own_int Hown.out ex
      have HR := Lib.hid (own_set_int Hown.out k (k : Int))
      have Hst := Lib.hid (upL_step (f := fun i => (i : Int)) (l := List.replicate n1 0) (k := k) (by simpa using hlt))
      have t1 : (k : Int) < (n1 : Int) := by omega
      have t0 : (0 : Int) ≤ (k : Int) := by omega
      clear ex
      go_wp2_with fail
      go_roundw
      case rel => exact ⟨k + 1, by omega, by go_num, by rw [Hst.out]; exact HR.out.1, hgr.setCell (Nat.le_succ _) _⟩
      case measure => simp [intOf]; omega
    · obtain rfl : k = n1 := by omega
      go_wp2_with fail
      go_ret
      refine ⟨_, _, rfl, ?_, hgr⟩
      have h := Hown.out
      have e := upL_full (fun i => (i : Int)) (List.replicate k 0)
      rw [List.length_replicate] at e
      rw [e] at h
      exact h
set_option maxHeartbeats 6400000 in
set_option maxRecDepth 100000 in
theorem l19Next_any {A1 A2 : Option Addr} {n1 c1 n2 c2 : Nat} {G1 G2 : Option Addr} {q1 r1 q2 r2 : Nat} {B3 : Option Addr} {m3 d3 : Nat} (n : GNet) (b : GBuf) (fl sup : List Int) (w : World) (hN : NetAt w A1 n1 c1 A2 n2 c2 n) (hL : SlAt w 1 B3 m3 d3 (ints b.nw)) (hF : SlAt w 1 G1 q1 r1 (ints fl)) (hS : SlAt w 1 G2 q2 r2 (ints sup)) (hc : hrCode n b fl sup = 0) :
    Calls Try.prog 27 #[.agg #[.slice A1 n1 c1, .slice A2 n2 c2], .slice B3 m3 d3, .agg #[.slice G1 q1 r1, .slice G2 q2 r2]] w fun e w' => ∃ A c, e = .returned (.slice A n1 c) ∧ w'.ownsRow w.heap.size 2 1 (.slice A n1 c) n1 (ints (nxL n b fl sup)) ∧ Gr w w' := by
  obtain ⟨g1, g2, g3, g4, g5, g6, g7⟩ := hr_lens hc
  have hq1 : q1 = n2 := by have := hF.sl.ilen; have := hN.l2; omega
  have hq2 : q2 = n1 := by have := hS.sl.ilen; have := hN.l1; omega
  have hm3 : m3 = n1 := by have := hL.sl.ilen; have := hN.l1; omega
  subst hq1
  subst hq2
  subst hm3
  have Hn := Lib.hid g1
  have Hf := Lib.hid g3
  have Hb1 : Hid (∀ i, -1000000000000 ≤ b.nw.getD i 0 ∧ b.nw.getD i 0 ≤ 1000000000000) := Lib.hid (fun i => by have := nw_bnd g2 i; omega)
  have Hb2 : Hid (∀ i, -1000000000000 ≤ 1 * sup.getD i 0 ∧ 1 * sup.getD i 0 ≤ 1000000000000) := Lib.hid (fun i => by have := hsup_bnd g4 i; omega)
  have Hb3 : Hid (∀ i, -1000000000000 ≤ (addV b.nw sup 1).getD i 0 ∧ (addV b.nw sup 1).getD i 0 ≤ 1000000000000) := Lib.hid (fun i => by have := nw_bnd g2 i; have := hsup_bnd g4 i; rw [addV_getD 1 (by omega)]; omega)
  have Hb4 : Hid (∀ i, -1000000000000 ≤ -1 * (outL n fl).getD i 0 ∧ -1 * (outL n fl).getD i 0 ≤ 1000000000000) := Lib.hid (fun i => by have := out_bnd g1 g3 i; omega)
  have He := Lib.hid (nxL_add (fl := fl) g5 g7)
  have hm1 := hL.small
  clear g1 g2 g3 g4 g5 g6 g7 hc
  obtain ⟨w2, hw2⟩ : ∃ W, W = (w.alloc (.cells #[.slice A1 m3 c1, .slice A2 q1 c2] 27)).alloc (.cells #[.slice G1 q1 r1, .slice G2 m3 r2] 32) := ⟨_, rfl⟩
  have hg2 : Gr w w2 := by rw [hw2]; exact ((Gr.refl _).alloc _).alloc _
  have y0 : w2.cell? ⟨w.heap.size, 0, none⟩ = some (.slice A1 m3 c1) := by rw [hw2]; simp [go_sem]
  have y1 : w2.cell? ⟨w.heap.size, 1, none⟩ = some (.slice A2 q1 c2) := by rw [hw2]; simp [go_sem]
  have u0 : w2.cell? ⟨w.heap.size + 1, 0, none⟩ = some (.slice G1 q1 r1) := by rw [hw2]; simp [go_sem]
  have u1 : w2.cell? ⟨w.heap.size + 1, 1, none⟩ = some (.slice G2 m3 r2) := by rw [hw2]; simp [go_sem]
  have HN := Lib.hid (hN.gr hg2)
  have HL := Lib.hid (hL.gr hg2)
  have HF := Lib.hid (hF.gr hg2)
  have HS := Lib.hid (hS.gr hg2)
  clear hN hL hF hS
  go_enter Try.func27, Try.ntmps27
  go_upto_region 1 with fail
  rw [← hw2]
  clear hw2
  have kp : ∀ W, Gr w2 W → (W.cell? ⟨w.heap.size, 0, none⟩ = some (.slice A1 m3 c1) ∧ W.cell? ⟨w.heap.size, 1, none⟩ = some (.slice A2 q1 c2) ∧ W.cell? ⟨w.heap.size + 1, 0, none⟩ = some (.slice G1 q1 r1) ∧ W.cell? ⟨w.heap.size + 1, 1, none⟩ = some (.slice G2 m3 r2)) := fun W h => ⟨h.has y0, h.has y1, h.has u0, h.has u1⟩
  go_region_held3 (fun W => W.cell? ⟨w.heap.size, 0, none⟩ = some (.slice A1 m3 c1) ∧ W.cell? ⟨w.heap.size, 1, none⟩ = some (.slice A2 q1 c2) ∧ W.cell? ⟨w.heap.size + 1, 0, none⟩ = some (.slice G1 q1 r1) ∧ W.cell? ⟨w.heap.size + 1, 1, none⟩ = some (.slice G2 m3 r2))
    (first
      | with_reducible exact kp _ (Gr.refl _).drew
      | with_reducible exact kp _ (by with_reducible assumption))
    (first
      | (go_at_call 47; with_reducible refine (l05AddV_any b.nw sup 1 _ (HL.out.gr (Gr.refl _).drew) (HS.out.gr (Gr.refl _).drew) Hb1.out Hb2.out).mono ?_; rintro e w3 ⟨g3, k3, rfl, o3, h3⟩; have hg3 : Gr w2 w3 := (Gr.refl _).drew.trans h3; have H3 := Lib.hid o3; clear o3 h3)
      | (go_at_call 48; with_reducible refine (l05Out_any n fl _ (HN.out.gr hg3) (HF.out.gr hg3) Hn.out Hf.out).mono ?_; rintro e w4 ⟨A4, k4, rfl, o4, h4⟩; have hg4 : Gr w2 w4 := hg3.trans h4; have H4 := Lib.hid o4; replace H3 := Lib.hid (own_gr H3.out h4); clear o4 h4)
      | (go_at_call 47; with_reducible refine (l05AddV_any _ _ (-1) _ (SlAt.of_own H3.out hm1) (SlAt.of_own H4.out hm1) Hb3.out Hb4.out).mono ?_; rintro e w5 ⟨g5, k5, rfl, o5, h5⟩; have hg5 : Gr w2 w5 := hg4.trans h5; have H5 := Lib.hid o5; clear o5 h5))
  go_wp2_with fail
  go_ret
  refine ⟨_, _, rfl, own_base (own_cells_eq H5.out (by rw [He.out])) ?_, hg2.trans hg5⟩
  have := hg2.size
  have := hg4.size
  omega
/-- Buffers whose rows the call itself made. -/
structure BufOwn (w : World) (base : Nat) (B1 : Option Addr) (m1 d1 : Nat) (B2 : Option Addr) (m2 d2 : Nat) (B3 : Option Addr) (m3 d3 : Nat) (b : GBuf) : Prop where
  lo : w.ownsRow base 2 1 (.slice B1 m1 d1) m1 (ints b.lo)
  hi : w.ownsRow base 2 1 (.slice B2 m2 d2) m2 (ints b.hi)
  nw : w.ownsRow base 2 1 (.slice B3 m3 d3) m3 (ints b.nw)
  s1 : m1 ≤ 1048576
  s2 : m2 ≤ 1048576
  s3 : m3 ≤ 1048576
section
variable {w w' : World} {base base' : Nat} {B1 B2 B3 : Option Addr} {m1 d1 m2 d2 m3 d3 : Nat} {b : GBuf}
theorem BufOwn.at_ (h : BufOwn w base B1 m1 d1 B2 m2 d2 B3 m3 d3 b) : BufAt w B1 m1 d1 B2 m2 d2 B3 m3 d3 b := ⟨SlAt.of_own h.lo h.s1, SlAt.of_own h.hi h.s2, SlAt.of_own h.nw h.s3⟩
theorem BufOwn.gr (h : BufOwn w base B1 m1 d1 B2 m2 d2 B3 m3 d3 b) (hg : Gr w w') : BufOwn w' base B1 m1 d1 B2 m2 d2 B3 m3 d3 b := ⟨own_gr h.lo hg, own_gr h.hi hg, own_gr h.nw hg, h.s1, h.s2, h.s3⟩
theorem BufOwn.low (h : BufOwn w base B1 m1 d1 B2 m2 d2 B3 m3 d3 b) (hb : base' ≤ base) : BufOwn w base' B1 m1 d1 B2 m2 d2 B3 m3 d3 b := ⟨own_base h.lo hb, own_base h.hi hb, own_base h.nw hb, h.s1, h.s2, h.s3⟩
theorem BufOwn.chg {P : Nat → Prop} (h : BufOwn w base B1 m1 d1 B2 m2 d2 B3 m3 d3 b) (hc : Chg P w w') (hP : ∀ k, P k → k < base) : BufOwn w' base B1 m1 d1 B2 m2 d2 B3 m3 d3 b :=
  ⟨own_chg h.lo hc (fun j hj e => by have := own_low h.lo hj; have := hP j e; omega), own_chg h.hi hc (fun j hj e => by have := own_low h.hi hj; have := hP j e; omega), own_chg h.nw hc (fun j hj e => by have := own_low h.nw hj; have := hP j e; omega), h.s1, h.s2, h.s3⟩
end
set_option maxHeartbeats 6400000 in
set_option maxRecDepth 100000 in
theorem cloneBuffers_any {B1 B2 B3 : Option Addr} {m1 d1 m2 d2 m3 d3 : Nat} (b : GBuf) (w : World) (hB : BufAt w B1 m1 d1 B2 m2 d2 B3 m3 d3 b) :
    Calls Try.prog 40 #[.agg #[.slice B1 m1 d1, .slice B2 m2 d2, .slice B3 m3 d3]] w fun e w' => ∃ E1 k1 E2 k2 E3 k3, e = .returned (.agg #[.slice E1 m1 k1, .slice E2 m2 k2, .slice E3 m3 k3]) ∧ BufOwn w' w.heap.size E1 m1 k1 E2 m2 k2 E3 m3 k3 b ∧ Gr w w' := by
  obtain ⟨w2, hw2⟩ : ∃ W, W = (w.alloc (.cells #[.slice B1 m1 d1, .slice B2 m2 d2, .slice B3 m3 d3] 30)).alloc (.cells #[.slice none 0 0, .slice none 0 0, .slice none 0 0] 30) := ⟨_, rfl⟩
  have hg2 : Gr w w2 := by rw [hw2]; exact ((Gr.refl _).alloc _).alloc _
  have z0 : w2.cell? ⟨w.heap.size, 0, none⟩ = some (.slice B1 m1 d1) := by rw [hw2]; simp [go_sem]
  have z1 : w2.cell? ⟨w.heap.size, 1, none⟩ = some (.slice B2 m2 d2) := by rw [hw2]; simp [go_sem]
  have z2 : w2.cell? ⟨w.heap.size, 2, none⟩ = some (.slice B3 m3 d3) := by rw [hw2]; simp [go_sem]
  have hR : w2.heap[w.heap.size + 1]? = some (.cells #[.slice none 0 0, .slice none 0 0, .slice none 0 0] 30 (0, 0)) := by
    have e : w.heap.size + 1 = (w.alloc (.cells #[.slice B1 m1 d1, .slice B2 m2 d2, .slice B3 m3 d3] 30)).heap.size := by simp
    rw [hw2, e]; exact heap_alloc_new _ _
  have HB := Lib.hid (hB.gr hg2)
  have HR := Lib.hid hR
  clear hB hR
  go_enter Try.func40, Try.ntmps40
  go_upto_region 1 with fail
  rw [← hw2]
  clear hw2
  have kp : ∀ W, Gr w2 W → (W.cell? ⟨w.heap.size, 0, none⟩ = some (.slice B1 m1 d1) ∧ W.cell? ⟨w.heap.size, 1, none⟩ = some (.slice B2 m2 d2) ∧ W.cell? ⟨w.heap.size, 2, none⟩ = some (.slice B3 m3 d3)) := fun W h => ⟨h.has z0, h.has z1, h.has z2⟩
  go_region_held3 (fun W => W.cell? ⟨w.heap.size, 0, none⟩ = some (.slice B1 m1 d1) ∧ W.cell? ⟨w.heap.size, 1, none⟩ = some (.slice B2 m2 d2) ∧ W.cell? ⟨w.heap.size, 2, none⟩ = some (.slice B3 m3 d3))
    (first
      | with_reducible exact kp _ (Gr.refl _).drew
      | with_reducible exact kp _ (by with_reducible assumption)
      | with_reducible exact kq _ _ _)
    (first
      | (go_at_call 45; with_reducible refine (cloneInt_any (ints b.lo) _ HB.out.lo.small (HB.out.lo.gr (Gr.refl _).drew).sl (ints_one _)).mono ?_; rintro e w3 ⟨E1, k1, rfl, o1, h3⟩; have hg3 : Gr w2 w3 := (Gr.refl _).drew.trans h3; have H1 := Lib.hid o1; clear o1 h3)
      | (go_at_call 45; with_reducible refine (cloneInt_any (ints b.hi) _ HB.out.hi.small (HB.out.hi.gr hg3).sl (ints_one _)).mono ?_; rintro e w4 ⟨E2, k2, rfl, o2, h4⟩; have hg4 : Gr w2 w4 := hg3.trans h4; replace H1 := Lib.hid (own_gr H1.out h4); have H2 := Lib.hid o2; clear o2 h4)
      | (go_at_call 45; with_reducible refine (cloneInt_any (ints b.nw) _ HB.out.nw.small (HB.out.nw.gr hg4).sl (ints_one _)).mono ?_; rintro e w5 ⟨E3, k3, rfl, o3, h5⟩; have hg5 : Gr w2 w5 := hg4.trans h5; replace H1 := Lib.hid (own_gr H1.out h5); replace H2 := Lib.hid (own_gr H2.out h5); have H3 := Lib.hid o3; have hR5 := (hg5.below.block _ (rb_lt HR.out)).trans HR.out; have r0 := rb_cell (j := 0) hR5 rfl; have r1 := rb_cell (j := 1) hR5 rfl; have r2 := rb_cell (j := 2) hR5 rfl; have f0 := rb_frozen hR5 0; have f1 := rb_frozen hR5 1; have f2 := rb_frozen hR5 2; have HR5 := Lib.hid hR5; have kq : ∀ v0 v1 v2 : Value, ((((w5.setCell ⟨w.heap.size + 1, 0, none⟩ v0).setCell ⟨w.heap.size + 1, 1, none⟩ v1).setCell ⟨w.heap.size + 1, 2, none⟩ v2).cell? ⟨w.heap.size, 0, none⟩ = some (.slice B1 m1 d1) ∧ (((w5.setCell ⟨w.heap.size + 1, 0, none⟩ v0).setCell ⟨w.heap.size + 1, 1, none⟩ v1).setCell ⟨w.heap.size + 1, 2, none⟩ v2).cell? ⟨w.heap.size, 1, none⟩ = some (.slice B2 m2 d2) ∧ (((w5.setCell ⟨w.heap.size + 1, 0, none⟩ v0).setCell ⟨w.heap.size + 1, 1, none⟩ v1).setCell ⟨w.heap.size + 1, 2, none⟩ v2).cell? ⟨w.heap.size, 2, none⟩ = some (.slice B3 m3 d3)) := (fun v0 v1 v2 => by
        have hc : Chg (fun k => k = w.heap.size + 1) w5 (((w5.setCell ⟨w.heap.size + 1, 0, none⟩ v0).setCell ⟨w.heap.size + 1, 1, none⟩ v1).setCell ⟨w.heap.size + 1, 2, none⟩ v2) := ((chg_put _ _).trans (chg_put _ _)).trans (chg_put _ _)
        exact ⟨chg_cell' hc (hg5.has z0) (by simp), chg_cell' hc (hg5.has z1) (by simp), chg_cell' hc (hg5.has z2) (by simp)⟩); clear o3 h5 hR5))
  clear kp r0 r1 r2 f0 f1 f2
  have hcc : Chg (fun k => k = w.heap.size + 1) w5 (((w5.setCell ⟨w.heap.size + 1, 0, none⟩ (.slice E1 m1 k1)).setCell ⟨w.heap.size + 1, 1, none⟩ (.slice E2 m2 k2)).setCell ⟨w.heap.size + 1, 2, none⟩ (.slice E3 m3 k3)) := ((chg_put _ _).trans (chg_put _ _)).trans (chg_put _ _)
  have hsw := lt_of_cell z0
  have hs25 := hg5.size
  have hbp : (((w5.setCell ⟨w.heap.size + 1, 0, none⟩ (.slice E1 m1 k1)).setCell ⟨w.heap.size + 1, 1, none⟩ (.slice E2 m2 k2)).setCell ⟨w.heap.size + 1, 2, none⟩ (.slice E3 m3 k3)).heap[w.heap.size + 1]? = some (.cells #[.slice E1 m1 k1, .slice E2 m2 k2, .slice E3 m3 k3] 30 (0, 0)) := by simp [World.setCell, Array.getElem?_modify, HR5.out]
  have HP := Lib.hid hbp
  have hsz := rb_lt HR.out
  have hs3 := hg3.size
  have hs4 := hg4.size
  have HBF : Hid (BufOwn (((w5.setCell ⟨w.heap.size + 1, 0, none⟩ (.slice E1 m1 k1)).setCell ⟨w.heap.size + 1, 1, none⟩ (.slice E2 m2 k2)).setCell ⟨w.heap.size + 1, 2, none⟩ (.slice E3 m3 k3)) w.heap.size E1 m1 k1 E2 m2 k2 E3 m3 k3 b) := Lib.hid (BufOwn.low (BufOwn.chg (base := w2.heap.size) ⟨H1.out, own_base H2.out (by omega), own_base H3.out (by omega), HB.out.lo.small, HB.out.hi.small, HB.out.nw.small⟩ hcc (fun k e => by omega)) (by omega))
  have HG : Hid (Gr w (((w5.setCell ⟨w.heap.size + 1, 0, none⟩ (.slice E1 m1 k1)).setCell ⟨w.heap.size + 1, 1, none⟩ (.slice E2 m2 k2)).setCell ⟨w.heap.size + 1, 2, none⟩ (.slice E3 m3 k3))) := Lib.hid ((((hg2.trans hg5).setCell (Nat.le_succ _) _).setCell (Nat.le_succ _) _).setCell (Nat.le_succ _) _)
  clear hbp hcc kq
  go_wp2_with fail
  (try simp only [Exit.inBlock, Exit.then])
  refine bodyPost_ret (results_cell_row Try.results40 _ _ (w.heap.size + 1) 30 #[.slice E1 m1 k1, .slice E2 m2 k2, .slice E3 m3 k3] (0, 0) _ ?_ HP.out Try.underlying30 rfl (by kernel_rfl)) ?_ ?_
  · rfl
  · rfl
  exact ⟨_, _, _, _, _, _, rfl, HBF.out, HG.out⟩
end Go.Proofs.Ytbbecboihmmllaa
/-
  The first trouble of an hour. Printed by gen_hr5.py.
-/
set_option linter.unusedSimpArgs false
set_option linter.unusedVariables false
namespace Go.Proofs.Ytbbecboihmmllaa
open Go.ChangeShapes Go.WideShapes Go.ChangeAt Go.RowKit

theorem ft_idx {n : GNet} {b : GBuf} {fl sup : List Int} {N : Nat} (hl : n.nodes.length = N) : idxOf (fun z : Int => ftAt n b fl sup z.toNat) ((List.range N).map fun (i : Nat) => (i : Int)) = ftIx n b fl sup := by
  rw [ftIx, hl]
  cases hf : (List.range N).find? (ftAt n b fl sup) with
  | none =>
    refine idxOf_none fun j hj y hy => ?_
    simp only [List.getElem?_map, Option.map_eq_some_iff] at hy
    obtain ⟨v, hv, rfl⟩ := hy
    have h := List.find?_eq_none.1 hf v (List.mem_of_getElem? hv)
    simpa using h
  | some i =>
    rw [List.find?_range_eq_some] at hf
    obtain ⟨h1, h2, h3⟩ := hf
    refine idxOf_hit (k := i) (x := (i : Int)) ?_ (by simpa using h1) fun j hj y hy => ?_
    · rw [List.getElem?_map, List.getElem?_range (by simpa using h2)]; rfl
    · simp only [List.getElem?_map, Option.map_eq_some_iff] at hy
      obtain ⟨v, hv, rfl⟩ := hy
      have hvj : v = j := by
        have := (List.getElem?_eq_some_iff.1 hv)
        obtain ⟨_, e⟩ := this
        simpa using e.symm
      have h := h3 j hj
      rw [hvj]
      simpa using h
theorem IndexFunc_trouble (p1 p2 p3 : Value) (p : Int → Bool) (A : Option Addr) (n c : Nat) (l : List Int) (w : World) (hn : n ≤ 1048576) (hA : Sl w 1 A n (ints l))
    (hf : ∀ (k : Nat) (x : Int) (W : World), l[k]? = some x → Gr w W → Calls Try.prog 24 #[.int .i64 x, p1, p2, p3] W fun e W' => e = .returned (.bool (p x)) ∧ Gr W W') :
    Calls Try.prog 22 #[.slice A n c, .func (.func 24) #[] #[p1, p2, p3]] w fun e w' => e = .returned (.int .i64 (idxOf p l)) ∧ Gr w w' := by
  have hlen := hA.ilen
  have Hlen := Lib.hid hlen
  have HA := Lib.hid hA
  have Hf := Lib.hid hf
  clear hA hlen hf
  go_enter Try.func22, Try.ntmps22
  go_wp2_with fail
  go_loopw [8] (fun i wr => ∃ k : Nat, k ≤ n ∧ i = .int .i64 k ∧ (∀ j, j < k → ∀ y, l[j]? = some y → p y = false) ∧ Gr w wr) (fun i _ => n - (intOf i).toNat)
  case atStart => exact ⟨0, Nat.zero_le _, rfl, fun j h => absurd h (by omega), Gr.refl _⟩
  case round =>
    obtain ⟨k, hk, rfl, hno, hgr⟩ := hrel
    have Hno := Lib.hid hno
    clear hno
    by_cases hlt : k < n
    · obtain ⟨x, hx⟩ : ∃ x, l[k]? = some x := ⟨_, List.getElem?_eq_getElem (by have := Hlen.out; omega)⟩
      obtain ⟨b, o, rfl, hb, e0⟩ := (HA.out.gr hgr).int hx
      have Hx := Lib.hid hx
      clear hx
      go_wp2_with fail
      refine (Hf.out k x _ Hx.out hgr).mono ?_
      rintro e w' ⟨rfl, hg1⟩
      cases hp : p x with
      | true =>
        have Hp := Lib.hid hp
        clear hp
        go_wp2_with fail
        go_ret
        exact ⟨ret_int (idxOf_hit Hx.out Hp.out Hno.out).symm, hgr.trans hg1⟩
      | false =>
        have Hp := Lib.hid hp
        clear hp
        go_wp2_with fail
        go_roundw
        case rel =>
          refine ⟨k + 1, by omega, by go_num, fun j hj y hy => ?_, hgr.trans hg1⟩
          by_cases e : j = k
          · subst e
            have := Hx.out
            rw [hy] at this
            injection this with this
            subst this
            exact Hp.out
          · exact Hno.out j (by omega) y hy
        case measure => simp [intOf]; omega
    · obtain rfl : k = n := by omega
      go_wp2_with fail
      go_ret
      exact ⟨ret_int (idxOf_none (fun j hj => Hno.out j (by have := Hlen.out; omega))).symm, hgr⟩
set_option maxHeartbeats 6400000 in
set_option maxRecDepth 100000 in
theorem trouble1_any {A1 A2 : Option Addr} {n1 c1 n2 c2 : Nat} {B1 B2 B3 : Option Addr} {m1 d1 m2 d2 m3 d3 : Nat} {G1 G2 : Option Addr} {q1 r1 q2 r2 : Nat} (P1 P2 P3 : Nat) (n : GNet) (b : GBuf) (fl sup : List Int) (k : Nat) (w : World) (hN : NetAt w A1 n1 c1 A2 n2 c2 n) (hB : BufAt w B1 m1 d1 B2 m2 d2 B3 m3 d3 b) (hF : SlAt w 1 G1 q1 r1 (ints fl)) (hS : SlAt w 1 G2 q2 r2 (ints sup)) (hc : hrCode n b fl sup = 0) (hk : k < n1) (y0 : w.cell? ⟨P1, 0, none⟩ = some (.slice A1 n1 c1)) (y1 : w.cell? ⟨P1, 1, none⟩ = some (.slice A2 n2 c2)) (z0 : w.cell? ⟨P2, 0, none⟩ = some (.slice B1 m1 d1)) (z1 : w.cell? ⟨P2, 1, none⟩ = some (.slice B2 m2 d2)) (z2 : w.cell? ⟨P2, 2, none⟩ = some (.slice B3 m3 d3)) (u0 : w.cell? ⟨P3, 0, none⟩ = some (.slice G1 q1 r1)) (u1 : w.cell? ⟨P3, 1, none⟩ = some (.slice G2 q2 r2)) :
    Calls Try.prog 24 #[.int .i64 (k : Int), .pointer (some ⟨P1, 0, none⟩), .pointer (some ⟨P2, 0, none⟩), .pointer (some ⟨P3, 0, none⟩)] w fun e w' => e = .returned (.bool (ftAt n b fl sup k)) ∧ Gr w w' := by
  obtain ⟨g1, g2, g3, g4, g5, g6, g7⟩ := hr_lens hc
  have hl1 := hN.l1
  have hbl := bfOk_all g2
  obtain ⟨x, hx⟩ : ∃ x, x = b.lo.getD k 0 := ⟨_, rfl⟩
  obtain ⟨y, hy⟩ : ∃ y, y = b.hi.getD k 0 := ⟨_, rfl⟩
  obtain ⟨v, hv⟩ : ∃ v, v = nxAt n b fl sup k := ⟨_, rfl⟩
  have ex : b.lo[k]? = some x := by rw [hx]; exact get_of_lt (by rw [hbl.1.1]; omega)
  have ey : b.hi[k]? = some y := by rw [hy]; exact get_of_lt (by rw [hbl.1.2.1]; omega)
  have ev : (nxL n b fl sup)[k]? = some v := by rw [hv]; exact nxL_get (by omega)
  obtain ⟨bl, ol, rfl, _, xl⟩ := hB.lo.sl.int ex
  obtain ⟨bh, oh, rfl, _, xh⟩ := hB.hi.sl.int ey
  have hm1 : n1 = m1 := by have := hB.lo.sl.ilen; have := hbl.1.1; omega
  have hm2 : n1 = m2 := by have := hB.hi.sl.ilen; have := hbl.1.2.1; omega
  subst hm1
  subst hm2
  have hft : ftAt n b fl sup k = !inB x v y := by rw [ftAt, ← hx, ← hy, ← hv]
  have HN := Lib.hid hN
  have HB := Lib.hid hB
  have HF := Lib.hid hF
  have HS := Lib.hid hS
  have Hc := Lib.hid hc
  have Hev := Lib.hid ev
  have Hft := Lib.hid hft
  have t0 : (0 : Int) ≤ (k : Int) := by omega
  have t1 : (k : Int) < (n1 : Int) := by omega
  clear hN hB hF hS hc g1 g2 g3 g4 g5 g6 g7 hbl hx hy hv ex ey ev hft
  have kp : ∀ W, Gr w W → (W.cell? ⟨P1, 0, none⟩ = some (.slice A1 n1 c1) ∧ W.cell? ⟨P1, 1, none⟩ = some (.slice A2 n2 c2) ∧ W.cell? ⟨P2, 0, none⟩ = some (.slice (some ⟨bl, ol, none⟩) n1 d1) ∧ W.cell? ⟨P2, 1, none⟩ = some (.slice (some ⟨bh, oh, none⟩) n1 d2) ∧ W.cell? ⟨P2, 2, none⟩ = some (.slice B3 m3 d3) ∧ W.cell? ⟨P3, 0, none⟩ = some (.slice G1 q1 r1) ∧ W.cell? ⟨P3, 1, none⟩ = some (.slice G2 q2 r2) ∧ W.cell? ⟨bl, ol + k, none⟩ = some (.int .i64 x) ∧ W.cell? ⟨bh, oh + k, none⟩ = some (.int .i64 y)) := fun W h => ⟨h.has y0, h.has y1, h.has z0, h.has z1, h.has z2, h.has u0, h.has u1, h.has xl, h.has xh⟩
  go_enter Try.func24, Try.ntmps24
  go_upto_region 1 with fail
  refine wp_region_noPanic ?_
  refine wp_region_held_drew (S := (fun W : World => W.cell? ⟨P1, 0, none⟩ = some (.slice A1 n1 c1) ∧ W.cell? ⟨P1, 1, none⟩ = some (.slice A2 n2 c2) ∧ W.cell? ⟨P2, 0, none⟩ = some (.slice (some ⟨bl, ol, none⟩) n1 d1) ∧ W.cell? ⟨P2, 1, none⟩ = some (.slice (some ⟨bh, oh, none⟩) n1 d2) ∧ W.cell? ⟨P2, 2, none⟩ = some (.slice B3 m3 d3) ∧ W.cell? ⟨P3, 0, none⟩ = some (.slice G1 q1 r1) ∧ W.cell? ⟨P3, 1, none⟩ = some (.slice G2 q2 r2) ∧ W.cell? ⟨bl, ol + k, none⟩ = some (.int .i64 x) ∧ W.cell? ⟨bh, oh + k, none⟩ = some (.int .i64 y))) (by kernel_rfl) ?_ (fun hHeld => ?_)
  · exact kp _ (Gr.refl _).drew
  refine wpAnyH_take (i := 0) (oi := _) (v := ?v1) rfl (by kernel_rfl) (by kernel_rfl) (by kernel_rfl) (fun _ _ _ h => h) (Or.inl ⟨by rfl, ?hy1⟩) (by assumption) ?rest1
  case hy1 => (intro W hSw; (try dsimp only at hSw); first | (go_simp; done) | (go_simp; with_reducible rfl))
  try simp only [Act.put, List.setIfInBounds_toArray, List.set_cons_zero, List.set_cons_succ]
  refine wpAnyH_take (i := 1) (oi := _) (v := ?v2) rfl (by kernel_rfl) (by kernel_rfl) (by kernel_rfl) (fun _ _ _ h => h) (Or.inl ⟨by rfl, ?hy2⟩) (by assumption) ?rest2
  case hy2 => (intro W hSw; (try dsimp only at hSw); first | (go_simp; done) | (go_simp; with_reducible rfl))
  try simp only [Act.put, List.setIfInBounds_toArray, List.set_cons_zero, List.set_cons_succ]
  refine wpAnyH_take (i := 2) (oi := _) (v := ?v3) rfl (by kernel_rfl) (by kernel_rfl) (by kernel_rfl) (fun _ _ _ h => h) (Or.inl ⟨by rfl, ?hy3⟩) (by assumption) ?rest3
  case hy3 => (intro W hSw; (try dsimp only at hSw); first | (go_simp; done) | (go_simp; with_reducible rfl))
  try simp only [Act.put, List.setIfInBounds_toArray, List.set_cons_zero, List.set_cons_succ]
  refine wpAnyH_take (i := 4) (oi := _) (v := ?v4) rfl (by kernel_rfl) (by kernel_rfl) (by kernel_rfl) (fun _ _ _ h => h) (Or.inl ⟨by rfl, ?hy4⟩) (by assumption) ?rest4
  case hy4 => (intro W hSw; (try dsimp only at hSw); first | (go_simp; done) | (go_simp; with_reducible rfl))
  try simp only [Act.put, List.setIfInBounds_toArray, List.set_cons_zero, List.set_cons_succ]
  refine wpAnyH_take (i := 7) (oi := _) (v := ?v5) rfl (by kernel_rfl) (by kernel_rfl) (by kernel_rfl) (fun _ _ _ h => h) (Or.inl ⟨by rfl, ?hy5⟩) (by assumption) ?rest5
  case hy5 => (intro W hSw; (try dsimp only at hSw); first | (go_simp; done) | (go_simp; with_reducible rfl))
  try simp only [Act.put, List.setIfInBounds_toArray, List.set_cons_zero, List.set_cons_succ]
  refine wpAnyH_take (i := 8) (oi := _) (v := ?v6) rfl (by kernel_rfl) (by kernel_rfl) (by kernel_rfl) (fun _ _ _ h => h) (Or.inl ⟨by rfl, ?hy6⟩) (by assumption) ?rest6
  case hy6 => (intro W hSw; (try dsimp only at hSw); first | (go_simp; done) | (go_simp; with_reducible rfl))
  try simp only [Act.put, List.setIfInBounds_toArray, List.set_cons_zero, List.set_cons_succ]
  refine wpAnyH_take (i := 9) (oi := _) (v := ?v7) rfl (by kernel_rfl) (by kernel_rfl) (by kernel_rfl) (fun _ _ _ h => h) (Or.inl ⟨by rfl, ?hy7⟩) (by assumption) ?rest7
  case hy7 => (intro W hSw; (try dsimp only at hSw); first | (go_simp; done) | (go_simp; with_reducible rfl))
  try simp only [Act.put, List.setIfInBounds_toArray, List.set_cons_zero, List.set_cons_succ]
  refine wpAnyH_take (i := 10) (oi := _) (v := ?v8) rfl (by kernel_rfl) (by kernel_rfl) (by kernel_rfl) (fun _ _ _ h => h) (Or.inl ⟨by rfl, ?hy8⟩) (by assumption) ?rest8
  case hy8 => (intro W hSw; (try dsimp only at hSw); first | (go_simp; done) | (go_simp; with_reducible rfl))
  try simp only [Act.put, List.setIfInBounds_toArray, List.set_cons_zero, List.set_cons_succ]
  refine wpAnyH_take (i := 11) (oi := _) (v := ?v9) rfl (by kernel_rfl) (by kernel_rfl) (by kernel_rfl) (fun _ _ _ h => h) (Or.inl ⟨by rfl, ?hy9⟩) (by assumption) ?rest9
  case hy9 => (intro W hSw; (try dsimp only at hSw); first | (go_simp; done) | (go_simp; with_reducible rfl))
  try simp only [Act.put, List.setIfInBounds_toArray, List.set_cons_zero, List.set_cons_succ]
  refine wpAnyH_take (i := 12) (oi := _) (v := ?v10) rfl (by kernel_rfl) (by kernel_rfl) (by kernel_rfl) (fun _ _ _ h => h) (Or.inl ⟨by rfl, ?hy10⟩) (by assumption) ?rest10
  case hy10 => (intro W hSw; (try dsimp only at hSw); first | (go_simp; done) | (go_simp; with_reducible rfl))
  try simp only [Act.put, List.setIfInBounds_toArray, List.set_cons_zero, List.set_cons_succ]
  refine wpAnyH_take (i := 13) (oi := _) (v := ?v11) rfl (by kernel_rfl) (by kernel_rfl) (by kernel_rfl) (fun _ _ _ h => h) (Or.inl ⟨by rfl, ?hy11⟩) (by assumption) ?rest11
  case hy11 => (intro W hSw; (try dsimp only at hSw); first | (go_simp; done) | (go_simp; with_reducible rfl))
  try simp only [Act.put, List.setIfInBounds_toArray, List.set_cons_zero, List.set_cons_succ]
  refine wpAnyH_take (i := 14) (oi := _) (v := ?v12) rfl (by kernel_rfl) (by kernel_rfl) (by kernel_rfl) (fun _ _ _ h => h) (Or.inl ⟨by rfl, ?hy12⟩) (by assumption) ?rest12
  case hy12 => (intro W hSw; (try dsimp only at hSw); first | (go_simp; done) | (go_simp; with_reducible rfl))
  try simp only [Act.put, List.setIfInBounds_toArray, List.set_cons_zero, List.set_cons_succ]
  refine wpAnyH_take (i := 15) (oi := _) (v := ?v13) rfl (by kernel_rfl) (by kernel_rfl) (by kernel_rfl) (fun _ _ _ h => h) (Or.inl ⟨by rfl, ?hy13⟩) (by assumption) ?rest13
  case hy13 => (intro W hSw; (try dsimp only at hSw); first | (go_simp; done) | (go_simp; with_reducible rfl))
  try simp only [Act.put, List.setIfInBounds_toArray, List.set_cons_zero, List.set_cons_succ]
  refine wpAnyH_take (i := 16) (oi := _) (v := ?v14) rfl (by kernel_rfl) (by kernel_rfl) (by kernel_rfl) (fun _ _ _ h => h) (Or.inl ⟨by rfl, ?hy14⟩) (by assumption) ?rest14
  case hy14 => (intro W hSw; (try dsimp only at hSw); first | (go_simp; done) | (go_simp; with_reducible rfl))
  try simp only [Act.put, List.setIfInBounds_toArray, List.set_cons_zero, List.set_cons_succ]
  refine wpAnyH_ready (rs := [3]) (by kernel_rfl) (by simp) ?_
  refine AllReadyH.cons rfl (fun K hK => ?_) AllReadyH.nil
  go_simp
  (go_at_call 26; with_reducible refine (contentAfter_any n b fl sup _ (HN.out.gr (Gr.refl _).drew) (HB.out.gr (Gr.refl _).drew) (HF.out.gr (Gr.refl _).drew) (HS.out.gr (Gr.refl _).drew) Hc.out).mono ?_; rintro e w3 ⟨E, d, rfl, o3, h3⟩; have hg3 : Gr w w3 := (Gr.refl _).drew.trans h3; obtain ⟨X, rfl, _, _⟩ := own_form o3 (by omega); have xk : w3.cell? ⟨X, k, none⟩ = some (.int .i64 v) := (own_int o3 Hev.out).1; clear o3 h3)
  go_wp2_with fail
  refine hK.out _ _ ?_ (fun hHeld => ?_)
  · first | with_reducible exact kp _ (by with_reducible assumption) | assumption
  clear hK K
  obtain ⟨y0, y1, z0, z1, z2, u0, u1, xl, xh⟩ := hHeld
  have hHeld : (fun W : World => W.cell? ⟨P1, 0, none⟩ = some (.slice A1 n1 c1) ∧ W.cell? ⟨P1, 1, none⟩ = some (.slice A2 n2 c2) ∧ W.cell? ⟨P2, 0, none⟩ = some (.slice (some ⟨bl, ol, none⟩) n1 d1) ∧ W.cell? ⟨P2, 1, none⟩ = some (.slice (some ⟨bh, oh, none⟩) n1 d2) ∧ W.cell? ⟨P2, 2, none⟩ = some (.slice B3 m3 d3) ∧ W.cell? ⟨P3, 0, none⟩ = some (.slice G1 q1 r1) ∧ W.cell? ⟨P3, 1, none⟩ = some (.slice G2 q2 r2) ∧ W.cell? ⟨bl, ol + k, none⟩ = some (.int .i64 x) ∧ W.cell? ⟨bh, oh + k, none⟩ = some (.int .i64 y)) _ := ⟨y0, y1, z0, z1, z2, u0, u1, xl, xh⟩
  try simp only [Act.put, List.setIfInBounds_toArray, List.set_cons_zero, List.set_cons_succ]
  refine wpAnyH_take (i := 5) (oi := _) (v := ?v15) rfl (by kernel_rfl) (by kernel_rfl) (by kernel_rfl) (fun _ _ _ h => h) (Or.inl ⟨by rfl, ?hy15⟩) (by assumption) ?rest15
  case hy15 => (intro W hSw; (try dsimp only at hSw); first | (go_simp; done) | (go_simp; with_reducible rfl))
  try simp only [Act.put, List.setIfInBounds_toArray, List.set_cons_zero, List.set_cons_succ]
  refine wpAnyH_ready (rs := [6]) (by kernel_rfl) (by simp) ?_
  refine AllReadyH.cons rfl (fun K hK => ?_) AllReadyH.nil
  go_simp
  refine hK.out _ _ ?_ (fun hHeld => ?_)
  · first | with_reducible exact kp _ (by with_reducible assumption) | assumption
  clear hK K
  obtain ⟨y0, y1, z0, z1, z2, u0, u1, xl, xh⟩ := hHeld
  have hHeld : (fun W : World => W.cell? ⟨P1, 0, none⟩ = some (.slice A1 n1 c1) ∧ W.cell? ⟨P1, 1, none⟩ = some (.slice A2 n2 c2) ∧ W.cell? ⟨P2, 0, none⟩ = some (.slice (some ⟨bl, ol, none⟩) n1 d1) ∧ W.cell? ⟨P2, 1, none⟩ = some (.slice (some ⟨bh, oh, none⟩) n1 d2) ∧ W.cell? ⟨P2, 2, none⟩ = some (.slice B3 m3 d3) ∧ W.cell? ⟨P3, 0, none⟩ = some (.slice G1 q1 r1) ∧ W.cell? ⟨P3, 1, none⟩ = some (.slice G2 q2 r2) ∧ W.cell? ⟨bl, ol + k, none⟩ = some (.int .i64 x) ∧ W.cell? ⟨bh, oh + k, none⟩ = some (.int .i64 y)) _ := ⟨y0, y1, z0, z1, z2, u0, u1, xl, xh⟩
  try simp only [Act.put, List.setIfInBounds_toArray, List.set_cons_zero, List.set_cons_succ]
  refine wpAnyH_ready (rs := [17]) (by kernel_rfl) (by simp) ?_
  refine AllReadyH.cons rfl (fun K hK => ?_) AllReadyH.nil
  go_simp
  (go_at_call 25; with_reducible refine (within_any _ _ _ _).mono ?_; rintro e w' ⟨rfl, rfl⟩)
  go_wp2_with fail
  refine hK.out _ _ ?_ (fun hHeld => ?_)
  · first | with_reducible exact kp _ (by with_reducible assumption) | assumption
  clear hK K
  obtain ⟨y0, y1, z0, z1, z2, u0, u1, xl, xh⟩ := hHeld
  have hHeld : (fun W : World => W.cell? ⟨P1, 0, none⟩ = some (.slice A1 n1 c1) ∧ W.cell? ⟨P1, 1, none⟩ = some (.slice A2 n2 c2) ∧ W.cell? ⟨P2, 0, none⟩ = some (.slice (some ⟨bl, ol, none⟩) n1 d1) ∧ W.cell? ⟨P2, 1, none⟩ = some (.slice (some ⟨bh, oh, none⟩) n1 d2) ∧ W.cell? ⟨P2, 2, none⟩ = some (.slice B3 m3 d3) ∧ W.cell? ⟨P3, 0, none⟩ = some (.slice G1 q1 r1) ∧ W.cell? ⟨P3, 1, none⟩ = some (.slice G2 q2 r2) ∧ W.cell? ⟨bl, ol + k, none⟩ = some (.int .i64 x) ∧ W.cell? ⟨bh, oh + k, none⟩ = some (.int .i64 y)) _ := ⟨y0, y1, z0, z1, z2, u0, u1, xl, xh⟩
  try simp only [Act.put, List.setIfInBounds_toArray, List.set_cons_zero, List.set_cons_succ]
  refine wpAnyH_take (i := 18) (oi := _) (v := ?v16) rfl (by kernel_rfl) (by kernel_rfl) (by kernel_rfl) (fun _ _ _ h => h) (Or.inl ⟨by rfl, ?hy16⟩) (by assumption) ?rest16
  case hy16 => (intro W hSw; (try dsimp only at hSw); first | (go_simp; done) | (go_simp; with_reducible rfl))
  try simp only [Act.put, List.setIfInBounds_toArray, List.set_cons_zero, List.set_cons_succ]
  refine wpAnyH_take (i := 19) (oi := _) (v := ?v17) rfl (by kernel_rfl) (by kernel_rfl) (by kernel_rfl) (fun _ _ _ h => h) (Or.inl ⟨by rfl, ?hy17⟩) (by assumption) ?rest17
  case hy17 => (intro W hSw; (try dsimp only at hSw); first | (go_simp; done) | (go_simp; with_reducible rfl))
  try simp only [Act.put, List.setIfInBounds_toArray, List.set_cons_zero, List.set_cons_succ]
  refine wpAnyH_done (by kernel_rfl) ?_ _
  refine NoPanic.normal ?_
  go_wp2_with fail
  go_ret
  exact ⟨ret_bool Hft.out.symm, hg3⟩
set_option maxHeartbeats 6400000 in
set_option maxRecDepth 100000 in
theorem FirstTrouble_any {A1 A2 : Option Addr} {n1 c1 n2 c2 : Nat} {B1 B2 B3 : Option Addr} {m1 d1 m2 d2 m3 d3 : Nat} {G1 G2 : Option Addr} {q1 r1 q2 r2 : Nat} (n : GNet) (b : GBuf) (fl sup : List Int) (w : World) (hN : NetAt w A1 n1 c1 A2 n2 c2 n) (hB : BufAt w B1 m1 d1 B2 m2 d2 B3 m3 d3 b) (hF : SlAt w 1 G1 q1 r1 (ints fl)) (hS : SlAt w 1 G2 q2 r2 (ints sup)) :
    Calls Try.prog 8 #[.agg #[.slice A1 n1 c1, .slice A2 n2 c2], .agg #[.slice B1 m1 d1, .slice B2 m2 d2, .slice B3 m3 d3], .agg #[.slice G1 q1 r1, .slice G2 q2 r2]] w fun e w' => e = .returned (.tuple #[.int .i64 (ftVal n b fl sup), .int .i64 (hrCode n b fl sup)]) ∧ Gr w w' := by
  have hl1 := hN.l1
  have hl2 := hN.l2
  have hm1 := hN.m1
  have hm2 := hN.m2
  obtain ⟨w2, hw2⟩ : ∃ W, W = ((w.alloc (.cells #[.slice A1 n1 c1, .slice A2 n2 c2] 27)).alloc (.cells #[.slice B1 m1 d1, .slice B2 m2 d2, .slice B3 m3 d3] 30)).alloc (.cells #[.slice G1 q1 r1, .slice G2 q2 r2] 32) := ⟨_, rfl⟩
  have hg2 : Gr w w2 := by rw [hw2]; exact (((Gr.refl _).alloc _).alloc _).alloc _
  have y0 : w2.cell? ⟨w.heap.size, 0, none⟩ = some (.slice A1 n1 c1) := by rw [hw2]; simp [go_sem]
  have y1 : w2.cell? ⟨w.heap.size, 1, none⟩ = some (.slice A2 n2 c2) := by rw [hw2]; simp [go_sem]
  have z0 : w2.cell? ⟨w.heap.size + 1, 0, none⟩ = some (.slice B1 m1 d1) := by rw [hw2]; simp [go_sem]
  have z1 : w2.cell? ⟨w.heap.size + 1, 1, none⟩ = some (.slice B2 m2 d2) := by rw [hw2]; simp [go_sem]
  have z2 : w2.cell? ⟨w.heap.size + 1, 2, none⟩ = some (.slice B3 m3 d3) := by rw [hw2]; simp [go_sem]
  have u0 : w2.cell? ⟨w.heap.size + 2, 0, none⟩ = some (.slice G1 q1 r1) := by rw [hw2]; simp [go_sem]
  have u1 : w2.cell? ⟨w.heap.size + 2, 1, none⟩ = some (.slice G2 q2 r2) := by rw [hw2]; simp [go_sem]
  have HN := Lib.hid (hN.gr hg2)
  have HB := Lib.hid (hB.gr hg2)
  have Hl1 := Lib.hid hl1
  have Hl2 := Lib.hid hl2
  have HF := Lib.hid (hF.gr hg2)
  have HS := Lib.hid (hS.gr hg2)
  clear hN hB hl1 hl2 hF hS
  go_enter Try.func8, Try.ntmps8
  go_upto_region 1 with fail
  rw [← hw2]
  clear hw2
  go_wp2_with fail
  refine (checkBuffers1_any n b fl sup w2.heap.size _ (HN.out.gr ((Gr.refl _).alloc _)) (HB.out.gr ((Gr.refl _).alloc _)) (HF.out.gr ((Gr.refl _).alloc _)) (HS.out.gr ((Gr.refl _).alloc _)) (by simp [go_sem]) (by simp [go_sem])).mono ?_
  rintro e w3 ⟨rfl, h⟩
  replace h := ((Gr.refl w2).alloc (.cells #[.slice G1 q1 r1, .slice G2 q2 r2] 32)).trans h
  replace y0 := h.has y0
  replace y1 := h.has y1
  replace z0 := h.has z0
  replace z1 := h.has z1
  replace z2 := h.has z2
  replace u0 := h.has u0
  replace u1 := h.has u1
  replace HN := Lib.hid (HN.out.gr h)
  replace HB := Lib.hid (HB.out.gr h)
  replace HF := Lib.hid (HF.out.gr h)
  replace HS := Lib.hid (HS.out.gr h)
  replace hg2 := hg2.trans h
  clear h
  by_cases hc : hrCode n b fl sup = 0
  case neg =>
    have tc : (hrCode n b fl sup != 0) = true := by simp [hc]
    have Hv : Hid (ftVal n b fl sup = 0) := Lib.hid (by rw [ftVal, if_neg hc])
    clear hc
    go_wp2_with fail
    go_ret2
    exact ⟨by rw [Hv.out]; rfl, hg2⟩
  have Hv : Hid (ftVal n b fl sup = ftIx n b fl sup) := Lib.hid (by rw [ftVal, if_pos hc])
  have Hc := Lib.hid hc
  rw [hc]
  clear hc
  go_wp2_with fail
  refine (indicesOf_any _ hm1).mono ?_
  rintro e w4 ⟨E, d, rfl, ho, h⟩
  replace y0 := h.has y0
  replace y1 := h.has y1
  replace z0 := h.has z0
  replace z1 := h.has z1
  replace z2 := h.has z2
  replace u0 := h.has u0
  replace u1 := h.has u1
  replace HN := Lib.hid (HN.out.gr h)
  replace HB := Lib.hid (HB.out.gr h)
  replace HF := Lib.hid (HF.out.gr h)
  replace HS := Lib.hid (HS.out.gr h)
  replace hg2 := hg2.trans h
  have Hsl := Lib.hid (Sl.of_own ho)
  clear h ho
  go_wp2_with fail
  refine (IndexFunc_trouble (.pointer (some ⟨w.heap.size, 0, none⟩)) (.pointer (some ⟨w.heap.size + 1, 0, none⟩)) (.pointer (some ⟨w.heap.size + 2, 0, none⟩)) (fun z : Int => ftAt n b fl sup z.toNat) E n1 d _ _ hm1 Hsl.out (fun i z W hz hW => ?_)).mono ?_
  · simp only [List.getElem?_map, Option.map_eq_some_iff] at hz
    obtain ⟨v, hv, rfl⟩ := hz
    have hvn : v < n1 := List.mem_range.1 (List.mem_of_getElem? hv)
    exact trouble1_any _ _ _ n b fl sup v W (HN.out.gr hW) (HB.out.gr hW) (HF.out.gr hW) (HS.out.gr hW) Hc.out hvn (hW.has y0) (hW.has y1) (hW.has z0) (hW.has z1) (hW.has z2) (hW.has u0) (hW.has u1)
  rintro e w5 ⟨rfl, h⟩
  rw [ft_idx Hl1.out]
  replace hg2 := hg2.trans h
  clear h
  have Hw : Hid (IntKind.i64.wrap (ftIx n b fl sup) = ftIx n b fl sup) := Lib.hid (IntWalk.i64_in _ (by
    have := Hl1.out
    rw [ftIx]
    split
    · rename_i i hi
      rw [List.find?_range_eq_some] at hi
      have := hi.2.1
      simp at this
      omega
    · omega))
  have hw := Hw.out
  go_wp2_with fail
  go_ret2
  exact ⟨by rw [Hv.out, Hc.out]; rfl, hg2⟩
end Go.Proofs.Ytbbecboihmmllaa
/-
  An hour of the program. Printed by gen_hr6.py.
-/
set_option linter.unusedSimpArgs false
set_option linter.unusedVariables false
namespace Go.Proofs.Ytbbecboihmmllaa
open Go.ChangeShapes Go.WideShapes Go.ChangeAt Go.RowKit

theorem lim_no {n : GNet} {fl : List Int} {k N : Nat} (hl : n.pipes.length = N) (hk : k < N) (h : ovAt n fl k = true) : limOk n fl = false := by
  rw [limOk, List.all_eq_false]
  refine ⟨k, List.mem_range.2 (by omega), ?_⟩
  rw [ovAt, Bool.not_eq_true'] at h
  intro hd
  exact Bool.noConfusion (h.symm.trans hd)
theorem lim_yes {n : GNet} {fl : List Int} {N : Nat} (hl : n.pipes.length = N) (h : ∀ j, j < N → ovAt n fl j = false) : limOk n fl = true := by
  rw [limOk, List.all_eq_true]
  intro j hj
  have := h j (by have := List.mem_range.1 hj; omega)
  rw [ovAt, Bool.not_eq_false'] at this
  exact this
theorem hs_no {n : GNet} {b : GBuf} {fl sup : List Int} (h : limOk n fl = false) : hsOk n b fl sup = false := by rw [hsOk, h]; rfl
theorem hs_is {n : GNet} {b : GBuf} {fl sup : List Int} {N : Nat} (hl : n.nodes.length = N) (h : limOk n fl = true) : hsOk n b fl sup = bfOk N (nxB n b fl sup) := by rw [hsOk, h, hl]; rfl
theorem BufAt.nil (w : World) : BufAt w none 0 0 none 0 0 none 0 0 ⟨[], [], []⟩ := by
  have h : SlAt w 1 none 0 0 (ints []) := ⟨⟨rfl, fun h => absurd h (by omega)⟩, Nat.le_refl _, by omega⟩
  exact ⟨h, h, h⟩
theorem sh_bad {n : GNet} {b : GBuf} {fl sup : List Int} (h : hrCode n b fl sup ≠ 0) : shCode n b fl sup = hrCode n b fl sup ∧ shRes n b fl sup = ⟨[], [], []⟩ := by
  have e : shCode n b fl sup = hrCode n b fl sup := by rw [shCode, if_neg h]
  exact ⟨e, by rw [shRes, e, if_neg h]⟩
theorem sh_no {n : GNet} {b : GBuf} {fl sup : List Int} (h : hrCode n b fl sup = 0) (h2 : hsOk n b fl sup = false) : shCode n b fl sup = 7 ∧ shRes n b fl sup = ⟨[], [], []⟩ := by
  have e : shCode n b fl sup = 7 := by rw [shCode, if_pos h, h2]; rfl
  exact ⟨e, by rw [shRes, e, if_neg (by decide)]⟩
theorem sh_yes {n : GNet} {b : GBuf} {fl sup : List Int} (h : hrCode n b fl sup = 0) (h2 : hsOk n b fl sup = true) : shCode n b fl sup = 0 ∧ shRes n b fl sup = nxB n b fl sup := by
  have e : shCode n b fl sup = 0 := by rw [shCode, if_pos h, h2]; rfl
  exact ⟨e, by rw [shRes, e, if_pos rfl]⟩
set_option maxHeartbeats 6400000 in
set_option maxRecDepth 100000 in
theorem stepHour_any {A1 A2 : Option Addr} {n1 c1 n2 c2 : Nat} {B1 B2 B3 : Option Addr} {m1 d1 m2 d2 m3 d3 : Nat} {G1 G2 : Option Addr} {q1 r1 q2 r2 : Nat} (n : GNet) (b : GBuf) (fl sup : List Int) (w : World) (hN : NetAt w A1 n1 c1 A2 n2 c2 n) (hB : BufAt w B1 m1 d1 B2 m2 d2 B3 m3 d3 b) (hF : SlAt w 1 G1 q1 r1 (ints fl)) (hS : SlAt w 1 G2 q2 r2 (ints sup)) (hc : hrCode n b fl sup = 0) :
    Calls Try.prog 19 #[.agg #[.slice A1 n1 c1, .slice A2 n2 c2], .agg #[.slice B1 m1 d1, .slice B2 m2 d2, .slice B3 m3 d3], .agg #[.slice G1 q1 r1, .slice G2 q2 r2]] w fun e w' => ∃ E1 e1 k1 E2 e2 k2 E3 e3 k3, e = .returned (.tuple #[.agg #[.slice E1 e1 k1, .slice E2 e2 k2, .slice E3 e3 k3], .bool (hsOk n b fl sup)]) ∧ (hsOk n b fl sup = true → BufOwn w' w.heap.size E1 e1 k1 E2 e2 k2 E3 e3 k3 (nxB n b fl sup)) ∧ Gr w w' := by
  obtain ⟨g1, g2, g3, g4, g5, g6, g7⟩ := hr_lens hc
  have hq1 : n2 = q1 := by have := hF.sl.ilen; have := hN.l2; omega
  subst hq1
  have Hf := Lib.hid g3
  have Hc := Lib.hid hc
  clear hc g1 g2 g3 g4 g5 g6 g7
  have hl1 := hN.l1
  have hl2 := hN.l2
  have hm1 := hN.m1
  have hm2 := hN.m2
  obtain ⟨w2, hw2⟩ : ∃ W, W = (((w.alloc (.cells #[.slice A1 n1 c1, .slice A2 n2 c2] 27)).alloc (.cells #[.slice B1 m1 d1, .slice B2 m2 d2, .slice B3 m3 d3] 30)).alloc (.cells #[.slice G1 n2 r1, .slice G2 q2 r2] 32)).alloc (.cells #[.slice none 0 0, .slice none 0 0, .slice none 0 0] 30) := ⟨_, rfl⟩
  have hg2 : Gr w w2 := by rw [hw2]; exact ((((Gr.refl _).alloc _).alloc _).alloc _).alloc _
  have y0 : w2.cell? ⟨w.heap.size, 0, none⟩ = some (.slice A1 n1 c1) := by rw [hw2]; simp [go_sem]
  have y1 : w2.cell? ⟨w.heap.size, 1, none⟩ = some (.slice A2 n2 c2) := by rw [hw2]; simp [go_sem]
  have z0 : w2.cell? ⟨w.heap.size + 1, 0, none⟩ = some (.slice B1 m1 d1) := by rw [hw2]; simp [go_sem]
  have z1 : w2.cell? ⟨w.heap.size + 1, 1, none⟩ = some (.slice B2 m2 d2) := by rw [hw2]; simp [go_sem]
  have z2 : w2.cell? ⟨w.heap.size + 1, 2, none⟩ = some (.slice B3 m3 d3) := by rw [hw2]; simp [go_sem]
  have u0 : w2.cell? ⟨w.heap.size + 2, 0, none⟩ = some (.slice G1 n2 r1) := by rw [hw2]; simp [go_sem]
  have u1 : w2.cell? ⟨w.heap.size + 2, 1, none⟩ = some (.slice G2 q2 r2) := by rw [hw2]; simp [go_sem]
  have hR : w2.heap[w.heap.size + 3]? = some (.cells #[.slice none 0 0, .slice none 0 0, .slice none 0 0] 30 (0, 0)) := by
    have e : w.heap.size + 3 = (((w.alloc (.cells #[.slice A1 n1 c1, .slice A2 n2 c2] 27)).alloc (.cells #[.slice B1 m1 d1, .slice B2 m2 d2, .slice B3 m3 d3] 30)).alloc (.cells #[.slice G1 n2 r1, .slice G2 q2 r2] 32)).heap.size := by simp
    rw [hw2, e]; exact heap_alloc_new _ _
  have HR := Lib.hid hR
  have hsw := rb_lt hR
  clear hR
  have HN := Lib.hid (hN.gr hg2)
  have HB := Lib.hid (hB.gr hg2)
  have Hl1 := Lib.hid hl1
  have Hl2 := Lib.hid hl2
  have HF := Lib.hid (hF.gr hg2)
  have HS := Lib.hid (hS.gr hg2)
  clear hN hB hl1 hl2 hF hS
  go_enter Try.func19, Try.ntmps19
  go_upto_region 1 with fail
  rw [← hw2]
  clear hw2
  go_wp2_with fail
  go_loopw [14] (fun i wr => ∃ k : Nat, k ≤ n2 ∧ i = .int .i64 k ∧ (∀ j, j < k → ovAt n fl j = false) ∧ Gr w2 wr) (fun i _ => n2 - (intOf i).toNat)
  case atStart => exact ⟨0, Nat.zero_le _, rfl, fun j h => absurd h (by omega), Gr.refl _⟩
  case round =>
    obtain ⟨k, hk, rfl, hno, hgr⟩ := hrel
    have Hno := Lib.hid hno
    clear hno
    replace y0 := hgr.has y0
    replace y1 := hgr.has y1
    replace z0 := hgr.has z0
    replace z1 := hgr.has z1
    replace z2 := hgr.has z2
    replace u0 := hgr.has u0
    replace u1 := hgr.has u1
    by_cases hlt : k < n2
    · obtain ⟨p, hp⟩ : ∃ p, n.pipes[k]? = some p := ⟨_, List.getElem?_eq_getElem (by have := Hl2.out; omega)⟩
      obtain ⟨x, hx⟩ : ∃ x, fl[k]? = some x := ⟨_, List.getElem?_eq_getElem (by have := HF.out.sl.ilen; omega)⟩
      obtain ⟨bp, op, hAA, hbp, e0, e1, e2, e3, e4⟩ := (HN.out.gr hgr).pipes.pp hp
      subst hAA
      obtain ⟨b', o', hAA, hb', x0⟩ := (HF.out.gr hgr).sl.int hx
      subst hAA
      have hxb : -30000 ≤ x ∧ x ≤ 30000 := (flOk_all Hf.out).2 x (List.mem_of_getElem? hx)
      have hov : ovAt n fl k = decide (p.lim < sgO x * x) := by
        have e1 : n.pipes.getD k dP = p := by rw [List.getD_eq_getElem?_getD, hp]; rfl
        have e2 : fl.getD k 0 = x := by rw [List.getD_eq_getElem?_getD, hx]; rfl
        rw [ovAt, e1, e2, Bool.eq_iff_iff, Bool.not_eq_true', decide_eq_false_iff_not, decide_eq_true_eq]
        exact abs_lim.symm
      have Hov := Lib.hid hov
      have t1 : (k : Int) < (n2 : Int) := by omega
      have t0 : (0 : Int) ≤ (k : Int) := by omega
      clear hp hx hov
      go_upto_region 4 with fail
      obtain ⟨w4, hw4⟩ : ∃ W, W = wr.alloc (.cells #[.int .i64 p.src, .int .i64 p.dst, .int .i64 p.k, .int .i64 p.vol, .int .i64 p.lim] 59) := ⟨_, rfl⟩
      have hg4 : Gr wr w4 := by rw [hw4]; exact (Gr.refl _).alloc _
      have x4 : w4.cell? ⟨wr.heap.size, 4, none⟩ = some (.int .i64 p.lim) := by rw [hw4]; simp [go_sem]
      have x5 := hg4.has x0
      have x6 := hg4.has u0
      rw [← hw4]
      have hgr4 := hgr.trans hg4
      clear hw4 e0 e1 e2 e3 e4 x0
      refine wp_region_text (fun w' => Gr w4 w') (by kernel_rfl) (by kernel_rfl) (by decide) (Gr.refl _).drew ?_
      repeat (first
        | ((with_reducible refine wpText_skip ?_ ?_)
           · rfl
           simp only [Act.put, List.setIfInBounds_toArray, List.set_cons_zero, List.set_cons_succ])
        | ((with_reducible refine wpText_yield (v := ?_) ?_ ?_ ?_)
           rotate_left
           · rfl
           · (intro W hW; have kx4 := hW.has x4; have kx5 := hW.has x5; have kx6 := hW.has x6; first | (go_simp; done) | (go_simp; with_reducible rfl))
           simp only [Act.put, List.setIfInBounds_toArray, List.set_cons_zero, List.set_cons_succ])
        | ((with_reducible refine wpText_yield1 (v := ?_) ?_ ?_ ?_)
           rotate_left
           · rfl
           · (intro W hW; have kx4 := hW.has x4; have kx5 := hW.has x5; have kx6 := hW.has x6; first | (go_simp; done) | (go_simp; with_reducible rfl))
           simp only [Act.put, List.setIfInBounds_toArray, List.set_cons_zero, List.set_cons_succ]))
      refine wpText_do (.int .i64 (sgO x * x)) (by rfl) (fun W hW K hK => ?_) ?_
      ·
        have kx4 := hW.has x4
        have kx5 := hW.has x5
        have kx6 := hW.has x6
        go_simp
        refine (absO_any x _ (by omega)).mono ?_
        rintro e w' ⟨rfl, rfl⟩
        exact hK _ hW
      simp only [Act.put, List.setIfInBounds_toArray, List.set_cons_zero, List.set_cons_succ]
      repeat (first
        | ((with_reducible refine wpText_skip ?_ ?_)
           · rfl
           simp only [Act.put, List.setIfInBounds_toArray, List.set_cons_zero, List.set_cons_succ])
        | ((with_reducible refine wpText_yield (v := ?_) ?_ ?_ ?_)
           rotate_left
           · rfl
           · (intro W hW; have kx4 := hW.has x4; have kx5 := hW.has x5; have kx6 := hW.has x6; first | (go_simp; done) | (go_simp; with_reducible rfl))
           simp only [Act.put, List.setIfInBounds_toArray, List.set_cons_zero, List.set_cons_succ])
        | ((with_reducible refine wpText_yield1 (v := ?_) ?_ ?_ ?_)
           rotate_left
           · rfl
           · (intro W hW; have kx4 := hW.has x4; have kx5 := hW.has x5; have kx6 := hW.has x6; first | (go_simp; done) | (go_simp; with_reducible rfl))
           simp only [Act.put, List.setIfInBounds_toArray, List.set_cons_zero, List.set_cons_succ]))
      intro w6 hS6
      have hgr6 := hgr4.trans hS6
      clear x4 x5 x6 hgr4 hS6
      by_cases hq : p.lim < sgO x * x
      · have tq : decide (p.lim < sgO x * x) = true := by simp [hq]
        have Hq : Hid (ovAt n fl k = true) := Lib.hid (Hov.out.trans tq)
        have Hh : Hid (hsOk n b fl sup = false) := Lib.hid (hs_no (lim_no Hl2.out hlt Hq.out))
        have hRw := (hgr6.below.block _ (rb_lt HR.out)).trans HR.out
        have r0 := rb_cell (j := 0) hRw rfl
        have r1' := rb_cell (j := 1) hRw rfl
        have r2' := rb_cell (j := 2) hRw rfl
        have f0 := rb_frozen hRw 0
        have f1 := rb_frozen hRw 1
        have f2 := rb_frozen hRw 2
        have hP : (((w6.setCell ⟨w.heap.size + 3, 0, none⟩ (.slice none 0 0)).setCell ⟨w.heap.size + 3, 1, none⟩ (.slice none 0 0)).setCell ⟨w.heap.size + 3, 2, none⟩ (.slice none 0 0)).heap[w.heap.size + 3]? = some (.cells #[.slice none 0 0, .slice none 0 0, .slice none 0 0] 30 (0, 0)) := by simp [World.setCell, Array.getElem?_modify, hRw]
        have HP := Lib.hid hP
        (try have hq := Int.not_lt.1 hq)
        clear hP hRw
        go_wp2_with fail
        (try simp only [Exit.inBlock, Exit.then])
        refine bodyPost_ret (results_row_tmp Try.results19 _ _ (w.heap.size + 3) 30 #[.slice none 0 0, .slice none 0 0, .slice none 0 0] (0, 0) _ ?_ HP.out Try.underlying30 rfl (by kernel_rfl)) ?_ ?_
        · rfl
        · rfl
        exact ⟨none, 0, 0, none, 0, 0, none, 0, 0, by rw [Hh.out]; rfl, (fun h => by rw [Hh.out] at h; cases h), (((hg2.trans hgr6).setCell (Nat.le_add_right _ 3) _).setCell (Nat.le_add_right _ 3) _).setCell (Nat.le_add_right _ 3) _⟩
      · have tq : decide (p.lim < sgO x * x) = false := by simp [hq]
        have Hq : Hid (ovAt n fl k = false) := Lib.hid (Hov.out.trans tq)
        (try have hq := Int.not_lt.1 hq)
        go_wp2_with fail
        go_roundw
        case rel => exact ⟨k + 1, by omega, by go_num, fun j hj => (by by_cases e : j = k; (· subst e; exact Hq.out); exact Hno.out j (by omega)), hgr6⟩
        case measure => simp [intOf]; omega
    · obtain rfl : n2 = k := by omega
      have Hlim := Lib.hid (lim_yes Hl2.out Hno.out)
      have Hhs := Lib.hid (hs_is (b := b) (sup := sup) Hl1.out Hlim.out)
      replace HN := Lib.hid (HN.out.gr hgr)
      replace HB := Lib.hid (HB.out.gr hgr)
      replace HF := Lib.hid (HF.out.gr hgr)
      replace HS := Lib.hid (HS.out.gr hgr)
      have hsr := hgr.size
      go_wp2_with fail
      refine (cloneBuffers_any b _ HB.out).mono ?_
      rintro e w5 ⟨E1, k1, E2, k2, E3, k3, rfl, hBF, h⟩
      replace y0 := h.has y0
      replace y1 := h.has y1
      replace z0 := h.has z0
      replace z1 := h.has z1
      replace z2 := h.has z2
      replace u0 := h.has u0
      replace u1 := h.has u1
      replace HN := Lib.hid (HN.out.gr h)
      replace HB := Lib.hid (HB.out.gr h)
      replace HF := Lib.hid (HF.out.gr h)
      replace HS := Lib.hid (HS.out.gr h)
      have hg5 := hgr.trans h
      have hs5 := h.size
      have HB5 := Lib.hid hBF
      clear hBF h
      go_upto_region 8 with fail
      obtain ⟨w6, hw6⟩ : ∃ W, W = w5.alloc (.cells #[.slice E1 m1 k1, .slice E2 m2 k2, .slice E3 m3 k3] 30) := ⟨_, rfl⟩
      have h56 : Gr w5 w6 := by rw [hw6]; exact (Gr.refl _).alloc _
      have hN6 : w6.heap[w5.heap.size]? = some (.cells #[.slice E1 m1 k1, .slice E2 m2 k2, .slice E3 m3 k3] 30 (0, 0)) := by rw [hw6]; exact heap_alloc_new _ _
      have hs6 : w6.heap.size = w5.heap.size + 1 := by rw [hw6]; simp
      rw [← hw6]
      clear hw6
      replace y0 := h56.has y0
      replace y1 := h56.has y1
      replace z0 := h56.has z0
      replace z1 := h56.has z1
      replace z2 := h56.has z2
      replace u0 := h56.has u0
      replace u1 := h56.has u1
      replace HN := Lib.hid (HN.out.gr h56)
      replace HB := Lib.hid (HB.out.gr h56)
      replace HF := Lib.hid (HF.out.gr h56)
      replace HS := Lib.hid (HS.out.gr h56)
      go_wp2_with fail
      refine (contentAfter_any n b fl sup _ HN.out HB.out HF.out HS.out Hc.out).mono ?_
      rintro e w7 ⟨A, d, rfl, ho, h⟩
      replace y0 := h.has y0
      replace y1 := h.has y1
      have hN7 := (h.below.block _ (rb_lt hN6)).trans hN6
      have c0 := rb_cell (j := 0) hN7 rfl
      have c1' := rb_cell (j := 1) hN7 rfl
      have c2' := rb_cell (j := 2) hN7 rfl
      have f0 := rb_frozen hN7 0
      have f1 := rb_frozen hN7 1
      have f2 := rb_frozen hN7 2
      have h57 := h56.trans h
      have hs7 := h.size
      have Ho := Lib.hid ho
      obtain ⟨w8, hw8⟩ : ∃ W, W = w7.setCell ⟨w5.heap.size, 2, none⟩ (.slice A n1 d) := ⟨_, rfl⟩
      have hc8 : Chg (fun k => k = w5.heap.size) w7 w8 := by rw [hw8]; exact chg_put _ _
      have hN8 : w8.heap[w5.heap.size]? = some (.cells #[.slice E1 m1 k1, .slice E2 m2 k2, .slice A n1 d] 30 (0, 0)) := by rw [hw8]; simp [World.setCell, Array.getElem?_modify, hN7]
      have h58 : Gr w5 w8 := by rw [hw8]; exact h57.setCell (Nat.le_refl _) _
      have ho8 := own_chg Ho.out hc8 (fun j hj e => by have := own_low Ho.out hj; omega)
      have hB8 : BufOwn w8 w2.heap.size E1 m1 k1 E2 m2 k2 A n1 d (nxB n b fl sup) := ⟨own_base (own_gr HB5.out.lo h58) (by omega), own_base (own_gr HB5.out.hi h58) (by omega), own_base ho8 (by omega), HB5.out.s1, HB5.out.s2, hm1⟩
      replace y0 := chg_cell' hc8 y0 (by have := lt_of_cell y0; simp; omega)
      replace y1 := chg_cell' hc8 y1 (by have := lt_of_cell y1; simp; omega)
      have HB8 := Lib.hid hB8
      have Hw8 := Lib.hid hw8
      have hg8 := hg5.trans h58
      clear ho h hw8 ho8 hB8 h56 h57 u0 u1 z0 z1 z2
      go_upto_region 9 with fail
      rw [← Hw8.out]
      clear c0 c1' c2' f0 f1 f2 Hw8 hN7 hN6
      have q0 := rb_cell (j := 0) hN8 rfl
      have q1' := rb_cell (j := 1) hN8 rfl
      have q2' := rb_cell (j := 2) hN8 rfl
      have kp : ∀ W, Gr w8 W → (W.cell? ⟨w5.heap.size, 0, none⟩ = some (.slice E1 m1 k1) ∧ W.cell? ⟨w5.heap.size, 1, none⟩ = some (.slice E2 m2 k2) ∧ W.cell? ⟨w5.heap.size, 2, none⟩ = some (.slice A n1 d) ∧ W.cell? ⟨w.heap.size, 0, none⟩ = some (.slice A1 n1 c1) ∧ W.cell? ⟨w.heap.size, 1, none⟩ = some (.slice A2 n2 c2)) := fun W h => ⟨h.has q0, h.has q1', h.has q2', h.has y0, h.has y1⟩
      have hsN : w.heap.size + 3 < w5.heap.size := by omega
      clear hN8
      go_region_held3 (fun W => W.cell? ⟨w5.heap.size, 0, none⟩ = some (.slice E1 m1 k1) ∧ W.cell? ⟨w5.heap.size, 1, none⟩ = some (.slice E2 m2 k2) ∧ W.cell? ⟨w5.heap.size, 2, none⟩ = some (.slice A n1 d) ∧ W.cell? ⟨w.heap.size, 0, none⟩ = some (.slice A1 n1 c1) ∧ W.cell? ⟨w.heap.size, 1, none⟩ = some (.slice A2 n2 c2))
        (first
          | with_reducible exact kp _ (Gr.refl _).drew
          | with_reducible exact kp _ (by with_reducible assumption)
          | with_reducible exact kq _ _ _)
        (first
          | (go_at_call 30; with_reducible refine (areBuffers_any (nxB n b fl sup) _ (HB8.out.at_.gr (Gr.refl _).drew)).mono ?_; rintro e w9 ⟨rfl, h9⟩; have hg9 : Gr w8 w9 := (Gr.refl _).drew.trans h9; have hR9 := ((hg8.trans hg9).below.block _ (rb_lt HR.out)).trans HR.out; have r0 := rb_cell (j := 0) hR9 rfl; have r1' := rb_cell (j := 1) hR9 rfl; have r2' := rb_cell (j := 2) hR9 rfl; have f0 := rb_frozen hR9 0; have f1 := rb_frozen hR9 1; have f2 := rb_frozen hR9 2; have HR9 := Lib.hid hR9; have kq : ∀ v0 v1 v2 : Value, ((((w9.setCell ⟨w.heap.size + 3, 0, none⟩ v0).setCell ⟨w.heap.size + 3, 1, none⟩ v1).setCell ⟨w.heap.size + 3, 2, none⟩ v2).cell? ⟨w5.heap.size, 0, none⟩ = some (.slice E1 m1 k1) ∧ (((w9.setCell ⟨w.heap.size + 3, 0, none⟩ v0).setCell ⟨w.heap.size + 3, 1, none⟩ v1).setCell ⟨w.heap.size + 3, 2, none⟩ v2).cell? ⟨w5.heap.size, 1, none⟩ = some (.slice E2 m2 k2) ∧ (((w9.setCell ⟨w.heap.size + 3, 0, none⟩ v0).setCell ⟨w.heap.size + 3, 1, none⟩ v1).setCell ⟨w.heap.size + 3, 2, none⟩ v2).cell? ⟨w5.heap.size, 2, none⟩ = some (.slice A n1 d) ∧ (((w9.setCell ⟨w.heap.size + 3, 0, none⟩ v0).setCell ⟨w.heap.size + 3, 1, none⟩ v1).setCell ⟨w.heap.size + 3, 2, none⟩ v2).cell? ⟨w.heap.size, 0, none⟩ = some (.slice A1 n1 c1) ∧ (((w9.setCell ⟨w.heap.size + 3, 0, none⟩ v0).setCell ⟨w.heap.size + 3, 1, none⟩ v1).setCell ⟨w.heap.size + 3, 2, none⟩ v2).cell? ⟨w.heap.size, 1, none⟩ = some (.slice A2 n2 c2)) := (fun v0 v1 v2 => by
              have hc : Chg (fun k => k = w.heap.size + 3) w9 (((w9.setCell ⟨w.heap.size + 3, 0, none⟩ v0).setCell ⟨w.heap.size + 3, 1, none⟩ v1).setCell ⟨w.heap.size + 3, 2, none⟩ v2) := ((chg_put _ _).trans (chg_put _ _)).trans (chg_put _ _)
              obtain ⟨p0, p1, p2, p3, p4⟩ := kp _ hg9
              exact ⟨chg_cell' hc p0 (by simp; omega), chg_cell' hc p1 (by simp; omega), chg_cell' hc p2 (by simp; omega), chg_cell' hc p3 (by simp), chg_cell' hc p4 (by simp)⟩); clear h9 hR9))
      clear kp r0 r1' r2' f0 f1 f2 kq
      have hcc : Chg (fun k => k = w.heap.size + 3) w9 (((w9.setCell ⟨w.heap.size + 3, 0, none⟩ (.slice E1 m1 k1)).setCell ⟨w.heap.size + 3, 1, none⟩ (.slice E2 m2 k2)).setCell ⟨w.heap.size + 3, 2, none⟩ (.slice A n1 d)) := ((chg_put _ _).trans (chg_put _ _)).trans (chg_put _ _)
      have hP : (((w9.setCell ⟨w.heap.size + 3, 0, none⟩ (.slice E1 m1 k1)).setCell ⟨w.heap.size + 3, 1, none⟩ (.slice E2 m2 k2)).setCell ⟨w.heap.size + 3, 2, none⟩ (.slice A n1 d)).heap[w.heap.size + 3]? = some (.cells #[.slice E1 m1 k1, .slice E2 m2 k2, .slice A n1 d] 30 (0, 0)) := by simp [World.setCell, Array.getElem?_modify, HR9.out]
      have HP := Lib.hid hP
      have HBF : Hid (BufOwn (((w9.setCell ⟨w.heap.size + 3, 0, none⟩ (.slice E1 m1 k1)).setCell ⟨w.heap.size + 3, 1, none⟩ (.slice E2 m2 k2)).setCell ⟨w.heap.size + 3, 2, none⟩ (.slice A n1 d)) w.heap.size E1 m1 k1 E2 m2 k2 A n1 d (nxB n b fl sup)) := Lib.hid (((HB8.out.gr hg9).chg hcc (fun k e => by omega)).low (by omega))
      have HGF : Hid (Gr w (((w9.setCell ⟨w.heap.size + 3, 0, none⟩ (.slice E1 m1 k1)).setCell ⟨w.heap.size + 3, 1, none⟩ (.slice E2 m2 k2)).setCell ⟨w.heap.size + 3, 2, none⟩ (.slice A n1 d))) := Lib.hid ((((hg2.trans (hg8.trans hg9)).setCell (Nat.le_add_right _ 3) _).setCell (Nat.le_add_right _ 3) _).setCell (Nat.le_add_right _ 3) _)
      clear hP hcc
      go_wp2_with fail
      (try simp only [Exit.inBlock, Exit.then])
      refine bodyPost_ret (results_row_tmp Try.results19 _ _ (w.heap.size + 3) 30 #[.slice E1 m1 k1, .slice E2 m2 k2, .slice A n1 d] (0, 0) _ ?_ HP.out Try.underlying30 rfl (by kernel_rfl)) ?_ ?_
      · rfl
      · rfl
      exact ⟨_, _, _, _, _, _, _, _, _, by rw [Hhs.out]; rfl, fun _ => HBF.out, HGF.out⟩
set_option maxHeartbeats 6400000 in
set_option maxRecDepth 100000 in
theorem StepHour_any {A1 A2 : Option Addr} {n1 c1 n2 c2 : Nat} {B1 B2 B3 : Option Addr} {m1 d1 m2 d2 m3 d3 : Nat} {G1 G2 : Option Addr} {q1 r1 q2 r2 : Nat} (n : GNet) (b : GBuf) (fl sup : List Int) (w : World) (hN : NetAt w A1 n1 c1 A2 n2 c2 n) (hB : BufAt w B1 m1 d1 B2 m2 d2 B3 m3 d3 b) (hF : SlAt w 1 G1 q1 r1 (ints fl)) (hS : SlAt w 1 G2 q2 r2 (ints sup)) :
    Calls Try.prog 6 #[.agg #[.slice A1 n1 c1, .slice A2 n2 c2], .agg #[.slice B1 m1 d1, .slice B2 m2 d2, .slice B3 m3 d3], .agg #[.slice G1 q1 r1, .slice G2 q2 r2]] w fun e w' => ∃ E1 e1 k1 E2 e2 k2 E3 e3 k3, e = .returned (.tuple #[.agg #[.slice E1 e1 k1, .slice E2 e2 k2, .slice E3 e3 k3], .int .i64 (shCode n b fl sup)]) ∧ BufAt w' E1 e1 k1 E2 e2 k2 E3 e3 k3 (shRes n b fl sup) ∧ Gr w w' := by
  have hl1 := hN.l1
  have hl2 := hN.l2
  have hm1 := hN.m1
  have hm2 := hN.m2
  obtain ⟨w2, hw2⟩ : ∃ W, W = (((w.alloc (.cells #[.slice A1 n1 c1, .slice A2 n2 c2] 27)).alloc (.cells #[.slice B1 m1 d1, .slice B2 m2 d2, .slice B3 m3 d3] 30)).alloc (.cells #[.slice G1 q1 r1, .slice G2 q2 r2] 32)).alloc (.cells #[.slice none 0 0, .slice none 0 0, .slice none 0 0] 30) := ⟨_, rfl⟩
  have hg2 : Gr w w2 := by rw [hw2]; exact ((((Gr.refl _).alloc _).alloc _).alloc _).alloc _
  have y0 : w2.cell? ⟨w.heap.size, 0, none⟩ = some (.slice A1 n1 c1) := by rw [hw2]; simp [go_sem]
  have y1 : w2.cell? ⟨w.heap.size, 1, none⟩ = some (.slice A2 n2 c2) := by rw [hw2]; simp [go_sem]
  have z0 : w2.cell? ⟨w.heap.size + 1, 0, none⟩ = some (.slice B1 m1 d1) := by rw [hw2]; simp [go_sem]
  have z1 : w2.cell? ⟨w.heap.size + 1, 1, none⟩ = some (.slice B2 m2 d2) := by rw [hw2]; simp [go_sem]
  have z2 : w2.cell? ⟨w.heap.size + 1, 2, none⟩ = some (.slice B3 m3 d3) := by rw [hw2]; simp [go_sem]
  have u0 : w2.cell? ⟨w.heap.size + 2, 0, none⟩ = some (.slice G1 q1 r1) := by rw [hw2]; simp [go_sem]
  have u1 : w2.cell? ⟨w.heap.size + 2, 1, none⟩ = some (.slice G2 q2 r2) := by rw [hw2]; simp [go_sem]
  have hR : w2.heap[w.heap.size + 3]? = some (.cells #[.slice none 0 0, .slice none 0 0, .slice none 0 0] 30 (0, 0)) := by
    have e : w.heap.size + 3 = (((w.alloc (.cells #[.slice A1 n1 c1, .slice A2 n2 c2] 27)).alloc (.cells #[.slice B1 m1 d1, .slice B2 m2 d2, .slice B3 m3 d3] 30)).alloc (.cells #[.slice G1 q1 r1, .slice G2 q2 r2] 32)).heap.size := by simp
    rw [hw2, e]; exact heap_alloc_new _ _
  have HR := Lib.hid hR
  have hsw := rb_lt hR
  clear hR
  have HN := Lib.hid (hN.gr hg2)
  have HB := Lib.hid (hB.gr hg2)
  have Hl1 := Lib.hid hl1
  have Hl2 := Lib.hid hl2
  have HF := Lib.hid (hF.gr hg2)
  have HS := Lib.hid (hS.gr hg2)
  clear hN hB hl1 hl2 hF hS
  go_enter Try.func6, Try.ntmps6
  go_upto_region 1 with fail
  rw [← hw2]
  clear hw2
  go_wp2_with fail
  refine (checkBuffers1_any n b fl sup w2.heap.size _ (HN.out.gr ((Gr.refl _).alloc _)) (HB.out.gr ((Gr.refl _).alloc _)) (HF.out.gr ((Gr.refl _).alloc _)) (HS.out.gr ((Gr.refl _).alloc _)) (by simp [go_sem]) (by simp [go_sem])).mono ?_
  rintro e w3 ⟨rfl, h⟩
  replace h := ((Gr.refl w2).alloc (.cells #[.slice G1 q1 r1, .slice G2 q2 r2] 32)).trans h
  have h3s := h.size
  replace y0 := h.has y0
  replace y1 := h.has y1
  replace z0 := h.has z0
  replace z1 := h.has z1
  replace z2 := h.has z2
  replace u0 := h.has u0
  replace u1 := h.has u1
  replace HN := Lib.hid (HN.out.gr h)
  replace HB := Lib.hid (HB.out.gr h)
  replace HF := Lib.hid (HF.out.gr h)
  replace HS := Lib.hid (HS.out.gr h)
  by_cases hc : hrCode n b fl sup = 0
  case neg =>
    have tc : (hrCode n b fl sup != 0) = true := by simp [hc]
    have Hv := Lib.hid (sh_bad hc)
    clear hc
    have hRw := (h.below.block _ (rb_lt HR.out)).trans HR.out
    have r0 := rb_cell (j := 0) hRw rfl
    have r1' := rb_cell (j := 1) hRw rfl
    have r2' := rb_cell (j := 2) hRw rfl
    have f0 := rb_frozen hRw 0
    have f1 := rb_frozen hRw 1
    have f2 := rb_frozen hRw 2
    have hP : (((w3.setCell ⟨w.heap.size + 3, 0, none⟩ (.slice none 0 0)).setCell ⟨w.heap.size + 3, 1, none⟩ (.slice none 0 0)).setCell ⟨w.heap.size + 3, 2, none⟩ (.slice none 0 0)).heap[w.heap.size + 3]? = some (.cells #[.slice none 0 0, .slice none 0 0, .slice none 0 0] 30 (0, 0)) := by simp [World.setCell, Array.getElem?_modify, hRw]
    have HP := Lib.hid hP
    clear hP hRw
    go_wp2_with fail
    (try simp only [Exit.inBlock, Exit.then])
    refine bodyPost_ret (results_row_tmp Try.results6 _ _ (w.heap.size + 3) 30 #[.slice none 0 0, .slice none 0 0, .slice none 0 0] (0, 0) _ ?_ HP.out Try.underlying30 rfl (by kernel_rfl)) ?_ ?_
    · rfl
    · rfl
    exact ⟨none, 0, 0, none, 0, 0, none, 0, 0, by rw [Hv.out.1]; rfl, by rw [Hv.out.2]; exact BufAt.nil _, (((hg2.trans h).setCell (Nat.le_add_right _ 3) _).setCell (Nat.le_add_right _ 3) _).setCell (Nat.le_add_right _ 3) _⟩
  have Hc := Lib.hid hc
  have tc : (hrCode n b fl sup != 0) = false := by simp [hc]
  clear hc
  go_wp2_with fail
  refine (stepHour_any n b fl sup _ HN.out HB.out HF.out HS.out Hc.out).mono ?_
  rintro e w4 ⟨E1, e1, k1, E2, e2, k2, E3, e3, k3, rfl, hbo, h4⟩
  replace h := h.trans h4
  have HBO := Lib.hid hbo
  have hs3 := h3s
  clear hbo h4
  obtain ⟨w5, hw5⟩ : ∃ W, W = w4.alloc (.cells #[.slice E1 e1 k1, .slice E2 e2 k2, .slice E3 e3 k3] 30) := ⟨_, rfl⟩
  have h45 : Gr w4 w5 := by rw [hw5]; exact (Gr.refl _).alloc _
  have n0 : w5.cell? ⟨w4.heap.size, 0, none⟩ = some (.slice E1 e1 k1) := by rw [hw5]; simp [go_sem]
  have n1' : w5.cell? ⟨w4.heap.size, 1, none⟩ = some (.slice E2 e2 k2) := by rw [hw5]; simp [go_sem]
  have n2' : w5.cell? ⟨w4.heap.size, 2, none⟩ = some (.slice E3 e3 k3) := by rw [hw5]; simp [go_sem]
  replace h := h.trans h45
  go_upto_region 5 with fail
  rw [← hw5]
  clear hw5
  cases hh : hsOk n b fl sup with
  | false =>
    have Hv := Lib.hid (sh_no Hc.out hh)
    clear hh
    have hRw := (h.below.block _ (rb_lt HR.out)).trans HR.out
    have r0 := rb_cell (j := 0) hRw rfl
    have r1' := rb_cell (j := 1) hRw rfl
    have r2' := rb_cell (j := 2) hRw rfl
    have f0 := rb_frozen hRw 0
    have f1 := rb_frozen hRw 1
    have f2 := rb_frozen hRw 2
    have hP : (((w5.setCell ⟨w.heap.size + 3, 0, none⟩ (.slice none 0 0)).setCell ⟨w.heap.size + 3, 1, none⟩ (.slice none 0 0)).setCell ⟨w.heap.size + 3, 2, none⟩ (.slice none 0 0)).heap[w.heap.size + 3]? = some (.cells #[.slice none 0 0, .slice none 0 0, .slice none 0 0] 30 (0, 0)) := by simp [World.setCell, Array.getElem?_modify, hRw]
    have HP := Lib.hid hP
    clear hP hRw
    go_wp2_with fail
    (try simp only [Exit.inBlock, Exit.then])
    refine bodyPost_ret (results_row_tmp Try.results6 _ _ (w.heap.size + 3) 30 #[.slice none 0 0, .slice none 0 0, .slice none 0 0] (0, 0) _ ?_ HP.out Try.underlying30 rfl (by kernel_rfl)) ?_ ?_
    · rfl
    · rfl
    exact ⟨none, 0, 0, none, 0, 0, none, 0, 0, by rw [Hv.out.1]; rfl, by rw [Hv.out.2]; exact BufAt.nil _, (((hg2.trans h).setCell (Nat.le_add_right _ 3) _).setCell (Nat.le_add_right _ 3) _).setCell (Nat.le_add_right _ 3) _⟩
  | true =>
    have Hv := Lib.hid (sh_yes Hc.out hh)
    have hbo := HBO.out hh
    have HB5 := Lib.hid (hbo.gr h45)
    clear hh hbo HBO
    have hRw := (h.below.block _ (rb_lt HR.out)).trans HR.out
    have r0 := rb_cell (j := 0) hRw rfl
    have r1' := rb_cell (j := 1) hRw rfl
    have r2' := rb_cell (j := 2) hRw rfl
    have f0 := rb_frozen hRw 0
    have f1 := rb_frozen hRw 1
    have f2 := rb_frozen hRw 2
    have hcc : Chg (fun k => k = w.heap.size + 3) w5 (((w5.setCell ⟨w.heap.size + 3, 0, none⟩ (.slice E1 e1 k1)).setCell ⟨w.heap.size + 3, 1, none⟩ (.slice E2 e2 k2)).setCell ⟨w.heap.size + 3, 2, none⟩ (.slice E3 e3 k3)) := ((chg_put _ _).trans (chg_put _ _)).trans (chg_put _ _)
    have hP : (((w5.setCell ⟨w.heap.size + 3, 0, none⟩ (.slice E1 e1 k1)).setCell ⟨w.heap.size + 3, 1, none⟩ (.slice E2 e2 k2)).setCell ⟨w.heap.size + 3, 2, none⟩ (.slice E3 e3 k3)).heap[w.heap.size + 3]? = some (.cells #[.slice E1 e1 k1, .slice E2 e2 k2, .slice E3 e3 k3] 30 (0, 0)) := by simp [World.setCell, Array.getElem?_modify, hRw]
    have HP := Lib.hid hP
    have HBF : Hid (BufAt (((w5.setCell ⟨w.heap.size + 3, 0, none⟩ (.slice E1 e1 k1)).setCell ⟨w.heap.size + 3, 1, none⟩ (.slice E2 e2 k2)).setCell ⟨w.heap.size + 3, 2, none⟩ (.slice E3 e3 k3)) E1 e1 k1 E2 e2 k2 E3 e3 k3 (nxB n b fl sup)) := Lib.hid (HB5.out.chg hcc (fun k e => by omega)).at_
    have HGF : Hid (Gr w (((w5.setCell ⟨w.heap.size + 3, 0, none⟩ (.slice E1 e1 k1)).setCell ⟨w.heap.size + 3, 1, none⟩ (.slice E2 e2 k2)).setCell ⟨w.heap.size + 3, 2, none⟩ (.slice E3 e3 k3))) := Lib.hid ((((hg2.trans h).setCell (Nat.le_add_right _ 3) _).setCell (Nat.le_add_right _ 3) _).setCell (Nat.le_add_right _ 3) _)
    clear hP hcc hRw
    go_wp2_with fail
    (try simp only [Exit.inBlock, Exit.then])
    refine bodyPost_ret (results_row_tmp Try.results6 _ _ (w.heap.size + 3) 30 #[.slice E1 e1 k1, .slice E2 e2 k2, .slice E3 e3 k3] (0, 0) _ ?_ HP.out Try.underlying30 rfl (by kernel_rfl)) ?_ ?_
    · rfl
    · rfl
    exact ⟨_, _, _, _, _, _, _, _, _, by rw [Hv.out.1]; rfl, by rw [Hv.out.2]; exact HBF.out, HGF.out⟩
end Go.Proofs.Ytbbecboihmmllaa
