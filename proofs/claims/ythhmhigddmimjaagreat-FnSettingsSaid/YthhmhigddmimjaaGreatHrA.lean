import Derived.Test.YthhmhigddmimjaaGreatTrs
import Derived.Test.YthhmhigddmimjaaGreatWts
import Derived.Test.YthhmhigddmimjaaGreatText
import Derived.Deep.AppendLies
import Derived.Deep.RegionHeld3
import Derived.Test.YthhmhigddmimjaaGreatPlainA
import Derived.Test.YthhmhigddmimjaaGreatOutA
import Derived.Test.YthhmhigddmimjaaGreatSups
import Derived.Test.YthhmhigddmimjaaGreatRouteA
import Derived.Test.YthhmhigddmimjaaGreatSums
import Derived.Test.YthhmhigddmimjaaGreatDrawA
import Derived.Test.YthhmhigddmimjaaGreatIndex
import Derived.Test.YthhmhigddmimjaaGreatDrawB
/-
  The reference's sum of a list and a multiple of another one. Printed by gen_add.py.
-/
set_option linter.unusedSimpArgs false
set_option linter.unusedVariables false
namespace Go.Proofs.YthhmhigddmimjaaGreat
open Go.ChangeShapes Go.WideShapes Go.ChangeAt Go.RowKit

def addV (a b : List Int) (s : Int) : List Int := List.zipWith (fun x y => x + s * y) a b
theorem addV_len {a b : List Int} {s : Int} (h : b.length = a.length) : (addV a b s).length = a.length := by simp [addV, h]
theorem addV_getD {a b : List Int} (s : Int) (h : b.length = a.length) (i : Nat) : (addV a b s).getD i 0 = a.getD i 0 + s * b.getD i 0 := by
  rw [addV, List.getD_eq_getElem?_getD, List.getElem?_zipWith]
  by_cases hi : i < a.length
  · have hb : i < b.length := by omega
    simp [hi, hb]
  · rw [List.getElem?_eq_none (by omega)]
    have e1 : a.getD i 0 = 0 := by rw [List.getD_eq_getElem?_getD, List.getElem?_eq_none (by omega)]; rfl
    have e2 : b.getD i 0 = 0 := by rw [List.getD_eq_getElem?_getD, List.getElem?_eq_none (by omega)]; rfl
    rw [e1, e2]; simp
def addVAt (a b : List Int) (s : Int) (k : Nat) : Int := a.getD k 0 + s * b.getD k 0
theorem addV_take {a b : List Int} {s : Int} (h : b.length = a.length) {k : Nat} (hk : k < a.length) : (addV a b s).take (k + 1) = (addV a b s).take k ++ [addVAt a b s k] := by
  have h1 : (addV a b s)[k]? = some (addVAt a b s k) := by
    rw [get_of_lt (by rw [addV_len h]; exact hk), addV_getD s h]; rfl
  rw [List.take_add_one, h1]; rfl
set_option maxHeartbeats 1600000 in
set_option maxRecDepth 100000 in
theorem l05AddV_any {A1 A2 : Option Addr} {m c1 c2 : Nat} (a b : List Int) (s : Int) (w : World) (hA : SlAt w 1 A1 m c1 (ints a)) (hB : SlAt w 1 A2 m c2 (ints b)) (ha : ∀ i, -1000000000000 ≤ a.getD i 0 ∧ a.getD i 0 ≤ 1000000000000) (hb : ∀ i, -1000000000000 ≤ s * b.getD i 0 ∧ s * b.getD i 0 ≤ 1000000000000) :
    Calls Tryz.prog 166 #[.slice A1 m c1, .slice A2 m c2, .int .i64 s] w fun e w' => ∃ g d, e = .returned (.slice (some ⟨g, 0, none⟩) m d) ∧ w'.ownsRow w.heap.size 2 1 (.slice (some ⟨g, 0, none⟩) m d) m (ints (addV a b s)) ∧ Gr w w' := by
  obtain ⟨i0, hi0, hz0, hz1, hz2⟩ := info_parts infoInt64
  have hla := hA.sl.ilen
  have hlb := hB.sl.ilen
  have hm := hA.small
  have HA := Lib.hid hA
  have HB := Lib.hid hB
  have Hla := Lib.hid hla
  have Hlb := Lib.hid hlb
  have Ha := Lib.hid ha
  have Hb := Lib.hid hb
  clear hA hB hla hlb ha hb
  go_enter Tryz.func166, Tryz.ntmps166
  go_wp2_with fail
  go_loopw [7, 8] (fun o i wr => ∃ k : Nat, k ≤ m ∧ i = .int .i64 k ∧ (∃ g c, o = .slice (some ⟨g, 0, none⟩) k c ∧ wr.ownsRow w.heap.size 2 1 (.slice (some ⟨g, 0, none⟩) k c) k (ints ((addV a b s).take k))) ∧ Gr w wr) (fun _ i _ => m - (intOf i).toNat)
  case atStart => exact ⟨0, Nat.zero_le _, rfl, ⟨_, _, rfl, World.ownsRow_lit w #[] 0 (Nat.le_refl _) (by unfold maxLen; omega) rfl⟩, (Gr.refl _).alloc _⟩
  case round =>
    obtain ⟨k, hk, rfl, ⟨g1, c3, rfl, hownr⟩, hgr⟩ := hrel
    have Hown := Lib.hid hownr
    clear hownr
    by_cases hlt : k < m
    · have hxa := get_of_lt (l := a) (k := k) (by have := Hla.out; omega)
      have hxb := get_of_lt (l := b) (k := k) (by have := Hlb.out; omega)
      have hba := Ha.out k
      have hbb := Hb.out k
      have hst := addV_take (a := a) (b := b) (s := s) (by have := Hla.out; have := Hlb.out; omega) (k := k) (by have := Hla.out; omega)
      rw [addVAt] at hst
      obtain ⟨x, hx⟩ : ∃ x, x = a.getD k 0 := ⟨_, rfl⟩
      obtain ⟨y, hy⟩ : ∃ y, y = b.getD k 0 := ⟨_, rfl⟩
      rw [← hx] at hxa hba hst
      rw [← hy] at hxb hbb hst
      obtain ⟨bA, oA, rfl, hb1, e1⟩ := HA.out.sl.int hxa
      obtain ⟨bB, oB, rfl, hb2, e2⟩ := HB.out.sl.int hxb
      replace e1 := hgr.has e1
      replace e2 := hgr.has e2
      have hbase := hgr.size
      have Hst := Lib.hid hst
      have hp : IntKind.i64.wrap (s * y) = s * y := IntWalk.i64_in _ (by omega)
      have hsy : -1000000000000 ≤ s * y ∧ s * y ≤ 1000000000000 := hbb
      obtain ⟨p, hpe⟩ : ∃ p, p = s * y := ⟨_, rfl⟩
      rw [← hpe] at hp hsy Hst
      have hq : IntKind.i64.wrap (x + p) = x + p := IntWalk.i64_in _ (by omega)
      have t1 : (k : Int) < (m : Int) := by omega
      have t0 : (0 : Int) ≤ (k : Int) := by omega
      have hp' : s * y = p := hpe.symm
      clear hxa hxb hx hy hst hpe
      have hfar : ∀ j, (Value.slice (some ⟨g1, 0, none⟩) k c3).ownBlock = some j → j ≠ bA ∧ j ≠ bB := by
        intro j hj
        have e1 := own_base_le Hown.out hj
        omega
      have hnew : ∀ o : Obj, (wr.alloc o).heap[wr.heap.size]? = some o := fun o => heap_alloc_new wr o
      go_wp2_with fail
      go_region_held3 (fun w' => w'.cell? ⟨bA, oA + k, none⟩ = some (.int .i64 x) ∧ w'.cell? ⟨bB, oB + k, none⟩ = some (.int .i64 y))
        (first
          | go_keep
          | (go_split_ands
             refine ⟨?_, ?_⟩
             · (rw [hgrow.cell_far _ (by simp; omega) (fun e => (hfar _ e.symm).1 rfl)]; assumption)
             · (rw [hgrow.cell_far _ (by simp; omega) (fun e => (hfar _ e.symm).2 rfl)]; assumption)))
        ((refine step_append_lies _ (by rfl) _ _ _ (by rfl) w.heap.size 2 i0 _ 1 8 Tryz.underlying26 hi0 hz0 hz1 hz2 rfl (by omega) _ k _ (by rfl) ((Hown.out.alloc _).drew) ⟨wr.heap.size, 0, none⟩ 1 1 [.int .i64 (x + p)] (by rfl) (by rfl) (World.news_of_block (cs := #[.int .i64 (x + p)]) (t := 2) (fr := (0, 0)) (hnew _)) (by simp [Value.oneCell']) (by omega) (by unfold maxLen; omega) (by omega) (by simp; omega) (wr.heap.size + 1) (by simp) ?_; intro gg cap w2 hown1 hgrow hat hlt2))
      clear hp hq hfar
      have Ho2 := Lib.hid (own_cells_eq hown1 (ints_snoc _ (x + p)).symm)
      clear hown1
      go_wp2_with fail
      go_roundw
      case rel =>
        refine ⟨k + 1, by omega, by go_num, ⟨_, _, rfl, ?_⟩, ?_⟩
        · rw [Hst.out]; exact Ho2.out
        · exact ((hgr.alloc _).drew).grown hgrow (fun j hj => own_base_le Hown.out hj)
      case measure => simp [intOf]; omega
    · obtain rfl : k = m := by omega
      go_wp2_with fail
      go_ret
      refine ⟨_, _, rfl, ?_, hgr⟩
      have h := Hown.out
      rw [List.take_of_length_le (by rw [addV_len (by have := Hla.out; have := Hlb.out; omega), Hla.out]; exact Nat.le_refl _)] at h
      exact h
end Go.Proofs.YthhmhigddmimjaaGreat
/-
  Buffers: whether they are valid, and their codes. Printed by gen_hr1.py.
-/
set_option linter.unusedSimpArgs false
set_option linter.unusedVariables false
namespace Go.Proofs.YthhmhigddmimjaaGreat
open Go.ChangeShapes Go.WideShapes Go.ChangeAt Go.RowKit

/-- Buffers' value reads as b. -/
structure BufAt (w : World) (B1 : Option Addr) (m1 d1 : Nat) (B2 : Option Addr) (m2 d2 : Nat) (B3 : Option Addr) (m3 d3 : Nat) (b : GBuf) : Prop where
  lo : SlAt w 1 B1 m1 d1 (ints b.lo)
  hi : SlAt w 1 B2 m2 d2 (ints b.hi)
  nw : SlAt w 1 B3 m3 d3 (ints b.nw)
theorem BufAt.gr {w w' : World} {B1 B2 B3 : Option Addr} {m1 d1 m2 d2 m3 d3 : Nat} {b : GBuf} (h : BufAt w B1 m1 d1 B2 m2 d2 B3 m3 d3 b) (hg : Gr w w') : BufAt w' B1 m1 d1 B2 m2 d2 B3 m3 d3 b := ⟨h.lo.gr hg, h.hi.gr hg, h.nw.gr hg⟩
end Go.Proofs.YthhmhigddmimjaaGreat
/-
  Buffers and hours: their codes, of both sides. Printed by gen_hr2.py.
-/
set_option linter.unusedSimpArgs false
set_option linter.unusedVariables false
namespace Go.Proofs.YthhmhigddmimjaaGreat
open Go.ChangeShapes Go.WideShapes Go.ChangeAt Go.RowKit

end Go.Proofs.YthhmhigddmimjaaGreat
/-
  Contents after an hour, of both sides. Printed by gen_hr3.py.
-/
set_option linter.unusedSimpArgs false
set_option linter.unusedVariables false
namespace Go.Proofs.YthhmhigddmimjaaGreat
open Go.ChangeShapes Go.WideShapes Go.ChangeAt Go.RowKit

/-- The first k elements of a list are turned. -/
def upL (f : Nat → Int) (l : List Int) (k : Nat) : List Int := (List.range l.length).map fun i => if i < k then f i else l.getD i 0
end Go.Proofs.YthhmhigddmimjaaGreat
/-
  Hours: pieces of both sides. Printed by gen_hr4.py.
-/
set_option linter.unusedSimpArgs false
set_option linter.unusedVariables false
namespace Go.Proofs.YthhmhigddmimjaaGreat
open Go.ChangeShapes Go.WideShapes Go.ChangeAt Go.RowKit

/-- Buffers whose rows the call itself made. -/
structure BufOwn (w : World) (base : Nat) (B1 : Option Addr) (m1 d1 : Nat) (B2 : Option Addr) (m2 d2 : Nat) (B3 : Option Addr) (m3 d3 : Nat) (b : GBuf) : Prop where
  lo : w.ownsRow base 2 1 (.slice B1 m1 d1) m1 (ints b.lo)
  hi : w.ownsRow base 2 1 (.slice B2 m2 d2) m2 (ints b.hi)
  nw : w.ownsRow base 2 1 (.slice B3 m3 d3) m3 (ints b.nw)
  s1 : m1 ≤ 1048576
  s2 : m2 ≤ 1048576
  s3 : m3 ≤ 1048576
section
variable {w w' : World} {base base' : Nat} {B1 B2 B3 : Option Addr} {m1 d1 m2 d2 m3 d3 : Nat} {b : GBuf}
theorem BufOwn.at_ (h : BufOwn w base B1 m1 d1 B2 m2 d2 B3 m3 d3 b) : BufAt w B1 m1 d1 B2 m2 d2 B3 m3 d3 b := ⟨SlAt.of_own h.lo h.s1, SlAt.of_own h.hi h.s2, SlAt.of_own h.nw h.s3⟩
theorem BufOwn.gr (h : BufOwn w base B1 m1 d1 B2 m2 d2 B3 m3 d3 b) (hg : Gr w w') : BufOwn w' base B1 m1 d1 B2 m2 d2 B3 m3 d3 b := ⟨own_gr h.lo hg, own_gr h.hi hg, own_gr h.nw hg, h.s1, h.s2, h.s3⟩
theorem BufOwn.low (h : BufOwn w base B1 m1 d1 B2 m2 d2 B3 m3 d3 b) (hb : base' ≤ base) : BufOwn w base' B1 m1 d1 B2 m2 d2 B3 m3 d3 b := ⟨own_base h.lo hb, own_base h.hi hb, own_base h.nw hb, h.s1, h.s2, h.s3⟩
theorem BufOwn.chg {P : Nat → Prop} (h : BufOwn w base B1 m1 d1 B2 m2 d2 B3 m3 d3 b) (hc : Chg P w w') (hP : ∀ k, P k → k < base) : BufOwn w' base B1 m1 d1 B2 m2 d2 B3 m3 d3 b :=
  ⟨own_chg h.lo hc (fun j hj e => by have := own_low h.lo hj; have := hP j e; omega), own_chg h.hi hc (fun j hj e => by have := own_low h.hi hj; have := hP j e; omega), own_chg h.nw hc (fun j hj e => by have := own_low h.nw hj; have := hP j e; omega), h.s1, h.s2, h.s3⟩
end
end Go.Proofs.YthhmhigddmimjaaGreat
/-
  The first trouble of an hour. Printed by gen_hr5.py.
-/
set_option linter.unusedSimpArgs false
set_option linter.unusedVariables false
namespace Go.Proofs.YthhmhigddmimjaaGreat
open Go.ChangeShapes Go.WideShapes Go.ChangeAt Go.RowKit

end Go.Proofs.YthhmhigddmimjaaGreat
/-
  An hour of the program. Printed by gen_hr6.py.
-/
set_option linter.unusedSimpArgs false
set_option linter.unusedVariables false
namespace Go.Proofs.YthhmhigddmimjaaGreat
open Go.ChangeShapes Go.WideShapes Go.ChangeAt Go.RowKit

theorem lim_no {n : GNet} {fl : List Int} {k N : Nat} (hl : n.pipes.length = N) (hk : k < N) (h : ovAt n fl k = true) : limOk n fl = false := by
  rw [limOk, List.all_eq_false]
  refine ⟨k, List.mem_range.2 (by omega), ?_⟩
  rw [ovAt, Bool.not_eq_true'] at h
  intro hd
  exact Bool.noConfusion (h.symm.trans hd)
theorem lim_yes {n : GNet} {fl : List Int} {N : Nat} (hl : n.pipes.length = N) (h : ∀ j, j < N → ovAt n fl j = false) : limOk n fl = true := by
  rw [limOk, List.all_eq_true]
  intro j hj
  have := h j (by have := List.mem_range.1 hj; omega)
  rw [ovAt, Bool.not_eq_false'] at this
  exact this
theorem BufAt.nil (w : World) : BufAt w none 0 0 none 0 0 none 0 0 ⟨[], [], []⟩ := by
  have h : SlAt w 1 none 0 0 (ints []) := ⟨⟨rfl, fun h => absurd h (by omega)⟩, Nat.le_refl _, by omega⟩
  exact ⟨h, h, h⟩
end Go.Proofs.YthhmhigddmimjaaGreat
