import Derived.Test.YthhmhigddmimjaaGreatWts
import Derived.Test.YthhmhigddmimjaaGreatDrawA
import Derived.Test.YthhmhigddmimjaaGreatOpen
import Derived.Laws.StructEq
/-
  The laws' own helpers: likeness of lists, sums, membership.
-/
namespace Go.Proofs.YthhmhigddmimjaaGreat
open Go.ChangeShapes Go.WideShapes Go.ChangeAt Go.RowKit

theorem get_of_lt' {l : List Int} {k : Nat} (h : k < l.length) : l[k]? = some (l.getD k 0) := by
  rw [List.getD_eq_getElem?_getD, List.getElem?_eq_getElem h]; rfl
theorem like_eq {a b : List Int} (hl : a.length = b.length) (h : ∀ j, j < a.length → a.getD j 0 = b.getD j 0) : a = b := by
  apply List.ext_getElem?
  intro i
  by_cases hi : i < a.length
  · rw [get_of_lt' hi, get_of_lt' (by omega), h i hi]
  · rw [List.getElem?_eq_none (by omega), List.getElem?_eq_none (by omega)]
theorem likeInts_any {A B : Option Addr} {n c m d : Nat} (a b : List Int) (w : World) (hA : SlAt w 1 A n c (ints a)) (hB : SlAt w 1 B m d (ints b)) :
    Calls Tryz.prog 28 #[.slice A n c, .slice B m d] w fun e w' => e = .returned (.bool (decide (a = b))) ∧ Gr w w' := by
  have hla := hA.sl.ilen
  have hlb := hB.sl.ilen
  have hm1 := hA.small
  have hm2 := hB.small
  have HA := Lib.hid hA
  have HB := Lib.hid hB
  have Hla := Lib.hid hla
  have Hlb := Lib.hid hlb
  clear hA hB hla hlb
  by_cases hnm : n = m
  · subst hnm
    go_enter Tryz.func28, Tryz.ntmps28
    go_wp2_with fail
    go_loopw [5] (fun i wr => ∃ k : Nat, k ≤ n ∧ i = .int .i64 k ∧ (∀ j, j < k → a.getD j 0 = b.getD j 0) ∧ Gr w wr) (fun i _ => n - (intOf i).toNat)
    case atStart => exact ⟨0, Nat.zero_le _, rfl, fun j h => absurd h (by omega), Gr.refl _⟩
    case round =>
      obtain ⟨k, hk, rfl, hno, hgr⟩ := hrel
      have Hno := Lib.hid hno
      clear hno
      by_cases hlt : k < n
      · have hxa := get_of_lt' (l := a) (k := k) (by have := Hla.out; omega)
        have hxb := get_of_lt' (l := b) (k := k) (by have := Hlb.out; omega)
        obtain ⟨x, hx⟩ : ∃ x, x = a.getD k 0 := ⟨_, rfl⟩
        obtain ⟨y, hy⟩ : ∃ y, y = b.getD k 0 := ⟨_, rfl⟩
        rw [← hx] at hxa
        rw [← hy] at hxb
        obtain ⟨b1, o1, rfl, hb1, e1⟩ := (HA.out.sl.gr hgr).int hxa
        obtain ⟨b2, o2, rfl, hb2, e2⟩ := (HB.out.sl.gr hgr).int hxb
        have Hx := Lib.hid hx
        have Hy := Lib.hid hy
        have t1 : (k : Int) < (n : Int) := by omega
        have t0 : (0 : Int) ≤ (k : Int) := by omega
        clear hxa hxb hx hy
        by_cases hxy : x = y
        · have tb : (x != y) = false := by simp [hxy]
          have Hxy := Lib.hid hxy
          clear hxy
          go_wp2_with fail
          go_quiet (fail)
          go_wp2_with fail
          go_roundw
          case rel =>
            refine ⟨k + 1, by omega, by go_num, fun j hj => ?_, hgr.drewN _⟩
            by_cases e : j = k
            · subst e; rw [← Hx.out, ← Hy.out, Hxy.out]
            · exact Hno.out j (by omega)
          case measure => simp [intOf]; omega
        · have tb : (x != y) = true := by simp [hxy]
          have hne : ¬ a = b := fun e => hxy (by rw [Hx.out, Hy.out, e])
          have Hne := Lib.hid hne
          clear hxy hne
          go_wp2_with fail
          go_quiet (fail)
          go_wp2_with fail
          go_ret
          exact ⟨ret_bool (decide_eq_false Hne.out).symm, hgr.drewN _⟩
      · obtain rfl : k = n := by omega
        go_wp2_with fail
        go_ret
        exact ⟨ret_bool (decide_eq_true (like_eq (by rw [Hla.out, Hlb.out]) (by rw [Hla.out]; exact Hno.out))).symm, hgr⟩
  · have tb : ((n : Int) != (m : Int)) = true := by simp; omega
    have hne : ¬ a = b := fun e => hnm (by rw [← Hla.out, ← Hlb.out, e])
    have Hne := Lib.hid hne
    clear hne
    go_enter Tryz.func28, Tryz.ntmps28
    go_wp2_with fail
    go_ret
    exact ⟨ret_bool (decide_eq_false Hne.out).symm, Gr.refl _⟩
theorem hasInt_any {A : Option Addr} {n c : Nat} (l : List Int) (x : Int) (w : World) (hL : SlAt w 1 A n c (ints l)) :
    Calls Tryz.prog 32 #[.slice A n c, .int .i64 x] w fun e w' => e = .returned (.bool (decide (x ∈ l))) ∧ w = w' := by
  have hlen := hL.sl.ilen
  have Hlen := Lib.hid hlen
  have hm := hL.small
  have HL := Lib.hid hL
  clear hL hlen
  go_enter Tryz.func32, Tryz.ntmps32
  go_wp2_with fail
  go_loop [5] (fun i => ∃ k : Nat, k ≤ n ∧ i = .int .i64 k ∧ x ∉ l.take k) (fun i => n - (intOf i).toNat)
  case atStart => exact ⟨0, Nat.zero_le _, rfl, by simp⟩
  case round =>
    obtain ⟨k, hk, rfl, hno⟩ := hrel
    by_cases hlt : k < n
    · obtain ⟨y, hy⟩ : ∃ y, l[k]? = some y := ⟨_, List.getElem?_eq_getElem (by have := Hlen.out; omega)⟩
      obtain ⟨b, o, rfl, hb, e0⟩ := HL.out.sl.int hy
      have Hy := Lib.hid hy
      have Hno := Lib.hid hno
      clear hy hno
      cases hc : (y == x)
      · have hst : x ∉ l.take (k + 1) := by
          rw [List.take_add_one, Hy.out]
          simp only [Option.toList_some, List.mem_append, List.mem_singleton]
          rintro (h | h)
          · exact Hno.out h
          · simp [h] at hc
        have Hst := Lib.hid hst
        clear hst
        go_wp2_with fail
        go_round
        case rel => exact ⟨k + 1, by omega, by go_num, Hst.out⟩
        case measure => simp [intOf]; omega
      · have hst : x ∈ l := by have : y = x := by simpa using hc
                               rw [← this]; exact List.mem_of_getElem? Hy.out
        have Hst := Lib.hid hst
        clear hst
        go_wp2_with fail
        go_ret
        exact ⟨ret_bool (by simp [Hst.out]), rfl⟩
    · obtain rfl : k = n := by omega
      have Hno := Lib.hid hno
      clear hno
      go_wp2_with fail
      go_ret
      refine ⟨ret_bool ?_, rfl⟩
      have := Hno.out
      rw [List.take_of_length_le (by have := Hlen.out; omega)] at this
      simp [this]
end Go.Proofs.YthhmhigddmimjaaGreat
/-
  What the laws of one []byte argument share: the argument opened; 'big'.
-/
set_option linter.unusedSimpArgs false
set_option linter.unusedVariables false
namespace Go.Proofs.YthhmhigddmimjaaGreat
open Go.ChangeShapes Go.WideShapes Go.ChangeAt Go.RowKit Go.Deep Go.Joins

theorem flat_byts (l : List UInt8) : l.flatMap (fun b : UInt8 => [Value.int .u8 (b.toNat : Int)]) = byts l := by
  induction l with
  | nil => rfl
  | cons x l ih => simp only [List.flatMap_cons, ih, byts, List.map_cons, List.cons_append, List.nil_append]
section
variable {H : Type} {enc : TypeId × Value → H} {w : World} {base : Nat} {spare : Nat → Bool} {held : Bool}
theorem open_bytes {fuel : Nat} {v : Value} {x : DataW H × List MemPlace} (h : DataW.trod enc Tryz.prog w base spare held fuel 46 [v] = some x) :
    ∃ (A : Option Addr) (n c : Nat) (l : List UInt8), v = .slice A n c ∧ n ≤ c ∧ c ≤ maxLen ∧ Sl w 1 A n (byts l) := by
  have hC : Tryz.prog.cellsOf 5 = 1 := by kernel_rfl
  rcases open_slice Tryz.underlying46 h with ⟨hcs, _⟩ | ⟨a, len, cap, m, fu, D, Pl, hcs, _, hl, hm, hmm, _, hi⟩
  · injection hcs with hcs
    exact ⟨none, 0, 0, [], hcs, Nat.le_refl _, by unfold maxLen; omega, Sl.zero _⟩
  · injection hcs with hcs
    have hlm : len ≤ m := by rw [hmm]; split <;> omega
    obtain ⟨l, _, hs⟩ := rows_of (w := w) (fun b : UInt8 => [Value.int .u8 (b.toNat : Int)]) 1 (fun _ => rfl) (by omega) (fun _ => True) a len (fun i hil => by
      obtain ⟨cs', hc, ht'⟩ := hi i (by omega)
      rw [hC] at hc
      obtain ⟨_, hcl, hat⟩ := World.cells?_some hc
      obtain ⟨z, hz, _, hwf⟩ := DataW.trod_int Tryz.underlying5 ht'
      subst hz
      have hzb : 0 ≤ z ∧ z ≤ 255 := by
        have := range_u8 (zs := [z]) (fun y hy => by rw [List.mem_singleton.1 hy]; exact hwf) 0
        simpa using this
      refine ⟨UInt8.ofNat z.toNat, trivial, fun j u hu => ?_⟩
      have hj : j = 0 := by
        have := (List.getElem?_eq_some_iff.1 hu).1
        simpa using this
      subst hj
      have := hat 0 (by omega)
      rw [Go.Deep.add_add] at this
      rw [this]
      have e : ((UInt8.ofNat z.toNat).toNat : Int) = z := by
        simp only [UInt8.toNat_ofNat']
        omega
      simp only [e] at hu
      exact hu)
    rw [flat_byts] at hs
    exact ⟨some a, len, cap, l, hcs, hl, hm, hs⟩
end
theorem big_any {A : Option Addr} {m c : Nat} (w : World) :
    Calls Tryz.prog 26 #[.slice A m c] w fun e w' => e = .returned (.bool (decide (4096 < m))) ∧ w = w' := by
  go_enter Tryz.func26, Tryz.ntmps26
  go_wp2_with fail
  go_ret
  exact ⟨ret_bool (by rw [decide_eq_decide]; omega), rfl⟩
end Go.Proofs.YthhmhigddmimjaaGreat
/-
  What the laws' walks share.
-/
set_option linter.unusedSimpArgs false
set_option linter.unusedVariables false
namespace Go.Proofs.YthhmhigddmimjaaGreat
open Go.ChangeShapes Go.WideShapes Go.ChangeAt Go.RowKit

theorem likeInts_same {A B : Option Addr} {n c m d : Nat} (a : List Int) (w : World) (hA : SlAt w 1 A n c (ints a)) (hB : SlAt w 1 B m d (ints a)) :
    Calls Tryz.prog 28 #[.slice A n c, .slice B m d] w fun e w' => e = .returned (.bool true) ∧ Gr w w' := by
  refine (likeInts_any a a w hA hB).mono ?_
  rintro e w' ⟨rfl, h⟩
  exact ⟨ret_bool (by simp), h⟩
end Go.Proofs.YthhmhigddmimjaaGreat
/-
  The laws' own helpers: likeness of transports and of readings. Printed by gen_like2.py.
-/
set_option linter.unusedSimpArgs false
set_option linter.unusedVariables false
namespace Go.Proofs.YthhmhigddmimjaaGreat
open Go.ChangeShapes Go.WideShapes Go.ChangeAt Go.RowKit

noncomputable instance decTransport : DecidableEq GTr := fun x y => Classical.propDecidable _
end Go.Proofs.YthhmhigddmimjaaGreat
