import Derived.Test.YtbbecboihmmllaaFlow8
import Derived.Test.YtbbecboihmmllaaFlowMs
/-
  The full flow of the program.
-/
namespace Go.Proofs.Ytbbecboihmmllaa
open Go.ChangeShapes Go.WideShapes Go.ChangeAt Go.RowKit

theorem l02Has_any {A : Option Addr} {n c : Nat} (l : List Int) (x : Int) (w : World) (hL : SlAt w 1 A n c (ints l)) :
    Calls Try.prog 70 #[.slice A n c, .int .i64 x] w fun e w' => e = .returned (.bool (decide (x ∈ l))) ∧ w = w' := by
  have hlen := hL.sl.ilen
  have Hlen := Lib.hid hlen
  have hm := hL.small
  have HL := Lib.hid hL
  clear hL hlen
  go_enter Try.func70, Try.ntmps70
  go_wp2_with fail
  go_loop [5] (fun i => ∃ k : Nat, k ≤ n ∧ i = .int .i64 k ∧ x ∉ l.take k) (fun i => n - (intOf i).toNat)
  case atStart => exact ⟨0, Nat.zero_le _, rfl, by simp⟩
  case round =>
    obtain ⟨k, hk, rfl, hno⟩ := hrel
    by_cases hlt : k < n
    · obtain ⟨y, hy⟩ : ∃ y, l[k]? = some y := ⟨_, List.getElem?_eq_getElem (by have := Hlen.out; omega)⟩
      obtain ⟨b, o, rfl, hb, e0⟩ := HL.out.sl.int hy
      have Hy := Lib.hid hy
      have Hno := Lib.hid hno
      clear hy hno
      cases hc : (y == x)
      · have hst : x ∉ l.take (k + 1) := by
          rw [List.take_add_one, Hy.out]
          simp only [Option.toList_some, List.mem_append, List.mem_singleton]
          rintro (h | h)
          · exact Hno.out h
          · simp [h] at hc
        have Hst := Lib.hid hst
        clear hst
        go_wp2_with fail
        go_round
        case rel => exact ⟨k + 1, by omega, by go_num, Hst.out⟩
        case measure => simp [intOf]; omega
      · have hst : x ∈ l := by have : y = x := by simpa using hc
                               rw [← this]; exact List.mem_of_getElem? Hy.out
        have Hst := Lib.hid hst
        clear hst
        go_wp2_with fail
        go_ret
        exact ⟨ret_bool (by simp [Hst.out]), rfl⟩
    · obtain rfl : k = n := by omega
      have Hno := Lib.hid hno
      clear hno
      go_wp2_with fail
      go_ret
      refine ⟨ret_bool ?_, rfl⟩
      have := Hno.out
      rw [List.take_of_length_le (by have := Hlen.out; omega)] at this
      simp [this]
theorem mem_casts {l : List Nat} {v : Nat} : ((v : Int) ∈ l.map fun (x : Nat) => (x : Int)) ↔ v ∈ l := by
  simp only [List.mem_map]
  constructor
  · rintro ⟨a, ha, e⟩
    have : a = v := by omega
    rw [← this]; exact ha
  · intro h; exact ⟨v, h, rfl⟩

end Go.Proofs.Ytbbecboihmmllaa
/-
  The full flow of the reference.
-/
namespace Go.Proofs.Ytbbecboihmmllaa
open Go.ChangeShapes Go.WideShapes Go.ChangeAt Go.RowKit

def memTo (ord : List Nat) (k : Nat) : List Nat := (List.range k).filter fun v => decide (v ∈ ord)
theorem memTo_yes {ord : List Nat} {k : Nat} (h : k ∈ ord) : memTo ord (k + 1) = memTo ord k ++ [k] := by
  simp [memTo, List.range_succ, List.filter_append, h]
theorem memTo_no {ord : List Nat} {k : Nat} (h : k ∉ ord) : memTo ord (k + 1) = memTo ord k := by
  simp [memTo, List.range_succ, List.filter_append, h]
theorem memTo_len (ord : List Nat) (k : Nat) : (memTo ord k).length ≤ k := by
  have := List.length_filter_le (fun v => decide (v ∈ ord)) (List.range k)
  simpa [memTo] using this
theorem lfOf_len (es : List Ed) (N node to : Nat) (fl : List Int) : (lfOf es N node to fl).length = N := by simp [lfOf]
theorem lfOf_bnd {es : List Ed} {N node to : Nat} (hn : node < N) (ht : to < N) (hne : to ≠ node) {fl : List Int} (h1 : 0 ≤ outOf es fl node) (h2 : outOf es fl node ≤ 1200000) : BndL 1000000000 (lfOf es N node to fl) := by
  intro k z hz
  have hk : k < N := by have := (List.getElem?_eq_some_iff.1 hz).1; rw [lfOf_len] at this; exact this
  have e : (lfOf es N node to fl).getD k 0 = z := by rw [List.getD_eq_getElem?_getD, hz]; rfl
  by_cases e1 : k = to
  · rw [e1, lfOf_to ht] at e; omega
  · by_cases e2 : k = node
    · rw [e2, lfOf_node hn hne] at e; omega
    · rw [lfOf_other e2 e1] at e; omega
theorem lfOf_zero (es : List Ed) (N node to : Nat) : lfOf es N node to (List.replicate es.length 0) = ((List.replicate N (0 : Int)).set node 1200000).set to (-1200000) := by
  rw [lfOf, outOf_zero]; rfl

end Go.Proofs.Ytbbecboihmmllaa
/-
  GreatestFlow, of the program and of the reference.
-/
namespace Go.Proofs.Ytbbecboihmmllaa
open Go.ChangeShapes Go.WideShapes Go.ChangeAt Go.RowKit

def inN (n : GNet) (v : Int) : Bool := inB 0 v ((n.nodes.length : Int) - 1)
def ndCode (n : GNet) (l : List Int) : Int := if netOk n = true then (if l.all (inN n) = true then 0 else 2) else 1
theorem all_take_step {p : Int → Bool} {l : List Int} {k : Nat} {x : Int} (hx : l[k]? = some x) (h : (l.take k).all p = true) (hp : p x = true) : (l.take (k + 1)).all p = true := by
  rw [List.take_add_one, hx]
  simp only [Option.toList_some, List.all_append, h, List.all_cons, List.all_nil, hp, Bool.and_self]
theorem all_bad {p : Int → Bool} {l : List Int} {k : Nat} {x : Int} (hx : l[k]? = some x) (hp : p x = false) : l.all p = false := by
  rw [List.all_eq_false]
  exact ⟨x, List.mem_of_getElem? hx, by simp [hp]⟩
def gfCode (n : GNet) (a b : Int) : Int := if netOk n = true then (if (inN n a && inN n b && !(a == b)) = true then 0 else 2) else 1
theorem inN_iff {n : GNet} {v : Int} : inN n v = true ↔ 0 ≤ v ∧ v ≤ (n.nodes.length : Int) - 1 := inB_iff
theorem gfCode_zero {n : GNet} {a b : Int} (h : gfCode n a b = 0) : netOk n = true ∧ inN n a = true ∧ inN n b = true ∧ a ≠ b := by
  unfold gfCode at h
  split at h
  · rename_i h1
    split at h
    · rename_i h2
      simp only [Bool.and_eq_true, Bool.not_eq_true', beq_eq_false_iff_ne, ne_eq] at h2
      exact ⟨h1, h2.1.1, h2.1.2, h2.2⟩
    · omega
  · omega
noncomputable def gfVal (n : GNet) (a b : Int) : Int := if gfCode n a b = 0 then outOf (eds n.pipes) (mfl (eds n.pipes) n.nodes.length a.toNat b.toNat) a.toNat else 0
theorem nd_gf {n : GNet} {a b : Int} : gfCode n a b = if ndCode n [a, b] = 0 then (if a = b then 2 else 0) else ndCode n [a, b] := by
  unfold gfCode ndCode
  cases netOk n with
  | false => simp
  | true =>
    cases ha : inN n a <;> cases hb : inN n b <;> by_cases h : a = b <;> simp [ha, hb, h] <;> (subst h; simp_all)
end Go.Proofs.Ytbbecboihmmllaa
