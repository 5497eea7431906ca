/-
  Settings and switches.
-/
import Derived.Test.YtdoidehlklkfaaaWts
namespace Go.Proofs.Ytdoidehlklkfaaa
open Go.ChangeShapes Go.WideShapes Go.ChangeAt Go.RowKit

def offBit (m : Int) (k : Nat) : Bool := (bits BinOp.and IntKind.i64 (m / 2 ^ k) 1 == 0)
def swStep (m : Int) (l : List Int) (k : Nat) (p : Int) : List Int := if offBit m k then l else l.set p.toNat (if (l.getD p.toNat 0 == 0) = true then 1 else 0)
def swTo (m : Int) (zs ss : List Int) : Nat → List Int
  | 0 => zs
  | k + 1 => swStep m (swTo m zs ss k) k (ss.getD k 0)
theorem swTo_len (m : Int) (zs ss : List Int) (k : Nat) : (swTo m zs ss k).length = zs.length := by
  induction k with
  | zero => rfl
  | succ k ih => rw [swTo, swStep]; split <;> simp [ih]
def stOk (np : Int) (zs : List Int) : Bool := decide ((zs.length : Int) = np) && zs.all fun z => inB 0 z 2
def incAt (ss : List Int) (i : Nat) : Bool := decide (i = 0) || decide (ss.getD (i - 1) 0 < ss.getD i 0)
def incOk (ss : List Int) : Bool := (List.range ss.length).all (incAt ss)
def setAt (hi : Int) (ss : List Int) (i : Nat) : Bool := inB 0 (ss.getD i 0) hi && incAt ss i
def setOk (hi : Int) (ss : List Int) : Bool := (List.range ss.length).all (setAt hi ss)
theorem all_range {p : Nat → Bool} {n : Nat} : (List.range n).all p = true ↔ ∀ k, k < n → p k = true := by
  rw [List.all_eq_true]
  exact ⟨fun h k hk => h k (List.mem_range.2 hk), fun h k hk => h k (List.mem_range.1 hk)⟩
theorem all_range_not {p : Nat → Bool} {n k : Nat} (hk : k < n) (h : p k = false) : (List.range n).all p = false := by
  rw [List.all_eq_false]; exact ⟨k, List.mem_range.2 hk, by simp [h]⟩
theorem setOk_eq (hi : Int) (ss : List Int) : setOk hi ss = ((ss.all fun z => inB 0 z hi) && incOk ss) := by
  rw [Bool.eq_iff_iff, Bool.and_eq_true, setOk, incOk, all_range, all_range, List.all_eq_true]
  constructor
  · intro h
    refine ⟨fun z hz => ?_, fun k hk => ?_⟩
    · obtain ⟨k, hk, rfl⟩ := List.mem_iff_getElem.1 hz
      have := h k hk
      simp only [setAt, Bool.and_eq_true] at this
      have e : ss.getD k 0 = ss[k] := by simp [hk]
      rw [← e]
      exact this.1
    · have := h k hk
      simp only [setAt, Bool.and_eq_true] at this
      exact this.2
  · intro h k hk
    rw [setAt, h.2 k hk, Bool.and_true]
    have e : ss.getD k 0 = ss[k] := by simp [hk]
    rw [e]
    exact h.1 _ (List.getElem_mem hk)
theorem setOk_at {hi : Int} {ss : List Int} (h : setOk hi ss = true) (k : Nat) (z : Int) (hz : ss[k]? = some z) : 0 ≤ z ∧ z ≤ hi := by
  have hk := (List.getElem?_eq_some_iff.1 hz).1
  have := all_range.1 h k hk
  simp only [setAt, Bool.and_eq_true, inB_iff] at this
  have e : ss.getD k 0 = z := by simp [hz]
  rw [e] at this
  exact this.1
def swCode (n : GNet) (zs ss : List Int) : Int := if netOk n then (if stOk n.pipes.length zs && (decide (ss.length ≤ 5) && setOk ((n.pipes.length : Int) - 1) ss) then 0 else 3) else 1
theorem incAt_zero (ss : List Int) {q : Nat} (h : q < 1) : incAt ss q = true := by
  have : q = 0 := by omega
  simp [incAt, this]

theorem increasing_any {A : Option Addr} {m c : Nat} (ss : List Int) (w : World) (hL : SlAt w 1 A m c (ints ss)) :
    Calls Try.prog 132 #[.slice A m c] w fun e w' => e = .returned (.bool (incOk ss)) ∧ Gr w w' := by
  have hlen := hL.sl.ilen
  have Hlen := Lib.hid hlen
  have hm := hL.small
  have HL := Lib.hid hL
  clear hL hlen
  go_enter Try.func132, Try.ntmps132
  go_wp2_with fail
  go_loopw [3] (fun i wr => ∃ k : Nat, 1 ≤ k ∧ i = .int .i64 k ∧ (∀ q, q < k → q < m → incAt ss q = true) ∧ k ≤ m + 1 ∧ Gr w wr) (fun i _ => m + 1 - (intOf i).toNat)
  case atStart => exact ⟨1, Nat.le_refl _, rfl, fun q h _ => incAt_zero ss h, by omega, Gr.refl _⟩
  case round =>
    obtain ⟨k, hk, rfl, hno, hk2, hgr⟩ := hrel
    have Hno := Lib.hid hno
    clear hno
    by_cases hlt : k < m
    · have g1 := get_of_lt (l := ss) (k := k) (by have := Hlen.out; omega)
      have g0 := get_of_lt (l := ss) (k := k - 1) (by have := Hlen.out; omega)
      have hat : incAt ss k = decide (ss.getD (k - 1) 0 < ss.getD k 0) := by
        have : ¬ k = 0 := by omega
        simp [incAt, this]
      obtain ⟨y, hy⟩ : ∃ y, y = ss.getD (k - 1) 0 := ⟨_, rfl⟩
      obtain ⟨x, hx⟩ : ∃ x, x = ss.getD k 0 := ⟨_, rfl⟩
      rw [← hy] at g0 hat
      rw [← hx] at g1 hat
      obtain ⟨b, o, rfl, hb, e0⟩ := (HL.out.sl.gr hgr).int g1
      obtain ⟨b', o', eb, _, e1⟩ := (HL.out.sl.gr hgr).int g0
      injection eb with eb
      injection eb with eb1 eb2
      subst eb1
      subst eb2
      have Hat := Lib.hid hat
      have t1 : (k : Int) < (m : Int) := by omega
      have t0 : (0 : Int) ≤ (k : Int) := by omega
      obtain ⟨q, rfl⟩ : ∃ q, k = q + 1 := ⟨k - 1, by omega⟩
      rw [Nat.add_sub_cancel] at e1
      have hsub : ((q + 1 : Nat) : Int) - 1 = (q : Int) := by omega
      have t2 : (0 : Int) ≤ (q : Int) := by omega
      have t3 : (q : Int) < (m : Int) := by omega
      have hw1 : IntKind.i64.wrap (((q + 1 : Nat) : Int) - 1) = (q : Int) := by rw [hsub]; exact IntWalk.i64_in _ (by omega)
      clear g0 g1 hx hy hat
      by_cases hc : y < x
      · have hd : decide (x ≤ y) = false := by simp; omega
        go_wp2_with fail
        go_quiet (fail)
        go_wp2_with fail
        go_roundw
        case rel =>
          refine ⟨q + 2, by omega, by go_num, fun j hj hjm => ?_, by omega, hgr.drewN _⟩
          by_cases e : j = q + 1
          · rw [e, Hat.out]; simp [hc]
          · exact Hno.out j (by omega) hjm
        case measure => simp [intOf]; omega
      · have hd : decide (x ≤ y) = true := by simp; omega
        go_wp2_with fail
        go_quiet (fail)
        go_wp2_with fail
        go_ret
        exact ⟨ret_bool (by rw [incOk, all_range_not (k := q + 1) (by rw [Hlen.out]; exact hlt) (by rw [Hat.out]; simp; omega)]), hgr.drewN _⟩
    · have t1 : decide ((k : Int) < (m : Int)) = false := by simp; omega
      go_wp2_with fail
      go_ret
      refine ⟨ret_bool ?_, hgr⟩
      rw [incOk, all_range.2 (fun q hq => Hno.out q (by have := Hlen.out; omega) (by rw [← Hlen.out]; exact hq))]
end Go.Proofs.Ytdoidehlklkfaaa
