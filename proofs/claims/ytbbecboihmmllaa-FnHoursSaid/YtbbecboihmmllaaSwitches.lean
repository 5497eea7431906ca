import Derived.Test.YtbbecboihmmllaaWts
/-
  Settings and switches.
-/
namespace Go.Proofs.Ytbbecboihmmllaa
open Go.ChangeShapes Go.WideShapes Go.ChangeAt Go.RowKit

def offBit (m : Int) (k : Nat) : Bool := (bits BinOp.and IntKind.i64 (m / 2 ^ k) 1 == 0)
def swStep (m : Int) (l : List Int) (k : Nat) (p : Int) : List Int := if offBit m k then l else l.set p.toNat (if (l.getD p.toNat 0 == 0) = true then 1 else 0)
def swTo (m : Int) (zs ss : List Int) : Nat → List Int
  | 0 => zs
  | k + 1 => swStep m (swTo m zs ss k) k (ss.getD k 0)
theorem swTo_len (m : Int) (zs ss : List Int) (k : Nat) : (swTo m zs ss k).length = zs.length := by
  induction k with
  | zero => rfl
  | succ k ih => rw [swTo, swStep]; split <;> simp [ih]
def stOk (np : Int) (zs : List Int) : Bool := decide ((zs.length : Int) = np) && zs.all fun z => inB 0 z 2
def incAt (ss : List Int) (i : Nat) : Bool := decide (i = 0) || decide (ss.getD (i - 1) 0 < ss.getD i 0)
def incOk (ss : List Int) : Bool := (List.range ss.length).all (incAt ss)
def setAt (hi : Int) (ss : List Int) (i : Nat) : Bool := inB 0 (ss.getD i 0) hi && incAt ss i
def setOk (hi : Int) (ss : List Int) : Bool := (List.range ss.length).all (setAt hi ss)
theorem all_range {p : Nat → Bool} {n : Nat} : (List.range n).all p = true ↔ ∀ k, k < n → p k = true := by
  rw [List.all_eq_true]
  exact ⟨fun h k hk => h k (List.mem_range.2 hk), fun h k hk => h k (List.mem_range.1 hk)⟩
theorem all_range_not {p : Nat → Bool} {n k : Nat} (hk : k < n) (h : p k = false) : (List.range n).all p = false := by
  rw [List.all_eq_false]; exact ⟨k, List.mem_range.2 hk, by simp [h]⟩
theorem setOk_eq (hi : Int) (ss : List Int) : setOk hi ss = ((ss.all fun z => inB 0 z hi) && incOk ss) := by
  rw [Bool.eq_iff_iff, Bool.and_eq_true, setOk, incOk, all_range, all_range, List.all_eq_true]
  constructor
  · intro h
    refine ⟨fun z hz => ?_, fun k hk => ?_⟩
    · obtain ⟨k, hk, rfl⟩ := List.mem_iff_getElem.1 hz
      have := h k hk
      simp only [setAt, Bool.and_eq_true] at this
      have e : ss.getD k 0 = ss[k] := by simp [hk]
      rw [← e]
      exact this.1
    · have := h k hk
      simp only [setAt, Bool.and_eq_true] at this
      exact this.2
  · intro h k hk
    rw [setAt, h.2 k hk, Bool.and_true]
    have e : ss.getD k 0 = ss[k] := by simp [hk]
    rw [e]
    exact h.1 _ (List.getElem_mem hk)
theorem setOk_at {hi : Int} {ss : List Int} (h : setOk hi ss = true) (k : Nat) (z : Int) (hz : ss[k]? = some z) : 0 ≤ z ∧ z ≤ hi := by
  have hk := (List.getElem?_eq_some_iff.1 hz).1
  have := all_range.1 h k hk
  simp only [setAt, Bool.and_eq_true, inB_iff] at this
  have e : ss.getD k 0 = z := by simp [hz]
  rw [e] at this
  exact this.1
def swCode (n : GNet) (zs ss : List Int) : Int := if netOk n then (if stOk n.pipes.length zs && (decide (ss.length ≤ 5) && setOk ((n.pipes.length : Int) - 1) ss) then 0 else 3) else 1
theorem incAt_zero (ss : List Int) {q : Nat} (h : q < 1) : incAt ss q = true := by
  have : q = 0 := by omega
  simp [incAt, this]

end Go.Proofs.Ytbbecboihmmllaa
/-
  Settings and switches: the program's and the reference's functions.
-/
namespace Go.Proofs.Ytbbecboihmmllaa
open Go.ChangeShapes Go.WideShapes Go.ChangeAt Go.RowKit

def stCode (n : GNet) (zs : List Int) : Int := if netOk n then (if stOk n.pipes.length zs then 0 else 3) else 1
theorem swCode_st {n : GNet} {zs ss : List Int} (h : stCode n zs ≠ 0) : swCode n zs ss = stCode n zs := by
  unfold swCode stCode at *
  cases h1 : netOk n <;> cases h2 : stOk n.pipes.length zs <;> simp_all
theorem swCode_eq {n : GNet} {zs ss : List Int} (h : stCode n zs = 0) : swCode n zs ss = if decide (ss.length ≤ 5) && setOk ((n.pipes.length : Int) - 1) ss then 0 else 3 := by
  unfold swCode stCode at *
  cases h1 : netOk n <;> cases h2 : stOk n.pipes.length zs <;> simp_all
theorem swCode_zero {n : GNet} {zs ss : List Int} (h : swCode n zs ss = 0) : netOk n = true ∧ stOk n.pipes.length zs = true ∧ ss.length ≤ 5 ∧ setOk ((n.pipes.length : Int) - 1) ss = true := by
  unfold swCode at h
  cases h1 : netOk n
  · rw [h1] at h; simp at h
  · rw [h1] at h
    cases h2 : stOk n.pipes.length zs
    · rw [h2] at h; simp at h
    · rw [h2] at h
      cases h3 : setOk ((n.pipes.length : Int) - 1) ss
      · rw [h3] at h; simp at h
      · rw [h3] at h
        by_cases h4 : ss.length ≤ 5
        · exact ⟨rfl, rfl, h4, rfl⟩
        · simp [h4] at h
theorem swTo_off {m : Int} {zs ss : List Int} {k : Nat} (h : offBit m k = true) : swTo m zs ss (k + 1) = swTo m zs ss k := by rw [swTo, swStep, if_pos h]
theorem swTo_on {m p z : Int} {zs ss : List Int} {k : Nat} (h : offBit m k = false) (hp : ss[k]? = some p) (hz : (swTo m zs ss k).getD p.toNat 0 = z) : swTo m zs ss (k + 1) = (swTo m zs ss k).set p.toNat (if (z == 0) = true then 1 else 0) := by
  have e : ss.getD k 0 = p := by simp [hp]
  rw [swTo, swStep, if_neg (by simp [h]), e, hz]
end Go.Proofs.Ytbbecboihmmllaa
/-
  Settings and switches: the reference's functions.
-/
namespace Go.Proofs.Ytbbecboihmmllaa
open Go.ChangeShapes Go.WideShapes Go.ChangeAt Go.RowKit

theorem l01In_val {n a b : Int} {v : Bool} (h : inB a n b = v) (w : World) : Calls Try.prog 28 #[.int .i64 n, .int .i64 a, .int .i64 b] w fun e w' => e = .returned (.bool v) ∧ w' = w := by
  refine (l01In_any n a b w).mono ?_
  rintro e w' ⟨rfl, rfl⟩
  exact ⟨by rw [h], rfl⟩
theorem at_step {p : Nat → Bool} {k : Nat} (hk : p k = true) (h : ∀ j, j < k → p j = true) : ∀ j, j < k + 1 → p j = true := by
  intro j hj
  by_cases e : j = k
  · rw [e]; exact hk
  · exact h j (by omega)
end Go.Proofs.Ytbbecboihmmllaa
/-
  SwitchPipes: the contracts.
-/
namespace Go.Proofs.Ytbbecboihmmllaa
open Go.ChangeShapes Go.WideShapes Go.ChangeAt Go.RowKit

def l27Val (n : GNet) (zs ss us : List Int) (N : Nat) : Int := if swCode n zs ss = 0 then (if supOk N us then 0 else 3) else swCode n zs ss
theorem l27Val_bad {n : GNet} {zs ss us : List Int} {N : Nat} (h : swCode n zs ss ≠ 0) : l27Val n zs ss us N = swCode n zs ss := by rw [l27Val, if_neg h]
theorem l27Val_eq {n : GNet} {zs ss us : List Int} {N : Nat} (h : swCode n zs ss = 0) : l27Val n zs ss us N = if supOk N us then 0 else 3 := by rw [l27Val, if_pos h]
end Go.Proofs.Ytbbecboihmmllaa
/-
  SwitchPipes: the contracts.
-/
namespace Go.Proofs.Ytbbecboihmmllaa
open Go.ChangeShapes Go.WideShapes Go.ChangeAt Go.RowKit

def spwCode (n : GNet) (zs ss : List Int) (m : Int) : Int := if swCode n zs ss = 0 then (if inB 0 m (2 ^ ss.length - 1) then 0 else 2) else swCode n zs ss
def spwRes (n : GNet) (zs ss : List Int) (m : Int) : List Int := if spwCode n zs ss m = 0 then swTo m zs ss ss.length else []
theorem pow_bnd {q : Nat} {m : Int} (hq : q ≤ 5) (h : inB 0 m (2 ^ q - 1) = true) : 0 ≤ m ∧ m ≤ 31 := by
  have h2 := inB_iff.1 h
  have : q = 0 ∨ q = 1 ∨ q = 2 ∨ q = 3 ∨ q = 4 ∨ q = 5 := by omega
  rcases this with rfl | rfl | rfl | rfl | rfl | rfl <;> simp at h2 <;> omega
theorem pow_wrap {q : Nat} (hq : q ≤ 5) : wrap64 (wrap64 (2 ^ q) - 1) = 2 ^ q - 1 := by
  have : q = 0 ∨ q = 1 ∨ q = 2 ∨ q = 3 ∨ q = 4 ∨ q = 5 := by omega
  rcases this with rfl | rfl | rfl | rfl | rfl | rfl <;> simp [wrap64]
theorem l27_zeros (n : GNet) (zs ss : List Int) (N : Nat) : l27Val n zs ss (List.replicate N 0) N = swCode n zs ss := by
  by_cases h : swCode n zs ss = 0
  · have : supOk N (List.replicate N 0) = true := by
      simp only [supOk, List.length_replicate, decide_true, Bool.true_and, List.all_eq_true]
      intro z hz
      rw [List.eq_of_mem_replicate hz]
      decide
    rw [l27Val_eq h, this, h]; rfl
  · exact l27Val_bad h
end Go.Proofs.Ytbbecboihmmllaa
