import Derived.Test.YtejfpajbkgfiaaaWts
/-
  Settings and switches.
-/
namespace Go.Proofs.Ytejfpajbkgfiaaa
open Go.ChangeShapes Go.WideShapes Go.ChangeAt Go.RowKit

def offBit (m : Int) (k : Nat) : Bool := (bits BinOp.and IntKind.i64 (m / 2 ^ k) 1 == 0)
def swStep (m : Int) (l : List Int) (k : Nat) (p : Int) : List Int := if offBit m k then l else l.set p.toNat (if (l.getD p.toNat 0 == 0) = true then 1 else 0)
def swTo (m : Int) (zs ss : List Int) : Nat → List Int
  | 0 => zs
  | k + 1 => swStep m (swTo m zs ss k) k (ss.getD k 0)
theorem swTo_len (m : Int) (zs ss : List Int) (k : Nat) : (swTo m zs ss k).length = zs.length := by
  induction k with
  | zero => rfl
  | succ k ih => rw [swTo, swStep]; split <;> simp [ih]
def stOk (np : Int) (zs : List Int) : Bool := decide ((zs.length : Int) = np) && zs.all fun z => inB 0 z 2
def incAt (ss : List Int) (i : Nat) : Bool := decide (i = 0) || decide (ss.getD (i - 1) 0 < ss.getD i 0)
def incOk (ss : List Int) : Bool := (List.range ss.length).all (incAt ss)
def setAt (hi : Int) (ss : List Int) (i : Nat) : Bool := inB 0 (ss.getD i 0) hi && incAt ss i
def setOk (hi : Int) (ss : List Int) : Bool := (List.range ss.length).all (setAt hi ss)
theorem all_range {p : Nat → Bool} {n : Nat} : (List.range n).all p = true ↔ ∀ k, k < n → p k = true := by
  rw [List.all_eq_true]
  exact ⟨fun h k hk => h k (List.mem_range.2 hk), fun h k hk => h k (List.mem_range.1 hk)⟩
theorem all_range_not {p : Nat → Bool} {n k : Nat} (hk : k < n) (h : p k = false) : (List.range n).all p = false := by
  rw [List.all_eq_false]; exact ⟨k, List.mem_range.2 hk, by simp [h]⟩
theorem setOk_eq (hi : Int) (ss : List Int) : setOk hi ss = ((ss.all fun z => inB 0 z hi) && incOk ss) := by
  rw [Bool.eq_iff_iff, Bool.and_eq_true, setOk, incOk, all_range, all_range, List.all_eq_true]
  constructor
  · intro h
    refine ⟨fun z hz => ?_, fun k hk => ?_⟩
    · obtain ⟨k, hk, rfl⟩ := List.mem_iff_getElem.1 hz
      have := h k hk
      simp only [setAt, Bool.and_eq_true] at this
      have e : ss.getD k 0 = ss[k] := by simp [hk]
      rw [← e]
      exact this.1
    · have := h k hk
      simp only [setAt, Bool.and_eq_true] at this
      exact this.2
  · intro h k hk
    rw [setAt, h.2 k hk, Bool.and_true]
    have e : ss.getD k 0 = ss[k] := by simp [hk]
    rw [e]
    exact h.1 _ (List.getElem_mem hk)
theorem setOk_at {hi : Int} {ss : List Int} (h : setOk hi ss = true) (k : Nat) (z : Int) (hz : ss[k]? = some z) : 0 ≤ z ∧ z ≤ hi := by
  have hk := (List.getElem?_eq_some_iff.1 hz).1
  have := all_range.1 h k hk
  simp only [setAt, Bool.and_eq_true, inB_iff] at this
  have e : ss.getD k 0 = z := by simp [hz]
  rw [e] at this
  exact this.1
def swCode (n : GNet) (zs ss : List Int) : Int := if netOk n then (if stOk n.pipes.length zs && (decide (ss.length ≤ 5) && setOk ((n.pipes.length : Int) - 1) ss) then 0 else 3) else 1
theorem incAt_zero (ss : List Int) {q : Nat} (h : q < 1) : incAt ss q = true := by
  have : q = 0 := by omega
  simp [incAt, this]

theorem increasing_any {A : Option Addr} {m c : Nat} (ss : List Int) (w : World) (hL : SlAt w 1 A m c (ints ss)) :
    Calls Try.prog 141 #[.slice A m c] w fun e w' => e = .returned (.bool (incOk ss)) ∧ Gr w w' := by
  have hlen := hL.sl.ilen
  have Hlen := Lib.hid hlen
  have hm := hL.small
  have HL := Lib.hid hL
  clear hL hlen
  go_enter Try.func141, Try.ntmps141
  go_wp2_with fail
  go_loopw [3] (fun i wr => ∃ k : Nat, 1 ≤ k ∧ i = .int .i64 k ∧ (∀ q, q < k → q < m → incAt ss q = true) ∧ k ≤ m + 1 ∧ Gr w wr) (fun i _ => m + 1 - (intOf i).toNat)
  case atStart => exact ⟨1, Nat.le_refl _, rfl, fun q h _ => incAt_zero ss h, by omega, Gr.refl _⟩
  case round =>
    obtain ⟨k, hk, rfl, hno, hk2, hgr⟩ := hrel
    have Hno := Lib.hid hno
    clear hno
    by_cases hlt : k < m
    · have g1 := get_of_lt (l := ss) (k := k) (by have := Hlen.out; omega)
      have g0 := get_of_lt (l := ss) (k := k - 1) (by have := Hlen.out; omega)
      have hat : incAt ss k = decide (ss.getD (k - 1) 0 < ss.getD k 0) := by
        have : ¬ k = 0 := by omega
        simp [incAt, this]
      obtain ⟨y, hy⟩ : ∃ y, y = ss.getD (k - 1) 0 := ⟨_, rfl⟩
      obtain ⟨x, hx⟩ : ∃ x, x = ss.getD k 0 := ⟨_, rfl⟩
      rw [← hy] at g0 hat
      rw [← hx] at g1 hat
      obtain ⟨b, o, rfl, hb, e0⟩ := (HL.out.sl.gr hgr).int g1
      obtain ⟨b', o', eb, _, e1⟩ := (HL.out.sl.gr hgr).int g0
      injection eb with eb
      injection eb with eb1 eb2
      subst eb1
      subst eb2
      have Hat := Lib.hid hat
      have t1 : (k : Int) < (m : Int) := by omega
      have t0 : (0 : Int) ≤ (k : Int) := by omega
      obtain ⟨q, rfl⟩ : ∃ q, k = q + 1 := ⟨k - 1, by omega⟩
      rw [Nat.add_sub_cancel] at e1
      have hsub : ((q + 1 : Nat) : Int) - 1 = (q : Int) := by omega
      have t2 : (0 : Int) ≤ (q : Int) := by omega
      have t3 : (q : Int) < (m : Int) := by omega
      have hw1 : IntKind.i64.wrap (((q + 1 : Nat) : Int) - 1) = (q : Int) := by rw [hsub]; exact IntWalk.i64_in _ (by omega)
      clear g0 g1 hx hy hat
      by_cases hc : y < x
      · have hd : decide (x ≤ y) = false := by simp; omega
        go_wp2_with fail
        go_quiet (fail)
        go_wp2_with fail
        go_roundw
        case rel =>
          refine ⟨q + 2, by omega, by go_num, fun j hj hjm => ?_, by omega, hgr.drewN _⟩
          by_cases e : j = q + 1
          · rw [e, Hat.out]; simp [hc]
          · exact Hno.out j (by omega) hjm
        case measure => simp [intOf]; omega
      · have hd : decide (x ≤ y) = true := by simp; omega
        go_wp2_with fail
        go_quiet (fail)
        go_wp2_with fail
        go_ret
        exact ⟨ret_bool (by rw [incOk, all_range_not (k := q + 1) (by rw [Hlen.out]; exact hlt) (by rw [Hat.out]; simp; omega)]), hgr.drewN _⟩
    · have t1 : decide ((k : Int) < (m : Int)) = false := by simp; omega
      go_wp2_with fail
      go_ret
      refine ⟨ret_bool ?_, hgr⟩
      rw [incOk, all_range.2 (fun q hq => Hno.out q (by have := Hlen.out; omega) (by rw [← Hlen.out]; exact hq))]
end Go.Proofs.Ytejfpajbkgfiaaa
/-
  Settings and switches: the program's and the reference's functions.
-/
namespace Go.Proofs.Ytejfpajbkgfiaaa
open Go.ChangeShapes Go.WideShapes Go.ChangeAt Go.RowKit

def stCode (n : GNet) (zs : List Int) : Int := if netOk n then (if stOk n.pipes.length zs then 0 else 3) else 1
theorem swCode_st {n : GNet} {zs ss : List Int} (h : stCode n zs ≠ 0) : swCode n zs ss = stCode n zs := by
  unfold swCode stCode at *
  cases h1 : netOk n <;> cases h2 : stOk n.pipes.length zs <;> simp_all
theorem swCode_eq {n : GNet} {zs ss : List Int} (h : stCode n zs = 0) : swCode n zs ss = if decide (ss.length ≤ 5) && setOk ((n.pipes.length : Int) - 1) ss then 0 else 3 := by
  unfold swCode stCode at *
  cases h1 : netOk n <;> cases h2 : stOk n.pipes.length zs <;> simp_all
theorem swCode_zero {n : GNet} {zs ss : List Int} (h : swCode n zs ss = 0) : netOk n = true ∧ stOk n.pipes.length zs = true ∧ ss.length ≤ 5 ∧ setOk ((n.pipes.length : Int) - 1) ss = true := by
  unfold swCode at h
  cases h1 : netOk n
  · rw [h1] at h; simp at h
  · rw [h1] at h
    cases h2 : stOk n.pipes.length zs
    · rw [h2] at h; simp at h
    · rw [h2] at h
      cases h3 : setOk ((n.pipes.length : Int) - 1) ss
      · rw [h3] at h; simp at h
      · rw [h3] at h
        by_cases h4 : ss.length ≤ 5
        · exact ⟨rfl, rfl, h4, rfl⟩
        · simp [h4] at h
theorem swTo_off {m : Int} {zs ss : List Int} {k : Nat} (h : offBit m k = true) : swTo m zs ss (k + 1) = swTo m zs ss k := by rw [swTo, swStep, if_pos h]
theorem swTo_on {m p z : Int} {zs ss : List Int} {k : Nat} (h : offBit m k = false) (hp : ss[k]? = some p) (hz : (swTo m zs ss k).getD p.toNat 0 = z) : swTo m zs ss (k + 1) = (swTo m zs ss k).set p.toNat (if (z == 0) = true then 1 else 0) := by
  have e : ss.getD k 0 = p := by simp [hp]
  rw [swTo, swStep, if_neg (by simp [h]), e, hz]
end Go.Proofs.Ytejfpajbkgfiaaa
/-
  Settings and switches: the reference's functions.
-/
namespace Go.Proofs.Ytejfpajbkgfiaaa
open Go.ChangeShapes Go.WideShapes Go.ChangeAt Go.RowKit

theorem l01In_val {n a b : Int} {v : Bool} (h : inB a n b = v) (w : World) : Calls Try.prog 91 #[.int .i64 n, .int .i64 a, .int .i64 b] w fun e w' => e = .returned (.bool v) ∧ w' = w := by
  refine (l01In_any n a b w).mono ?_
  rintro e w' ⟨rfl, rfl⟩
  exact ⟨by rw [h], rfl⟩
theorem at_step {p : Nat → Bool} {k : Nat} (hk : p k = true) (h : ∀ j, j < k → p j = true) : ∀ j, j < k + 1 → p j = true := by
  intro j hj
  by_cases e : j = k
  · rw [e]; exact hk
  · exact h j (by omega)
theorem l26Set_any {A : Option Addr} {m c : Nat} (ss : List Int) (N : Nat) (w : World) (hL : SlAt w 1 A m c (ints ss)) (hN : N ≤ 1048576) :
    Calls Try.prog 152 #[.slice A m c, .int .i64 N] w fun e w' => e = .returned (.bool (setOk ((N : Int) - 1) ss)) ∧ Gr w w' := by
  have hlen := hL.sl.ilen
  have Hlen := Lib.hid hlen
  have hm := hL.small
  have HL := Lib.hid hL
  clear hL hlen
  go_enter Try.func152, Try.ntmps152
  go_wp2_with fail
  go_loopw [5] (fun i wr => ∃ k : Nat, k ≤ m ∧ i = .int .i64 k ∧ (∀ q, q < k → setAt ((N : Int) - 1) ss q = true) ∧ Gr w wr) (fun i _ => m - (intOf i).toNat)
  case atStart => exact ⟨0, Nat.zero_le _, rfl, fun j h => absurd h (by omega), Gr.refl _⟩
  case round =>
    obtain ⟨k, hk, rfl, hno, hgr⟩ := hrel
    have Hno := Lib.hid hno
    clear hno
    by_cases hlt : k < m
    · have g1 := get_of_lt (l := ss) (k := k) (by have := Hlen.out; omega)
      have hat : setAt ((N : Int) - 1) ss k = (inB 0 (ss.getD k 0) ((N : Int) - 1) && incAt ss k) := rfl
      have hia : incAt ss k = (decide (k = 0) || decide (ss.getD (k - 1) 0 < ss.getD k 0)) := rfl
      obtain ⟨x, hx⟩ : ∃ x, x = ss.getD k 0 := ⟨_, rfl⟩
      rw [← hx] at g1 hat hia
      have e0 := (HL.out.sl.gr hgr).int g1
      obtain ⟨b, o, rfl, hb, e0⟩ := e0
      have t1 : (k : Int) < (m : Int) := by omega
      have t0 : (0 : Int) ≤ (k : Int) := by omega
      have hwN : IntKind.i64.wrap ((N : Int) - 1) = (N : Int) - 1 := IntWalk.i64_in _ (by omega)
      have Hat := Lib.hid hat
      clear hat hx g1
      cases hin : inB 0 x ((N : Int) - 1) with
      | false =>
        have Hin := Lib.hid hin
        clear hia
        go_wp2_with fail
        go_quiet ((go_at_call 91; exact Calls.quiet_of_same (l01In_val hin _)))
        go_wp2_with fail
        go_ret
        exact ⟨ret_bool (by rw [setOk, all_range_not (k := k) (by rw [Hlen.out]; exact hlt) (by rw [Hat.out, Hin.out, Bool.false_and])]), hgr.drewN _⟩
      | true =>
        have Hin := Lib.hid hin
        by_cases hk0 : k = 0
        · have Hia : Hid (incAt ss k = true) := Lib.hid (by rw [hia]; simp [hk0])
          have hd : decide (0 < k) = false := decide_eq_false (by omega)
          clear hia hk0
          go_wp2_with fail
          go_quiet ((go_at_call 91; exact Calls.quiet_of_same (l01In_val hin _)))
          go_wp2_with fail
          go_roundw
          case rel => exact ⟨k + 1, by omega, by go_num, at_step (by rw [Hat.out, Hin.out, Hia.out]; rfl) Hno.out, hgr.drewN _⟩
          case measure => simp [intOf]; omega
        · obtain ⟨q, rfl⟩ : ∃ q, k = q + 1 := ⟨k - 1, by omega⟩
          rw [Nat.add_sub_cancel] at hia
          have g0 := get_of_lt (l := ss) (k := q) (by have := Hlen.out; omega)
          obtain ⟨y, hy⟩ : ∃ y, y = ss.getD q 0 := ⟨_, rfl⟩
          rw [← hy] at g0 hia
          obtain ⟨b', o', eb, _, e1⟩ := (HL.out.sl.gr hgr).int g0
          injection eb with eb
          injection eb with eb1 eb2
          subst eb1
          subst eb2
          have hd : decide ((0 : Int) < ((q + 1 : Nat) : Int)) = true := decide_eq_true (by omega)
          have hsub : ((q + 1 : Nat) : Int) - 1 = (q : Int) := by omega
          have t2 : (0 : Int) ≤ (q : Int) := by omega
          have t3 : (q : Int) < (m : Int) := by omega
          have hw1 : IntKind.i64.wrap (((q + 1 : Nat) : Int) - 1) = (q : Int) := by rw [hsub]; exact IntWalk.i64_in _ (by omega)
          clear g0 hy hk0
          by_cases hc : y < x
          · have Hia : Hid (incAt ss (q + 1) = true) := Lib.hid (by rw [hia]; simp [hc])
            have hd2 : decide (x ≤ y) = false := by simp; omega
            clear hia
            go_wp2_with fail
            go_quiet ((go_at_call 91; exact Calls.quiet_of_same (l01In_val hin _)))
            go_wp2_with fail
            go_roundw
            case rel => exact ⟨q + 2, by omega, by go_num, at_step (by rw [Hat.out, Hin.out, Hia.out]; rfl) Hno.out, hgr.drewN _⟩
            case measure => simp [intOf]; omega
          · have Hia : Hid (incAt ss (q + 1) = false) := Lib.hid (by rw [hia]; simp; omega)
            have hd2 : decide (x ≤ y) = true := by simp; omega
            clear hia
            go_wp2_with fail
            go_quiet ((go_at_call 91; exact Calls.quiet_of_same (l01In_val hin _)))
            go_wp2_with fail
            go_ret
            exact ⟨ret_bool (by rw [setOk, all_range_not (k := q + 1) (by rw [Hlen.out]; exact hlt) (by rw [Hat.out, Hia.out, Bool.and_false])]), hgr.drewN _⟩
    · obtain rfl : k = m := by omega
      go_wp2_with fail
      go_ret
      exact ⟨ret_bool (by rw [setOk, all_range.2 (by rw [Hlen.out]; exact Hno.out)]), hgr⟩
end Go.Proofs.Ytejfpajbkgfiaaa
/-
  SwitchPipes: the contracts.
-/
namespace Go.Proofs.Ytejfpajbkgfiaaa
open Go.ChangeShapes Go.WideShapes Go.ChangeAt Go.RowKit

def l27Val (n : GNet) (zs ss us : List Int) (N : Nat) : Int := if swCode n zs ss = 0 then (if supOk N us then 0 else 3) else swCode n zs ss
theorem l27Val_bad {n : GNet} {zs ss us : List Int} {N : Nat} (h : swCode n zs ss ≠ 0) : l27Val n zs ss us N = swCode n zs ss := by rw [l27Val, if_neg h]
theorem l27Val_eq {n : GNet} {zs ss us : List Int} {N : Nat} (h : swCode n zs ss = 0) : l27Val n zs ss us N = if supOk N us then 0 else 3 := by rw [l27Val, if_pos h]
end Go.Proofs.Ytejfpajbkgfiaaa
/-
  SwitchPipes: the contracts.
-/
namespace Go.Proofs.Ytejfpajbkgfiaaa
open Go.ChangeShapes Go.WideShapes Go.ChangeAt Go.RowKit

def spwCode (n : GNet) (zs ss : List Int) (m : Int) : Int := if swCode n zs ss = 0 then (if inB 0 m (2 ^ ss.length - 1) then 0 else 2) else swCode n zs ss
def spwRes (n : GNet) (zs ss : List Int) (m : Int) : List Int := if spwCode n zs ss m = 0 then swTo m zs ss ss.length else []
theorem pow_bnd {q : Nat} {m : Int} (hq : q ≤ 5) (h : inB 0 m (2 ^ q - 1) = true) : 0 ≤ m ∧ m ≤ 31 := by
  have h2 := inB_iff.1 h
  have : q = 0 ∨ q = 1 ∨ q = 2 ∨ q = 3 ∨ q = 4 ∨ q = 5 := by omega
  rcases this with rfl | rfl | rfl | rfl | rfl | rfl <;> simp at h2 <;> omega
theorem pow_wrap {q : Nat} (hq : q ≤ 5) : wrap64 (wrap64 (2 ^ q) - 1) = 2 ^ q - 1 := by
  have : q = 0 ∨ q = 1 ∨ q = 2 ∨ q = 3 ∨ q = 4 ∨ q = 5 := by omega
  rcases this with rfl | rfl | rfl | rfl | rfl | rfl <;> simp [wrap64]
theorem l27_zeros (n : GNet) (zs ss : List Int) (N : Nat) : l27Val n zs ss (List.replicate N 0) N = swCode n zs ss := by
  by_cases h : swCode n zs ss = 0
  · have : supOk N (List.replicate N 0) = true := by
      simp only [supOk, List.length_replicate, decide_true, Bool.true_and, List.all_eq_true]
      intro z hz
      rw [List.eq_of_mem_replicate hz]
      decide
    rw [l27Val_eq h, this, h]; rfl
  · exact l27Val_bad h
end Go.Proofs.Ytejfpajbkgfiaaa
