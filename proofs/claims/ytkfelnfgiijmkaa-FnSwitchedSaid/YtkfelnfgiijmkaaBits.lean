/-
  The number of bits 1, of both sides.
-/
import Derived.Test.YtkfelnfgiijmkaaOrd
set_option linter.unusedVariables false
namespace Go.Proofs.Ytkfelnfgiijmkaa
open Go.ChangeShapes Go.WideShapes Go.ChangeAt Go.RowKit

def pop5 (m : Nat) : Nat := m % 2 + m / 2 % 2 + m / 4 % 2 + m / 8 % 2 + m / 16 % 2
theorem ones_any (m : Nat) (h : m < 32) (w : World) : Calls Try.prog 32 #[.int .u64 m] w fun e w' => e = .returned (.int .i64 (pop5 m)) ∧ w = w' := by
  go_enter Try.func32, Try.ntmps32
  go_wp2
  go_ret
  refine ⟨ret_int ?_, rfl⟩
  clear w
  revert m
  decide +kernel
def popN : Nat → Nat → Nat
  | 0, _ => 0
  | k + 1, m => m % 2 + popN k (m / 2)
theorem popN_zero (k : Nat) : popN k 0 = 0 := by
  induction k with
  | zero => rfl
  | succ k ih => simp [popN, ih]
def BInv (m j o : Nat) : Prop := ∃ k : Nat, j < 2 ^ k ∧ k ≤ 5 ∧ o + k ≤ 5 ∧ o + popN k j = popN 5 m
theorem BInv.step {m j o : Nat} (h : BInv m j o) (hj : 0 < j) : BInv m (j / 2) (o + j % 2) := by
  obtain ⟨k, h1, h2, h3, h4⟩ := h
  rcases k with _ | k
  · simp at h1; omega
  · refine ⟨k, ?_, by omega, by omega, ?_⟩
    · rw [Nat.pow_succ] at h1; omega
    · rw [popN] at h4; omega
theorem bits_any (m : Nat) (h : m < 32) (w : World) : Calls Try.prog 33 #[.int .i64 m] w fun e w' => e = .returned (.int .i64 (pop5 m)) ∧ w = w' := by
  have hp : pop5 m = popN 5 m := by simp [pop5, popN]; omega
  have Hp := Lib.hid hp
  clear hp
  go_enter Try.func33, Try.ntmps33
  go_wp2
  go_loop [0, 3] (fun a b => ∃ j o : Nat, BInv m j o ∧ j < 32 ∧ o ≤ 5 ∧ a = .int .i64 j ∧ b = .int .i64 o) (fun a _ => (intOf a).toNat)
  case atStart => exact ⟨m, 0, ⟨5, by omega, by omega, by omega, by omega⟩, by omega, by omega, rfl, rfl⟩
  case round =>
    obtain ⟨j, o, hi, hj, ho, rfl, rfl⟩ := hrel
    by_cases hz : 0 < j
    · go_wp2
      have hs := hi.step hz
      go_round
      case rel => exact ⟨j / 2, o + j % 2, hs, by omega, by obtain ⟨k, _, _, _, _⟩ := hs; omega, by go_num, by go_num⟩
      case measure => simp [intOf]; omega
    · obtain rfl : j = 0 := by omega
      obtain ⟨k, h1, h2, h3, h4⟩ := hi
      have H4 := Lib.hid h4
      clear h4
      go_wp2
      go_ret
      refine ⟨ret_int ?_, rfl⟩
      have h4 := H4.out
      rw [popN_zero] at h4
      rw [Hp.out, ← h4]
      rfl
def bitsOf (m : Int) : Int := if inB 0 m 31 then pop5 m.toNat else -1
theorem BitsOf_any (m : Int) (w0 : (Lit.int .i64 m).wf = true) (w : World) : Calls Try.prog 10 #[.int .i64 m] w fun e w' => e = .returned (.int .i64 (bitsOf m)) ∧ w = w' := by
  by_cases h : 0 ≤ m ∧ m ≤ 31
  · obtain ⟨m, rfl⟩ := Int.eq_ofNat_of_zero_le h.1
    have hb : bitsOf m = pop5 m := by simp [bitsOf, inB]; omega
    rw [hb]
    clear hb
    have hin : inB 0 m 31 = true := by simp [inB]; omega
    obtain ⟨_, h⟩ := h
    go_enter Try.func10, Try.ntmps10
    go_wp2_with (first | (go_at_call 27; refine (within_any _ _ _ _).mono ?_; rintro e w' ⟨rfl, rfl⟩) | (go_at_call 32; refine (ones_any _ (by omega) _).mono ?_; rintro e w' ⟨rfl, rfl⟩))
    go_ret
    exact ⟨ret_int (by simp), rfl⟩
  · have hb : bitsOf m = -1 := by simp [bitsOf, inB]; omega
    rw [hb]
    clear hb
    have hin : inB 0 m 31 = false := by simp [inB]; omega
    clear h
    go_enter Try.func10, Try.ntmps10
    go_wp2_with (go_at_call 27; refine (within_any _ _ _ _).mono ?_; rintro e w' ⟨rfl, rfl⟩)
    go_ret
    exact ⟨rfl, rfl⟩
theorem spBitsOf_any (m : Int) (w : World) : Calls Try.prog 11 #[.int .i64 m] w fun e w' => e = .returned (.int .i64 (bitsOf m)) ∧ w = w' := by
  by_cases h : 0 ≤ m ∧ m ≤ 31
  · obtain ⟨m, rfl⟩ := Int.eq_ofNat_of_zero_le h.1
    have hb : bitsOf m = pop5 m := by simp [bitsOf, inB]; omega
    rw [hb]
    clear hb
    have hin : inB 0 m 31 = true := by simp [inB]; omega
    obtain ⟨_, h⟩ := h
    go_enter Try.func11, Try.ntmps11
    go_wp2_with (first | (go_at_call 30; refine (l01In_any _ _ _ _).mono ?_; rintro e w' ⟨rfl, rfl⟩) | (go_at_call 33; refine (bits_any _ (by omega) _).mono ?_; rintro e w' ⟨rfl, rfl⟩))
    go_ret
    exact ⟨rfl, rfl⟩
  · have hb : bitsOf m = -1 := by simp [bitsOf, inB]; omega
    rw [hb]
    clear hb
    have hin : inB 0 m 31 = false := by simp [inB]; omega
    clear h
    go_enter Try.func11, Try.ntmps11
    go_wp2_with (go_at_call 30; refine (l01In_any _ _ _ _).mono ?_; rintro e w' ⟨rfl, rfl⟩)
    go_ret
    exact ⟨rfl, rfl⟩
end Go.Proofs.Ytkfelnfgiijmkaa
