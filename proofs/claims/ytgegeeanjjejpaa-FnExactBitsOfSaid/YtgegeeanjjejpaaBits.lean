/-
  For every int64, the law FnExactBitsOf returns true: the program's BitsOf and the reference's return the same number. No condition.
-/
import Derived.Test.YtgegeeanjjejpaaRows
import Derived.WalkKit
import Derived.ProofKit
import Derived.OpenShut
import Derived.LoopTactic
import Derived.Lib.Hide
namespace Go.Proofs.Ytgegeeanjjejpaa.fnExactBitsOf
open Go.ChangeShapes Go.WideShapes Go.ChangeAt Go.RowKit
set_option linter.unusedVariables false      -- a walk need not use every 'w<i>' (that an integer argument fits its kind)

theorem own : ownKnob Try.prog.godebug = none := by kernel_rfl

def inB (a n b : Int) : Bool := decide (a ≤ n) && decide (n ≤ b)
def pop5 (m : Nat) : Nat := m % 2 + m / 2 % 2 + m / 4 % 2 + m / 8 % 2 + m / 16 % 2
theorem ret_int {k : IntKind} {a b : Int} (h : a = b) : Ending.returned (.int k a) = .returned (.int k b) := by rw [h]
theorem ret_bool {a b : Bool} (h : a = b) : Ending.returned (.bool a) = .returned (.bool b) := by rw [h]
theorem ones_any (m : Nat) (h : m < 32) (w : World) : Calls Try.prog 9 #[.int .u64 m] w fun e w' => e = .returned (.int .i64 (pop5 m)) ∧ w = w' := by
  go_enter Try.func9, Try.ntmps9
  go_wp2
  go_ret
  refine ⟨ret_int ?_, rfl⟩
  clear w
  revert m
  decide +kernel

theorem l01In_any (n a b : Int) (w : World) : Calls Try.prog 6 #[.int .i64 n, .int .i64 a, .int .i64 b] w fun e w' => e = .returned (.bool (inB a n b)) ∧ w = w' := by
  go_enter Try.func6, Try.ntmps6
  go_wp2
  all_goals
    go_ret
    exact ⟨ret_bool (by simp [inB]; try omega), rfl⟩
theorem within_any (n a b : Int) (w : World) : Calls Try.prog 8 #[.int .i64 n, .int .i64 a, .int .i64 b] w fun e w' => e = .returned (.bool (inB a n b)) ∧ w = w' := by
  go_enter Try.func8, Try.ntmps8
  go_wp2
  all_goals
    go_ret
    exact ⟨ret_bool (by simp [inB]; try omega), rfl⟩

def popN : Nat → Nat → Nat
  | 0, _ => 0
  | k + 1, m => m % 2 + popN k (m / 2)
theorem popN_zero (k : Nat) : popN k 0 = 0 := by
  induction k with
  | zero => rfl
  | succ k ih => simp [popN, ih]
def Inv (m j o : Nat) : Prop := ∃ k : Nat, j < 2 ^ k ∧ k ≤ 5 ∧ o + k ≤ 5 ∧ o + popN k j = popN 5 m
theorem Inv.step {m j o : Nat} (h : Inv m j o) (hj : 0 < j) : Inv m (j / 2) (o + j % 2) := by
  obtain ⟨k, h1, h2, h3, h4⟩ := h
  rcases k with _ | k
  · simp at h1; omega
  · refine ⟨k, ?_, by omega, by omega, ?_⟩
    · rw [Nat.pow_succ] at h1; omega
    · rw [popN] at h4; omega

theorem bits_any (m : Nat) (h : m < 32) (w : World) : Calls Try.prog 7 #[.int .i64 m] w fun e w' => e = .returned (.int .i64 (pop5 m)) ∧ w = w' := by
  have hp : pop5 m = popN 5 m := by simp [pop5, popN]; omega
  have Hp := Lib.hid hp
  clear hp
  go_enter Try.func7, Try.ntmps7
  go_wp2
  go_loop [0, 3] (fun a b => ∃ j o : Nat, Inv m j o ∧ j < 32 ∧ o ≤ 5 ∧ a = .int .i64 j ∧ b = .int .i64 o) (fun a _ => (intOf a).toNat)
  case atStart => exact ⟨m, 0, ⟨5, by omega, by omega, by omega, by omega⟩, by omega, by omega, rfl, rfl⟩
  case round =>
    obtain ⟨j, o, hi, hj, ho, rfl, rfl⟩ := hrel
    by_cases hz : 0 < j
    · go_wp2
      have hs := hi.step hz
      go_round
      case rel => exact ⟨j / 2, o + j % 2, hs, by omega, by obtain ⟨k, _, _, _, _⟩ := hs; omega, by go_num, by go_num⟩
      case measure => simp [intOf]; omega
    · obtain rfl : j = 0 := by omega
      obtain ⟨k, h1, h2, h3, h4⟩ := hi
      have H4 := Lib.hid h4
      clear h4
      go_wp2
      go_ret
      refine ⟨ret_int ?_, rfl⟩
      have h4 := H4.out
      rw [popN_zero] at h4
      rw [Hp.out, ← h4]
      rfl

def bitsOf (m : Int) : Int := if inB 0 m 31 then pop5 m.toNat else -1
theorem implBitsOf_any (m : Int) (w0 : (Lit.int .i64 m).wf = true) (w : World) : Calls Try.prog 5 #[.int .i64 m] w fun e w' => e = .returned (.int .i64 (bitsOf m)) ∧ w = w' := by
  by_cases h : 0 ≤ m ∧ m ≤ 31
  · obtain ⟨m, rfl⟩ := Int.eq_ofNat_of_zero_le h.1
    have hb : bitsOf m = pop5 m := by simp [bitsOf, inB]; omega
    rw [hb]
    clear hb
    have hin : inB 0 m 31 = true := by simp [inB]; omega
    obtain ⟨_, h⟩ := h
    go_enter Try.func5, Try.ntmps5
    go_wp2_with (first | (go_at_call 8; refine (within_any _ _ _ _).mono ?_; rintro e w' ⟨rfl, rfl⟩) | (go_at_call 9; refine (ones_any _ (by omega) _).mono ?_; rintro e w' ⟨rfl, rfl⟩))
    go_ret
    exact ⟨ret_int (by simp), rfl⟩
  · have hb : bitsOf m = -1 := by simp [bitsOf, inB]; omega
    rw [hb]
    clear hb
    have hin : inB 0 m 31 = false := by simp [inB]; omega
    clear h
    go_enter Try.func5, Try.ntmps5
    go_wp2_with (go_at_call 8; refine (within_any _ _ _ _).mono ?_; rintro e w' ⟨rfl, rfl⟩)
    go_ret
    exact ⟨rfl, rfl⟩
theorem specBitsOf_any (m : Int) (w : World) : Calls Try.prog 4 #[.int .i64 m] w fun e w' => e = .returned (.int .i64 (bitsOf m)) ∧ w = w' := by
  by_cases h : 0 ≤ m ∧ m ≤ 31
  · obtain ⟨m, rfl⟩ := Int.eq_ofNat_of_zero_le h.1
    have hb : bitsOf m = pop5 m := by simp [bitsOf, inB]; omega
    rw [hb]
    clear hb
    have hin : inB 0 m 31 = true := by simp [inB]; omega
    obtain ⟨_, h⟩ := h
    go_enter Try.func4, Try.ntmps4
    go_wp2_with (first | (go_at_call 6; refine (l01In_any _ _ _ _).mono ?_; rintro e w' ⟨rfl, rfl⟩) | (go_at_call 7; refine (bits_any _ (by omega) _).mono ?_; rintro e w' ⟨rfl, rfl⟩))
    go_ret
    exact ⟨rfl, rfl⟩
  · have hb : bitsOf m = -1 := by simp [bitsOf, inB]; omega
    rw [hb]
    clear hb
    have hin : inB 0 m 31 = false := by simp [inB]; omega
    clear h
    go_enter Try.func4, Try.ntmps4
    go_wp2_with (go_at_call 6; refine (l01In_any _ _ _ _).mono ?_; rintro e w' ⟨rfl, rfl⟩)
    go_ret
    exact ⟨rfl, rfl⟩
theorem walk (a0 : Int) (w0 : (Lit.int .i64 a0).wf = true) (w : World) :
    Calls Try.prog 3 #[.int .i64 a0] w fun e w' => e = .returned (.bool true) ∧ Grown w w' := by
  go_enter Try.func3, Try.ntmps3
  go_wp2_with (first | (go_at_call 4; refine (specBitsOf_any _ _).mono ?_; rintro e w' ⟨rfl, rfl⟩) | (go_at_call 5; refine (implBitsOf_any _ w0 _).mono ?_; rintro e w' ⟨rfl, rfl⟩))
  go_ret
  exact ⟨rfl, Grown.refl _⟩
/-! ### THE ROW's STEP: WRITTEN OUT: LEAVE IT -/
set_option maxRecDepth 100000 in
theorem lifted (os : Os) (started : os.Started) (H : Type) (enc : TypeId × Value → H) :
    ReturnsInHanded {} Try.checked os 3 .any (Rows.fnExactBitsOfSpec.pre6 enc Try.prog Try.f3 Rows.fnExactBitsOfRow.domain false) (Rows.fnExactBitsOfSpec.post enc Try.prog Try.f3 false true false false) := by
  refine returnsInHanded_of_change (C := Try.checked) own started (by kernel_rfl) Try.func3
    (ChangeSpec.witness6 (enc := enc) (C := Try.checked) false ⟨#[], #[.int .i64 0], []⟩ 8 (by kernel_rfl) (by kernel_rfl) (by kernel_rfl) (by kernel_rfl)) ?_
  intro W base args ds gs before hval0 hW hcnd _
  have hval : ∀ (j : Nat) t v, Try.f3.params[j]? = some t → args[j]? = some v → Value.okWide Try.prog W .any base t v := hval0
  have hW' := hW
  obtain ⟨p, q, hA0, hV, rfl, hfz, hnd⟩ := hW
  have hA : DataW.TrodAll enc Try.prog W 0 (fun _ => true) true Try.f3.params.toList args.toList ds p := hA0
  rw [Try.params3] at hA hval
  obtain ⟨v0, vs0, d0, ds0, p0, q0, hargs, rfl, rfl, h0, r0⟩ := trodAll_cons hA
  obtain ⟨rfl, rfl, rfl⟩ := trodAll_nil r0
  obtain rfl : args = #[v0] := by cases args; simp_all
  obtain ⟨rfl, rfl⟩ := trodVars_none hV
  obtain ⟨a0, rfl, rfl, rfl, w0⟩ := open_int Try.underlying2 (hval 0 2 v0 rfl rfl) h0
  clear hA0 hval0
  simp only [List.append_nil] at hW'
  refine (walk a0 w0 W).mono fun e W' ⟨he, hg⟩ => ?_
  subst he
  exact ⟨_, rfl, post_of_same (pa := []) (pv := []) hW' (fun _ _ _ => (trodAll_cons_mk (shut_bool Try.underlying4 _) trodAll_mk0)) (fun sp _ => (trodAll_cons_mk (shut_int Try.underlying2 w0) trodAll_mk0)) (fun _ _ => rfl) rfl
    (hg.frame _) hg.2.1 (ok_one (by kernel_rfl) rfl (okWide_bool_mk Try.underlying4 _))⟩

theorem over : Rows.fnExactBitsOfRow.holds Try.pinned (OpenSpec.ofChange Rows.fnExactBitsOfSpec) :=
  OpenClaim.holds_of_wide 3 Try.f3 rfl rfl rfl rfl rfl rfl rfl ⟨rfl, rfl, rfl, rfl, rfl⟩ rfl rfl rfl rfl rfl (by kernel_rfl) Try.func3 (by kernel_rfl)
    (of_decide_eq_true (by kernel_rfl)) (by unfold Func.isWrapper; first | (rw [if_pos (by decide +kernel)]; kernel_rfl) | (rw [if_neg (by decide +kernel)]; exact ⟨rfl, rfl⟩))
    (fun os started H enc _ => lifted os started H enc)

/-- ████ THE STATEMENT ████ -/
theorem proved : Rows.FnExactBitsOfSaid :=
  over
#print axioms proved
end Go.Proofs.Ytgegeeanjjejpaa.fnExactBitsOf
