import Derived.Test.YthhmhigddmimjaaGreatOrd
import Derived.Test.YthhmhigddmimjaaGreatSwitches
import Derived.Test.YthhmhigddmimjaaGreatPlainA
/-
  The number of bits 1, of both sides.
-/
set_option linter.unusedVariables false
namespace Go.Proofs.YthhmhigddmimjaaGreat
open Go.ChangeShapes Go.WideShapes Go.ChangeAt Go.RowKit

def pop5 (m : Nat) : Nat := m % 2 + m / 2 % 2 + m / 4 % 2 + m / 8 % 2 + m / 16 % 2
theorem ones_any (m : Nat) (h : m < 32) (w : World) : Calls Tryz.prog 70 #[.int .u64 m] w fun e w' => e = .returned (.int .i64 (pop5 m)) ∧ w = w' := by
  go_enter Tryz.func70, Tryz.ntmps70
  go_wp2
  go_ret
  refine ⟨ret_int ?_, rfl⟩
  clear w
  revert m
  decide +kernel
def popN : Nat → Nat → Nat
  | 0, _ => 0
  | k + 1, m => m % 2 + popN k (m / 2)
theorem popN_zero (k : Nat) : popN k 0 = 0 := by
  induction k with
  | zero => rfl
  | succ k ih => simp [popN, ih]
def BInv (m j o : Nat) : Prop := ∃ k : Nat, j < 2 ^ k ∧ k ≤ 5 ∧ o + k ≤ 5 ∧ o + popN k j = popN 5 m
theorem BInv.step {m j o : Nat} (h : BInv m j o) (hj : 0 < j) : BInv m (j / 2) (o + j % 2) := by
  obtain ⟨k, h1, h2, h3, h4⟩ := h
  rcases k with _ | k
  · simp at h1; omega
  · refine ⟨k, ?_, by omega, by omega, ?_⟩
    · rw [Nat.pow_succ] at h1; omega
    · rw [popN] at h4; omega
theorem bits_any (m : Nat) (h : m < 32) (w : World) : Calls Tryz.prog 61 #[.int .i64 m] w fun e w' => e = .returned (.int .i64 (pop5 m)) ∧ w = w' := by
  have hp : pop5 m = popN 5 m := by simp [pop5, popN]; omega
  have Hp := Lib.hid hp
  clear hp
  go_enter Tryz.func61, Tryz.ntmps61
  go_wp2
  go_loop [0, 3] (fun a b => ∃ j o : Nat, BInv m j o ∧ j < 32 ∧ o ≤ 5 ∧ a = .int .i64 j ∧ b = .int .i64 o) (fun a _ => (intOf a).toNat)
  case atStart => exact ⟨m, 0, ⟨5, by omega, by omega, by omega, by omega⟩, by omega, by omega, rfl, rfl⟩
  case round =>
    obtain ⟨j, o, hi, hj, ho, rfl, rfl⟩ := hrel
    by_cases hz : 0 < j
    · go_wp2
      have hs := hi.step hz
      go_round
      case rel => exact ⟨j / 2, o + j % 2, hs, by omega, by obtain ⟨k, _, _, _, _⟩ := hs; omega, by go_num, by go_num⟩
      case measure => simp [intOf]; omega
    · obtain rfl : j = 0 := by omega
      obtain ⟨k, h1, h2, h3, h4⟩ := hi
      have H4 := Lib.hid h4
      clear h4
      go_wp2
      go_ret
      refine ⟨ret_int ?_, rfl⟩
      have h4 := H4.out
      rw [popN_zero] at h4
      rw [Hp.out, ← h4]
      rfl
def bitsOf (m : Int) : Int := if inB 0 m 31 then pop5 m.toNat else -1
theorem BitsOf_any (m : Int) (w0 : (Lit.int .i64 m).wf = true) (w : World) : Calls Tryz.prog 31 #[.int .i64 m] w fun e w' => e = .returned (.int .i64 (bitsOf m)) ∧ w = w' := by
  by_cases h : 0 ≤ m ∧ m ≤ 31
  · obtain ⟨m, rfl⟩ := Int.eq_ofNat_of_zero_le h.1
    have hb : bitsOf m = pop5 m := by simp [bitsOf, inB]; omega
    rw [hb]
    clear hb
    have hin : inB 0 m 31 = true := by simp [inB]; omega
    obtain ⟨_, h⟩ := h
    go_enter Tryz.func31, Tryz.ntmps31
    go_wp2_with (first | (go_at_call 69; refine (within_any _ _ _ _).mono ?_; rintro e w' ⟨rfl, rfl⟩) | (go_at_call 70; refine (ones_any _ (by omega) _).mono ?_; rintro e w' ⟨rfl, rfl⟩))
    go_ret
    exact ⟨ret_int (by simp), rfl⟩
  · have hb : bitsOf m = -1 := by simp [bitsOf, inB]; omega
    rw [hb]
    clear hb
    have hin : inB 0 m 31 = false := by simp [inB]; omega
    clear h
    go_enter Tryz.func31, Tryz.ntmps31
    go_wp2_with (go_at_call 69; refine (within_any _ _ _ _).mono ?_; rintro e w' ⟨rfl, rfl⟩)
    go_ret
    exact ⟨rfl, rfl⟩
end Go.Proofs.YthhmhigddmimjaaGreat
/-
  Plain: switching twice; how many pipes are switched. No program here.
-/
namespace Go.Proofs.YthhmhigddmimjaaGreat

/-- The switches up to k touch a pipe. -/
def hitB (m : Int) (ss : List Int) (k p : Nat) : Bool := (List.range k).any fun j => !offBit m j && decide ((ss.getD j 0).toNat = p)
theorem hit_succ (m : Int) (ss : List Int) (k p : Nat) : hitB m ss (k + 1) p = (hitB m ss k p || (!offBit m k && decide ((ss.getD k 0).toNat = p))) := by
  rw [hitB, List.range_succ, List.any_append]; simp [hitB]
theorem inc_lt {hi : Int} {ss : List Int} (h : setOk hi ss = true) {k : Nat} (hk : k < ss.length) : ∀ j, j < k → (ss.getD j 0).toNat < (ss.getD k 0).toNat ∧ 0 ≤ ss.getD j 0 := by
  rw [setOk, all_range] at h
  induction k with
  | zero => intro j hj; omega
  | succ k ih =>
    intro j hj
    have h1 := h k (by omega)
    have h2 := h (k + 1) hk
    simp only [setAt, Bool.and_eq_true, inB_iff, incAt, Bool.or_eq_true, decide_eq_true_eq] at h1 h2
    obtain ⟨⟨a, _⟩, _⟩ := h1
    obtain ⟨_, c⟩ := h2
    rw [Nat.add_sub_cancel] at c
    have c : ss.getD k 0 < ss.getD (k + 1) 0 := by
      rcases c with c | c
      · omega
      · exact c
    rcases Nat.lt_or_ge j k with e | e
    · have := ih (by omega) j e; omega
    · have : j = k := by omega
      subst this; omega
theorem hit_no {hi m : Int} {ss : List Int} (h : setOk hi ss = true) {k : Nat} (hk : k < ss.length) : hitB m ss k (ss.getD k 0).toNat = false := by
  rw [hitB, List.any_eq_false]
  intro j hj
  have := (inc_lt h hk j (List.mem_range.1 hj)).1
  rw [decide_eq_false (by omega)]
  simp
def flip (z : Int) : Int := if (z == 0) = true then 1 else 0
theorem sw_get {hi m : Int} {zs ss : List Int} (h : setOk hi ss = true) (hhi : hi < zs.length) (k : Nat) (hk : k ≤ ss.length) (p : Nat) : (swTo m zs ss k).getD p 0 = if hitB m ss k p = true then flip (zs.getD p 0) else zs.getD p 0 := by
  induction k generalizing p with
  | zero => rfl
  | succ k ih =>
    have ih := ih (by omega)
    rw [hit_succ]
    have hin := setOk_at h k (ss.getD k 0) (by rw [List.getD_eq_getElem?_getD, List.getElem?_eq_getElem (by omega)]; rfl)
    cases ho : offBit m k with
    | true => rw [swTo_off ho, ih p]; simp
    | false =>
      rw [swTo, swStep, if_neg (by rw [ho]; decide), Bool.not_false, Bool.true_and]
      have hcur := ih (ss.getD k 0).toNat
      rw [hit_no h (by omega), if_neg (by decide)] at hcur
      rw [hcur]
      by_cases e : (ss.getD k 0).toNat = p
      · rw [decide_eq_true e, Bool.or_true, if_pos rfl, ← e, getD_set_self (by rw [swTo_len]; omega)]; rfl
      · rw [decide_eq_false e, Bool.or_false, getD_set_ne e, ih p]
theorem flip_in (z : Int) : flip z = 0 ∨ flip z = 1 := by unfold flip; split <;> simp
theorem flip_ne {z : Int} : flip z ≠ z := by unfold flip; split <;> rename_i h <;> simp at h <;> omega
theorem flip_two {z : Int} (h : 0 ≤ z ∧ z ≤ 2) (h2 : z ≠ 2) : flip (flip z) = z := by
  have : z = 0 ∨ z = 1 := by omega
  rcases this with e | e <;> subst e <;> rfl
/-- How many pipes are set otherwise. -/
def scTo (a b : List Int) (k : Nat) : Int := sm k fun i => if a.getD i 0 = b.getD i 0 then 0 else 1
theorem scTo_succ (a b : List Int) (k : Nat) : scTo a b (k + 1) = scTo a b k + if a.getD k 0 = b.getD k 0 then 0 else 1 := sm_succ _ _
theorem scTo_bnd (a b : List Int) (k : Nat) : 0 ≤ scTo a b k ∧ scTo a b k ≤ k := by
  induction k with
  | zero => exact ⟨Int.le_refl _, Int.le_refl _⟩
  | succ k ih => rw [scTo_succ]; split <;> omega
def onTo (m : Int) (k : Nat) : Int := sm k fun j => if offBit m j = true then 0 else 1
theorem sc_on {hi m : Int} {zs ss : List Int} (h : setOk hi ss = true) (hhi : hi < zs.length) (k : Nat) (hk : k ≤ ss.length) : scTo zs (swTo m zs ss k) zs.length = onTo m k := by
  induction k with
  | zero =>
    rw [show onTo m 0 = 0 from rfl, ← sm_nil zs.length]
    exact sm_congr fun i _ => by rw [show swTo m zs ss 0 = zs from rfl, if_pos rfl]
  | succ k ih =>
    have ih := ih (by omega)
    have hin := setOk_at h k (ss.getD k 0) (by rw [List.getD_eq_getElem?_getD, List.getElem?_eq_getElem (by omega)]; rfl)
    rw [show onTo m (k + 1) = onTo m k + (if offBit m k = true then 0 else 1) from sm_succ _ _, ← ih]
    cases ho : offBit m k with
    | true => rw [swTo_off ho, if_pos rfl, Int.add_zero]
    | false =>
      rw [if_neg (by decide)]
      have hcur := sw_get (m := m) h hhi k (by omega) (ss.getD k 0).toNat
      rw [hit_no h (by omega), if_neg (by decide)] at hcur
      have hp : (ss.getD k 0).toNat < zs.length := by omega
      have hset : swTo m zs ss (k + 1) = (swTo m zs ss k).set (ss.getD k 0).toNat (flip (zs.getD (ss.getD k 0).toNat 0)) := by
        rw [swTo, swStep, if_neg (by rw [ho]; decide), hcur]; rfl
      unfold scTo sm
      rw [sum_map_set (p := (ss.getD k 0).toNat) (fun i => if zs.getD i 0 = (swTo m zs ss k).getD i 0 then (0 : Int) else 1) _ hp (fun q hq => by simp only [hset, getD_set_ne (fun e => hq e.symm)])]
      simp only [hset, getD_set_self (show (ss.getD k 0).toNat < (swTo m zs ss k).length by rw [swTo_len]; exact hp), hcur]
      rw [if_neg (fun e => flip_ne e.symm)]
      simp
theorem on_pop : ∀ m : Nat, m < 32 → ∀ L : Nat, L < 6 → m < 2 ^ L → onTo (m : Int) L = pop5 m := by decide +kernel
theorem switched_law {n : GNet} {zs ss : List Int} {m : Int} (h : spwCode n zs ss m = 0) :
    spwCode n (spwRes n zs ss m) ss m = 0 ∧ (spwRes n (spwRes n zs ss m) ss m).length = zs.length ∧ stCode n zs = 0 ∧ stOk n.pipes.length (spwRes n zs ss m) = true ∧ zs.length = n.pipes.length ∧ inB 0 m 31 = true ∧ scTo zs (spwRes n zs ss m) n.pipes.length = bitsOf m ∧
    ∀ i z, zs[i]? = some z → (spwRes n (spwRes n zs ss m) ss m).getD i 0 = z ∨ z = 2 := by
  have hsw : swCode n zs ss = 0 := by
    unfold spwCode at h
    by_cases e : swCode n zs ss = 0
    · exact e
    · rw [if_neg e] at h; exact h
  have hin : inB 0 m (2 ^ ss.length - 1) = true := by
    unfold spwCode at h
    rw [if_pos hsw] at h
    cases e : inB 0 m (2 ^ ss.length - 1) with
    | true => rfl
    | false => rw [e] at h; exact absurd h (by decide)
  obtain ⟨hn, hst, h5, hset⟩ := swCode_zero hsw
  have hlen : zs.length = n.pipes.length := by
    rw [stOk, Bool.and_eq_true, decide_eq_true_eq] at hst; omega
  have hval : ∀ z ∈ zs, 0 ≤ z ∧ z ≤ 2 := by
    rw [stOk, Bool.and_eq_true, List.all_eq_true] at hst
    exact fun z hz => inB_iff.1 (hst.2 z hz)
  have hhi : ((n.pipes.length : Int) - 1) < zs.length := by omega
  have hres : spwRes n zs ss m = swTo m zs ss ss.length := by rw [spwRes, if_pos h]
  have hxl : (swTo m zs ss ss.length).length = zs.length := swTo_len _ _ _ _
  have hget := sw_get (m := m) hset hhi ss.length (Nat.le_refl _)
  have hx2 : stOk n.pipes.length (swTo m zs ss ss.length) = true := by
    rw [stOk, Bool.and_eq_true, List.all_eq_true]
    refine ⟨decide_eq_true (by rw [hxl, hlen]), fun z hz => ?_⟩
    obtain ⟨i, hi⟩ := List.getElem?_of_mem hz
    have e := hget i
    rw [List.getD_eq_getElem?_getD, hi, Option.getD_some] at e
    have hiz : zs.getD i 0 ∈ zs := by
      have := (List.getElem?_eq_some_iff.1 hi).1
      rw [List.getD_eq_getElem?_getD, List.getElem?_eq_getElem (by omega)]; exact List.getElem_mem _
    have := hval _ hiz
    rw [e]
    apply inB_true
    split
    · rcases flip_in (zs.getD i 0) with e | e <;> omega
    · exact this
  have hsw2 : swCode n (swTo m zs ss ss.length) ss = 0 := by
    rw [swCode, if_pos hn, hx2, decide_eq_true h5, hset]; rfl
  have hcode2 : spwCode n (swTo m zs ss ss.length) ss m = 0 := by rw [spwCode, if_pos hsw2, hin]; rfl
  have hpb := pow_bnd h5 hin
  have hres2 : spwRes n (swTo m zs ss ss.length) ss m = swTo m (swTo m zs ss ss.length) ss ss.length := by rw [spwRes, if_pos hcode2]
  rw [hres]
  refine ⟨hcode2, ?_, ?_, hx2, hlen, inB_true hpb, ?_, fun i z hz => ?_⟩
  · rw [hres2, swTo_len, hxl]
  · rw [stCode, if_pos hn, if_pos hst]
  · rw [← hlen, sc_on hset hhi ss.length (Nat.le_refl _), bitsOf, if_pos (inB_true hpb)]
    obtain ⟨k, rfl⟩ := Int.eq_ofNat_of_zero_le hpb.1
    have hb := (inB_iff.1 hin).2
    have hk : k < 2 ^ ss.length := by
      have : ((2 : Int) ^ ss.length) = ((2 ^ ss.length : Nat) : Int) := by simp
      omega
    exact on_pop k (by omega) ss.length (by omega) hk
  · rw [hres2, sw_get (m := m) hset (by rw [hxl]; exact hhi) ss.length (Nat.le_refl _) i, hget i]
    have hzi : zs.getD i 0 = z := by rw [List.getD_eq_getElem?_getD, hz]; rfl
    rw [hzi]
    have hv := hval z (List.mem_of_getElem? hz)
    split
    · by_cases e : z = 2
      · exact Or.inr e
      · exact Or.inl (flip_two hv e)
    · exact Or.inl rfl
end Go.Proofs.YthhmhigddmimjaaGreat
