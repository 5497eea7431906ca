/-
  Plain laws: sizes of results, for the laws' sums.
-/
import Derived.Test.YtejfpajbkgfiaaaPlain2
namespace Go.Proofs.Ytejfpajbkgfiaaa

theorem bndMem4 {B : Int} {l : List Int} (h : Bnd B l) (hB : B ≤ 1000000000000) : ∀ z ∈ l, -1000000000000 ≤ z ∧ z ≤ 1000000000000 := by
  intro z hz
  obtain ⟨i, hi⟩ := List.getElem?_of_mem hz
  have := h i z hi
  omega
theorem sup_small {n : GNet} {l : List GTr} (h : supCode n l = 0) : ∀ z ∈ supRes n l, -1000000000000 ≤ z ∧ z ≤ 1000000000000 := by
  have h1 := supCode_zero h
  rw [supRes, if_pos h]
  have := (sup_at (trCode_zero h1).2 n.nodes.length l.length).2
  rw [List.take_length] at this
  exact bndMem4 this (by omega)
theorem amt_step {l : List GTr} {k : Nat} {x : GTr} (h : l[k]? = some x) : amtSum (l.take (k + 1)) = amtSum (l.take k) + x.amount := by
  unfold amtSum
  rw [List.take_add_one, h]
  simp
theorem amt_all {l : List GTr} (h : ∀ x ∈ l, 0 ≤ x.amount ∧ x.amount ≤ 30000) : 0 ≤ amtSum l ∧ amtSum l ≤ 30000 * (l.length : Int) := by
  induction l with
  | nil => simp [amtSum]
  | cons x l ih =>
    have h1 := h x (List.mem_cons_self ..)
    have h2 := ih (fun y hy => h y (List.mem_cons_of_mem _ hy))
    simp only [amtSum, List.map_cons, List.sum_cons, List.length_cons] at h2 ⊢
    omega
theorem amt_part {l : List GTr} (h : ∀ x ∈ l, 0 ≤ x.amount ∧ x.amount ≤ 30000) (hl : l.length ≤ 32) (k : Nat) : 0 ≤ amtSum (l.take k) ∧ amtSum (l.take k) ≤ 960000 := by
  have h1 := amt_all (l := l.take k) (fun x hx => h x (List.mem_of_mem_take hx))
  have h2 : (l.take k).length ≤ l.length := by rw [List.length_take]; omega
  omega
theorem trs_amt {nn : Int} {l : List GTr} (h : trsOk nn l = true) : (∀ x ∈ l, 0 ≤ x.amount ∧ x.amount ≤ 30000) ∧ l.length ≤ 32 :=
  ⟨fun x hx => by obtain ⟨_, _, _, p4, _⟩ := trOk_all (trsOk_mem h x hx); exact p4, (trsOk_all h).1⟩
theorem on_amt {n : GNet} {l : List GTr} {q : Int} (h : onCode n l q = 0) : (onRes n l q).length = l.length ∧ ∀ y ∈ onRes n l q, 0 ≤ y.amount ∧ y.amount ≤ 30000 := by
  obtain ⟨h1, _⟩ := onCode_zero h
  rw [onRes, if_pos h]
  exact ⟨by simp [scaled], (trs_amt (scaled_ok (trCode_zero h1).2 (onlyScales_ok q))).1⟩
theorem amounts_small {n : GNet} {l : List GTr} (h : trCode n l = 0) : ∀ z ∈ amounts l, -1000000000000 ≤ z ∧ z ≤ 1000000000000 := by
  intro z hz
  obtain ⟨i, hi⟩ := List.getElem?_of_mem hz
  have h1 := amounts_bnd (trCode_zero h).2 i
  rw [List.getD_eq_getElem?_getD, hi] at h1
  simp only [Option.getD_some] at h1
  omega
theorem sc_get {n : GNet} {l : List GTr} {sc : List Int} (h : scCode n l sc = 0) : (scRes n l sc).length = l.length ∧ ∀ (k : Nat) (x : GTr), l[k]? = some x → ∃ y, (scRes n l sc)[k]? = some y ∧ y.amount ≤ x.amount ∧ 0 ≤ y.amount ∧ y.cls = x.cls := by
  rw [scRes, if_pos h]
  refine ⟨by simp [scaled], fun k x hx => ⟨scaleOne sc x, by rw [scaled, List.getElem?_map, hx]; rfl, ?_, ?_, rfl⟩⟩
  · exact (scaled_law h (List.mem_of_getElem? hx)).1
  · exact (scaled_law h (List.mem_of_getElem? hx)).2
theorem ca_get {n : GNet} {l : List GTr} (h : trCode n l = 0) : (ctRes n l).length = l.length ∧ (caRes n l).length = l.length ∧ ∀ (k : Nat) (x : GTr), l[k]? = some x → ∃ y z, (ctRes n l)[k]? = some y ∧ (caRes n l)[k]? = some z ∧ y.amount + z = x.amount ∧ (0 ≤ z ∧ 0 ≤ x.amount ∧ x.amount ≤ 30000) ∧ (0 < z → fcCode n l = 0 ∧ fcVal n l ≤ x.cls) := by
  rw [ctRes, if_pos h, caRes, if_pos h]
  refine ⟨by simp [scaled], by simp, fun k x hx => ⟨scaleOne (curs n l) x, lostOne n l x, by rw [scaled, List.getElem?_map, hx]; rfl, by rw [List.getElem?_map, hx]; rfl, ?_⟩⟩
  have hm := List.mem_of_getElem? hx
  obtain ⟨a, b, c⟩ := lost_law h hm
  exact ⟨a, ⟨b, tr_amt h hm⟩, c⟩
theorem ca_small {n : GNet} {l : List GTr} (h : trCode n l = 0) : ∀ z ∈ caRes n l, -1000000000000 ≤ z ∧ z ≤ 1000000000000 := by
  intro z hz
  rw [caRes, if_pos h] at hz
  obtain ⟨x, hx, rfl⟩ := List.mem_map.1 hz
  obtain ⟨a, b, _⟩ := lost_law h hx
  have h1 := scaleAmt_le (tr_amt h hx) (curs_ok (trCode_zero h).1 l)
  have h2 := tr_amt h hx
  omega
end Go.Proofs.Ytejfpajbkgfiaaa
