/-
  Allocation: the program.
-/
import Derived.Test.YtihkkemkecifcaaShare2
import Derived.Test.YtihkkemkecifcaaAlloc1
namespace Go.Proofs.Ytihkkemkecifcaa
open Go.ChangeShapes Go.WideShapes Go.ChangeAt Go.RowKit

theorem infoInt' : (Try.prog.info? 3).map (fun i => (i.zero, i.size, i.bytes)) = some (some (.int .i64 0), 1, 8) := by kernel_rfl
def natI (l : List Nat) : List Int := l.map fun (i : Nat) => (i : Int)
def mtB (x : GOrd) (y : GRd) : Bool := decide (0 < wt y.node (sgn y.amount) x)
theorem mt_node {x : GOrd} {y : GRd} (h : (x.node == y.node) = false) : mtB x y = false := by
  have : x.node ≠ y.node := by simpa using h
  simp [mtB, wt, this]
theorem mt_val {x : GOrd} {y : GRd} (h : (x.node == y.node) = true) (hy : y.amount ≠ 0) : mtB x y = ((decide (0 < x.amount) && decide (0 < y.amount)) || (decide (x.amount < 0) && decide (y.amount < 0))) := by
  have : x.node = y.node := by simpa using h
  rw [mtB, wt, if_pos this]
  unfold sgn
  by_cases h1 : y.amount < 0
  · rw [if_pos h1]
    have h2 : decide (0 < y.amount) = false := by simp; omega
    rw [h2]
    simp [h1]; omega
  · rw [if_neg h1]
    have h2 : decide (0 < y.amount) = true := by simp; omega
    rw [h2]
    simp [h1]; omega
theorem matches_any (x : GOrd) (y : GRd) (w : World) (hy : y.amount ≠ 0) :
    Calls Try.prog 41 #[.agg #[.int .i64 x.shipper, .int .i64 x.node, .int .i64 x.amount, .int .i64 x.cls], .agg #[.int .i64 y.node, .int .i64 y.amount]] w fun e w' => e = .returned (.bool (mtB x y)) ∧ Gr w w' := by
  have hg : Gr w ((w.alloc (.cells #[.int .i64 x.shipper, .int .i64 x.node, .int .i64 x.amount, .int .i64 x.cls] 60)).alloc (.cells #[.int .i64 y.node, .int .i64 y.amount] 64)) := ((Gr.refl _).alloc _).alloc _
  cases hc : (x.node == y.node) with
  | false =>
    have e := mt_node hc
    go_enter Try.func41, Try.ntmps41
    go_wp2_with fail
    go_ret
    exact ⟨ret_bool e.symm, hg⟩
  | true =>
    have e := mt_val hc hy
    have E := Lib.hid e
    clear e
    cases h1 : decide (0 < x.amount) <;> cases h2 : decide (0 < y.amount) <;> cases h3 : decide (x.amount < 0) <;> cases h4 : decide (y.amount < 0)
    all_goals
      have H := Lib.hid (show mtB x y = _ by rw [E.out, h1, h2, h3, h4])
      go_enter Try.func41, Try.ntmps41
      go_wp2_with fail
      go_ret
      exact ⟨ret_bool H.out.symm, hg⟩
/-- Two slice values do not share a block. -/
def Dj (p q : Value) : Prop := ∀ j, p.ownBlock = some j → q.ownBlock = some j → False
theorem Dj.symm {p q : Value} (h : Dj p q) : Dj q p := fun j a b => h j b a
theorem Dj.keep {p q : Value} (h : Dj p q) : q.ownBlock = none ∨ q.ownBlock ≠ p.ownBlock := by
  cases e : q.ownBlock with
  | none => exact Or.inl rfl
  | some j => exact Or.inr fun e' => h j e'.symm e
theorem Dj.next {p q : Value} {g H n c : Nat} (h : Dj p q) (hat : p.ownBlock = some g ∨ g = H) (hq : ∀ j, q.ownBlock = some j → j < H) : Dj (.slice (some ⟨g, 0, none⟩) n c) q := by
  intro j hj hk
  have : g = j := Option.some.inj hj
  subst this
  rcases hat with e | e
  · exact h _ e hk
  · have := hq _ hk; omega
theorem dj_nil (q : Value) : Dj (.slice none 0 0) q := fun j h => by cases h
theorem natI_snoc (l : List Nat) (x : Nat) : natI (l ++ [x]) = natI l ++ [(x : Int)] := by simp [natI]
theorem cmpTo_hit {ws : List Int} {k : Nat} (h : 0 < ws.getD k 0) : (posTo ws (k + 1)).map (fun i => ws.getD i 0) = (posTo ws k).map (fun i => ws.getD i 0) ++ [ws.getD k 0] := by
  rw [posTo_hit h]; simp
theorem cmp_bnd {ws : List Int} (hw : ∀ z ∈ ws, 0 ≤ z ∧ z ≤ 30000) : ∀ z ∈ cmp ws ws, 0 ≤ z ∧ z ≤ 30000 := by
  intro z hz
  rw [cmp, List.mem_map] at hz
  obtain ⟨i, hi, rfl⟩ := hz
  have := (mem_pos.1 hi).1
  exact hw _ (by simp [this])
theorem cmp_sum_self {ws : List Int} (hw : ∀ z ∈ ws, 0 ≤ z ∧ z ≤ 30000) : (cmp ws ws).sum = ws.sum := by
  refine cmp_sum rfl fun i hi h => ?_
  have := hw (ws.getD i 0) (by simp [hi])
  omega
theorem wt_abs {x : GOrd} {y : GRd} (h : mtB x y = true) : wt y.node (sgn y.amount) x = sgn x.amount * x.amount := by
  rw [mtB, decide_eq_true_eq] at h
  obtain ⟨h1, h2⟩ := wt_pos h
  rw [wt, if_pos h1]
  have : sgn x.amount = sgn y.amount := by
    unfold sgn at h2 ⊢
    split at h2 <;> split <;> first | rfl | omega
  rw [this]; omega
end Go.Proofs.Ytihkkemkecifcaa
