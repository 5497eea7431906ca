import Derived.Test.YtkfelnfgiijmkaaSups
import Derived.Test.YtkfelnfgiijmkaaOrd
import Derived.Test.YtkfelnfgiijmkaaText
import Derived.Deep.RegionHeld3
import Derived.Test.YtkfelnfgiijmkaaIndex
import Derived.Test.YtkfelnfgiijmkaaNetOk
/-
  Plain functions: books of contracts, nominations, the transports of nominations. No program here.
-/
namespace Go.Proofs.Ytkfelnfgiijmkaa

def conOk (nn : Int) (x : GCon) : Bool := inB 0 x.shipper 15 && inB 0 x.entry (nn - 1) && inB 0 x.exit (nn - 1) && !(x.entry == x.exit) && inB 1 x.amount 30000 && inB 0 x.cls 3 && decide (0 ≤ x.src) && decide (x.src ≤ x.dst) && decide (x.dst < 48) && inB 0 x.price 1000000
def bookOk (nn : Int) (l : List GCon) : Bool := decide (l.length ≤ 32) && l.all (conOk nn)
def coCode (n : GNet) (l : List GCon) : Int := if netOk n then (if bookOk n.nodes.length l then 0 else 3) else 1
theorem conOk_all {nn : Int} {x : GCon} (h : conOk nn x = true) : (0 ≤ x.shipper ∧ x.shipper ≤ 15) ∧ (0 ≤ x.entry ∧ x.entry ≤ nn - 1) ∧ (0 ≤ x.exit ∧ x.exit ≤ nn - 1) ∧ x.entry ≠ x.exit ∧ (1 ≤ x.amount ∧ x.amount ≤ 30000) ∧ (0 ≤ x.cls ∧ x.cls ≤ 3) ∧ 0 ≤ x.src ∧ x.src ≤ x.dst ∧ x.dst < 48 ∧ (0 ≤ x.price ∧ x.price ≤ 1000000) := by
  unfold conOk at h
  simp only [Bool.and_eq_true, inB_iff, Bool.not_eq_true', beq_eq_false_iff_ne, ne_eq, decide_eq_true_eq] at h
  obtain ⟨⟨⟨⟨⟨⟨⟨⟨⟨a, b⟩, c⟩, d⟩, e⟩, f⟩, g⟩, i⟩, j⟩, k⟩ := h
  exact ⟨a, b, c, d, e, f, g, i, j, k⟩
theorem bookOk_long {nn : Int} {l : List GCon} (h : 32 < l.length) : bookOk nn l = false := by simp [bookOk]; omega
theorem bookOk_bad {nn : Int} {l : List GCon} {k : Nat} {x : GCon} (hx : l[k]? = some x) (hp : conOk nn x = false) : bookOk nn l = false := by simp [bookOk, all_not hx hp]
theorem bookOk_good {nn : Int} {l : List GCon} (hl : l.length ≤ 32) (h : ∀ m, m < l.length → ∀ y, l[m]? = some y → conOk nn y = true) : bookOk nn l = true := by simp [bookOk, hl, all_of h]
theorem bookOk_all {nn : Int} {l : List GCon} (h : bookOk nn l = true) : l.length ≤ 32 ∧ ∀ (m : Nat) (y : GCon), l[m]? = some y → conOk nn y = true := by
  simp only [bookOk, Bool.and_eq_true, decide_eq_true_eq, List.all_eq_true] at h
  exact ⟨h.1, fun m y hy => h.2 y (List.mem_of_getElem? hy)⟩
theorem coCode_zero {n : GNet} {l : List GCon} (h : coCode n l = 0) : netOk n = true ∧ bookOk n.nodes.length l = true := by
  unfold coCode at h
  cases h1 : netOk n <;> cases h2 : bookOk n.nodes.length l <;> simp [h1, h2] at h ⊢
def GCon.d0 : GCon := ⟨0, 0, 0, 0, 0, 0, 0, 0⟩
def GNom.d0 : GNom := ⟨0, 0, 0, 0⟩
/-- The contract of a nomination. -/
def conAt (b : List GCon) (k : Int) : GCon := b.getD k.toNat GCon.d0
def nomOk (b : List GCon) (x : GNom) : Bool := inB 0 x.contract ((b.length : Int) - 1) && inB (conAt b x.contract).src x.hour (conAt b x.contract).dst && inB (-48) x.sent (x.hour - 2) && inB 0 x.amount (conAt b x.contract).amount
theorem nomOk_all {b : List GCon} {x : GNom} (h : nomOk b x = true) : (0 ≤ x.contract ∧ x.contract ≤ (b.length : Int) - 1) ∧ ((conAt b x.contract).src ≤ x.hour ∧ x.hour ≤ (conAt b x.contract).dst) ∧ (-48 ≤ x.sent ∧ x.sent ≤ x.hour - 2) ∧ (0 ≤ x.amount ∧ x.amount ≤ (conAt b x.contract).amount) := by
  unfold nomOk at h
  simp only [Bool.and_eq_true, inB_iff] at h
  obtain ⟨⟨⟨a, b⟩, c⟩, d⟩ := h
  exact ⟨a, b, c, d⟩
def nomAt (b : List GCon) (l : List GNom) (i : Nat) : Bool := nomOk b (l.getD i GNom.d0) && (decide (i = 0) || decide ((l.getD (i - 1) GNom.d0).sent ≤ (l.getD i GNom.d0).sent))
def nomsOk (b : List GCon) (l : List GNom) : Bool := decide (l.length ≤ 200) && (List.range l.length).all (nomAt b l)
def nmCode (n : GNet) (b : List GCon) (l : List GNom) : Int := if coCode n b = 0 then (if nomsOk b l then 0 else 5) else coCode n b
theorem nmCode_zero {n : GNet} {b : List GCon} {l : List GNom} (h : nmCode n b l = 0) : coCode n b = 0 ∧ nomsOk b l = true := by
  rw [nmCode] at h
  split at h
  · split at h
    · exact ⟨by assumption, by assumption⟩
    · exact absurd h (by decide)
  · exact absurd h (by assumption)
theorem nomsOk_all {b : List GCon} {l : List GNom} (h : nomsOk b l = true) : l.length ≤ 200 ∧ ∀ (k : Nat) (x : GNom), l[k]? = some x → nomOk b x = true := by
  rw [nomsOk, Bool.and_eq_true] at h
  refine ⟨of_decide_eq_true h.1, fun k x hx => ?_⟩
  have := List.all_eq_true.1 h.2 k (List.mem_range.2 (List.getElem?_eq_some_iff.1 hx).1)
  rw [nomAt, Bool.and_eq_true] at this
  have e : l.getD k GNom.d0 = x := by rw [List.getD_eq_getElem?_getD, hx]; rfl
  rw [e] at this
  exact this.1
theorem nomsOk_long {b : List GCon} {l : List GNom} (h : 200 < l.length) : nomsOk b l = false := by simp [nomsOk]; omega
theorem nomsOk_bad {b : List GCon} {l : List GNom} {k : Nat} (hk : k < l.length) (hp : nomAt b l k = false) : nomsOk b l = false := by
  rw [nomsOk, Bool.and_eq_false_iff]
  right
  rw [List.all_eq_false]
  exact ⟨k, List.mem_range.2 hk, by simp [hp]⟩
theorem nomsOk_good {b : List GCon} {l : List GNom} (hl : l.length ≤ 200) (h : ∀ k, k < l.length → nomAt b l k = true) : nomsOk b l = true := by
  rw [nomsOk, Bool.and_eq_true]
  exact ⟨decide_eq_true hl, List.all_eq_true.2 fun k hk => h k (List.mem_range.1 hk)⟩
def amCode (n : GNet) (b : List GCon) (l : List GNom) (h : Int) : Int := if nmCode n b l = 0 then (if inB 0 h 47 then 0 else 2) else nmCode n b l
theorem amCode_zero {n : GNet} {b : List GCon} {l : List GNom} {h : Int} (hc : amCode n b l h = 0) : nmCode n b l = 0 ∧ inB 0 h 47 = true := by
  rw [amCode] at hc
  split at hc
  · split at hc
    · exact ⟨by assumption, by assumption⟩
    · exact absurd hc (by decide)
  · exact absurd hc (by assumption)
/-- The amounts of the first nominations of a list. -/
def amStep (h : Int) (a : List Int) (x : GNom) : List Int := if x.hour = h then a.set x.contract.toNat x.amount else a
def amTo (b : List GCon) (l : List GNom) (h : Int) (k : Nat) : List Int := (l.take k).foldl (amStep h) (List.replicate b.length 0)
theorem amTo_zero (b : List GCon) (l : List GNom) (h : Int) : amTo b l h 0 = List.replicate b.length 0 := by simp [amTo]
theorem amTo_step {b : List GCon} {l : List GNom} {h : Int} {k : Nat} {x : GNom} (hx : l[k]? = some x) : amTo b l h (k + 1) = amStep h (amTo b l h k) x := by
  unfold amTo
  rw [List.take_add_one, hx]
  simp
theorem amTo_len (b : List GCon) (l : List GNom) (h : Int) (k : Nat) : (amTo b l h k).length = b.length := by
  unfold amTo
  have : ∀ (m : List GNom) (a : List Int), (m.foldl (amStep h) a).length = a.length := by
    intro m
    induction m with
    | nil => intro a; rfl
    | cons x m ih =>
      intro a
      rw [List.foldl_cons, ih, amStep]
      split <;> simp
  rw [this]; simp
def amL (b : List GCon) (l : List GNom) (h : Int) : List Int := amTo b l h l.length
theorem amTo_bnd {b : List GCon} {l : List GNom} {h nn : Int} (hb : bookOk nn b = true) (hl : nomsOk b l = true) (k : Nat) : ∀ z ∈ amTo b l h k, 0 ≤ z ∧ z ≤ 30000 := by
  induction k with
  | zero =>
    intro z hz
    rw [amTo_zero] at hz
    rw [(List.mem_replicate.1 hz).2]; omega
  | succ k ih =>
    intro z hz
    by_cases hk : k < l.length
    · have hx : l[k]? = some l[k] := List.getElem?_eq_getElem hk
      rw [amTo_step hx, amStep] at hz
      split at hz
      · rcases List.mem_or_eq_of_mem_set hz with e | e
        · exact ih z e
        · obtain ⟨a1, _, _, a2⟩ := nomOk_all ((nomsOk_all hl).2 k _ hx)
          have hc : b[(l[k].contract).toNat]? = some (conAt b l[k].contract) := by
            rw [conAt, List.getD_eq_getElem?_getD, List.getElem?_eq_getElem (show (l[k].contract).toNat < b.length by omega)]; rfl
          obtain ⟨_, _, _, _, a3, _⟩ := conOk_all ((bookOk_all hb).2 _ _ hc)
          omega
      · exact ih z hz
    · have e : amTo b l h (k + 1) = amTo b l h k := by
        unfold amTo
        rw [List.take_of_length_le (by omega), List.take_of_length_le (by omega)]
      rw [e] at hz
      exact ih z hz
/-- The transports of nominations. -/
def fnAt (b : List GCon) (a : List Int) (i : Nat) : GTr := ⟨(b.getD i GCon.d0).entry, (b.getD i GCon.d0).exit, a.getD i 0, (b.getD i GCon.d0).cls⟩
def fnTo (b : List GCon) (a : List Int) (k : Nat) : List GTr := (List.range k).map (fnAt b a)
theorem fnTo_succ (b : List GCon) (a : List Int) (k : Nat) : fnTo b a (k + 1) = fnTo b a k ++ [fnAt b a k] := by
  simp [fnTo, List.range_succ]
theorem fnTo_len (b : List GCon) (a : List Int) (k : Nat) : (fnTo b a k).length = k := by simp [fnTo]
theorem fnTo_get {b : List GCon} {a : List Int} {k i : Nat} (h : i < k) : (fnTo b a k)[i]? = some (fnAt b a i) := by
  rw [fnTo, List.getElem?_map, List.getElem?_range h]; rfl
def fnRes (n : GNet) (b : List GCon) (l : List GNom) (h : Int) : List GTr := if amCode n b l h = 0 then fnTo b (amL b l h) b.length else []
theorem fn_bad {n : GNet} {b : List GCon} {l : List GNom} {h : Int} (hc : amCode n b l h ≠ 0) : fnRes n b l h = [] := by rw [fnRes, if_neg hc]
theorem fn_good {n : GNet} {b : List GCon} {l : List GNom} {h : Int} (hc : amCode n b l h = 0) : fnRes n b l h = fnTo b (amL b l h) b.length := by rw [fnRes, if_pos hc]
theorem fn_ok {n : GNet} {b : List GCon} {l : List GNom} {h : Int} (hc : amCode n b l h = 0) : trCode n (fnRes n b l h) = 0 ∧ (fnRes n b l h).length = b.length := by
  obtain ⟨h1, _⟩ := amCode_zero hc
  obtain ⟨h2, h3⟩ := nmCode_zero h1
  obtain ⟨h4, h5⟩ := coCode_zero h2
  obtain ⟨h6, h7⟩ := bookOk_all h5
  rw [fn_good hc]
  have hl : (fnTo b (amL b l h) b.length).length = b.length := fnTo_len _ _ _
  refine ⟨trCode_ok h4 (trsOk_good (by omega) fun m hm y hy => ?_), hl⟩
  rw [hl] at hm
  rw [fnTo_get hm] at hy
  injection hy with hy
  subst hy
  have hx : b[m]? = some b[m] := List.getElem?_eq_getElem hm
  obtain ⟨a1, a2, a3, a4, a5, a6, _⟩ := conOk_all (h7 m _ hx)
  have e : b.getD m GCon.d0 = b[m] := by rw [List.getD_eq_getElem?_getD, hx]; rfl
  have hz : 0 ≤ (amL b l h).getD m 0 ∧ (amL b l h).getD m 0 ≤ 30000 := by
    have hml : m < (amL b l h).length := by rw [amL, amTo_len]; exact hm
    rw [List.getD_eq_getElem?_getD, List.getElem?_eq_getElem hml]
    exact amTo_bnd h5 h3 l.length _ (List.getElem_mem hml)
  unfold trOk fnAt
  rw [e]
  simp only [Bool.and_eq_true, inB_iff, Bool.not_eq_true', beq_eq_false_iff_ne, ne_eq]
  exact ⟨⟨⟨⟨a2, a3⟩, a4⟩, hz⟩, a6⟩
/-- The codes of the supplies of nominations. -/
def nsCode (n : GNet) (b : List GCon) (l : List GNom) (h : Int) : Int := if amCode n b l h = 0 then (if supOk n.nodes.length (supplies n.nodes.length (fnRes n b l h)) then 0 else 7) else amCode n b l h
def nsRes (n : GNet) (b : List GCon) (l : List GNom) (h : Int) : List Int := if nsCode n b l h = 0 then supplies n.nodes.length (fnRes n b l h) else []
theorem nom_law {n : GNet} {b : List GCon} {l : List GNom} {h : Int} (hc : amCode n b l h = 0) : supCode n (fnRes n b l h) = nsCode n b l h ∧ supRes n (fnRes n b l h) = nsRes n b l h ∧ (fnRes n b l h).length = b.length := by
  obtain ⟨h1, h2⟩ := fn_ok hc
  have e : supCode n (fnRes n b l h) = nsCode n b l h := by rw [supCode, if_pos h1, nsCode, if_pos hc]
  exact ⟨e, by rw [supRes, e, nsRes], h2⟩
end Go.Proofs.Ytkfelnfgiijmkaa
/-
  Contracts of both sides. Printed by gen_nom.py.
-/
set_option linter.unusedSimpArgs false
set_option linter.unusedVariables false
namespace Go.Proofs.Ytkfelnfgiijmkaa
open Go.ChangeShapes Go.WideShapes Go.ChangeAt Go.RowKit

end Go.Proofs.Ytkfelnfgiijmkaa
/-
  Books of both sides. Printed by gen_nom.py.
-/
set_option linter.unusedSimpArgs false
set_option linter.unusedVariables false
namespace Go.Proofs.Ytkfelnfgiijmkaa
open Go.ChangeShapes Go.WideShapes Go.ChangeAt Go.RowKit

theorem any_not_all {nn : Int} (l : List GCon) : (!(l.any fun y => !conOk nn y)) = l.all (conOk nn) := by
  induction l with
  | nil => rfl
  | cons a l ih => rw [List.any_cons, List.all_cons, ← ih]; cases conOk nn a <;> simp
end Go.Proofs.Ytkfelnfgiijmkaa
/-
  One nomination, both sides. Printed by gen_nom.py.
-/
set_option linter.unusedSimpArgs false
set_option linter.unusedVariables false
namespace Go.Proofs.Ytkfelnfgiijmkaa
open Go.ChangeShapes Go.WideShapes Go.ChangeAt Go.RowKit

theorem con_at {b : List GCon} {nn k : Int} (hb : bookOk nn b = true) (h0 : 0 ≤ k) (h1 : k ≤ (b.length : Int) - 1) : b[k.toNat]? = some (conAt b k) ∧ conOk nn (conAt b k) = true := by
  have hx : b[k.toNat]? = some (conAt b k) := by
    rw [conAt, List.getD_eq_getElem?_getD, List.getElem?_eq_getElem (show k.toNat < b.length by omega)]; rfl
  exact ⟨hx, (bookOk_all hb).2 _ _ hx⟩
end Go.Proofs.Ytkfelnfgiijmkaa
