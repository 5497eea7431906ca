/-
  From the arguments' readings to rows of plain data; and back to the row's post. Printed by gen.py.
-/
import Derived.Test.YthhmhigddmimjaaGreatRows
import Derived.Test.YthhmhigddmimjaaGreatCore
import Derived.ProofKit
import Derived.OpenShut
import Derived.Carry
import Derived.Deep.Slices
import Derived.Deep.Fields
import Derived.Lib.SmallJoins
import Derived.ChangeSame
namespace Go.Proofs.YthhmhigddmimjaaGreat
open Go.ChangeShapes Go.WideShapes Go.ChangeAt Go.RowKit Go.Deep Go.Joins

theorem own : ownKnob Tryz.prog.godebug = none := by kernel_rfl
theorem laidOut : laidOutB Tryz.prog = true := by kernel_rfl

theorem flat_ints (l : List Int) : l.flatMap (fun z : Int => [Value.int .i64 z]) = ints l := by
  unfold ints
  induction l with
  | nil => rfl
  | cons x l ih => rw [List.flatMap_cons, ih]; rfl
theorem list_len3 {α : Type} {l : List α} (h : l.length = 3) : ∃ c0 c1 c2, l = [c0, c1, c2] := by
  match l, h with
  | [c0, c1, c2], _ => exact ⟨c0, c1, c2, rfl⟩
theorem list_len5 {α : Type} {l : List α} (h : l.length = 5) : ∃ c0 c1 c2 c3 c4, l = [c0, c1, c2, c3, c4] := by
  match l, h with
  | [c0, c1, c2, c3, c4], _ => exact ⟨c0, c1, c2, c3, c4, rfl⟩
theorem choose_list {α : Type} {p : Nat → α → Prop} (n : Nat) (h : ∀ i, i < n → ∃ x, p i x) : ∃ l : List α, l.length = n ∧ ∀ (i : Nat) (x : α), l[i]? = some x → p i x := by
  induction n with
  | zero => exact ⟨[], rfl, fun i x hx => by simp at hx⟩
  | succ n ih =>
    obtain ⟨l, hl, hp⟩ := ih (fun i hi => h i (by omega))
    obtain ⟨x, hx⟩ := h n (by omega)
    refine ⟨l ++ [x], by simp [hl], fun i y hy => ?_⟩
    by_cases hi : i < l.length
    · rw [List.getElem?_append_left hi] at hy; exact hp i y hy
    · rw [List.getElem?_append_right (by omega)] at hy
      have : i - l.length = 0 := by
        rcases Nat.eq_zero_or_pos (i - l.length) with e | e
        · exact e
        · rw [List.getElem?_eq_none (by simp; omega)] at hy; cases hy
      rw [this] at hy
      simp at hy
      subst hy
      have : i = n := by omega
      rw [this]
      exact hx
theorem rows_of {w : World} {α : Type} (f : α → List Value) (k : Nat) (hf : ∀ x, (f x).length = k) (h0 : 0 < k) (q : α → Prop) (a : Addr) (n : Nat)
    (h : ∀ i, i < n → ∃ x, q x ∧ ∀ j u, (f x)[j]? = some u → w.cell? (a.add (i * k + j)) = some u) : ∃ l : List α, (∀ x ∈ l, q x) ∧ Sl w k (some a) n (l.flatMap f) := by
  obtain ⟨l, hl, hp⟩ := choose_list n h
  refine ⟨l, fun x hx => ?_, by rw [flat_length f k hf, hl], fun hn => ?_⟩
  · obtain ⟨i, hi, rfl⟩ := List.mem_iff_getElem.1 hx
    exact (hp i _ (List.getElem?_eq_getElem hi)).1
  · have hcell : ∀ j u, (l.flatMap f)[j]? = some u → w.cell? (a.add j) = some u := by
      intro j u hu
      have e : j = (j / k) * k + j % k := by rw [Nat.mul_comm]; exact (Nat.div_add_mod j k).symm
      have hr : j % k < k := Nat.mod_lt _ h0
      rw [e, flat_get f k hf l _ _ hr] at hu
      cases hx : l[j / k]? with
      | none => rw [hx] at hu; cases hu
      | some x =>
        rw [hx] at hu
        rw [e]
        exact (hp _ x hx).2 _ u hu
    obtain ⟨b, o, spot⟩ := a
    have hpos : 0 < (l.flatMap f).length := by rw [flat_length f k hf, hl]; exact Nat.mul_pos hn h0
    have h1 := hcell 0 _ (List.getElem?_eq_getElem hpos)
    have hspot : spot = none := by simpa [Addr.add] using World.cell?_spot h1
    subst hspot
    refine ⟨b, o, rfl, by simpa [Addr.add] using lt_of_cell h1, fun j u hu => ?_⟩
    rw [← add_plain]
    exact hcell j u hu
theorem trodAll_stays {H : Type} {enc : TypeId × Value → H} {W W' : World} (hb : Below W.heap.size W W') (sp : Nat → Bool) : ∀ (ts : List TypeId) (vs : List Value) (ds : List (DataW H)) (ps : List MemPlace), (∀ t ∈ ts, Tryz.prog.readableRec t = true ∧ t < Tryz.prog.types.size) →
    DataW.TrodAll enc Tryz.prog W 0 (fun _ => true) true ts vs ds ps → (∀ x ∈ ps, x.block < W.heap.size) → (∀ x ∈ ps, sp x.block = true) → DataW.TrodAll enc Tryz.prog W' 0 sp true ts vs ds ps := by
  intro ts
  induction ts with
  | nil =>
    intro vs ds ps _ h _ _
    obtain ⟨rfl, rfl, rfl⟩ := trodAll_nil h
    exact trodAll_mk0
  | cons t ts ih =>
    intro vs ds ps hr h hlt hsp
    obtain ⟨v, vs', d, ds', p, q, rfl, rfl, rfl, h1, h2⟩ := trodAll_cons h
    obtain ⟨hr1, hr2⟩ := hr t (List.mem_cons_self ..)
    exact trodAll_cons_mk (WideElems.Trod_stays laidOut hr1 hr2 h1 (fun x hx => hb.same (hlt x (List.mem_append_left _ hx))) (fun x hx => hsp x (List.mem_append_left _ hx)))
      (ih vs' ds' q (fun t' ht' => hr t' (List.mem_cons_of_mem _ ht')) h2 (fun x hx => hlt x (List.mem_append_right _ hx)) (fun x hx => hsp x (List.mem_append_right _ hx)))
section
variable {H : Type} {enc : TypeId × Value → H} {w : World} {base : Nat} {spare : Nat → Bool} {held : Bool}
theorem open_Int64 {fuel : Nat} {v : Value} {x : DataW H × List MemPlace} (h : DataW.trod enc Tryz.prog w base spare held fuel 26 [v] = some x) :
    ∃ (A : Option Addr) (n c : Nat) (l : List Int), v = .slice A n c ∧ n ≤ c ∧ c ≤ maxLen ∧ Sl w 1 A n (ints l) := by
  have hC : Tryz.prog.cellsOf 2 = 1 := by kernel_rfl
  rcases open_slice Tryz.underlying26 h with ⟨hcs, _⟩ | ⟨a, len, cap, m, fu, D, Pl, hcs, _, hl, hm, hmm, _, hi⟩
  · injection hcs with hcs
    exact ⟨none, 0, 0, [], hcs, Nat.le_refl _, by unfold maxLen; omega, Sl.zero _⟩
  · injection hcs with hcs
    have hlm : len ≤ m := by rw [hmm]; split <;> omega
    obtain ⟨l, _, hs⟩ := rows_of (w := w) (fun z : Int => [Value.int .i64 z]) 1 (fun _ => rfl) (by omega) (fun _ => True) a len (fun i hil => by
      obtain ⟨cs', hc, ht'⟩ := hi i (by omega)
      rw [hC] at hc
      obtain ⟨_, hcl, hat⟩ := World.cells?_some hc
      obtain ⟨z, hz, _, _⟩ := DataW.trod_int Tryz.underlying2 ht'
      subst hz
      refine ⟨z, trivial, fun j u hu => ?_⟩
      have hj : j = 0 := by
        have := (List.getElem?_eq_some_iff.1 hu).1
        simpa using this
      subst hj
      have := hat 0 (by omega)
      rw [Go.Deep.add_add] at this
      rw [this]
      exact hu)
    rw [flat_ints] at hs
    exact ⟨some a, len, cap, l, hcs, hl, hm, hs⟩

theorem open_Node {fuel : Nat} {v : Value} {x : DataW H × List MemPlace} (h : DataW.trod enc Tryz.prog w base spare held fuel 22 [v] = some x) :
    ∃ (A : Option Addr) (n c : Nat) (l : List GNode), v = .slice A n c ∧ n ≤ c ∧ c ≤ maxLen ∧ (∀ x ∈ l, x.name.size ≤ maxLen) ∧ Sl w 3 A n (l.flatMap GNode.cells) := by
  have hC : Tryz.prog.cellsOf 98 = 3 := by kernel_rfl
  have hCi : Tryz.prog.cellsOf 2 = 1 := by kernel_rfl
  have hCs : Tryz.prog.cellsOf 9 = 1 := by kernel_rfl
  rcases open_slice Tryz.underlying22 h with ⟨hcs, _⟩ | ⟨a, len, cap, m, fu, D, Pl, hcs, _, hl, hm, hmm, _, hi⟩
  · injection hcs with hcs
    exact ⟨none, 0, 0, [], hcs, Nat.le_refl _, by unfold maxLen; omega, fun x hx => by simp at hx, Sl.zero _⟩
  · injection hcs with hcs
    have hlm : len ≤ m := by rw [hmm]; split <;> omega
    obtain ⟨l, hq, hs⟩ := rows_of (w := w) GNode.cells 3 GNode.cells_len (by omega) (fun x => x.name.size ≤ maxLen) a len (fun i hil => by
      obtain ⟨cs', hc, ht'⟩ := hi i (by omega)
      rw [hC] at hc
      obtain ⟨ys, n', _, _, _, hlen, hg0⟩ := DataW.trod_struct Tryz.underlying98 ht'
      obtain ⟨_, hcl, hat⟩ := World.cells?_some hc
      obtain ⟨c0, c1, c2, rfl⟩ := list_len3 hcl
      obtain ⟨y0, y1, y2, rfl⟩ := list_len3 (hlen : ys.length = 3)
      have g0 := hg0 0 { name := "Name", type := 9, offset := 0, embedded := false, tag := "", pkgPath := "", byteOffset := 0 } rfl
      rw [hCs] at g0
      have g0 : DataW.trod enc Tryz.prog w base spare held n' 9 [c0] = some y0 := g0
      obtain ⟨z0, e0, _, hs0⟩ := DataW.trod_string Tryz.underlying9 g0
      have g1 := hg0 1 { name := "Low", type := 2, offset := 1, embedded := false, tag := "", pkgPath := "", byteOffset := 16 } rfl
      rw [hCi] at g1
      have g1 : DataW.trod enc Tryz.prog w base spare held n' 2 [c1] = some y1 := g1
      obtain ⟨z1, e1, _, _⟩ := DataW.trod_int Tryz.underlying2 g1
      have g2 := hg0 2 { name := "High", type := 2, offset := 2, embedded := false, tag := "", pkgPath := "", byteOffset := 24 } rfl
      rw [hCi] at g2
      have g2 : DataW.trod enc Tryz.prog w base spare held n' 2 [c2] = some y2 := g2
      obtain ⟨z2, e2, _, _⟩ := DataW.trod_int Tryz.underlying2 g2
      simp only [List.cons.injEq, and_true] at e0 e1 e2
      subst e0 e1 e2
      refine ⟨⟨z0, z1, z2⟩, hs0, fun j u hu => ?_⟩
      have hj : j < 3 := (List.getElem?_eq_some_iff.1 hu).1
      have := hat j hj
      rw [Go.Deep.add_add] at this
      rw [this]
      exact hu)
    exact ⟨some a, len, cap, l, hcs, hl, hm, hq, hs⟩

theorem open_Pipe {fuel : Nat} {v : Value} {x : DataW H × List MemPlace} (h : DataW.trod enc Tryz.prog w base spare held fuel 23 [v] = some x) :
    ∃ (A : Option Addr) (n c : Nat) (l : List GPipe), v = .slice A n c ∧ n ≤ c ∧ c ≤ maxLen ∧ (∀ x ∈ l, True) ∧ Sl w 5 A n (l.flatMap GPipe.cells) := by
  have hC : Tryz.prog.cellsOf 102 = 5 := by kernel_rfl
  have hCi : Tryz.prog.cellsOf 2 = 1 := by kernel_rfl
  rcases open_slice Tryz.underlying23 h with ⟨hcs, _⟩ | ⟨a, len, cap, m, fu, D, Pl, hcs, _, hl, hm, hmm, _, hi⟩
  · injection hcs with hcs
    exact ⟨none, 0, 0, [], hcs, Nat.le_refl _, by unfold maxLen; omega, fun x hx => by simp at hx, Sl.zero _⟩
  · injection hcs with hcs
    have hlm : len ≤ m := by rw [hmm]; split <;> omega
    obtain ⟨l, hq, hs⟩ := rows_of (w := w) GPipe.cells 5 GPipe.cells_len (by omega) (fun x => True) a len (fun i hil => by
      obtain ⟨cs', hc, ht'⟩ := hi i (by omega)
      rw [hC] at hc
      obtain ⟨ys, n', _, _, _, hlen, hg0⟩ := DataW.trod_struct Tryz.underlying102 ht'
      obtain ⟨_, hcl, hat⟩ := World.cells?_some hc
      obtain ⟨c0, c1, c2, c3, c4, rfl⟩ := list_len5 hcl
      obtain ⟨y0, y1, y2, y3, y4, rfl⟩ := list_len5 (hlen : ys.length = 5)
      have g0 := hg0 0 { name := "From", type := 2, offset := 0, embedded := false, tag := "", pkgPath := "", byteOffset := 0 } rfl
      rw [hCi] at g0
      have g0 : DataW.trod enc Tryz.prog w base spare held n' 2 [c0] = some y0 := g0
      obtain ⟨z0, e0, _, _⟩ := DataW.trod_int Tryz.underlying2 g0
      have g1 := hg0 1 { name := "To", type := 2, offset := 1, embedded := false, tag := "", pkgPath := "", byteOffset := 8 } rfl
      rw [hCi] at g1
      have g1 : DataW.trod enc Tryz.prog w base spare held n' 2 [c1] = some y1 := g1
      obtain ⟨z1, e1, _, _⟩ := DataW.trod_int Tryz.underlying2 g1
      have g2 := hg0 2 { name := "K", type := 2, offset := 2, embedded := false, tag := "", pkgPath := "", byteOffset := 16 } rfl
      rw [hCi] at g2
      have g2 : DataW.trod enc Tryz.prog w base spare held n' 2 [c2] = some y2 := g2
      obtain ⟨z2, e2, _, _⟩ := DataW.trod_int Tryz.underlying2 g2
      have g3 := hg0 3 { name := "Volume", type := 2, offset := 3, embedded := false, tag := "", pkgPath := "", byteOffset := 24 } rfl
      rw [hCi] at g3
      have g3 : DataW.trod enc Tryz.prog w base spare held n' 2 [c3] = some y3 := g3
      obtain ⟨z3, e3, _, _⟩ := DataW.trod_int Tryz.underlying2 g3
      have g4 := hg0 4 { name := "Limit", type := 2, offset := 4, embedded := false, tag := "", pkgPath := "", byteOffset := 32 } rfl
      rw [hCi] at g4
      have g4 : DataW.trod enc Tryz.prog w base spare held n' 2 [c4] = some y4 := g4
      obtain ⟨z4, e4, _, _⟩ := DataW.trod_int Tryz.underlying2 g4
      simp only [List.cons.injEq, and_true] at e0 e1 e2 e3 e4
      subst e0 e1 e2 e3 e4
      refine ⟨⟨z0, z1, z2, z3, z4⟩, trivial, fun j u hu => ?_⟩
      have hj : j < 5 := (List.getElem?_eq_some_iff.1 hu).1
      have := hat j hj
      rw [Go.Deep.add_add] at this
      rw [this]
      exact hu)
    exact ⟨some a, len, cap, l, hcs, hl, hm, hq, hs⟩






end
end Go.Proofs.YthhmhigddmimjaaGreat
