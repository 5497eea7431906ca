import Derived.Test.YtelhmfgfjlpkaaaNetOk
import Derived.Test.YtelhmfgfjlpkaaaInts
import Derived.IntWalk
/-
  Transports: the tests of the program and of the reference. Printed by gen_tr.py.
-/
namespace Go.Proofs.Ytelhmfgfjlpkaaa
open Go.ChangeShapes Go.WideShapes Go.ChangeAt Go.RowKit

def trOk (nn : Int) (x : GTr) : Bool := inB 0 x.entry (nn - 1) && inB 0 x.exit (nn - 1) && !(x.entry == x.exit) && inB 0 x.amount 30000 && inB 0 x.cls 3
def trsOk (nn : Int) (l : List GTr) : Bool := decide (l.length ≤ 32) && l.all (trOk nn)
def trCode (n : GNet) (l : List GTr) : Int := if netOk n then (if trsOk n.nodes.length l then 0 else 3) else 1
theorem trOk_all {nn : Int} {x : GTr} (h : trOk nn x = true) : (0 ≤ x.entry ∧ x.entry ≤ nn - 1) ∧ (0 ≤ x.exit ∧ x.exit ≤ nn - 1) ∧ x.entry ≠ x.exit ∧ (0 ≤ x.amount ∧ x.amount ≤ 30000) ∧ (0 ≤ x.cls ∧ x.cls ≤ 3) := by
  unfold trOk at h
  simp only [Bool.and_eq_true, inB_iff, Bool.not_eq_true', beq_eq_false_iff_ne, ne_eq] at h
  obtain ⟨⟨⟨⟨a, b⟩, c⟩, d⟩, e⟩ := h
  exact ⟨a, b, c, d, e⟩
theorem all_step {α : Type} {p : α → Bool} {l : List α} {k : Nat} {x : α} (hx : l[k]? = some x) (hp : p x = true) (h : ∀ m, m < k → ∀ y, l[m]? = some y → p y = true) : ∀ m, m < k + 1 → ∀ y, l[m]? = some y → p y = true := by
  intro m hm y hy
  by_cases e : m = k
  · subst e
    rw [hx] at hy
    injection hy with hy
    subst hy
    exact hp
  · exact h m (by omega) y hy
theorem all_of {α : Type} {p : α → Bool} {l : List α} (h : ∀ m, m < l.length → ∀ y, l[m]? = some y → p y = true) : l.all p = true := by
  rw [List.all_eq_true]
  intro x hx
  obtain ⟨k, hk, rfl⟩ := List.mem_iff_getElem.1 hx
  exact h k hk _ (List.getElem?_eq_getElem hk)
theorem all_not {α : Type} {p : α → Bool} {l : List α} {k : Nat} {x : α} (hx : l[k]? = some x) (hp : p x = false) : l.all p = false := by
  rw [List.all_eq_false]; exact ⟨x, List.mem_of_getElem? hx, by simp [hp]⟩
theorem trsOk_long {nn : Int} {l : List GTr} (h : 32 < l.length) : trsOk nn l = false := by simp [trsOk]; omega
theorem trsOk_bad {nn : Int} {l : List GTr} {k : Nat} {x : GTr} (hx : l[k]? = some x) (hp : trOk nn x = false) : trsOk nn l = false := by simp [trsOk, all_not hx hp]
theorem trsOk_good {nn : Int} {l : List GTr} (hl : l.length ≤ 32) (h : ∀ m, m < l.length → ∀ y, l[m]? = some y → trOk nn y = true) : trsOk nn l = true := by simp [trsOk, hl, all_of h]
theorem trsOk_all {nn : Int} {l : List GTr} (h : trsOk nn l = true) : l.length ≤ 32 ∧ ∀ (m : Nat) (y : GTr), l[m]? = some y → trOk nn y = true := by
  simp only [trsOk, Bool.and_eq_true, decide_eq_true_eq, List.all_eq_true] at h
  exact ⟨h.1, fun m y hy => h.2 y (List.mem_of_getElem? hy)⟩
theorem trCode_inv {n : GNet} {l : List GTr} (h : netOk n = false) : trCode n l = 1 := by simp [trCode, h]
theorem trCode_lim {n : GNet} {l : List GTr} (h : netOk n = true) (h' : trsOk n.nodes.length l = false) : trCode n l = 3 := by simp [trCode, h, h']
theorem trCode_ok {n : GNet} {l : List GTr} (h : netOk n = true) (h' : trsOk n.nodes.length l = true) : trCode n l = 0 := by simp [trCode, h, h']
theorem trCode_zero {n : GNet} {l : List GTr} (h : trCode n l = 0) : netOk n = true ∧ trsOk n.nodes.length l = true := by
  unfold trCode at h
  cases h1 : netOk n <;> cases h2 : trsOk n.nodes.length l <;> simp [h1, h2] at h ⊢
theorem trCode_range (n : GNet) (l : List GTr) : 0 ≤ trCode n l ∧ trCode n l ≤ 3 := by
  unfold trCode
  cases netOk n <;> cases trsOk n.nodes.length l <;> simp

set_option maxHeartbeats 800000 in
theorem checkTransports_any (A1 A2 A3 : Option Addr) (n1 c1 n2 c2 n3 c3 : Nat) (n : GNet) (l : List GTr) (w : World) (hA : NetAt w A1 n1 c1 A2 n2 c2 n) (hL : Sl w 4 A3 n3 (l.flatMap GTr.cells)) (hm3 : n3 ≤ 1048576) :
    Calls Try.prog 33 #[.agg #[.slice A1 n1 c1, .slice A2 n2 c2], .slice A3 n3 c3] w fun e w' => e = .returned (.int .i64 (trCode n l)) ∧ Gr w w' := by
  have hm1 := hA.m1
  have HA := Lib.hid hA
  have HL := Lib.hid hL
  clear hA hL
  have hl3 := HL.out.len GTr.cells_len (by omega)
  have Hl3 := Lib.hid hl3
  clear hl3
  cases hnet : netOk n with
  | false =>
    rw [trCode_inv hnet]
    go_enter Try.func33, Try.ntmps33
    go_wp2_with fail
    refine (IsNetwork_any _ _ _ _ _ _ n _ (HA.out.gr ((Gr.refl _).alloc _))).mono ?_
    rintro e w' ⟨rfl, hg1⟩
    go_wp2_with fail
    go_ret
    exact ⟨rfl, ((Gr.refl _).alloc _).trans hg1⟩
  | true =>
   have Hnet := Lib.hid hnet
   by_cases h : 32 < n3
   · rw [trCode_lim hnet (trsOk_long (by rw [Hl3.out]; exact h))]
     go_enter Try.func33, Try.ntmps33
     go_wp2_with fail
     refine (IsNetwork_any _ _ _ _ _ _ n _ (HA.out.gr ((Gr.refl _).alloc _))).mono ?_
     rintro e w' ⟨rfl, hg1⟩
     go_wp2_with fail
     go_ret
     exact ⟨rfl, ((Gr.refl _).alloc _).trans hg1⟩
   · have t1 : decide ((32 : Int) < (n3 : Int)) = false := by simp; omega
     go_enter Try.func33, Try.ntmps33
     go_wp2_with fail
     refine (IsNetwork_any _ _ _ _ _ _ n _ (HA.out.gr ((Gr.refl _).alloc _))).mono ?_
     rintro e w0 ⟨rfl, hg1⟩
     have hg0 : Gr w w0 := ((Gr.refl _).alloc _).trans hg1
     have b0 : w0.cell? ⟨w.heap.size, 0, none⟩ = some (.slice A1 n1 c1) := hg1.has (by simp [go_sem])
     have b1 : w0.cell? ⟨w.heap.size, 1, none⟩ = some (.slice A2 n2 c2) := hg1.has (by simp [go_sem])
     clear hg1
     go_wp2_with fail
     go_loopw [17] (fun i wr => ∃ k : Nat, k ≤ n3 ∧ i = .int .i64 k ∧ (∀ m, m < k → ∀ y, l[m]? = some y → trOk n1 y = true) ∧ Gr w0 wr) (fun i _ => n3 - (intOf i).toNat)
     case atStart => exact ⟨0, Nat.zero_le _, rfl, fun j h => absurd h (by omega), Gr.refl _⟩
     case round =>
     obtain ⟨k, hk, rfl, hno, hgr⟩ := hrel
     have Hno := Lib.hid hno
     clear hno
     by_cases hlt : k < n3
     · obtain ⟨x, hx⟩ : ∃ x, l[k]? = some x := ⟨_, List.getElem?_eq_getElem (by have := HL.out.len GTr.cells_len (by omega); omega)⟩
       obtain ⟨b, o, rfl, hb, r0, r1, r2, r3⟩ := (HL.out.gr (hg0.trans hgr)).tr hx
       have Hx := Lib.hid hx
       clear hx
       have q0 := hgr.has b0
       have q1 := hgr.has b1
       have hg2 : Gr wr (wr.alloc (.cells #[.int .i64 x.entry, .int .i64 x.exit, .int .i64 x.amount, .int .i64 x.cls] 63)) := (Gr.refl _).alloc _
       have y0 := hg2.has q0
       have y1 := hg2.has q1
       have y2 : (wr.alloc (.cells #[.int .i64 x.entry, .int .i64 x.exit, .int .i64 x.amount, .int .i64 x.cls] 63)).cell? ⟨wr.heap.size, 0, none⟩ = some (.int .i64 x.entry) := by simp [go_sem]
       have y3 : (wr.alloc (.cells #[.int .i64 x.entry, .int .i64 x.exit, .int .i64 x.amount, .int .i64 x.cls] 63)).cell? ⟨wr.heap.size, 1, none⟩ = some (.int .i64 x.exit) := by simp [go_sem]
       have y4 : (wr.alloc (.cells #[.int .i64 x.entry, .int .i64 x.exit, .int .i64 x.amount, .int .i64 x.cls] 63)).cell? ⟨wr.heap.size, 2, none⟩ = some (.int .i64 x.amount) := by simp [go_sem]
       have y5 : (wr.alloc (.cells #[.int .i64 x.entry, .int .i64 x.exit, .int .i64 x.amount, .int .i64 x.cls] 63)).cell? ⟨wr.heap.size, 3, none⟩ = some (.int .i64 x.cls) := by simp [go_sem]
       clear q0 q1
       replace hg2 : Gr w0 (wr.alloc (.cells #[.int .i64 x.entry, .int .i64 x.exit, .int .i64 x.amount, .int .i64 x.cls] 63)) := hgr.trans hg2
       cases hok : trOk n1 x with
       | true =>
         obtain ⟨p1, p2, p3, p4, p5⟩ := trOk_all hok
         have v1 : inB 0 x.entry (↑n1 - 1) = true := inB_true p1
         have v2 : inB 0 x.exit (↑n1 - 1) = true := inB_true p2
         have v3 : (x.entry == x.exit) = false := by simp [p3]
         have v4 : inB 0 x.amount 30000 = true := inB_true p4
         have v5 : inB 0 x.cls 3 = true := inB_true p5
         have Hok := Lib.hid hok
         clear hok p1 p2 p3 p4 p5
         go_wp2_with (first
           | (go_at_call 73; refine (isNodeOf_any _ _ _ _ _ _ _ _ (by omega)).mono ?_; rintro e w' ⟨rfl, hg1⟩; have z0 := hg1.has (p := ⟨w.heap.size, 0, none⟩) (v := .slice A1 n1 c1) (by assumption); have z1 := hg1.has (p := ⟨w.heap.size, 1, none⟩) (v := .slice A2 n2 c2) (by assumption); have z2 := hg1.has (p := ⟨wr.heap.size, 0, none⟩) (v := .int .i64 x.entry) (by assumption); have z3 := hg1.has (p := ⟨wr.heap.size, 1, none⟩) (v := .int .i64 x.exit) (by assumption); have z4 := hg1.has (p := ⟨wr.heap.size, 2, none⟩) (v := .int .i64 x.amount) (by assumption); have z5 := hg1.has (p := ⟨wr.heap.size, 3, none⟩) (v := .int .i64 x.cls) (by assumption); replace hg2 := hg2.trans hg1)
           | (go_at_call 40; refine (within_any _ _ _ _).mono ?_; rintro e w' ⟨rfl, rfl⟩))
         go_roundw
         case rel => exact ⟨k + 1, by omega, by go_num, all_step Hx.out Hok.out Hno.out, hg2⟩
         case measure => simp [intOf]; omega
       | false =>
         have Hok := Lib.hid hok
         go_wp2_with (first
           | (go_at_call 73; refine (isNodeOf_any _ _ _ _ _ _ _ _ (by omega)).mono ?_; rintro e w' ⟨rfl, hg1⟩; have z0 := hg1.has (p := ⟨w.heap.size, 0, none⟩) (v := .slice A1 n1 c1) (by assumption); have z1 := hg1.has (p := ⟨w.heap.size, 1, none⟩) (v := .slice A2 n2 c2) (by assumption); have z2 := hg1.has (p := ⟨wr.heap.size, 0, none⟩) (v := .int .i64 x.entry) (by assumption); have z3 := hg1.has (p := ⟨wr.heap.size, 1, none⟩) (v := .int .i64 x.exit) (by assumption); have z4 := hg1.has (p := ⟨wr.heap.size, 2, none⟩) (v := .int .i64 x.amount) (by assumption); have z5 := hg1.has (p := ⟨wr.heap.size, 3, none⟩) (v := .int .i64 x.cls) (by assumption); replace hg2 := hg2.trans hg1)
           | (go_at_call 40; refine (within_any _ _ _ _).mono ?_; rintro e w' ⟨rfl, rfl⟩))
         all_goals first
           | (go_ret
              exact ⟨ret_int (trCode_lim Hnet.out (by rw [HA.out.l1]; exact trsOk_bad Hx.out Hok.out)).symm, hg0.trans (by assumption)⟩)
           | (exfalso
              have h7 := Hok.out
              have g : (x.entry == x.exit) = false ∧ (!inB 0 x.cls 3) = false := by assumption
              have g1 := g.1
              have g2 : inB 0 x.cls 3 = true := by simpa using g.2
              simp [trOk, *] at h7)
     · obtain rfl : k = n3 := by omega
       go_wp2_with fail
       go_ret
       exact ⟨ret_int (trCode_ok Hnet.out (by rw [HA.out.l1]; exact trsOk_good (by rw [Hl3.out]; omega) (by rw [Hl3.out]; exact Hno.out))).symm, hg0.trans hgr⟩
end Go.Proofs.Ytelhmfgfjlpkaaa
/-
  Plain functions on transports: amounts by class, supplies, scaling.
-/
namespace Go.Proofs.Ytelhmfgfjlpkaaa
open Go.RowKit

def addAt (l : List Int) (k : Nat) (d : Int) : List Int := l.set k (l.getD k 0 + d)
theorem addAt_length (l : List Int) (k : Nat) (d : Int) : (addAt l k d).length = l.length := by simp [addAt]
def Bnd (B : Int) (l : List Int) : Prop := ∀ (j : Nat) (v : Int), l[j]? = some v → -B ≤ v ∧ v ≤ B
theorem Bnd.mono {B B' : Int} {l : List Int} (h : Bnd B l) (hB : B ≤ B') : Bnd B' l := fun j v hv => by have := h j v hv; omega
theorem Bnd.getD {B : Int} {l : List Int} (h : Bnd B l) (hB : 0 ≤ B) (k : Nat) : -B ≤ l.getD k 0 ∧ l.getD k 0 ≤ B := by
  rw [List.getD_eq_getElem?_getD]
  cases e : l[k]? with
  | none => simp; omega
  | some v => simpa [e] using h k v e
theorem Bnd.addAt {B D d : Int} {l : List Int} (h : Bnd B l) (hB : 0 ≤ B) (hd : -D ≤ d ∧ d ≤ D) (k : Nat) : Bnd (B + D) (addAt l k d) := by
  intro j v hv
  unfold Go.Proofs.Ytelhmfgfjlpkaaa.addAt at hv
  rw [List.getElem?_set] at hv
  have hg := h.getD hB k
  split at hv
  · split at hv
    · injection hv with hv; omega
    · cases hv
  · have := h j v hv; omega
theorem Bnd.zeros (n : Nat) : Bnd 0 (List.replicate n 0) := by
  intro j v hv
  rw [List.getElem?_replicate] at hv
  split at hv
  · injection hv with hv; omega
  · cases hv
theorem foldl_take_succ {α β : Type} (f : β → α → β) (b : β) (l : List α) (k : Nat) (x : α) (hx : l[k]? = some x) : (l.take (k + 1)).foldl f b = f ((l.take k).foldl f b) x := by
  rw [List.take_add_one, hx]; simp

def amtStep (acc : List Int) (x : GTr) : List Int := addAt acc x.cls.toNat x.amount
def amounts (l : List GTr) : List Int := l.foldl amtStep (List.replicate 4 0)
def supStep (acc : List Int) (x : GTr) : List Int := addAt (addAt acc x.entry.toNat x.amount) x.exit.toNat (-x.amount)
def supplies (nn : Nat) (l : List GTr) : List Int := l.foldl supStep (List.replicate nn 0)
theorem amt_length (l : List GTr) (acc : List Int) : (l.foldl amtStep acc).length = acc.length := by
  induction l generalizing acc with
  | nil => rfl
  | cons x l ih => rw [List.foldl_cons, ih]; simp [amtStep, addAt_length]
theorem sup_length (l : List GTr) (acc : List Int) : (l.foldl supStep acc).length = acc.length := by
  induction l generalizing acc with
  | nil => rfl
  | cons x l ih => rw [List.foldl_cons, ih]; simp [supStep, addAt_length]
theorem amt_bnd {nn : Int} (l : List GTr) (h : ∀ x ∈ l, trOk nn x = true) (B : Int) (hB : 0 ≤ B) (acc : List Int) (ha : Bnd B acc) : Bnd (B + 30000 * l.length) (l.foldl amtStep acc) := by
  induction l generalizing acc B with
  | nil => simpa using ha
  | cons x l ih =>
    obtain ⟨_, _, _, p4, _⟩ := trOk_all (h x (List.mem_cons_self ..))
    have := ih (fun y hy => h y (List.mem_cons_of_mem _ hy)) (B + 30000) (by omega) (amtStep acc x) (ha.addAt hB (by omega) _)
    exact this.mono (by simp; omega)
theorem sup_bnd {nn : Int} (l : List GTr) (h : ∀ x ∈ l, trOk nn x = true) (B : Int) (hB : 0 ≤ B) (acc : List Int) (ha : Bnd B acc) : Bnd (B + 60000 * l.length) (l.foldl supStep acc) := by
  induction l generalizing acc B with
  | nil => simpa using ha
  | cons x l ih =>
    obtain ⟨_, _, _, p4, _⟩ := trOk_all (h x (List.mem_cons_self ..))
    have h1 := (ha.addAt (d := x.amount) (D := 30000) hB (by omega) x.entry.toNat).addAt (d := -x.amount) (D := 30000) (by omega) (by omega) x.exit.toNat
    have := ih (fun y hy => h y (List.mem_cons_of_mem _ hy)) (B + 30000 + 30000) (by omega) (supStep acc x) h1
    exact this.mono (by simp; omega)
theorem mem_take_ok {nn : Int} {l : List GTr} (h : trsOk nn l = true) (k : Nat) : ∀ x ∈ l.take k, trOk nn x = true := by
  intro x hx
  obtain ⟨i, hi⟩ := List.mem_iff_getElem?.1 (List.mem_of_mem_take hx)
  exact (trsOk_all h).2 i x hi
/-- What the loops need at round k. -/
theorem amt_at {nn : Int} {l : List GTr} (h : trsOk nn l = true) (k : Nat) : ((l.take k).foldl amtStep (List.replicate 4 0)).length = 4 ∧ Bnd 960000 ((l.take k).foldl amtStep (List.replicate 4 0)) := by
  have hl := (trsOk_all h).1
  refine ⟨by rw [amt_length]; simp, (amt_bnd (l.take k) (mem_take_ok h k) 0 (by omega) _ (Bnd.zeros 4)).mono ?_⟩
  have : (l.take k).length ≤ 32 := by simp; omega
  omega
theorem sup_at {nn : Int} {l : List GTr} (h : trsOk nn l = true) (m k : Nat) : ((l.take k).foldl supStep (List.replicate m 0)).length = m ∧ Bnd 1920000 ((l.take k).foldl supStep (List.replicate m 0)) := by
  have hl := (trsOk_all h).1
  refine ⟨by rw [sup_length]; simp, (sup_bnd (l.take k) (mem_take_ok h k) 0 (by omega) _ (Bnd.zeros m)).mono ?_⟩
  have : (l.take k).length ≤ 32 := by simp; omega
  omega
theorem get_of_lt {l : List Int} {k : Nat} (h : k < l.length) : l[k]? = some (l.getD k 0) := by
  rw [List.getD_eq_getElem?_getD, List.getElem?_eq_getElem h]; rfl
end Go.Proofs.Ytelhmfgfjlpkaaa
/-
  AmountsByClass: the program and the reference.
-/
namespace Go.Proofs.Ytelhmfgfjlpkaaa
open Go.ChangeShapes Go.WideShapes Go.ChangeAt Go.RowKit

def amountsRes (n : GNet) (l : List GTr) : List Int := if trCode n l = 0 then amounts l else []
end Go.Proofs.Ytelhmfgfjlpkaaa
