import Derived.Test.YtejfpajbkgfiaaaFlow8
import Derived.Test.YtejfpajbkgfiaaaFlowMs
/-
  The full flow of the program.
-/
namespace Go.Proofs.Ytejfpajbkgfiaaa
open Go.ChangeShapes Go.WideShapes Go.ChangeAt Go.RowKit

theorem indexInt_any {A : Option Addr} {n c : Nat} (l : List Int) (x : Int) (w : World) (hL : SlAt w 1 A n c (ints l)) :
    Calls Try.prog 153 #[.slice A n c, .int .i64 x] w fun e w' => ∃ r : Int, e = .returned (.int .i64 r) ∧ (0 ≤ r ↔ x ∈ l) ∧ w = w' := by
  have hlen := hL.sl.ilen
  have Hlen := Lib.hid hlen
  have hm := hL.small
  have HL := Lib.hid hL
  clear hL hlen
  go_enter Try.func153, Try.ntmps153
  go_wp2_with fail
  go_loop [8] (fun i => ∃ k : Nat, k ≤ n ∧ i = .int .i64 k ∧ x ∉ l.take k) (fun i => n - (intOf i).toNat)
  case atStart => exact ⟨0, Nat.zero_le _, rfl, by simp⟩
  case round =>
    obtain ⟨k, hk, rfl, hno⟩ := hrel
    by_cases hlt : k < n
    · obtain ⟨y, hy⟩ : ∃ y, l[k]? = some y := ⟨_, List.getElem?_eq_getElem (by have := Hlen.out; omega)⟩
      obtain ⟨b, o, rfl, hb, e0⟩ := HL.out.sl.int hy
      have Hy := Lib.hid hy
      have Hno := Lib.hid hno
      clear hy hno
      cases hc : (x == y)
      · have hst : x ∉ l.take (k + 1) := by
          rw [List.take_add_one, Hy.out]
          simp only [Option.toList_some, List.mem_append, List.mem_singleton]
          rintro (h | h)
          · exact Hno.out h
          · simp [h] at hc
        have Hst := Lib.hid hst
        clear hst
        go_wp2_with fail
        go_round
        case rel => exact ⟨k + 1, by omega, by go_num, Hst.out⟩
        case measure => simp [intOf]; omega
      · have hst : x ∈ l := by have : x = y := by simpa using hc
                               rw [this]; exact List.mem_of_getElem? Hy.out
        have Hst := Lib.hid hst
        clear hst
        go_wp2_with fail
        go_ret
        exact ⟨k, rfl, ⟨fun _ => Hst.out, fun _ => by omega⟩, rfl⟩
    · obtain rfl : k = n := by omega
      have Hno := Lib.hid hno
      clear hno
      go_wp2_with fail
      go_ret
      refine ⟨-1, rfl, ⟨fun h => absurd h (by omega), fun h => ?_⟩, rfl⟩
      have := Hno.out
      rw [List.take_of_length_le (by have := Hlen.out; omega)] at this
      exact absurd h this
theorem containsInt_any {A : Option Addr} {n c : Nat} (l : List Int) (x : Int) (w : World) (hL : SlAt w 1 A n c (ints l)) :
    Calls Try.prog 123 #[.slice A n c, .int .i64 x] w fun e w' => e = .returned (.bool (decide (x ∈ l))) ∧ w = w' := by
  have HL := Lib.hid hL
  clear hL
  go_enter Try.func123, Try.ntmps123
  go_wp2_with fail
  refine (indexInt_any l x _ HL.out).mono ?_
  rintro e w1 ⟨r, rfl, hr, rfl⟩
  have Hr := Lib.hid hr
  clear hr
  go_wp2_with fail
  go_ret
  exact ⟨ret_bool (decide_eq_decide.2 Hr.out), rfl⟩
theorem l02Has_any {A : Option Addr} {n c : Nat} (l : List Int) (x : Int) (w : World) (hL : SlAt w 1 A n c (ints l)) :
    Calls Try.prog 124 #[.slice A n c, .int .i64 x] w fun e w' => e = .returned (.bool (decide (x ∈ l))) ∧ w = w' := by
  have hlen := hL.sl.ilen
  have Hlen := Lib.hid hlen
  have hm := hL.small
  have HL := Lib.hid hL
  clear hL hlen
  go_enter Try.func124, Try.ntmps124
  go_wp2_with fail
  go_loop [5] (fun i => ∃ k : Nat, k ≤ n ∧ i = .int .i64 k ∧ x ∉ l.take k) (fun i => n - (intOf i).toNat)
  case atStart => exact ⟨0, Nat.zero_le _, rfl, by simp⟩
  case round =>
    obtain ⟨k, hk, rfl, hno⟩ := hrel
    by_cases hlt : k < n
    · obtain ⟨y, hy⟩ : ∃ y, l[k]? = some y := ⟨_, List.getElem?_eq_getElem (by have := Hlen.out; omega)⟩
      obtain ⟨b, o, rfl, hb, e0⟩ := HL.out.sl.int hy
      have Hy := Lib.hid hy
      have Hno := Lib.hid hno
      clear hy hno
      cases hc : (y == x)
      · have hst : x ∉ l.take (k + 1) := by
          rw [List.take_add_one, Hy.out]
          simp only [Option.toList_some, List.mem_append, List.mem_singleton]
          rintro (h | h)
          · exact Hno.out h
          · simp [h] at hc
        have Hst := Lib.hid hst
        clear hst
        go_wp2_with fail
        go_round
        case rel => exact ⟨k + 1, by omega, by go_num, Hst.out⟩
        case measure => simp [intOf]; omega
      · have hst : x ∈ l := by have : y = x := by simpa using hc
                               rw [← this]; exact List.mem_of_getElem? Hy.out
        have Hst := Lib.hid hst
        clear hst
        go_wp2_with fail
        go_ret
        exact ⟨ret_bool (by simp [Hst.out]), rfl⟩
    · obtain rfl : k = n := by omega
      have Hno := Lib.hid hno
      clear hno
      go_wp2_with fail
      go_ret
      refine ⟨ret_bool ?_, rfl⟩
      have := Hno.out
      rw [List.take_of_length_le (by have := Hlen.out; omega)] at this
      simp [this]
theorem mem_casts {l : List Nat} {v : Nat} : ((v : Int) ∈ l.map fun (x : Nat) => (x : Int)) ↔ v ∈ l := by
  simp only [List.mem_map]
  constructor
  · rintro ⟨a, ha, e⟩
    have : a = v := by omega
    rw [← this]; exact ha
  · intro h; exact ⟨v, h, rfl⟩

end Go.Proofs.Ytejfpajbkgfiaaa
/-
  The full flow of the reference.
-/
namespace Go.Proofs.Ytejfpajbkgfiaaa
open Go.ChangeShapes Go.WideShapes Go.ChangeAt Go.RowKit

def memTo (ord : List Nat) (k : Nat) : List Nat := (List.range k).filter fun v => decide (v ∈ ord)
theorem memTo_yes {ord : List Nat} {k : Nat} (h : k ∈ ord) : memTo ord (k + 1) = memTo ord k ++ [k] := by
  simp [memTo, List.range_succ, List.filter_append, h]
theorem memTo_no {ord : List Nat} {k : Nat} (h : k ∉ ord) : memTo ord (k + 1) = memTo ord k := by
  simp [memTo, List.range_succ, List.filter_append, h]
theorem memTo_len (ord : List Nat) (k : Nat) : (memTo ord k).length ≤ k := by
  have := List.length_filter_le (fun v => decide (v ∈ ord)) (List.range k)
  simpa [memTo] using this
theorem lfOf_len (es : List Ed) (N node to : Nat) (fl : List Int) : (lfOf es N node to fl).length = N := by simp [lfOf]
theorem lfOf_bnd {es : List Ed} {N node to : Nat} (hn : node < N) (ht : to < N) (hne : to ≠ node) {fl : List Int} (h1 : 0 ≤ outOf es fl node) (h2 : outOf es fl node ≤ 1200000) : BndL 1000000000 (lfOf es N node to fl) := by
  intro k z hz
  have hk : k < N := by have := (List.getElem?_eq_some_iff.1 hz).1; rw [lfOf_len] at this; exact this
  have e : (lfOf es N node to fl).getD k 0 = z := by rw [List.getD_eq_getElem?_getD, hz]; rfl
  by_cases e1 : k = to
  · rw [e1, lfOf_to ht] at e; omega
  · by_cases e2 : k = node
    · rw [e2, lfOf_node hn hne] at e; omega
    · rw [lfOf_other e2 e1] at e; omega
theorem lfOf_zero (es : List Ed) (N node to : Nat) : lfOf es N node to (List.replicate es.length 0) = ((List.replicate N (0 : Int)).set node 1200000).set to (-1200000) := by
  rw [lfOf, outOf_zero]; rfl

end Go.Proofs.Ytejfpajbkgfiaaa
/-
  GreatestFlow, of the program and of the reference.
-/
namespace Go.Proofs.Ytejfpajbkgfiaaa
open Go.ChangeShapes Go.WideShapes Go.ChangeAt Go.RowKit

def inN (n : GNet) (v : Int) : Bool := inB 0 v ((n.nodes.length : Int) - 1)
def ndCode (n : GNet) (l : List Int) : Int := if netOk n = true then (if l.all (inN n) = true then 0 else 2) else 1
theorem all_take_step {p : Int → Bool} {l : List Int} {k : Nat} {x : Int} (hx : l[k]? = some x) (h : (l.take k).all p = true) (hp : p x = true) : (l.take (k + 1)).all p = true := by
  rw [List.take_add_one, hx]
  simp only [Option.toList_some, List.all_append, h, List.all_cons, List.all_nil, hp, Bool.and_self]
theorem all_bad {p : Int → Bool} {l : List Int} {k : Nat} {x : Int} (hx : l[k]? = some x) (hp : p x = false) : l.all p = false := by
  rw [List.all_eq_false]
  exact ⟨x, List.mem_of_getElem? hx, by simp [hp]⟩
set_option maxRecDepth 100000 in
theorem checkNodes_any {A1 A2 A : Option Addr} {n1 c1 n2 c2 m c : Nat} (n : GNet) (l : List Int) (w : World) (hA : NetAt w A1 n1 c1 A2 n2 c2 n) (hL : SlAt w 1 A m c (ints l)) :
    Calls Try.prog 140 #[.agg #[.slice A1 n1 c1, .slice A2 n2 c2], .slice A m c] w fun e w' => e = .returned (.int .i64 (ndCode n l)) ∧ Gr w w' := by
  have hm1 := hA.m1
  have hl1 := hA.l1
  have hm := hL.small
  have hlen := hL.sl.ilen
  have Hlen := Lib.hid hlen
  have HA := Lib.hid hA
  have HL := Lib.hid hL
  have Hl1 := Lib.hid hl1
  clear hA hL hlen hl1
  go_enter Try.func140, Try.ntmps140
  go_wp2_with fail
  refine (IsNetwork_any _ _ _ _ _ _ n _ (HA.out.gr ((Gr.refl _).alloc _))).mono ?_
  rintro e w1 ⟨rfl, hg1⟩
  have b0 : w1.cell? ⟨w.heap.size, 0, none⟩ = some (.slice A1 n1 c1) := hg1.has (by simp [go_sem])
  have b1 : w1.cell? ⟨w.heap.size, 1, none⟩ = some (.slice A2 n2 c2) := hg1.has (by simp [go_sem])
  have hgw1 : Gr w w1 := ((Gr.refl _).alloc _).trans hg1
  clear hg1
  cases hok : netOk n with
  | false =>
    have Hok := Lib.hid hok
    clear hok
    go_wp2_with fail
    go_ret
    exact ⟨ret_int (by rw [ndCode, if_neg (by rw [Hok.out]; simp)]), hgw1⟩
  | true =>
    have Hok := Lib.hid hok
    clear hok
    go_wp2_with fail
    go_loopw [12] (fun i wr => ∃ k : Nat, k ≤ m ∧ i = .int .i64 k ∧ (l.take k).all (inN n) = true ∧ Gr w wr ∧ wr.cell? ⟨w.heap.size, 0, none⟩ = some (.slice A1 n1 c1) ∧ wr.cell? ⟨w.heap.size, 1, none⟩ = some (.slice A2 n2 c2)) (fun i _ => m - (intOf i).toNat)
    case atStart => exact ⟨0, Nat.zero_le _, rfl, rfl, hgw1, b0, b1⟩
    case round =>
      obtain ⟨k, hk, rfl, hall, hgr, x0, x1⟩ := hrel
      have Hall := Lib.hid hall
      clear hall b0 b1 hgw1
      by_cases hlt : k < m
      · obtain ⟨x, hx⟩ : ∃ x, l[k]? = some x := ⟨_, List.getElem?_eq_getElem (by have := Hlen.out; omega)⟩
        obtain ⟨b, o, rfl, hb, e0⟩ := (HL.out.sl.gr hgr).int hx
        have Hx := Lib.hid hx
        clear hx
        go_wp2_with fail
        refine (isNodeOf_any A1 A2 n1 c1 n2 c2 x _ hm1).mono ?_
        rintro e w2 ⟨rfl, hg2⟩
        have y0 := hg2.has x0
        have y1 := hg2.has x1
        have hin : inN n x = inB 0 x (n1 - 1) := by rw [inN, Hl1.out]
        rw [← hin]
        clear hin
        cases hc : inN n x with
        | true =>
          have Hc := Lib.hid hc
          clear hc
          go_wp2_with fail
          go_roundw
          case rel => exact ⟨k + 1, by omega, by go_num, all_take_step Hx.out Hall.out Hc.out, hgr.trans hg2, y0, y1⟩
          case measure => simp [intOf]; omega
        | false =>
          have Hc := Lib.hid hc
          clear hc
          go_wp2_with fail
          go_ret
          exact ⟨ret_int (by rw [ndCode, if_pos Hok.out, if_neg (by rw [all_bad Hx.out Hc.out]; simp)]), hgr.trans hg2⟩
      · obtain rfl : k = m := by omega
        go_wp2_with fail
        go_ret
        have h := Hall.out
        rw [List.take_of_length_le (by have := Hlen.out; omega)] at h
        exact ⟨ret_int (by rw [ndCode, if_pos Hok.out, if_pos h]), hgr⟩
def gfCode (n : GNet) (a b : Int) : Int := if netOk n = true then (if (inN n a && inN n b && !(a == b)) = true then 0 else 2) else 1
theorem inN_iff {n : GNet} {v : Int} : inN n v = true ↔ 0 ≤ v ∧ v ≤ (n.nodes.length : Int) - 1 := inB_iff
theorem gfCode_zero {n : GNet} {a b : Int} (h : gfCode n a b = 0) : netOk n = true ∧ inN n a = true ∧ inN n b = true ∧ a ≠ b := by
  unfold gfCode at h
  split at h
  · rename_i h1
    split at h
    · rename_i h2
      simp only [Bool.and_eq_true, Bool.not_eq_true', beq_eq_false_iff_ne, ne_eq] at h2
      exact ⟨h1, h2.1.1, h2.1.2, h2.2⟩
    · omega
  · omega
noncomputable def gfVal (n : GNet) (a b : Int) : Int := if gfCode n a b = 0 then outOf (eds n.pipes) (mfl (eds n.pipes) n.nodes.length a.toNat b.toNat) a.toNat else 0
theorem nd_gf {n : GNet} {a b : Int} : gfCode n a b = if ndCode n [a, b] = 0 then (if a = b then 2 else 0) else ndCode n [a, b] := by
  unfold gfCode ndCode
  cases netOk n with
  | false => simp
  | true =>
    cases ha : inN n a <;> cases hb : inN n b <;> by_cases h : a = b <;> simp [ha, hb, h] <;> (subst h; simp_all)
end Go.Proofs.Ytejfpajbkgfiaaa
