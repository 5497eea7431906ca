/-
  What the laws of one []byte argument share: the argument opened; 'big'.
-/
import Derived.Test.YtejfpajbkgfiaaaDraw1
import Derived.Test.YtejfpajbkgfiaaaOpen
set_option linter.unusedSimpArgs false
set_option linter.unusedVariables false
namespace Go.Proofs.Ytejfpajbkgfiaaa
open Go.ChangeShapes Go.WideShapes Go.ChangeAt Go.RowKit Go.Deep Go.Joins

theorem flat_byts (l : List UInt8) : l.flatMap (fun b : UInt8 => [Value.int .u8 (b.toNat : Int)]) = byts l := by
  induction l with
  | nil => rfl
  | cons x l ih => simp only [List.flatMap_cons, ih, byts, List.map_cons, List.cons_append, List.nil_append]
section
variable {H : Type} {enc : TypeId × Value → H} {w : World} {base : Nat} {spare : Nat → Bool} {held : Bool}
theorem open_bytes {fuel : Nat} {v : Value} {x : DataW H × List MemPlace} (h : DataW.trod enc Try.prog w base spare held fuel 22 [v] = some x) :
    ∃ (A : Option Addr) (n c : Nat) (l : List UInt8), v = .slice A n c ∧ n ≤ c ∧ c ≤ maxLen ∧ Sl w 1 A n (byts l) := by
  have hC : Try.prog.cellsOf 5 = 1 := by kernel_rfl
  rcases open_slice Try.underlying22 h with ⟨hcs, _⟩ | ⟨a, len, cap, m, fu, D, Pl, hcs, _, hl, hm, hmm, _, hi⟩
  · injection hcs with hcs
    exact ⟨none, 0, 0, [], hcs, Nat.le_refl _, by unfold maxLen; omega, Sl.zero _⟩
  · injection hcs with hcs
    have hlm : len ≤ m := by rw [hmm]; split <;> omega
    obtain ⟨l, _, hs⟩ := rows_of (w := w) (fun b : UInt8 => [Value.int .u8 (b.toNat : Int)]) 1 (fun _ => rfl) (by omega) (fun _ => True) a len (fun i hil => by
      obtain ⟨cs', hc, ht'⟩ := hi i (by omega)
      rw [hC] at hc
      obtain ⟨_, hcl, hat⟩ := World.cells?_some hc
      obtain ⟨z, hz, _, hwf⟩ := DataW.trod_int Try.underlying5 ht'
      subst hz
      have hzb : 0 ≤ z ∧ z ≤ 255 := by
        have := range_u8 (zs := [z]) (fun y hy => by rw [List.mem_singleton.1 hy]; exact hwf) 0
        simpa using this
      refine ⟨UInt8.ofNat z.toNat, trivial, fun j u hu => ?_⟩
      have hj : j = 0 := by
        have := (List.getElem?_eq_some_iff.1 hu).1
        simpa using this
      subst hj
      have := hat 0 (by omega)
      rw [Go.Deep.add_add] at this
      rw [this]
      have e : ((UInt8.ofNat z.toNat).toNat : Int) = z := by
        simp only [UInt8.toNat_ofNat']
        omega
      simp only [e] at hu
      exact hu)
    rw [flat_byts] at hs
    exact ⟨some a, len, cap, l, hcs, hl, hm, hs⟩
end
theorem big_any {A : Option Addr} {m c : Nat} (w : World) :
    Calls Try.prog 15 #[.slice A m c] w fun e w' => e = .returned (.bool (decide (4096 < m))) ∧ w = w' := by
  go_enter Try.func15, Try.ntmps15
  go_wp2_with fail
  go_ret
  exact ⟨ret_bool (by rw [decide_eq_decide]; omega), rfl⟩
end Go.Proofs.Ytejfpajbkgfiaaa
