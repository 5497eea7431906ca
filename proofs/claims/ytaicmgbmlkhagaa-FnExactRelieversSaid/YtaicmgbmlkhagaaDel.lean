/-
  One element of a row of numbers is deleted: slices.Delete.
-/
import Derived.Test.YtaicmgbmlkhagaaConfM
import Derived.Deep.RegionLaw
import Derived.Lib.SliceRun
namespace Go.Proofs.Ytaicmgbmlkhagaa
open Go.ChangeShapes Go.WideShapes Go.ChangeAt Go.RowKit

theorem grown_then {a b c : World} {r : Option Nat} (h : a.grownBy b r) (k : b.grownBy c r) : a.grownBy c r :=
  ⟨k.os.trans h.os, k.tape.trans h.tape, k.output.trans h.output, Nat.le_trans h.size k.size, fun j hj hn => (k.block j (Nat.lt_of_lt_of_le hj h.size) hn).trans (h.block j hj hn)⟩
theorem own_setCells {base : Nat} {e : TypeId} {n c g : Nat} (ys : List Value) : ∀ {w : World} {xs : List Value} (k : Nat) (_ : w.ownsRow base e 1 (.slice (some ⟨g, 0, none⟩) n c) n xs) (_ : k + ys.length ≤ n),
    (w.setCells g k ys).ownsRow base e 1 (.slice (some ⟨g, 0, none⟩) n c) n (xs.take k ++ ys ++ xs.drop (k + ys.length)) ∧ w.grownBy (w.setCells g k ys) (some g) := by
  induction ys with
  | nil => intro w xs k h _; simpa [World.setCells] using ⟨h, World.grownBy.refl w _⟩
  | cons y ys ih =>
    intro w xs k h hk
    have hl : xs.length = n := by simpa using h.1
    obtain ⟨h1, h2⟩ := h.stored k y
    simp only [List.length_cons] at hk
    obtain ⟨h3, h4⟩ := ih (k + 1) h1 (by omega)
    refine ⟨?_, grown_then h2 h4⟩
    have e1 : (xs.set k y).take (k + 1) = xs.take k ++ [y] := by
      rw [List.take_add_one, List.getElem?_set_self (by omega), List.take_set]
      rw [List.set_eq_of_length_le (by rw [List.length_take]; omega)]; rfl
    have e2 : (xs.set k y).drop (k + 1 + ys.length) = xs.drop (k + (ys.length + 1)) := by
      rw [List.drop_set_of_lt (by omega)]; congr 1; omega
    rw [e1, e2] at h3
    simpa [World.setCells] using h3
theorem own_short {w : World} {base : Nat} {e : TypeId} {n m c g : Nat} {xs : List Value} (h : w.ownsRow base e 1 (.slice (some ⟨g, 0, none⟩) n c) n xs) (hm : m ≤ n) : w.ownsRow base e 1 (.slice (some ⟨g, 0, none⟩) m c) m (xs.take m) := by
  have hl : xs.length = n := by simpa using h.1
  refine ⟨by simp; omega, ?_⟩
  rcases h.2 with ⟨h', _⟩ | ⟨g', cap', cur, h', hb, hg, hnc, hcm, hcs, htake⟩
  · simp at h'
  · simp only [Value.slice.injEq, Option.some.injEq, Addr.mk.injEq, and_true, true_and] at h'
    obtain ⟨rfl, rfl⟩ := h'
    refine .inr ⟨g, c, cur, rfl, hb, hg, by omega, hcm, hcs, ?_⟩
    rw [← htake, List.take_take, Nat.mul_one, Nat.mul_one, Nat.min_eq_left hm]
theorem ints_take (l : List Int) (k : Nat) : (ints l).take k = ints (l.take k) := by simp [ints]
theorem ints_drop (l : List Int) (k : Nat) : (ints l).drop k = ints (l.drop k) := by simp [ints]
theorem ints_app (a b : List Int) : ints a ++ ints b = ints (a ++ b) := by simp [ints]
theorem zero_run {P : Program} {e : TypeId} {i0 : TypeInfo} {z : Value} (hi : P.info? e = some i0) (hz : i0.zero = some z) (W : World) : (zeroValue e).run P W = .ok z W := by
  simp [zeroValue, typeInfo, go_sem, hi, hz]
theorem int_one (x : Int) : (Value.int .i64 x).oneCell' = true := rfl
set_option maxHeartbeats 2000000 in
set_option maxRecDepth 100000 in
theorem deleteInt_any {base g n c : Nat} (zs : List Int) (i : Nat) (v : Int) (w : World) (h : w.ownsRow base 2 1 (.slice (some ⟨g, 0, none⟩) n c) n (ints zs)) (hi : i < n) (hn : n ≤ 1048576) (hv : v = ((i + 1 : Nat) : Int)) :
    Calls Try.prog 97 #[.slice (some ⟨g, 0, none⟩) n c, .int .i64 i, .int .i64 v] w fun e w' => e = .returned (.slice (some ⟨g, 0, none⟩) (n - 1) c) ∧ w'.ownsRow base 2 1 (.slice (some ⟨g, 0, none⟩) (n - 1) c) (n - 1) (ints (cutAt zs i)) ∧ w.grownBy w' (some g) := by
  subst hv
  obtain ⟨j, hj⟩ : ∃ j, j = i + 1 := ⟨_, rfl⟩
  rw [← hj]
  obtain ⟨i0, hi0, hz0, hz1, hz2⟩ := info_parts infoInt64
  obtain ⟨hcap, hcm⟩ := own_cap h
  unfold maxLen at hcm
  have hlen := own_ilen h
  have zv : ∀ W : World, (zeroValue 2).run Try.prog W = .ok (.int .i64 0) W := zero_run hi0 hz0
  obtain ⟨news, hnews⟩ : ∃ news, news = ints (zs.drop j) := ⟨_, rfl⟩
  have hnl : news.length = n - j := by rw [hnews]; simp [ints, hlen]
  have hcell : ∀ t, t < n → w.cell? ⟨g, t, none⟩ = some (.int .i64 (zs.getD t 0)) ∧ w.frozen? ⟨g, t, none⟩ = false := fun t ht => own_int h (get_of_lt (by omega))
  obtain ⟨A, hA, hsrc⟩ : ∃ A : Addr, (if c = j then some (⟨g, 0, none⟩ : Addr) else some ⟨g, j, none⟩) = some A ∧ Hid (∀ t u, news[t]? = some u → w.drew.cell? (A.add t) = some u) := by
    by_cases hc : c = j
    · refine ⟨⟨g, 0, none⟩, by simp [hc], fun t u hu => ?_⟩
      have h0 : news.length = 0 := by omega
      rw [List.length_eq_zero_iff.1 h0] at hu
      simp at hu
    · refine ⟨⟨g, j, none⟩, by simp [hc], fun t u hu => ?_⟩
      have ht : t < n - j := by
        have := (List.getElem?_eq_some_iff.1 hu).1
        rwa [hnl] at this
      have hu' : (zs.drop j)[t]? = some (zs.getD (j + t) 0) := by rw [List.getElem?_drop]; exact get_of_lt (by omega)
      rw [hnews, ints, List.getElem?_map, hu'] at hu
      rw [Addr.add_lit]
      exact (hcell (j + t) (by omega)).1.trans hu
  have s1 : Hid (news.length = (n - j) * 1) := by rw [Nat.mul_one]; exact hnl
  have s2 : Hid (∀ u ∈ news, u.oneCell' = true) := by
    intro u hu
    rw [hnews, ints] at hu
    obtain ⟨x, _, rfl⟩ := List.mem_map.1 hu
    rfl
  have s3 : Hid (∀ t, t < news.length → (w.drew.cell? ⟨g, 0 + i * 1 + t, none⟩).isSome = true ∧ w.drew.frozen? ⟨g, 0 + i * 1 + t, none⟩ = false) := by
    intro t ht
    have := hcell (i + t) (by omega)
    rw [Nat.mul_one, Nat.zero_add]
    exact ⟨by show (w.cell? _).isSome = true; rw [this.1]; rfl, this.2⟩
  obtain ⟨W1, hW1⟩ : ∃ W1, W1 = w.drew.setCells g (0 + i * 1) news := ⟨_, rfl⟩
  obtain ⟨R1, R2⟩ := own_setCells news i (World.ownsRow.drew h) (by omega)
  have hW : Hid (W1 = w.drew.setCells g (0 + i * 1) news) := hW1
  rw [Nat.mul_one, Nat.zero_add] at hW1
  rw [← hW1] at R1 R2
  have hsum : i + (n - j) = n - 1 := by omega
  have hone : n - (i + (n - j)) = 1 := by omega
  have hcl : ∀ ty, (Builtin.clear_ #[26] ty #[.slice (some ⟨g, i + (n - j), none⟩) (n - (i + (n - j))) (c - (i + (n - j)))]).run Try.prog W1 = .ok (.tuple #[]) (W1.setCells g (n - 1) (List.replicate 1 (.int .i64 0))) := fun ty => by
    have hown1 : ∀ t, t < n → ∃ u, W1.cell? ⟨g, t, none⟩ = some u ∧ W1.frozen? ⟨g, t, none⟩ = false := by
      intro t ht
      have hl1 : ((ints zs).take i ++ news ++ (ints zs).drop (i + news.length)).length = n := by simpa using R1.1
      exact ⟨_, (R1.cellAt t (by omega)).trans (List.getElem?_eq_getElem (by rw [hl1]; exact ht)), R1.frozenAt t⟩
    rw [hone, hsum]
    exact Lib.run_clear_slice W1 _ _ ty _ Try.underlying26 zv rfl rfl g (n - 1) 1 _ (by omega) (fun t ht => by obtain ⟨u, h1, _⟩ := hown1 (n - 1 + t) (by omega); rw [h1]; rfl) (fun t ht => by obtain ⟨u, _, h1⟩ := hown1 (n - 1 + t) (by omega); exact h1)
  obtain ⟨R3, R4⟩ := own_setCells (List.replicate 1 (Value.int .i64 0)) (n - 1) R1 (by simp; omega)
  have R5 := own_short R3 (Nat.sub_le n 1)
  have hR : ((((ints zs).take i ++ news ++ (ints zs).drop (i + news.length)).take (n - 1) ++ List.replicate 1 (Value.int .i64 0) ++ ((ints zs).take i ++ news ++ (ints zs).drop (i + news.length)).drop (n - 1 + (List.replicate 1 (Value.int .i64 0)).length)).take (n - 1)) = ints (cutAt zs i) := by
    have e1 : ((ints zs).take i ++ news).length = n - 1 := by simp [hnl, ints, hlen]; omega
    rw [List.take_append_of_le_length (by simp [hnl, ints, hlen]; omega), List.take_append_of_le_length (by simp [hnl, ints, hlen]; omega), List.take_take, Nat.min_self, List.take_append_of_le_length (by omega), List.take_of_length_le (by omega), hnews, hj, ints_take, ints_app]; rfl
  rw [hR] at R5
  have hd : w.grownBy w.drew (some g) := ⟨rfl, rfl, rfl, Nat.le_refl _, fun _ _ _ => rfl⟩
  have hgw : w.grownBy (W1.setCells g (n - 1) (List.replicate 1 (Value.int .i64 0))) (some g) := grown_then (grown_then hd R2) R4
  have Hf := Lib.hid (And.intro R5 hgw)
  have hic : i ≤ c := by omega
  have hjc : j ≤ c := by omega
  have hin : j ≤ n := by omega
  have hij : i < j := by omega
  have hlow : ¬ c = i + (n - j) := by omega
  have heq : ¬ i = j := by omega
  have Hsum := Lib.hid hsum
  clear R1 R2 R3 R4 R5 hR hgw hW1 hcell hnews hnl h hlen zv hd hj hsum hone
  go_enter Try.func97, Try.ntmps97
  go_wp2_with fail
  go_region_law (refine step_append_room rfl (.tmp 22) (.tmp 25) 26 rfl 2 i0 1 Try.underlying26 hi0 hz1 g 0 i c (by simp [Act.eval, Act.put]) A (n - j) (c - j) news (by simp [Act.eval, Act.put]) s1.out hsrc.out s2.out (by omega) s3.out ?_; rw [← hW.out])
  go_wp2_with fail
  go_ret
  exact ⟨by rw [Hsum.out]; rfl, Hf.out.1, Hf.out.2⟩
end Go.Proofs.Ytaicmgbmlkhagaa
