/-
  Leaves: ranges, names, nodes, pipes.
-/
import Derived.Test.YthhmhigddmimjaaGreatCore
namespace Go.Proofs.YthhmhigddmimjaaGreat
open Go.ChangeShapes Go.WideShapes Go.ChangeAt Go.RowKit

theorem l01In_any (n a b : Int) (w : World) : Calls Tryz.prog 117 #[.int .i64 n, .int .i64 a, .int .i64 b] w fun e w' => e = .returned (.bool (inB a n b)) ∧ w = w' := by
  go_enter Tryz.func117, Tryz.ntmps117
  go_wp2
  all_goals
    go_ret
    exact ⟨ret_bool (by simp [inB]; try omega), rfl⟩
theorem within_any (n a b : Int) (w : World) : Calls Tryz.prog 69 #[.int .i64 n, .int .i64 a, .int .i64 b] w fun e w' => e = .returned (.bool (inB a n b)) ∧ w = w' := by
  go_enter Tryz.func69, Tryz.ntmps69
  go_wp2
  all_goals
    go_ret
    exact ⟨ret_bool (by simp [inB]; try omega), rfl⟩
theorem isName_any (s : ByteArray) (w : World) (hs : s.size ≤ maxLen) : Calls Tryz.prog 119 #[.string s] w fun e w' => e = .returned (.bool (nameOk s)) ∧ w = w' := by
  unfold maxLen at hs
  by_cases h : 1 ≤ s.size ∧ s.size ≤ 8
  · obtain ⟨h1, h2⟩ := h
    have d1 : decide ((s.size : Int) < 1) = false := by simp; omega
    have d2 : decide ((8 : Int) < (s.size : Int)) = false := by simp; omega
    go_enter Tryz.func119, Tryz.ntmps119
    go_wp2_with fail
    go_loop [3] (fun i => ∃ k : Nat, k ≤ s.size ∧ i = .int .i64 k ∧ ∀ j (hj : j < s.size), j < k → byteOk s[j] = true) (fun i => s.size - (intOf i).toNat)
    case atStart => exact ⟨0, Nat.zero_le _, rfl, fun j _ h => absurd h (by omega)⟩
    case round =>
      obtain ⟨k, hk, rfl, hall⟩ := hrel
      have Hall := Lib.hid hall
      clear hall
      by_cases hlt : k < s.size
      · rcases byteOk_cases s[k] with ⟨hc, hok⟩ | ⟨⟨hc, hc'⟩, hok⟩ | ⟨⟨hc, hc'⟩, hok⟩ | ⟨⟨hc, hc'⟩, hok⟩ | ⟨hc, hok⟩
        all_goals
          have Hok := Lib.hid hok
          clear hok
          first
            | have t2 : decide ((s[k].toNat : Int) ≤ 57) = true := by simp; omega
            | have t2 : decide ((s[k].toNat : Int) ≤ 57) = false := by simp; omega
          first
            | have t3 : decide ((s[k].toNat : Int) ≤ 122) = true := by simp; omega
            | have t3 : decide ((s[k].toNat : Int) ≤ 122) = false := by simp; omega
          go_wp2_with fail
        all_goals first
          | (go_ret
             exact ⟨ret_bool (nameOk_bad hlt Hok.out).symm, rfl⟩)
          | (go_round
             case rel => exact ⟨k + 1, by omega, by go_num, fun j hj hjk => by
               by_cases e : j = k
               · subst e; exact Hok.out
               · exact Hall.out j hj (by omega)⟩
             case measure => simp [intOf]; omega)
      · obtain rfl : k = s.size := by omega
        go_wp2_with fail
        go_ret
        exact ⟨ret_bool (nameOk_good h1 h2 (fun j hj => Hall.out j hj hj)).symm, rfl⟩
  · rw [nameOk_size h]
    by_cases h1 : 1 ≤ s.size
    · have h2 : 8 < s.size := by omega
      clear h
      go_enter Tryz.func119, Tryz.ntmps119
      go_wp2_with fail
      go_ret
      exact ⟨rfl, rfl⟩
    · clear h
      go_enter Tryz.func119, Tryz.ntmps119
      go_wp2_with fail
      go_ret
      exact ⟨rfl, rfl⟩
theorem l02Name_any (s : ByteArray) (w : World) (hs : s.size ≤ maxLen) : Calls Tryz.prog 136 #[.string s] w fun e w' => e = .returned (.bool (nameOk s)) ∧ w = w' := by
  unfold maxLen at hs
  go_enter Tryz.func136, Tryz.ntmps136
  go_wp2_with fail
  go_loop [3] (fun i => ∃ k : Nat, k ≤ s.size ∧ i = .int .i64 k ∧ ∀ j (hj : j < s.size), j < k → byteOk s[j] = true) (fun i => s.size - (intOf i).toNat)
  case atStart => exact ⟨0, Nat.zero_le _, rfl, fun j _ h => absurd h (by omega)⟩
  case round =>
      obtain ⟨k, hk, rfl, hall⟩ := hrel
      have Hall := Lib.hid hall
      clear hall
      by_cases hlt : k < s.size
      · rcases byteOk_cases s[k] with ⟨hc, hok⟩ | ⟨⟨hc, hc'⟩, hok⟩ | ⟨⟨hc, hc'⟩, hok⟩ | ⟨⟨hc, hc'⟩, hok⟩ | ⟨hc, hok⟩
        all_goals
          have Hok := Lib.hid hok
          clear hok
          first
            | have t2 : decide ((s[k].toNat : Int) ≤ 57) = true := by simp; omega
            | have t2 : decide ((s[k].toNat : Int) ≤ 57) = false := by simp; omega
          first
            | have t3 : decide ((s[k].toNat : Int) ≤ 122) = true := by simp; omega
            | have t3 : decide ((s[k].toNat : Int) ≤ 122) = false := by simp; omega
          go_wp2_with fail
        all_goals first
          | (go_ret
             exact ⟨ret_bool (nameOk_bad hlt Hok.out).symm, rfl⟩)
          | (go_round
             case rel => exact ⟨k + 1, by omega, by go_num, fun j hj hjk => by
               by_cases e : j = k
               · subst e; exact Hok.out
               · exact Hall.out j hj (by omega)⟩
             case measure => simp [intOf]; omega)
      · obtain rfl : k = s.size := by omega
        by_cases h1 : 1 ≤ s.size
        · by_cases h2 : s.size ≤ 8
          · go_wp2_with fail
            go_ret
            exact ⟨ret_bool (by rw [nameOk_good h1 h2 (fun j hj => Hall.out j hj hj)]; simp; omega), rfl⟩
          · go_wp2_with fail
            go_ret
            exact ⟨ret_bool (by rw [nameOk_size (by omega)]; simp; omega), rfl⟩
        · go_wp2_with fail
          go_ret
          exact ⟨ret_bool (nameOk_size (by omega)).symm, rfl⟩
theorem IsNode_any (x : GNode) (w : World) (hs : x.name.size ≤ maxLen) : Calls Tryz.prog 91 #[.agg #[.string x.name, .int .i64 x.low, .int .i64 x.high]] w fun e w' => e = .returned (.bool (nodeOk x)) ∧ Gr w w' := by
  have Hs := Lib.hid hs
  clear hs
  go_enter Tryz.func91, Tryz.ntmps91
  go_wp2_with (go_at_call 119; refine (isName_any _ _ Hs.out).mono ?_; rintro e w' ⟨rfl, rfl⟩)
  all_goals
    go_ret
    exact ⟨ret_bool (by simp [nodeOk, *]; try omega), (Gr.refl _).alloc _⟩
theorem spIsNode_any (x : GNode) (w : World) (hs : x.name.size ≤ maxLen) : Calls Tryz.prog 115 #[.agg #[.string x.name, .int .i64 x.low, .int .i64 x.high]] w fun e w' => e = .returned (.bool (nodeOk x)) ∧ Gr w w' := by
  have Hs := Lib.hid hs
  clear hs
  go_enter Tryz.func115, Tryz.ntmps115
  go_wp2_with (go_at_call 136; refine (l02Name_any _ _ Hs.out).mono ?_; rintro e w' ⟨rfl, rfl⟩)
  all_goals
    go_ret
    exact ⟨ret_bool (by simp [nodeOk, *]; try omega), (Gr.refl _).alloc _⟩
theorem isNodeOf_any (A1 A2 : Option Addr) (n1 c1 n2 c2 : Nat) (k : Int) (w : World) (hn : n1 ≤ 1048576) : Calls Tryz.prog 93 #[.agg #[.slice A1 n1 c1, .slice A2 n2 c2], .int .i64 k] w fun e w' => e = .returned (.bool (inB 0 k (n1 - 1))) ∧ Gr w w' := by
  go_enter Tryz.func93, Tryz.ntmps93
  go_wp2_with (go_at_call 69; refine (within_any _ _ _ _).mono ?_; rintro e w' ⟨rfl, rfl⟩)
  go_ret
  exact ⟨rfl, (Gr.refl _).alloc _⟩
theorem l02Pipe_any (p : GPipe) (nn : Int) (w : World) (h1 : 0 ≤ nn) (h2 : nn ≤ 1048576) : Calls Tryz.prog 116 #[.agg #[.int .i64 p.src, .int .i64 p.dst, .int .i64 p.k, .int .i64 p.vol, .int .i64 p.lim], .int .i64 nn] w fun e w' => e = .returned (.bool (pipeOk nn p)) ∧ Gr w w' := by
  go_enter Tryz.func116, Tryz.ntmps116
  go_wp2_with (go_at_call 117; refine (l01In_any _ _ _ _).mono ?_; rintro e w' ⟨rfl, rfl⟩)
  all_goals
    go_ret
    exact ⟨ret_bool (by simp [pipeOk, *] <;> rfl), (Gr.refl _).alloc _⟩
end Go.Proofs.YthhmhigddmimjaaGreat
