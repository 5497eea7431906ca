/-
  The full flow of the program.
-/
import Derived.Test.YtdoidehlklkfaaaFlow8
import Derived.Test.YtdoidehlklkfaaaFlowM6
namespace Go.Proofs.Ytdoidehlklkfaaa
open Go.ChangeShapes Go.WideShapes Go.ChangeAt Go.RowKit

theorem indexInt_any {A : Option Addr} {n c : Nat} (l : List Int) (x : Int) (w : World) (hL : SlAt w 1 A n c (ints l)) :
    Calls Try.prog 163 #[.slice A n c, .int .i64 x] w fun e w' => ∃ r : Int, e = .returned (.int .i64 r) ∧ (0 ≤ r ↔ x ∈ l) ∧ w = w' := by
  have hlen := hL.sl.ilen
  have Hlen := Lib.hid hlen
  have hm := hL.small
  have HL := Lib.hid hL
  clear hL hlen
  go_enter Try.func163, Try.ntmps163
  go_wp2_with fail
  go_loop [8] (fun i => ∃ k : Nat, k ≤ n ∧ i = .int .i64 k ∧ x ∉ l.take k) (fun i => n - (intOf i).toNat)
  case atStart => exact ⟨0, Nat.zero_le _, rfl, by simp⟩
  case round =>
    obtain ⟨k, hk, rfl, hno⟩ := hrel
    by_cases hlt : k < n
    · obtain ⟨y, hy⟩ : ∃ y, l[k]? = some y := ⟨_, List.getElem?_eq_getElem (by have := Hlen.out; omega)⟩
      obtain ⟨b, o, rfl, hb, e0⟩ := HL.out.sl.int hy
      have Hy := Lib.hid hy
      have Hno := Lib.hid hno
      clear hy hno
      cases hc : (x == y)
      · have hst : x ∉ l.take (k + 1) := by
          rw [List.take_add_one, Hy.out]
          simp only [Option.toList_some, List.mem_append, List.mem_singleton]
          rintro (h | h)
          · exact Hno.out h
          · simp [h] at hc
        have Hst := Lib.hid hst
        clear hst
        go_wp2_with fail
        go_round
        case rel => exact ⟨k + 1, by omega, by go_num, Hst.out⟩
        case measure => simp [intOf]; omega
      · have hst : x ∈ l := by have : x = y := by simpa using hc
                               rw [this]; exact List.mem_of_getElem? Hy.out
        have Hst := Lib.hid hst
        clear hst
        go_wp2_with fail
        go_ret
        exact ⟨k, rfl, ⟨fun _ => Hst.out, fun _ => by omega⟩, rfl⟩
    · obtain rfl : k = n := by omega
      have Hno := Lib.hid hno
      clear hno
      go_wp2_with fail
      go_ret
      refine ⟨-1, rfl, ⟨fun h => absurd h (by omega), fun h => ?_⟩, rfl⟩
      have := Hno.out
      rw [List.take_of_length_le (by have := Hlen.out; omega)] at this
      exact absurd h this
theorem containsInt_any {A : Option Addr} {n c : Nat} (l : List Int) (x : Int) (w : World) (hL : SlAt w 1 A n c (ints l)) :
    Calls Try.prog 138 #[.slice A n c, .int .i64 x] w fun e w' => e = .returned (.bool (decide (x ∈ l))) ∧ w = w' := by
  have HL := Lib.hid hL
  clear hL
  go_enter Try.func138, Try.ntmps138
  go_wp2_with fail
  refine (indexInt_any l x _ HL.out).mono ?_
  rintro e w1 ⟨r, rfl, hr, rfl⟩
  have Hr := Lib.hid hr
  clear hr
  go_wp2_with fail
  go_ret
  exact ⟨ret_bool (decide_eq_decide.2 Hr.out), rfl⟩
theorem l02Has_any {A : Option Addr} {n c : Nat} (l : List Int) (x : Int) (w : World) (hL : SlAt w 1 A n c (ints l)) :
    Calls Try.prog 136 #[.slice A n c, .int .i64 x] w fun e w' => e = .returned (.bool (decide (x ∈ l))) ∧ w = w' := by
  have hlen := hL.sl.ilen
  have Hlen := Lib.hid hlen
  have hm := hL.small
  have HL := Lib.hid hL
  clear hL hlen
  go_enter Try.func136, Try.ntmps136
  go_wp2_with fail
  go_loop [5] (fun i => ∃ k : Nat, k ≤ n ∧ i = .int .i64 k ∧ x ∉ l.take k) (fun i => n - (intOf i).toNat)
  case atStart => exact ⟨0, Nat.zero_le _, rfl, by simp⟩
  case round =>
    obtain ⟨k, hk, rfl, hno⟩ := hrel
    by_cases hlt : k < n
    · obtain ⟨y, hy⟩ : ∃ y, l[k]? = some y := ⟨_, List.getElem?_eq_getElem (by have := Hlen.out; omega)⟩
      obtain ⟨b, o, rfl, hb, e0⟩ := HL.out.sl.int hy
      have Hy := Lib.hid hy
      have Hno := Lib.hid hno
      clear hy hno
      cases hc : (y == x)
      · have hst : x ∉ l.take (k + 1) := by
          rw [List.take_add_one, Hy.out]
          simp only [Option.toList_some, List.mem_append, List.mem_singleton]
          rintro (h | h)
          · exact Hno.out h
          · simp [h] at hc
        have Hst := Lib.hid hst
        clear hst
        go_wp2_with fail
        go_round
        case rel => exact ⟨k + 1, by omega, by go_num, Hst.out⟩
        case measure => simp [intOf]; omega
      · have hst : x ∈ l := by have : y = x := by simpa using hc
                               rw [← this]; exact List.mem_of_getElem? Hy.out
        have Hst := Lib.hid hst
        clear hst
        go_wp2_with fail
        go_ret
        exact ⟨ret_bool (by simp [Hst.out]), rfl⟩
    · obtain rfl : k = n := by omega
      have Hno := Lib.hid hno
      clear hno
      go_wp2_with fail
      go_ret
      refine ⟨ret_bool ?_, rfl⟩
      have := Hno.out
      rw [List.take_of_length_le (by have := Hlen.out; omega)] at this
      simp [this]
theorem mem_casts {l : List Nat} {v : Nat} : ((v : Int) ∈ l.map fun (x : Nat) => (x : Int)) ↔ v ∈ l := by
  simp only [List.mem_map]
  constructor
  · rintro ⟨a, ha, e⟩
    have : a = v := by omega
    rw [← this]; exact ha
  · intro h; exact ⟨v, h, rfl⟩

set_option maxHeartbeats 3200000 in
set_option maxRecDepth 100000 in
theorem fullFlow_any {A1 A2 : Option Addr} {n1 c1 n2 c2 : Nat} (n : GNet) (node to : Nat) (w : World) (hA : NetAt w A1 n1 c1 A2 n2 c2 n) (hok : netOk n = true) (hn : node < n1) (hne : to ≠ node) :
    Calls Try.prog 90 #[.agg #[.slice A1 n1 c1, .slice A2 n2 c2], .int .i64 node, .int .i64 to] w fun e w' => ∃ g F, e = .returned (.tuple #[.pointer (some ⟨g, 0, none⟩), .int .i64 (outOf (eds n.pipes) (mfl (eds n.pipes) n1 node to) node)]) ∧
      RtAt w' g A1 n1 c1 A2 n2 c2 (some ⟨F, 0, none⟩) n2 n2 (.slice none 0 0) ∧ w'.ownsRow w.heap.size 2 1 (.slice (some ⟨F, 0, none⟩) n2 n2) n2 (ints (mfl (eds n.pipes) n1 node to)) ∧ Keeps (eds n.pipes) (mfl (eds n.pipes) n1 node to) ∧ Gr w w' := by
  obtain ⟨i0, hi0, hz0, hz1, hz2⟩ := info_parts infoInt64
  have hm1 := hA.m1
  have hm2 := hA.m2
  have hEs : EsOk (eds n.pipes) n1 := by have := eds_ok hok; rw [hA.l1] at this; exact this
  have hel : (eds n.pipes).length = n2 := by rw [eds, List.length_map]; exact hA.l2
  have hel40 : n2 ≤ 40 := by have := (netOk_all hok).1.2.2; rw [hA.l2] at this; exact this
  have HEs := Lib.hid hEs
  have HA := Lib.hid hA
  have Hok := Lib.hid hok
  have Hel := Lib.hid hel
  clear hA hok hEs hel
  go_enter Try.func90, Try.ntmps90
  go_wp2_with fail
  obtain ⟨w0, hw0⟩ : ∃ w0, w0 = w.alloc (.cells #[.slice A1 n1 c1, .slice A2 n2 c2] 33) := ⟨_, rfl⟩
  have hgr0 : Gr w w0 := by rw [hw0]; exact (Gr.refl _).alloc _
  have b0 : w0.cell? ⟨w.heap.size, 0, none⟩ = some (.slice A1 n1 c1) := by rw [hw0]; simp [go_sem]
  have b1 : w0.cell? ⟨w.heap.size, 1, none⟩ = some (.slice A2 n2 c2) := by rw [hw0]; simp [go_sem]
  rw [← hw0]
  clear hw0
  have zz : w.heap.size < w0.heap.size := lt_of_cell b0
  obtain ⟨wm, hmk, hownm, hgm⟩ := run_makeSlice_full (P := Try.prog) w0.drew w0.heap.size 49 2 i0 _ 1 Try.underlying49 hi0 hz0 hz1 .i64 .i64 n2 (by omega) (by rw [hz2]; omega) (by unfold maxLen; omega) (Nat.le_refl _)
  have hgwm : Gr w0 wm := (Gr.refl _).drew.grown hgm (fun _ e => by cases e)
  have m0 := hgwm.has b0
  have m1 := hgwm.has b1
  have hownm' : wm.ownsRow w.heap.size 2 1 (.slice (some ⟨w0.heap.size, 0, none⟩) n2 n2) n2 (ints (List.replicate n2 0)) := own_base (own_cells_eq hownm (made_ints n2)) (Nat.le_of_lt zz)
  have Hom := Lib.hid hownm'
  clear hownm hgm hownm'
  go_region
  obtain ⟨w1, hw1⟩ : ∃ w1, w1 = wm.alloc (.cells #[.slice A1 n1 c1, .slice A2 n2 c2, .slice (some ⟨w0.heap.size, 0, none⟩) n2 n2, .slice none 0 0] 131) := ⟨_, rfl⟩
  have hgw1 : Gr w w1 := by rw [hw1]; exact (hgr0.trans hgwm).alloc _
  have hR1 : RtAt w1 wm.heap.size A1 n1 c1 A2 n2 c2 (some ⟨w0.heap.size, 0, none⟩) n2 n2 (.slice none 0 0) := by rw [hw1]; exact ⟨by simp [go_sem], by simp [go_sem], by simp [go_sem], by simp [go_sem]⟩
  have hO1 : w1.ownsRow w.heap.size 2 1 (.slice (some ⟨w0.heap.size, 0, none⟩) n2 n2) n2 (ints (List.replicate n2 0)) := by rw [hw1]; exact Hom.out.alloc _
  rw [← hw1]
  obtain ⟨g, hg⟩ : ∃ g, g = wm.heap.size := ⟨_, rfl⟩
  obtain ⟨F, hF⟩ : ∃ F, F = w0.heap.size := ⟨_, rfl⟩
  have hFm : w0.heap.size < wm.heap.size := own_block_lt Hom.out rfl
  have hgF : g ≠ F := by omega
  have hFw : w.heap.size < F := by omega
  rw [← hg, ← hF] at hR1
  rw [← hF] at hO1
  rw [← hg, ← hF]
  have HR1 := Lib.hid hR1
  have HO1 := Lib.hid hO1
  clear hw1 hmk m0 m1 b0 b1 hg hF hFm hR1 hO1 Hom hgwm zz hgr0
  go_wp2_with fail
  go_loopw [9] (fun sm wr => ∃ fl, Reach (ffGo (eds n.pipes) n1 node to) (ffS (eds n.pipes) n1 node to) (List.replicate (eds n.pipes).length 0) fl ∧ Keeps (eds n.pipes) fl ∧ 0 ≤ outOf (eds n.pipes) fl node ∧ sm = .int .i64 (outOf (eds n.pipes) fl node) ∧ wr.ownsRow w.heap.size 2 1 (.slice (some ⟨F, 0, none⟩) n2 n2) n2 (ints fl) ∧ RtAt wr g A1 n1 c1 A2 n2 c2 (some ⟨F, 0, none⟩) n2 n2 (.slice none 0 0) ∧ Gr w wr) (fun sm _ => (1200001 - intOf sm).toNat)
  case atStart => exact ⟨_, .refl _, keeps_zero HEs.out, by rw [outOf_zero]; exact Int.le_refl 0, by rw [outOf_zero], by rw [Hel.out]; exact HO1.out, HR1.out, hgw1⟩
  case round =>
    obtain ⟨fl, hre, hk, h00, rfl, hown, hR, hgr⟩ := hrel
    have hle := outOf_le HEs.out hk node
    rw [Hel.out] at hle
    have hle2 : outOf (eds n.pipes) fl node ≤ 1200000 := by omega
    obtain ⟨sm, hsm⟩ : ∃ sm, sm = outOf (eds n.pipes) fl node := ⟨_, rfl⟩
    rw [← hsm] at h00 hle2
    rw [← hsm]
    have Hsm := Lib.hid hsm
    have Hre := Lib.hid hre
    have Hk := Lib.hid hk
    have Hown := Lib.hid hown
    have HR := Lib.hid hR
    have hFr : F < wr.heap.size := own_block_lt hown rfl
    clear hre hk hown hR hle hsm hgw1
    go_wp2_with fail
    refine (search_any n fl node _ HR.out (HA.out.gr hgr) (own_sl_int Hown.out hm2) Hok.out Hk.out hn).mono ?_
    rintro e w2 ⟨O, E, rfl, ⟨Ao, co, rfl⟩, hEnt, hOrd, hOE, hg2⟩
    have hI := inv_srch (fl := fl) HEs.out hn
    obtain ⟨st, hst⟩ : ∃ st, st = srch (eds n.pipes) fl n1 node := ⟨_, rfl⟩
    rw [← hst] at hEnt hOrd hI
    rw [← hst]
    have hlen := hI.len
    have hEr : wr.heap.size ≤ E := own_base_le hEnt rfl
    have hEF : E ≠ F := by omega
    have HEnt := Lib.hid hEnt
    have HOrd := Lib.hid hOrd
    have HI := Lib.hid hI
    have Hst := Lib.hid hst
    have hgw2 := hgr.trans hg2
    clear hEnt hOrd hI hst hOE
    go_wp2_with fail
    generalize hw3 : World.alloc w2 _ = w3
    have hg3 : Gr w2 w3 := by rw [← hw3]; exact (Gr.refl _).alloc _
    have q0 : w3.cell? ⟨w2.heap.size, 0, none⟩ = some (.slice Ao st.ord.length co) := by rw [← hw3]; simp [go_sem]
    have q1 : w3.cell? ⟨w2.heap.size, 1, none⟩ = some (.slice none 0 0) := by rw [← hw3]; simp [go_sem]
    have q2 : w3.cell? ⟨w2.heap.size, 2, none⟩ = some (.slice (some ⟨E, 0, none⟩) n1 n1) := by rw [← hw3]; simp [go_sem]
    clear hw3
    have hgw3 := hgw2.trans hg3
    refine (containsInt_any (st.ord.map fun (x : Nat) => (x : Int)) (to : Int) _ (SlAt.of_own (own_gr HOrd.out hg3) (by omega))).mono ?_
    rintro e w4 ⟨rfl, rfl⟩
    by_cases hin : to ∈ st.ord
    · have hc : decide ((to : Int) ∈ st.ord.map fun (x : Nat) => (x : Int)) = true := decide_eq_true (mem_casts.2 hin)
      rw [hc]
      have hgo : ffGo (eds n.pipes) n1 node to fl := by rw [ffGo, ← Hst.out]; exact hin
      obtain ⟨f1, f2, f3, f4⟩ := ff_step HEs.out hn hne Hk.out hgo
      have hle3 := outOf_le HEs.out f3 node
      rw [Hel.out] at hle3
      rw [← Hsm.out] at f4
      obtain ⟨a, ha⟩ : ∃ a, a = ffA (eds n.pipes) n1 node to fl := ⟨_, rfl⟩
      have hAm : amtOf (eds n.pipes) fl st (pth (eds n.pipes) st node to) 1000000000000000000 = a := by rw [ha, ffA, ← Hst.out]
      have hFm : pushes (eds n.pipes) st a (pth (eds n.pipes) st node to) fl = ffS (eds n.pipes) n1 node to fl := by rw [ffS, ← ha, ← Hst.out]
      rw [← ha] at f1 f2 f4
      have HAm := Lib.hid hAm
      have HFm := Lib.hid hFm
      have Hgo := Lib.hid hgo
      have Hin := Lib.hid hin
      have H3 := Lib.hid f3
      have H4 := Lib.hid f4
      have hb4 : sm + a ≤ 1200000 := by omega
      clear hc hgo ha hAm hFm hin f3 f4 hle3
      go_wp2_with fail
      refine (send_any n fl st node to 1000000000000000000 w _ HA.out hgw3 (Nat.le_refl _) (HR.out.gr (hg2.trans hg3)) (own_gr Hown.out (hg2.trans hg3)) (own_gr HEnt.out hg3) hEF hgF hm2 Hok.out Hk.out HI.out Hin.out ⟨by decide, by decide⟩).mono ?_
      rintro e w5 ⟨rfl, hown5, hgr5⟩
      rw [HAm.out] at hown5
      rw [HAm.out]
      rw [HFm.out] at hown5
      have hR5 := (HR.out.gr (hg2.trans hg3)).grown hgr5 hgF
      have hgw5 : Gr w w5 := hgw3.grown hgr5 (fun _ e => by injection e with e; omega)
      have HR5 := Lib.hid hR5
      have Hown5 := Lib.hid hown5
      clear hR5 hown5 hgr5
      go_wp2_with fail
      go_roundw
      case rel => exact ⟨_, Hre.out.snoc Hgo.out, H3.out, by rw [H4.out]; omega, by rw [H4.out], Hown5.out, HR5.out, hgw5⟩
      case measure => simp [intOf]; omega
    · have hc : decide ((to : Int) ∈ st.ord.map fun (x : Nat) => (x : Int)) = false := decide_eq_false (fun h => hin (mem_casts.1 h))
      rw [hc]
      have hfin : mfl (eds n.pipes) n1 node to = fl := fin_eq Hre.out (by rw [ffGo, ← Hst.out]; exact hin)
      have Hfin := Lib.hid hfin
      clear hfin hc hin
      go_wp2_with fail
      go_ret2
      exact ⟨g, F, by rw [Hfin.out, ← Hsm.out]; rfl, HR.out.gr (hg2.trans hg3), by rw [Hfin.out]; exact own_gr Hown.out (hg2.trans hg3), by rw [Hfin.out]; exact Hk.out, hgw3⟩
end Go.Proofs.Ytdoidehlklkfaaa
