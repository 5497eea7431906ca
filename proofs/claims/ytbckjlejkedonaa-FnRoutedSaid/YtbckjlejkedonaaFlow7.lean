/-
  The sending of the program.
-/
import Derived.Test.YtbckjlejkedonaaFlow6
import Derived.Test.YtbckjlejkedonaaFlowMs
namespace Go.Proofs.Ytbckjlejkedonaa
open Go.ChangeShapes Go.WideShapes Go.ChangeAt Go.RowKit

theorem own_sl_int {w : World} {base n c : Nat} {e : TypeId} {A : Option Addr} {fl : List Int} (h : w.ownsRow base e 1 (.slice A n c) n (ints fl)) (hn : n ≤ 1048576) : SlAt w 1 A n c (ints fl) := SlAt.of_own h hn
/-- The next node and its pipe. -/
theorem pipe_at {n : GNet} (hok : netOk n = true) {fl : List Int} {N node : Nat} (hE : EsOk (eds n.pipes) N) {s : St} (hI : Inv (eds n.pipes) fl N node s) {v : Nat} (hv : v ∈ s.ord) (hvn : v ≠ node) :
    ∃ x, n.pipes[s.ent.getD v 0]? = some x ∧ 0 ≤ x.src ∧ 0 ≤ x.dst ∧ touch (edOf x) v = true ∧ oth (edOf x) v = back (eds n.pipes) s v := by
  obtain ⟨e, q1, q2, q3, _⟩ := hI.at hE hv hvn
  simp only [eds, List.getElem?_map, Option.map_eq_some_iff] at q1
  obtain ⟨x, hx, rfl⟩ := q1
  obtain ⟨a1, a2, _⟩ := pipeOk_all ((netOk_all hok).2 _ x hx)
  exact ⟨x, hx, a1.1, a2.1, q2, q3⟩
theorem nat_at {w : World} {base n c g : Nat} {e : TypeId} {zs : List Nat} (h : w.ownsRow base e 1 (.slice (some ⟨g, 0, none⟩) n c) n (nats zs)) {k : Nat} (hk : k < n) : w.cell? ⟨g, k, none⟩ = some (.int .i64 (zs.getD k 0 : Nat)) := by
  have hl := own_ilen h
  simp only [List.length_map] at hl
  have : (zs.map fun (x : Nat) => (x : Int))[k]? = some ((zs.getD k 0 : Nat) : Int) := by simp [List.getD_eq_getElem?_getD, hl, hk]
  exact (own_int h this).1
theorem RtAt.grown {w w' : World} {g F : Nat} {A1 : Option Addr} {n1 c1 : Nat} {A2 : Option Addr} {n2 c2 : Nat} {A3 : Option Addr} {n3 c3 : Nat} {L : Value} (h : RtAt w g A1 n1 c1 A2 n2 c2 A3 n3 c3 L) (hg : w.grownBy w' (some F)) (hne : g ≠ F) : RtAt w' g A1 n1 c1 A2 n2 c2 A3 n3 c3 L := by
  have hl := lt_of_cell h.k0
  have e : ∀ j, w'.cell? ⟨g, j, none⟩ = w.cell? ⟨g, j, none⟩ := fun j => hg.cell_far _ hl (by simp; exact hne)
  exact ⟨(e 0).trans h.k0, (e 1).trans h.k1, (e 2).trans h.k2, (e 3).trans h.k3⟩
/-- What a flow is before and after a step. -/
theorem push1_val {ps : List GPipe} {s : St} {a : Int} {fl : List Int} {v : Nat} {x : GPipe} (hx : ps[s.ent.getD v 0]? = some x) (h0 : 0 ≤ x.dst) :
    push1 (eds ps) s a fl v = fl.set (s.ent.getD v 0) (if x.dst = (v : Int) then fl.getD (s.ent.getD v 0) 0 + a else fl.getD (s.ent.getD v 0) 0 - a) := by
  have e : (edOf x).t = x.dst.toNat := rfl
  rw [push1, eds_at hx, e]
  by_cases h : x.dst = (v : Int)
  · rw [if_pos (by omega), if_pos h]
  · rw [if_neg (by omega), if_neg h]

set_option maxHeartbeats 3200000 in
set_option maxRecDepth 100000 in
theorem send_any {A1 A2 : Option Addr} {n1 c1 n2 c2 n3 c3 g F E base be : Nat} {LV O D : Value} (n : GNet) (fl : List Int) (s : St) (node v0 : Nat) (a0 : Int) (w0 w : World) (hA : NetAt w0 A1 n1 c1 A2 n2 c2 n) (hg0 : Gr w0 w) (hbase : w0.heap.size ≤ base)
    (hR : RtAt w g A1 n1 c1 A2 n2 c2 (some ⟨F, 0, none⟩) n3 c3 LV) (hF : w.ownsRow base 2 1 (.slice (some ⟨F, 0, none⟩) n3 c3) n3 (ints fl)) (hE : w.ownsRow be 2 1 (.slice (some ⟨E, 0, none⟩) n1 n1) n1 (nats s.ent)) (hEF : E ≠ F) (hgF : g ≠ F) (hn3 : n3 ≤ 1048576)
    (hok : netOk n = true) (hk : Keeps (eds n.pipes) fl) (hI : Inv (eds n.pipes) fl n1 node s) (hv0 : v0 ∈ s.ord) (ha0 : 0 < a0 ∧ a0 ≤ 1000000000000000000) :
    Calls Try.prog 158 #[.pointer (some ⟨g, 0, none⟩), .agg #[O, D, .slice (some ⟨E, 0, none⟩) n1 n1], .int .i64 node, .int .i64 v0, .int .i64 a0] w fun e w' => e = .returned (.int .i64 (amtOf (eds n.pipes) fl s (pth (eds n.pipes) s node v0) a0)) ∧
      w'.ownsRow base 2 1 (.slice (some ⟨F, 0, none⟩) n3 c3) n3 (ints (pushes (eds n.pipes) s (amtOf (eds n.pipes) fl s (pth (eds n.pipes) s node v0) a0) (pth (eds n.pipes) s node v0) fl)) ∧ w.grownBy w' (some F) := by
  have hm1 := hA.m1
  have hm2 := hA.m2
  have hEs : EsOk (eds n.pipes) n1 := by have := eds_ok hok; rw [hA.l1] at this; exact this
  have HEs := Lib.hid hEs
  have HA := Lib.hid hA
  have HF := Lib.hid hF
  have HE := Lib.hid hE
  have Hok := Lib.hid hok
  have Hk := Lib.hid hk
  have HR := Lib.hid hR
  have HI := Lib.hid hI
  have Hv0 := Lib.hid hv0
  obtain ⟨es, hes⟩ : ∃ es, es = eds n.pipes := ⟨_, rfl⟩
  obtain ⟨T, hT⟩ : ∃ T, T = amtOf (eds n.pipes) fl s (pth (eds n.pipes) s node v0) a0 := ⟨_, rfl⟩
  have hTp : 0 < T := by rw [hT]; exact amtOf_pos _ ha0.1 (pth_good hEs hI hv0).2.2
  have hTl : T ≤ a0 := by rw [hT]; exact (amtOf_le _ _).1
  rw [← hT]
  have HT := Lib.hid hT
  have hB : Gr w (w.alloc (.cells #[O, D, .slice (some ⟨E, 0, none⟩) n1 n1] 109)) := (Gr.refl _).alloc _
  have hB2 : (w.alloc (.cells #[O, D, .slice (some ⟨E, 0, none⟩) n1 n1] 109)).cell? ⟨w.heap.size, 2, none⟩ = some (.slice (some ⟨E, 0, none⟩) n1 n1) := by simp [go_sem]
  have hFl : F < w.heap.size := own_block_lt hF rfl
  have hv0N : v0 < n1 := hI.lt v0 hv0
  clear hA hF hE hok hk hEs hR hI hv0 hT hes
  go_enter Try.func158, Try.ntmps158
  go_wp2_with fail
  generalize hw1 : World.alloc w _ = w1
  rw [hw1] at hB hB2
  clear hw1
  go_loopw [4, 11] (fun m at_ wr => ∃ (v : Nat) (a : Int), v ∈ s.ord ∧ at_ = .int .i64 v ∧ m = .int .i64 a ∧ 0 < a ∧ a ≤ 1000000000000000000 ∧ amtOf (eds n.pipes) fl s (pth (eds n.pipes) s node v) a = T ∧ Gr w1 wr) (fun _ at_ _ => (pth (eds n.pipes) s node (intOf at_).toNat).length)
  case atStart => exact ⟨v0, a0, Hv0.out, rfl, rfl, ha0.1, ha0.2, HT.out.symm, Gr.refl _⟩
  case round =>
    obtain ⟨v, a, hv, rfl, rfl, ha1, ha2, hT, hgr⟩ := hrel
    have hvN : v < n1 := HI.out.lt v hv
    by_cases hvn : v = node
    · rw [hvn, pth_end] at hT
      have hTa : a = T := hT
      rw [hTa, hvn]
      have hg := hB.trans hgr
      have b2 := hgr.has hB2
      have hz := hg.size
      have hbl := lt_of_cell hB2
      have hz2 := hgr.size
      clear hT hTa hv ha1 ha2 hvn hvN
      go_wp2_with fail
      go_loopw [14] (fun at_ wx => ∃ (v : Nat) (fl' : List Int), v ∈ s.ord ∧ at_ = .int .i64 v ∧ pushes (eds n.pipes) s T (pth (eds n.pipes) s node v) fl' = pushes (eds n.pipes) s T (pth (eds n.pipes) s node v0) fl ∧ Keeps (eds n.pipes) fl' ∧ (∀ u ∈ pth (eds n.pipes) s node v, T ≤ capOf (eds n.pipes) fl' s u) ∧ wx.ownsRow base 2 1 (.slice (some ⟨F, 0, none⟩) n3 c3) n3 (ints fl') ∧ w.grownBy wx (some F) ∧ wr.heap.size ≤ wx.heap.size ∧ wx.cell? ⟨w.heap.size, 2, none⟩ = some (.slice (some ⟨E, 0, none⟩) n1 n1)) (fun at_ _ => (pth (eds n.pipes) s node (intOf at_).toNat).length)
      case atStart => exact ⟨v0, fl, Hv0.out, rfl, rfl, Hk.out, fun u hu => by rw [HT.out]; exact amtOf_cap hu, own_gr HF.out hg, grown_gr hg _, Nat.le_refl _, b2⟩
      case round =>
        obtain ⟨v, fl', hv, rfl, hpush, hk', hcap, hown, hgrow, hsz, hb2⟩ := hrel
        clear b2
        have hvN : v < n1 := HI.out.lt v hv
        by_cases hvn : v = node
        · rw [hvn, pth_end] at hpush
          have Hpush := Lib.hid hpush
          have Hown := Lib.hid hown
          have Hgrow := Lib.hid hgrow
          clear hpush hk' hcap hown hgrow hv
          go_wp2_with fail
          go_ret
          exact ⟨rfl, by rw [← Hpush.out]; exact Hown.out, Hgrow.out⟩
        · obtain ⟨x, hx, x1, x2, x3, x4⟩ := pipe_at Hok.out HEs.out HI.out hv hvn
          obtain ⟨e, q1, _, _, q4, q5, _, _⟩ := HI.out.at HEs.out hv hvn
          have hst := pth_step HEs.out HI.out hv hvn
          obtain ⟨pg1, pg2, _⟩ := pth_good HEs.out HI.out hv
          rw [hst] at hpush hcap pg1 pg2
          rw [pushes_cons] at hpush
          obtain ⟨hk2, hcap2⟩ := push1_step HEs.out HI.out (Int.le_of_lt hTp) pg1 pg2 hk' hcap
          have hcl := cap_le HEs.out hk' q1
          have hTc := hcap v (by simp)
          have hpl : (pth (eds n.pipes) s node (back (eds n.pipes) s v)).length < (pth (eds n.pipes) s node v).length := by rw [hst]; simp
          have hpv := push1_val (a := T) (fl := fl') hx x2
          obtain ⟨p, hp⟩ : ∃ p, p = s.ent.getD v 0 := ⟨_, rfl⟩
          obtain ⟨u, hu⟩ : ∃ u, u = back (eds n.pipes) s v := ⟨_, rfl⟩
          obtain ⟨fl2, hfl2⟩ : ∃ fl2, fl2 = push1 (eds n.pipes) s T fl' v := ⟨_, rfl⟩
          rw [← hfl2] at hpush hk2 hcap2 hpv
          rw [← hu] at hpush hcap2 q4 x4 hpl
          rw [← hp] at hx hpv
          obtain ⟨f, hf⟩ : ∃ f, fl'[p]? = some f := ⟨_, List.getElem?_eq_getElem (by have h1 := (List.getElem?_eq_some_iff.1 hx).1; rw [hk'.len]; simpa [eds] using h1)⟩
          have hfb := hk'.at_ p (edOf x) (by rw [eds, List.getElem?_map, hx]; rfl)
          have hlb := HEs.out.at_ p (edOf x) (by rw [eds, List.getElem?_map, hx]; rfl)
          have hfe : fl'.getD p 0 = f := by rw [List.getD_eq_getElem?_getD, hf]; rfl
          rw [hfe] at hfb hpv
          have hfb2 : -1000000000 ≤ f ∧ f ≤ 1000000000 := by omega
          have hTb : T ≤ 60000 := by omega
          have hg0x : Gr w0 wr := hg0.grown hgrow (fun j hj => by injection hj with hj; have := own_base_le HF.out (k := F) rfl; omega)
          have hR' := HR.out.grown hgrow hgF
          have k1 := hR'.k1
          have k2 := hR'.k2
          have en := nat_at (HE.out.kept hgrow (Or.inr (by simp [Value.ownBlock]; exact hEF))) hvN
          rw [← hp] at en
          obtain ⟨b, oo, rfl, hb, p0, p1, p2, p3, p4⟩ := HA.out.pipes.pp hx
          have p0 := hg0x.has p0
          have p1 := hg0x.has p1
          have p2 := hg0x.has p2
          have p3 := hg0x.has p3
          have p4 := hg0x.has p4
          have hFb := own_base_le HF.out (k := F) rfl
          have hbF : b ≠ F := by omega
          have hpn : p < n2 := by have h1 := (List.getElem?_eq_some_iff.1 hx).1; have h2 := HA.out.l2; omega
          obtain ⟨d0, d1⟩ := own_int hown hf
          have hpn3 : p < n3 := by have h1 := (List.getElem?_eq_some_iff.1 hf).1; have h2 := own_ilen hown; omega
          have Hx4 := Lib.hid x4
          have Hpush := Lib.hid hpush
          have Hk2 := Lib.hid hk2
          have Hcap2 := Lib.hid hcap2
          have Hq4 := Lib.hid q4
          have Hpl := Lib.hid hpl
          have Hpv := Lib.hid hpv
          have Hown := Lib.hid hown
          have Hgrow := Lib.hid hgrow
          have Hg0x := Lib.hid hg0x
          clear hx hf x3 x4 q1 hfb hlb hfe hp hu q4 hv hpl hst pg1 pg2 hpush hk' hcap hk2 hcap2 hpv hfl2 hown hgrow hR' hg0x hTc hcl q5
          cases hc : (x.dst == (v : Int))
          · have hval : fl2 = fl'.set p (f - T) := by rw [Hpv.out, if_neg (by simpa using hc)]
            obtain ⟨R1, R2⟩ := own_set_int Hown.out p (f - T)
            rw [← hval] at R1
            have HR1 := Lib.hid R1
            have HR2 := Lib.hid R2
            clear R1 R2 hval
            go_wp2_with fail
            refine (otherEnd_any x v _ x1 x2).mono ?_
            rintro e' w2 ⟨rfl, hw2⟩
            rw [Hx4.out]
            have hb22 := hw2.has (set_other hb2 (a := ⟨F, p, none⟩) (by simp; omega) (.int .i64 (f - T)))
            have hsz2 := hw2.size
            simp only [World.size_setCell] at hsz2
            go_wp2_with fail
            go_roundw
            case rel => exact ⟨u, fl2, Hq4.out, rfl, Hpush.out, Hk2.out, Hcap2.out, own_gr HR1.out hw2, grown_trans Hgrow.out (grown_trans HR2.out (grown_gr hw2 _)), by omega, hb22⟩
            case measure => simpa [intOf] using Hpl.out
          · have hval : fl2 = fl'.set p (f + T) := by rw [Hpv.out, if_pos (by simpa using hc)]
            obtain ⟨R1, R2⟩ := own_set_int Hown.out p (f + T)
            rw [← hval] at R1
            have HR1 := Lib.hid R1
            have HR2 := Lib.hid R2
            clear R1 R2 hval
            go_wp2_with fail
            refine (otherEnd_any x v _ x1 x2).mono ?_
            rintro e' w2 ⟨rfl, hw2⟩
            rw [Hx4.out]
            have hb22 := hw2.has (set_other hb2 (a := ⟨F, p, none⟩) (by simp; omega) (.int .i64 (f + T)))
            have hsz2 := hw2.size
            simp only [World.size_setCell] at hsz2
            go_wp2_with fail
            go_roundw
            case rel => exact ⟨u, fl2, Hq4.out, rfl, Hpush.out, Hk2.out, Hcap2.out, own_gr HR1.out hw2, grown_trans Hgrow.out (grown_trans HR2.out (grown_gr hw2 _)), by omega, hb22⟩
            case measure => simpa [intOf] using Hpl.out
    · obtain ⟨x, hx, x1, x2, x3, x4⟩ := pipe_at Hok.out HEs.out HI.out hv hvn
      obtain ⟨e, q1, _, _, q4, q5, _, _⟩ := HI.out.at HEs.out hv hvn
      have hcl := cap_le HEs.out Hk.out q1
      rw [pth_step HEs.out HI.out hv hvn, amtOf_cons] at hT
      have hpl : (pth (eds n.pipes) s node (back (eds n.pipes) s v)).length < (pth (eds n.pipes) s node v).length := by rw [pth_step HEs.out HI.out hv hvn]; simp
      obtain ⟨p, hp⟩ : ∃ p, p = s.ent.getD v 0 := ⟨_, rfl⟩
      obtain ⟨u, hu⟩ : ∃ u, u = back (eds n.pipes) s v := ⟨_, rfl⟩
      obtain ⟨cp, hcp⟩ : ∃ cp, cp = capOf (eds n.pipes) fl s v := ⟨_, rfl⟩
      have hroom : room (eds n.pipes) fl p u = cp := by rw [hcp, hp, hu]; rfl
      rw [← hcp] at hT q5 hcl
      rw [← hu] at hT q4 x4 hpl
      rw [← hp] at hx
      have hg := hB.trans hgr
      have k0 := (HR.out.gr hg).k0
      have k1 := (HR.out.gr hg).k1
      have b2 := hgr.has hB2
      have en := nat_at (own_gr HE.out hg) hvN
      rw [← hp] at en
      obtain ⟨b, oo, rfl, hb, p0, p1, p2, p3, p4⟩ := (HA.out.pipes.gr (hg0.trans hg)).pp hx
      have hpn : p < n2 := by have h1 := (List.getElem?_eq_some_iff.1 hx).1; have h2 := HA.out.l2; omega
      obtain ⟨f, hf⟩ : ∃ f, fl[p]? = some f := ⟨_, List.getElem?_eq_getElem (by have h1 := (List.getElem?_eq_some_iff.1 hx).1; rw [Hk.out.len]; simpa [eds] using h1)⟩
      have hfb := Hk.out.at_ p (edOf x) (by rw [eds, List.getElem?_map, hx]; rfl)
      have hlb := HEs.out.at_ p (edOf x) (by rw [eds, List.getElem?_map, hx]; rfl)
      have hfe : fl.getD p 0 = f := by rw [List.getD_eq_getElem?_getD, hf]; rfl
      rw [hfe] at hfb
      have hfb2 : -1000000000 ≤ f ∧ f ≤ 1000000000 := by omega
      have Hx := Lib.hid hx
      have Hf := Lib.hid hf
      have Hx4 := Lib.hid x4
      have Hroom := Lib.hid hroom
      have HT2 := Lib.hid hT
      have Hq4 := Lib.hid q4
      have Hpl := Lib.hid hpl
      clear hx hf x3 x4 hroom hT q1 hfb hlb hfe hp hu hcp q4 hv hpl
      go_wp2_with fail
      refine (otherEnd_any x v _ x1 x2).mono ?_
      rintro e' w2 ⟨rfl, hw2⟩
      rw [Hx4.out]
      have hg2 := hg.trans hw2
      go_wp2_with fail
      refine (room_any n fl p u x f _ (HR.out.gr hg2) (HA.out.gr (hg0.trans hg2)) (own_sl_int (own_gr HF.out hg2) hn3) Hok.out Hx.out Hf.out hfb2).mono ?_
      rintro e' w3 ⟨rfl, hw3⟩
      rw [Hroom.out]
      have hmin : (if cp < a then cp else a) = min a cp := by split <;> omega
      have Hmin := Lib.hid hmin
      clear hmin
      go_wp2_with fail
      go_roundw
      case rel => exact ⟨u, _, Hq4.out, rfl, rfl, by rw [Hmin.out]; omega, by rw [Hmin.out]; omega, by rw [Hmin.out]; exact HT2.out, hgr.trans (hw2.trans hw3)⟩
      case measure => simpa [intOf] using Hpl.out
end Go.Proofs.Ytbckjlejkedonaa
