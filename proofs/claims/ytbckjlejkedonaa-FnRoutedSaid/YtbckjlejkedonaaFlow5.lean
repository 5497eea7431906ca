/-
  The search of the reference.
-/
import Derived.Test.YtbckjlejkedonaaFlowA
import Derived.Test.YtbckjlejkedonaaText
namespace Go.Proofs.Ytbckjlejkedonaa
open Go.ChangeShapes Go.WideShapes Go.ChangeAt Go.RowKit

theorem foldl_vis_ord {es : List Ed} {fl : List Int} {v : Nat} (l : List Nat) (s : St) {k u : Nat} (h : s.ord[k]? = some u) : (l.foldl (vis es fl v) s).ord[k]? = some u := by
  induction l generalizing s with
  | nil => exact h
  | cons p l ih =>
    refine ih _ ?_
    unfold vis
    split
    · simp only
      rw [List.getElem?_append_left (List.getElem?_eq_some_iff.1 h).1]; exact h
    · exact h
theorem set_other {w : World} {a b : Addr} {u : Value} (h : w.cell? b = some u) (hne : a.block ≠ b.block) (v : Value) : (w.setCell a v).cell? b = some u :=
  (World.cell?_setCell_other _ _ _ _ (fun e => hne (by rw [e]))).trans h
theorem get_of_ltB {l : List Bool} {k : Nat} (h : k < l.length) : l[k]? = some (l.getD k true) := by simp [h]
theorem innTo_step {es : List Ed} {fl : List Int} {v : Nat} {s : St} {i p : Nat} (h : (atN es v)[i]? = some p) : innTo es fl v s (i + 1) = vis es fl v (innTo es fl v s i) p := by
  rw [innTo, List.take_add_one, h, Option.toList_some, List.foldl_append]; rfl
theorem innTo_full {es : List Ed} {fl : List Int} {v : Nat} {s : St} : innTo es fl v s (atN es v).length = inn es fl v s := by
  rw [innTo, List.take_length]; rfl
theorem sst_step {es : List Ed} {fl : List Int} {N node k v : Nat} (h : (sst es fl N node k).ord[k]? = some v) : sst es fl N node (k + 1) = inn es fl v (sst es fl N node k) := by
  rw [sst, h]
theorem st0_seen (N node : Nat) : (st0 N node).seen = (List.replicate N false).set node true := rfl

set_option maxHeartbeats 3200000 in
set_option maxRecDepth 100000 in
theorem l23Search_any {A1 A2 A3 : Option Addr} {n1 c1 n2 c2 n3 c3 : Nat} (n : GNet) (fl : List Int) (node : Nat) (w : World) (hA : NetAt w A1 n1 c1 A2 n2 c2 n) (hF : SlAt w 1 A3 n3 c3 (ints fl)) (hok : netOk n = true) (hk : Keeps (eds n.pipes) fl) (hn : node < n1) :
    Calls Try.prog 91 #[.agg #[.slice A1 n1 c1, .slice A2 n2 c2], .slice A3 n3 c3, .int .i64 node] w fun e w' => ∃ O g h, e = .returned (.tuple #[.slice (some ⟨g, 0, none⟩) n1 n1, O]) ∧ (∃ A c, O = .slice A (srch (eds n.pipes) fl n1 node).ord.length c) ∧ SrAt w' w.heap.size g h n1 O (srch (eds n.pipes) fl n1 node) ∧ Gr w w' := by
  obtain ⟨i0, hi0, hz0, hz1, hz2⟩ := info_parts infoInt64
  obtain ⟨i1, hi1, hy0, hy1, hy2⟩ := info_parts infoBool
  have hm1 := hA.m1
  have hm2 := hA.m2
  have hm3 := hF.small
  have hE : EsOk (eds n.pipes) n1 := by have := eds_ok hok; rw [hA.l1] at this; exact this
  have HE := Lib.hid hE
  have HA := Lib.hid hA
  have HF := Lib.hid hF
  have Hok := Lib.hid hok
  have Hk := Lib.hid hk
  have t0 : (0 : Int) ≤ (node : Int) := by omega
  have t1 : (node : Int) < (n1 : Int) := by omega
  clear hA hF hok hk hE
  go_enter Try.func91, Try.ntmps91
  go_wp2_with (first
    | (at_make; refine wpList_make_full _ rfl _ _ _ rfl w.heap.size 2 i0 _ 1 Try.underlying27 hi0 hz0 hz1 .i64 .i64 _ _ n1 rfl rfl rfl rfl (by rw [hz2]; omega) (by unfold maxLen; omega) (by simp) ?_; intro w1 hown1 hg1; have hq1 : Gr (w.alloc (.cells #[.slice A1 n1 c1, .slice A2 n2 c2] 33)) w1 := (Gr.refl _).grown hg1 (fun _ e => by cases e); have b0 : w1.cell? ⟨w.heap.size, 0, none⟩ = some (.slice A1 n1 c1) := hq1.has (by simp [go_sem]); have b1 : w1.cell? ⟨w.heap.size, 1, none⟩ = some (.slice A2 n2 c2) := hq1.has (by simp [go_sem]); have Ho1 := Lib.hid hown1; have z1 := hq1.size; clear hown1)
    | (at_make; refine wpList_make_full _ rfl _ _ _ rfl w.heap.size 4 i1 _ 1 Try.underlying119 hi1 hy0 hy1 .i64 .i64 _ _ n1 rfl rfl rfl rfl (by rw [hy2]; omega) (by unfold maxLen; omega) (by simp at z1; omega) ?_; intro w2 hown2 hg2; have hq2 : Gr w1 w2 := (Gr.refl _).grown hg2 (fun _ e => by cases e); have hown2' : w2.ownsRow w.heap.size 4 1 (.slice (some ⟨w1.heap.size, 0, none⟩) n1 n1) n1 (bools (List.replicate n1 false)) := own_cells_eq hown2 (made_bools n1); obtain ⟨d0, d1⟩ := own_bool hown2' (k := node) (x := false) (by simp [hn]) hn; have Ho2 := Lib.hid hown2'; clear hown2 hown2'))
  generalize hw3 : World.alloc (World.setCell w2 _ _) _ = w3
  have o1 : w1.ownsRow w.heap.size 2 1 (.slice (some ⟨w.heap.size + 1, 0, none⟩) n1 n1) n1 (nats (List.replicate n1 0)) := by
    have := own_cells_eq Ho1.out (made_nats n1)
    simpa using this
  have l1 : w.heap.size + 1 < w1.heap.size := own_block_lt o1 rfl
  obtain ⟨s1, s2⟩ := own_set_bool Ho2.out node true
  have g3 : Gr w (w2.setCell ⟨w1.heap.size, node, none⟩ (.bool true)) := ((((Gr.refl _).alloc _).trans hq1).trans hq2).grown s2 (fun _ e => by injection e with e; omega)
  have l2 : w1.heap.size < w2.heap.size := own_block_lt Ho2.out rfl
  have S0 : SrAt w3 w.heap.size (w.heap.size + 1) w1.heap.size n1 (.slice (some ⟨w2.heap.size, 0, none⟩) 1 1) (sst (eds n.pipes) fl n1 node 0) := by
    rw [← hw3]
    refine ⟨by omega, l1, ?_, s1.alloc _, ?_⟩
    · exact ((own_gr o1 hq2).kept s2 (Or.inr (by simp [Value.ownBlock]; omega))).alloc _
    · have q := World.ownsRow_lit (w2.setCell ⟨w1.heap.size, node, none⟩ (.bool true)) (e := 2) (size := 1) #[.int .i64 node] 1 (Nat.le_refl _) (by unfold maxLen; omega) rfl
      have hsz : (w2.setCell ⟨w1.heap.size, node, none⟩ (.bool true)).heap.size = w2.heap.size := by simp
      rw [hsz] at q
      exact own_base q (by omega)
  have hg3 : Gr w w3 := by rw [← hw3]; exact g3.alloc _
  have B0 : w3.cell? ⟨w.heap.size, 0, none⟩ = some (.slice A1 n1 c1) := by
    rw [← hw3]
    refine ((Gr.refl _).alloc _).has ?_
    rw [s2.cell_far _ (by simp; omega) (by simp; omega)]
    exact hq2.has b0
  have B1 : w3.cell? ⟨w.heap.size, 1, none⟩ = some (.slice A2 n2 c2) := by
    rw [← hw3]
    refine ((Gr.refl _).alloc _).has ?_
    rw [s2.cell_far _ (by simp; omega) (by simp; omega)]
    exact hq2.has b1
  have HS0 := Lib.hid S0
  clear S0 hw3 d0 d1 b0 b1 Ho1 Ho2 hg1 hg2 o1 s1 s2 g3 hq1 hq2 z1
  go_loopw [10, 11] (fun o i wr => ∃ k : Nat, k ≤ (sst (eds n.pipes) fl n1 node k).ord.length ∧ i = .int .i64 k ∧ (∃ A c, o = .slice A (sst (eds n.pipes) fl n1 node k).ord.length c) ∧ SrAt wr w.heap.size (w.heap.size + 1) w1.heap.size n1 o (sst (eds n.pipes) fl n1 node k) ∧ Gr w wr ∧ wr.cell? ⟨w.heap.size, 0, none⟩ = some (.slice A1 n1 c1) ∧ wr.cell? ⟨w.heap.size, 1, none⟩ = some (.slice A2 n2 c2)) (fun _ i _ => n1 - (intOf i).toNat)
  case atStart => exact ⟨0, Nat.zero_le _, rfl, ⟨_, _, rfl⟩, HS0.out, hg3, B0, B1⟩
  case round =>
    obtain ⟨k, hk, rfl, ⟨A, c, rfl⟩, hS, hgr, hb0, hb1⟩ := hrel
    have hlen : (sst (eds n.pipes) fl n1 node k).ord.length ≤ n1 := (inv_sst HE.out hn k).len
    have HS := Lib.hid hS
    obtain ⟨L, hL⟩ : ∃ L, L = (sst (eds n.pipes) fl n1 node k).ord.length := ⟨_, rfl⟩
    rw [← hL] at hk hlen ⊢
    have HL := Lib.hid hL
    clear hS hL B0 B1 hg3
    by_cases hlt : k < L
    · obtain ⟨v, hv⟩ : ∃ v, (sst (eds n.pipes) fl n1 node k).ord[k]? = some v := ⟨_, List.getElem?_eq_getElem (by rw [← HL.out]; exact hlt)⟩
      have hso := HS.out.ord
      rw [← HL.out] at hso
      obtain ⟨go, rfl, hgo1, hgo2⟩ := own_form hso (by omega)
      have hvi : ((sst (eds n.pipes) fl n1 node k).ord.map fun (x : Nat) => (x : Int))[k]? = some (v : Int) := by simp [hv]
      obtain ⟨f0, _⟩ := own_int hso hvi
      have Hv := Lib.hid hv
      have t2 : (0 : Int) ≤ (k : Int) := by omega
      have t3 : (k : Int) < (L : Int) := by omega
      clear hso hvi hv
      have hbl := lt_of_cell hb0
      go_wp2_with fail
      go_region_held3 (fun w' => Gr wr w' ∧ w'.cell? ⟨w.heap.size, 0, none⟩ = some (.slice A1 n1 c1) ∧ w'.cell? ⟨w.heap.size, 1, none⟩ = some (.slice A2 n2 c2) ∧ w'.cell? ⟨go, k, none⟩ = some (.int .i64 v))
        (first | exact ⟨(Gr.refl _).drew, hb0, hb1, f0⟩ | exact ⟨by assumption, (by assumption : Gr wr _).has hb0, (by assumption : Gr wr _).has hb1, (by assumption : Gr wr _).has f0⟩)
        ((go_at_call 169; refine (l02At_any n v _ (HA.out.gr hgr.drew) Hok.out).mono ?_; rintro e w4 ⟨Aa, ma, ca, rfl, hma, hoa, hga⟩; have hoa' := Lib.hid hoa; have Hma := Lib.hid hma; clear hoa hma; have hxa : Gr wr w4 := (Gr.refl _).drew.trans hga))
      have hvo := (inv_sst (fl := fl) HE.out hn k)
      have hvm : v ∈ (sst (eds n.pipes) fl n1 node k).ord := List.mem_of_getElem? Hv.out
      have hvN : v < n1 := hvo.lt v hvm
      have Hvm := Lib.hid hvm
      have Hvo := Lib.hid hvo
      have hgw4 : Gr w w4 := hgr.trans (by assumption)
      have hS4 := HS.out.gr (by assumption : Gr wr w4)
      rw [← HL.out] at hS4
      have HS4 := Lib.hid hS4
      have HB0 := (by assumption : Gr wr w4).has hb0
      have HB1 := (by assumption : Gr wr w4).has hb1
      have hoaB : w4.ownsRow (w1.heap.size + 1) 2 1 (.slice Aa ma ca) ma (nats (atN (eds n.pipes) v)) := own_base hoa'.out (by have := HS.out.lt; simp; omega)
      have hapart : ∀ j, (Value.slice (some ⟨go, 0, none⟩) L c).ownBlock = some j → (Value.slice Aa ma ca).ownBlock ≠ some j := by
        intro j hj e
        have := own_base_le hoa'.out e
        have e2 : j = go := by simpa [Value.ownBlock] using hj.symm
        simp at this
        omega
      have HoaB := Lib.hid hoaB
      have Hap := Lib.hid hapart
      have hma40 : ma ≤ 1048576 := by
        have := atTo_len (eds n.pipes) v (eds n.pipes).length
        have e1 : (eds n.pipes).length = n2 := by rw [eds, List.length_map]; exact HA.out.l2
        have e2 : atN (eds n.pipes) v = atTo (eds n.pipes) v (eds n.pipes).length := rfl
        rw [← e2, e1, ← Hma.out] at this
        omega
      clear hvo hvm hS4 hoaB hapart hoa' hb0 hb1 f0 hga HS
      go_wp2_with fail
      go_loopw [10, 13] (fun o j wr => ∃ i : Nat, i ≤ ma ∧ j = .int .i64 i ∧ (∃ A c, o = .slice A (innTo (eds n.pipes) fl v (sst (eds n.pipes) fl n1 node k) i).ord.length c) ∧ SrAt wr w.heap.size (w.heap.size + 1) w1.heap.size n1 o (innTo (eds n.pipes) fl v (sst (eds n.pipes) fl n1 node k) i) ∧ wr.ownsRow (w1.heap.size + 1) 2 1 (.slice Aa ma ca) ma (nats (atN (eds n.pipes) v)) ∧ (∀ j, o.ownBlock = some j → (Value.slice Aa ma ca).ownBlock ≠ some j) ∧ Gr w wr ∧ wr.cell? ⟨w.heap.size, 0, none⟩ = some (.slice A1 n1 c1) ∧ wr.cell? ⟨w.heap.size, 1, none⟩ = some (.slice A2 n2 c2)) (fun _ j _ => ma - (intOf j).toNat)
      case atStart =>
        have e0 : innTo (eds n.pipes) fl v (sst (eds n.pipes) fl n1 node k) 0 = sst (eds n.pipes) fl n1 node k := rfl
        exact ⟨0, Nat.zero_le _, rfl, ⟨some ⟨go, 0, none⟩, c, by rw [e0, ← HL.out]⟩, by rw [e0]; exact HS4.out, HoaB.out, Hap.out, hgw4, HB0, HB1⟩
      case round =>
        obtain ⟨i, hi, rfl, ⟨A, c', rfl⟩, hS, hat, hap, hgi, hb0, hb1⟩ := hrel
        have hI := (inv_innTo HE.out Hvo.out Hvm.out i).1
        have hIk : (innTo (eds n.pipes) fl v (sst (eds n.pipes) fl n1 node k) i).ord[k]? = some v := foldl_vis_ord _ _ Hv.out
        by_cases hil : i < ma
        · obtain ⟨p, hp⟩ : ∃ p, (atN (eds n.pipes) v)[i]? = some p := ⟨_, List.getElem?_eq_getElem (by rw [← Hma.out]; exact hil)⟩
          obtain ⟨hpl, htv⟩ := mem_atN.1 (List.mem_of_getElem? hp)
          obtain ⟨x, hx⟩ : ∃ x, n.pipes[p]? = some x := ⟨_, List.getElem?_eq_getElem (by simpa [eds] using hpl)⟩
          obtain ⟨f, hf⟩ : ∃ f, fl[p]? = some f := ⟨_, List.getElem?_eq_getElem (by rw [Hk.out.len]; exact hpl)⟩
          have hed := eds_at hx
          rw [hed] at htv
          have hstep := innTo_step (fl := fl) (s := sst (eds n.pipes) fl n1 node k) hp
          obtain ⟨s, hs⟩ : ∃ s, s = innTo (eds n.pipes) fl v (sst (eds n.pipes) fl n1 node k) i := ⟨_, rfl⟩
          rw [← hs] at hS hI hIk hstep ⊢
          obtain ⟨ga, rfl, hga1, hga2⟩ := own_form hat (by omega)
          have hpi : ((atN (eds n.pipes) v).map fun (x : Nat) => (x : Int))[i]? = some (p : Int) := by simp [hp]
          obtain ⟨y0, _⟩ := own_int hat hpi
          obtain ⟨go', rfl, hgo1', hgo2'⟩ := own_form hS.ord (by have := (List.getElem?_eq_some_iff.1 hIk).1; omega)
          have hki : (s.ord.map fun (x : Nat) => (x : Int))[k]? = some (v : Int) := by simp [hIk]
          obtain ⟨y1, _⟩ := own_int hS.ord hki
          have hsl := (List.getElem?_eq_some_iff.1 hIk).1
          have HSs := Lib.hid hS
          have HI := Lib.hid hI
          have Hstep := Lib.hid hstep
          have Hat := Lib.hid hat
          have Hap2 := Lib.hid hap
          have Hx := Lib.hid hx
          have Hf := Lib.hid hf
          have Htv := Lib.hid htv
          have u0 : (0 : Int) ≤ (i : Int) := by omega
          have u1 : (i : Int) < (ma : Int) := by omega
          have u2 : (k : Int) < (s.ord.length : Int) := by omega
          have hslN : s.ord.length ≤ n1 := hI.len
          clear hS hI hstep hat hap hx hf htv hp hpi hki hs hIk
          have hd1 : decide ((i : Int) < (ma : Int)) = true := decide_eq_true u1
          go_wp2_with fail
          go_region_held3 (fun w' => Gr wr w' ∧ w'.cell? ⟨w.heap.size, 0, none⟩ = some (.slice A1 n1 c1) ∧ w'.cell? ⟨w.heap.size, 1, none⟩ = some (.slice A2 n2 c2) ∧ w'.cell? ⟨ga, i, none⟩ = some (.int .i64 p) ∧ w'.cell? ⟨go', k, none⟩ = some (.int .i64 v))
            (first | exact ⟨(Gr.refl _).drew, hb0, hb1, y0, y1⟩ | exact ⟨by assumption, (by assumption : Gr wr _).has hb0, (by assumption : Gr wr _).has hb1, (by assumption : Gr wr _).has y0, (by assumption : Gr wr _).has y1⟩)
            ((go_at_call 170; refine (l02Other_any n p v x _ (HA.out.gr hgi.drew) Hok.out Hx.out Htv.out).mono ?_; rintro e w5 ⟨rfl, hg5⟩; have hx5 : Gr wr w5 := (Gr.refl _).drew.trans hg5))
          have hoN : oth (edOf x) v < n1 := by
            obtain ⟨a1, a2, _⟩ := HE.out.at_ p (edOf x) (by rw [eds, List.getElem?_map, Hx.out]; rfl)
            unfold oth
            split <;> omega
          have hw5 : Gr wr w5 := by assumption
          have hS5 := HSs.out.gr hw5
          have hb := get_of_ltB (l := s.seen) (k := oth (edOf x) v) (by rw [HI.out.sl]; exact hoN)
          obtain ⟨b, hbe⟩ : ∃ b, b = s.seen.getD (oth (edOf x) v) true := ⟨_, rfl⟩
          rw [← hbe] at hb
          obtain ⟨z0, z1⟩ := own_bool hS5.seen hb hoN
          have Hbe := Lib.hid hbe
          have hc0 := hw5.has hb0
          have hc1 := hw5.has hb1
          have y0 := hw5.has y0
          have y1 := hw5.has y1
          clear hb hbe hb0 hb1
          obtain ⟨o, ho⟩ : ∃ o, o = oth (edOf x) v := ⟨_, rfl⟩
          rw [← ho] at hoN z0 z1 Hbe ⊢
          have Hoo := Lib.hid ho
          clear ho
          have v0 : (0 : Int) ≤ (o : Int) := by omega
          have v1 : (o : Int) < (n1 : Int) := by omega
          cases b with
          | true =>
            go_wp2_with fail
            refine wp_region_text (fun w' => Gr w5 w' ∧ w'.cell? ⟨w1.heap.size, o, none⟩ = some (.bool true)) (by kernel_rfl) (by kernel_rfl) (by decide) ⟨(Gr.refl _).drew, z0⟩ ?_
            repeat (first
            | ((with_reducible refine wpText_skip ?_ ?_)
               · rfl
               simp only [Act.put, List.setIfInBounds_toArray, List.set_cons_zero, List.set_cons_succ])
            | ((with_reducible refine wpText_yield (v := ?_) ?_ ?_ ?_)
               rotate_left
               · rfl
               · intro W hW; first | (go_simp; done) | (go_simp; with_reducible rfl)
               simp only [Act.put, List.setIfInBounds_toArray, List.set_cons_zero, List.set_cons_succ])
            | ((with_reducible refine wpText_yield1 (v := ?_) ?_ ?_ ?_)
               rotate_left
               · rfl
               · intro W hW; first | (go_simp; done) | (go_simp; with_reducible rfl)
               simp only [Act.put, List.setIfInBounds_toArray, List.set_cons_zero, List.set_cons_succ]))
            intro w6 hS6
            have hv6 : vis (eds n.pipes) fl v s p = s := by rw [vis, if_neg (by rw [goes, eds_at Hx.out, ← Hoo.out, ← Hbe.out]; simp)]
            have Hv6 := Lib.hid hv6
            clear hv6
            have hg6 : Gr wr w6 := hw5.trans hS6.1
            go_wp2_with fail
            go_roundw
            case rel => exact ⟨i + 1, by omega, by go_num, ⟨_, _, by rw [Hstep.out, Hv6.out]⟩, by rw [Hstep.out, Hv6.out]; exact HSs.out.gr hg6, own_gr Hat.out hg6, Hap2.out, hgi.trans hg6, hS6.1.has hc0, hS6.1.has hc1⟩
            case measure => simp [intOf]; omega
          | false =>
            have hfb := Hk.out.at_ p (edOf x) (by rw [eds, List.getElem?_map, Hx.out]; rfl)
            have hlb := HE.out.at_ p (edOf x) (by rw [eds, List.getElem?_map, Hx.out]; rfl)
            have hfe : fl.getD p 0 = f := by rw [List.getD_eq_getElem?_getD, Hf.out]; rfl
            rw [hfe] at hfb
            have hfb2 : -1000000000 ≤ f ∧ f ≤ 1000000000 := by omega
            clear hfb hlb hfe
            obtain ⟨r, hr⟩ : ∃ r, r = room (eds n.pipes) fl p v := ⟨_, rfl⟩
            have Hr := Lib.hid hr
            clear hr
            go_wp2_with fail
            refine wp_region_text (fun w' => Gr w5 w' ∧ w'.cell? ⟨w1.heap.size, o, none⟩ = some (.bool false) ∧ w'.cell? ⟨w.heap.size, 0, none⟩ = some (.slice A1 n1 c1) ∧ w'.cell? ⟨w.heap.size, 1, none⟩ = some (.slice A2 n2 c2) ∧ w'.cell? ⟨ga, i, none⟩ = some (.int .i64 p) ∧ w'.cell? ⟨go', k, none⟩ = some (.int .i64 v)) (by kernel_rfl) (by kernel_rfl) (by decide) ⟨(Gr.refl _).drew, z0, hc0, hc1, y0, y1⟩ ?_
            repeat (first
            | ((with_reducible refine wpText_skip ?_ ?_)
               · rfl
               simp only [Act.put, List.setIfInBounds_toArray, List.set_cons_zero, List.set_cons_succ])
            | ((with_reducible refine wpText_yield (v := ?_) ?_ ?_ ?_)
               rotate_left
               · rfl
               · intro W hW; first | (go_simp; done) | (go_simp; with_reducible rfl)
               simp only [Act.put, List.setIfInBounds_toArray, List.set_cons_zero, List.set_cons_succ])
            | ((with_reducible refine wpText_yield1 (v := ?_) ?_ ?_ ?_)
               rotate_left
               · rfl
               · intro W hW; first | (go_simp; done) | (go_simp; with_reducible rfl)
               simp only [Act.put, List.setIfInBounds_toArray, List.set_cons_zero, List.set_cons_succ]))
            refine wpText_do (.int .i64 r) (by rfl) (fun W hW K hK => ?_) ?_
            · go_simp
              have hgW : Gr w W := (hgi.trans hw5).trans hW.1
              refine (l23Room_any n fl p v x f _ (HA.out.gr hgW) (HF.out.gr hgW) Hok.out Hx.out Hf.out hfb2).mono ?_
              rintro e w' ⟨rfl, hg1⟩
              rw [← Hr.out]
              have hg3 : Gr w5 w' := hW.1.trans hg1
              exact hK _ ⟨hg3, hg3.has z0, hg3.has hc0, hg3.has hc1, hg3.has y0, hg3.has y1⟩
            simp only [Act.put, List.setIfInBounds_toArray, List.set_cons_zero, List.set_cons_succ]
            repeat (first
            | ((with_reducible refine wpText_skip ?_ ?_)
               · rfl
               simp only [Act.put, List.setIfInBounds_toArray, List.set_cons_zero, List.set_cons_succ])
            | ((with_reducible refine wpText_yield (v := ?_) ?_ ?_ ?_)
               rotate_left
               · rfl
               · intro W hW; first | (go_simp; done) | (go_simp; with_reducible rfl)
               simp only [Act.put, List.setIfInBounds_toArray, List.set_cons_zero, List.set_cons_succ])
            | ((with_reducible refine wpText_yield1 (v := ?_) ?_ ?_ ?_)
               rotate_left
               · rfl
               · intro W hW; first | (go_simp; done) | (go_simp; with_reducible rfl)
               simp only [Act.put, List.setIfInBounds_toArray, List.set_cons_zero, List.set_cons_succ]))
            intro w6 hS6
            have hg6 : Gr wr w6 := hw5.trans hS6.1
            have HS6 := Lib.hid (HSs.out.gr hg6)
            by_cases hr0 : 0 < r
            · have hgoes : goes (eds n.pipes) fl v s p = true := by rw [goes, eds_at Hx.out, ← Hoo.out, ← Hbe.out, ← Hr.out]; simp [hr0]
              have hvis : vis (eds n.pipes) fl v s p = ⟨s.ent.set o p, s.seen.set o true, s.ord ++ [o]⟩ := by rw [vis, if_pos hgoes, eds_at Hx.out, ← Hoo.out]
              have Hvis := Lib.hid hvis
              clear hgoes hvis
              obtain ⟨_, q0, q1, q2, q3, q4⟩ := hS6
              have qf := (own_bool HS6.out.seen (k := o) (x := false) (by rw [Hbe.out]; exact get_of_ltB (by rw [HI.out.sl]; exact hoN)) hoN).2
              have hen : (s.ent.map fun (x : Nat) => (x : Int))[o]? = some ((s.ent.getD o 0 : Nat) : Int) := by
                have := HI.out.el
                simp [List.getD_eq_getElem?_getD, this, hoN]
              obtain ⟨e0, ef⟩ := own_int HS6.out.ent hen
              have hne1 : ga ≠ w1.heap.size := by omega
              have hne2 : w.heap.size + 1 ≠ w1.heap.size := by omega
              have hO : ((w6.setCell ⟨w1.heap.size, o, none⟩ (.bool true)).setCell ⟨w.heap.size + 1, o, none⟩ (.int .i64 p)).ownsRow (w1.heap.size + 1) 2 1 (.slice (some ⟨go', 0, none⟩) s.ord.length c') s.ord.length (nats s.ord) :=
                ownsRow_setCell_below (ownsRow_setCell_below HS6.out.ord (by simp) _) (by simp; omega) _
              have HO := Lib.hid hO
              have hsz6 := HS6.out.lt
              clear hen hO
              have hOA : ((w6.setCell ⟨w1.heap.size, o, none⟩ (.bool true)).setCell ⟨w.heap.size + 1, o, none⟩ (.int .i64 p)).ownsRow (w1.heap.size + 1) 2 1 (.slice (some ⟨ga, 0, none⟩) ma ca) ma (nats (atN (eds n.pipes) v)) :=
                ownsRow_setCell_below (ownsRow_setCell_below (own_gr Hat.out hg6) (by simp) _) (by simp; omega) _
              have HOA := Lib.hid hOA
              have hgal : ga < w6.heap.size := lt_of_cell q3
              have hgl : go' < w6.heap.size := lt_of_cell q4
              have hgago : ga ≠ go' := fun e => Hap2.out go' rfl (by rw [e]; rfl)
              clear hOA
              go_wp2_with (at_builtin; refine wpList_append_lies _ rfl _ _ _ rfl (w1.heap.size + 1) 2 i0 _ 1 8 Try.underlying27 hi0 hz0 hz1 hz2 rfl (by omega) (.slice (some ⟨go', 0, none⟩) s.ord.length c') s.ord.length _ rfl (HO.out.alloc _) ⟨w6.heap.size, 0, none⟩ 1 1 [.int .i64 o] rfl rfl (World.news_of_block (cs := #[.int .i64 o]) (t := 2) (fr := (0, 0)) (by simpa using heap_alloc_new ((w6.setCell ⟨w1.heap.size, o, none⟩ (.bool true)).setCell ⟨w.heap.size + 1, o, none⟩ (.int .i64 p)) (.cells #[.int .i64 o] 2))) (by simp [Value.oneCell']) (by omega) (by unfold maxLen; omega) (by omega) (by simp; omega) (w6.heap.size + 1) (by simp) ?_; intro g3 cap w7 hown7 hgrow7 hat7 hlt7)
              have hS7 := HS6.out.enter hown7 rfl hgrow7
              rw [← Hvis.out, ← Hstep.out] at hS7
              have hA7 := (HOA.out.alloc _).kept hgrow7 (Or.inr (by simp [Value.ownBlock]; omega))
              have hap7 : ga ≠ g3 := by
                rcases hat7 with h | h
                · simp [Value.ownBlock] at h; omega
                · omega
              have hgw7 : Gr w w7 := (((((hgi.trans hg6).setCell (by simp; omega) _).setCell (by simp) _).alloc _).grown hgrow7 (fun _ e => by simp [Value.ownBlock] at e; omega))
              have hd0 : w7.cell? ⟨w.heap.size, 0, none⟩ = some (.slice A1 n1 c1) := by
                rw [hgrow7.cell_far _ (by simp; omega) (by simp [Value.ownBlock]; omega)]
                refine ((Gr.refl _).alloc _).has ?_
                exact set_other (set_other q1 (by simp; omega) _) (by simp) _
              have hd1 : w7.cell? ⟨w.heap.size, 1, none⟩ = some (.slice A2 n2 c2) := by
                rw [hgrow7.cell_far _ (by simp; omega) (by simp [Value.ownBlock]; omega)]
                refine ((Gr.refl _).alloc _).has ?_
                exact set_other (set_other q2 (by simp; omega) _) (by simp) _
              have HS7 := Lib.hid hS7
              have HA7 := Lib.hid hA7
              have hlen7 : s.ord.length + 1 = (innTo (eds n.pipes) fl v (sst (eds n.pipes) fl n1 node k) (i + 1)).ord.length := by rw [Hstep.out, Hvis.out]; simp
              clear hS7 hA7 hown7 hgrow7 hat7
              go_wp2_with fail
              go_roundw
              case rel => exact ⟨i + 1, by omega, by go_num, ⟨_, _, by rw [← hlen7]⟩, HS7.out, HA7.out, fun j hj e => by simp [Value.ownBlock] at hj e; omega, hgw7, hd0, hd1⟩
              case measure => simp [intOf]; omega
            · have hv6 : vis (eds n.pipes) fl v s p = s := by rw [vis, if_neg (by rw [goes, ← Hr.out]; simp [hr0])]
              have Hv6 := Lib.hid hv6
              clear hv6
              go_wp2_with fail
              go_roundw
              case rel => exact ⟨i + 1, by omega, by go_num, ⟨_, _, by rw [Hstep.out, Hv6.out]⟩, by rw [Hstep.out, Hv6.out]; exact HSs.out.gr hg6, own_gr Hat.out hg6, Hap2.out, hgi.trans hg6, hS6.1.has hc0, hS6.1.has hc1⟩
              case measure => simp [intOf]; omega
        · obtain rfl : i = ma := by omega
          have e1 : innTo (eds n.pipes) fl v (sst (eds n.pipes) fl n1 node k) i = sst (eds n.pipes) fl n1 node (k + 1) := by
            rw [sst_step Hv.out, ← innTo_full, ← Hma.out]
          rw [e1] at hS hIk ⊢
          have hkl := (List.getElem?_eq_some_iff.1 hIk).1
          have HSs := Lib.hid hS
          clear hS hI hIk hat hap e1
          have hd1 : decide ((i : Int) < (i : Int)) = false := decide_eq_false (by omega)
          go_wp2_with fail
          go_roundw
          case rel => exact ⟨k + 1, by omega, by go_num, ⟨_, _, rfl⟩, HSs.out, hgi, hb0, hb1⟩
          case measure => simp [intOf]; omega
    · obtain rfl : k = L := by omega
      have hend : sst (eds n.pipes) fl n1 node k = srch (eds n.pipes) fl n1 node := srch_eq HE.out hn HL.out.symm
      have Hend := Lib.hid hend
      clear hend
      go_wp2_with fail
      go_ret2
      refine ⟨.slice A k c, w.heap.size + 1, w1.heap.size, by simp, ⟨A, c, by rw [← Hend.out, ← HL.out]⟩, ?_, hgr⟩
      have q := HS.out
      rw [← HL.out] at q
      rw [← Hend.out]
      exact q
end Go.Proofs.Ytbckjlejkedonaa
