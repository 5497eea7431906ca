/-
  The plain search of the program.
-/
import Derived.Test.YthhmhigddmimjaaGreatFlowD
import Derived.Deep.Cut
namespace Go.Proofs.YthhmhigddmimjaaGreat
open Go.ChangeShapes Go.WideShapes Go.ChangeAt Go.RowKit

theorem blk_own {w : World} {b base n : Nat} {cs : Array Value} {t : TypeId} (h : w.heap[b]? = some (.cells cs t (0, 0))) (hb : base ≤ b) (hn : cs.size = n) (hm : n ≤ 1048576) : w.ownsRow base t 1 (.slice (some ⟨b, 0, none⟩) n n) n cs.toList := by
  refine ⟨by simp [hn], Or.inr ⟨b, n, cs, rfl, hb, h, Nat.le_refl _, by unfold maxLen; omega, by omega, ?_⟩⟩
  rw [List.take_of_length_le (by simp; omega)]
theorem chg_blk {w w' : World} {S : Nat → Prop} {b : Nat} {ob : Obj} (h : w.heap[b]? = some ob) (hc : Chg S w w') (hs : ¬ S b) : w'.heap[b]? = some ob := (hc.block b (blk_lt h) hs).trans h
theorem h4d (w : World) (a b c d : Obj) : ((((w.alloc a).alloc b).alloc c).alloc d).drew.heap[w.heap.size + 1 + 1 + 1]? = some d := by
  have h : ((((w.alloc a).alloc b).alloc c).alloc d).heap[w.heap.size + 1 + 1 + 1]? = some d := by
    have := heap_alloc_new (((w.alloc a).alloc b).alloc c) d
    simpa using this
  exact h
theorem h4c (w : World) (a b c d : Obj) : ((((w.alloc a).alloc b).alloc c).alloc d).drew.heap[w.heap.size + 1 + 1]? = some c := by
  have h : (((w.alloc a).alloc b).alloc c).heap[w.heap.size + 1 + 1]? = some c := by
    have := heap_alloc_new ((w.alloc a).alloc b) c
    simpa using this
  exact blk_gr h ((Gr.refl _).alloc d).drew
theorem h4b (w : World) (a b c d : Obj) : ((((w.alloc a).alloc b).alloc c).alloc d).drew.heap[w.heap.size + 1]? = some b := by
  have h : ((w.alloc a).alloc b).heap[w.heap.size + 1]? = some b := by
    have := heap_alloc_new (w.alloc a) b
    simpa using this
  exact blk_gr h (((Gr.refl _).alloc c).alloc d).drew
theorem h4a (w : World) (a b c d : Obj) : ((((w.alloc a).alloc b).alloc c).alloc d).drew.heap[w.heap.size]? = some a :=
  blk_gr (heap_alloc_new w a) ((((Gr.refl _).alloc b).alloc c).alloc d).drew
/-- The blocks that a plain search begins with. -/
structure Sj0 (w : World) (B P bO bD bE n1 node : Nat) : Prop where
  hi : B < P ∧ B < bO ∧ B < bD ∧ B < bE
  ne : bO ≠ bD ∧ bO ≠ bE ∧ bD ≠ bE ∧ P ≠ bO ∧ P ≠ bD ∧ P ≠ bE
  st : w.heap[P]? = some (.cells #[.slice (some ⟨bO, 0, none⟩) 1 1, .slice (some ⟨bD, 0, none⟩) n1 n1, .slice (some ⟨bE, 0, none⟩) n1 n1] 132 (0, 0))
  oo : w.heap[bO]? = some (.cells #[.int .i64 node] 2 (0, 0))
  dd : w.heap[bD]? = some (.cells (madeCells #[.int .i64 0] n1) 2 (0, 0))
  ee : w.heap[bE]? = some (.cells (madeCells #[.int .i64 0] n1) 2 (0, 0))

set_option maxHeartbeats 6400000 in
set_option maxRecDepth 100000 in
theorem searchFrom_any {A1 A2 : Option Addr} {n1 c1 n2 c2 : Nat} (n : GNet) (node : Nat) (w : World) (hA : NetAt w A1 n1 c1 A2 n2 c2 n) (hok : netOk n = true) (hn : node < n1) :
    Calls Tryz.prog 127 #[.agg #[.slice A1 n1 c1, .slice A2 n2 c2], .int .i64 node] w fun e w' => ∃ O D E, e = .returned (.agg #[O, .slice (some ⟨D, 0, none⟩) n1 n1, .slice (some ⟨E, 0, none⟩) n1 n1]) ∧ (∃ A c, O = .slice A (ordZ (eds n.pipes) n1 node).length c) ∧
      w'.ownsRow w.heap.size 2 1 (.slice (some ⟨E, 0, none⟩) n1 n1) n1 (ints (entL n1 node (srch (eds n.pipes) (zf (eds n.pipes)) n1 node))) ∧ w'.ownsRow w.heap.size 2 1 O (ordZ (eds n.pipes) n1 node).length (nats (ordZ (eds n.pipes) n1 node)) ∧ Gr w w' := by
  obtain ⟨i0, hi0, hz0, hz1, hz2⟩ := info_parts infoInt64
  have hm1 := hA.m1
  have hm2 := hA.m2
  have hE : EsOk (eds n.pipes) n1 := by have := eds_ok hok; rw [hA.l1] at this; exact this
  have HE := Lib.hid hE
  have HA := Lib.hid hA
  have Hok := Lib.hid hok
  have t0 : (0 : Int) ≤ (node : Int) := by omega
  have t1 : (node : Int) < (n1 : Int) := by omega
  clear hA hok hE
  go_enter Tryz.func127, Tryz.ntmps127
  go_wp2_with fail
  obtain ⟨w0, hw0⟩ : ∃ w0, w0 = (w.alloc (.cells #[.slice A1 n1 c1, .slice A2 n2 c2] 32)).alloc (.cells #[.slice none 0 0, .slice none 0 0, .slice none 0 0] 132) := ⟨_, rfl⟩
  obtain ⟨wn, hwn⟩ : ∃ wn, wn = w.alloc (.cells #[.slice A1 n1 c1, .slice A2 n2 c2] 32) := ⟨_, rfl⟩
  have hgn : Gr w wn := by rw [hwn]; exact (Gr.refl _).alloc _
  have cn0 : wn.cell? ⟨w.heap.size, 0, none⟩ = some (.slice A1 n1 c1) := by rw [hwn]; simp [go_sem]
  have cn1 : wn.cell? ⟨w.heap.size, 1, none⟩ = some (.slice A2 n2 c2) := by rw [hwn]; simp [go_sem]
  have hsn : wn.heap.size = w.heap.size + 1 := by rw [hwn]; simp
  have hgr0 : Gr wn w0 := by rw [hw0, hwn]; exact (Gr.refl _).alloc _
  clear hwn
  have b0 : w0.cell? ⟨w.heap.size, 0, none⟩ = some (.slice A1 n1 c1) := by rw [hw0]; simp [go_sem]
  have b1 : w0.cell? ⟨w.heap.size, 1, none⟩ = some (.slice A2 n2 c2) := by rw [hw0]; simp [go_sem]
  have hres : w0.heap[w.heap.size + 1]? = some (.cells #[.slice none 0 0, .slice none 0 0, .slice none 0 0] 132 (0, 0)) := by rw [hw0]; exact heap_alloc_new2 w _ _
  have hs0 : w0.heap.size = w.heap.size + 2 := by rw [hw0]; simp
  rw [← hw0]
  have Hres := Lib.hid hres
  have Hs0 := Lib.hid hs0
  clear hw0 hres hs0
  have hmk := run_make_row' (P := Tryz.prog) 26 2 (.int .i64 0) 8 Tryz.underlying26 infoInt64 rfl .i64 .i64 n1 (by omega) (by omega)
  go_cut [5, 13, 17, 21] from 12 (fun s5 s13 s17 s21 wx => ∃ P bO bD bE, s5 = .pointer (some ⟨P, 0, none⟩) ∧ s13 = .slice (some ⟨bO, 0, none⟩) 1 1 ∧ s17 = .slice (some ⟨bD, 0, none⟩) n1 n1 ∧ s21 = .slice (some ⟨bE, 0, none⟩) n1 n1 ∧ Gr w0 wx ∧ Sj0 wx (w.heap.size + 1) P bO bD bE n1 node)
  case first =>
    have kA : ∀ W, Gr w0 W → Gr w0 W ∧ W.cell? ⟨w.heap.size, 0, none⟩ = some (.slice A1 n1 c1) := fun W h => ⟨h, h.has b0⟩
    have KA := Lib.hid kA
    clear kA
    go_region_held3 (fun w' => Gr w0 w' ∧ w'.cell? ⟨w.heap.size, 0, none⟩ = some (.slice A1 n1 c1))
      (first | with_reducible exact KA.out _ (Gr.refl _).drew | with_reducible exact KA.out _ ((Gr.refl _).alloc _).drew | with_reducible exact KA.out _ (((Gr.refl _).alloc _).alloc _).drew | with_reducible exact KA.out _ ((((Gr.refl _).alloc _).alloc _).alloc _).drew | with_reducible exact KA.out _ (((((Gr.refl _).alloc _).alloc _).alloc _).alloc _).drew)
      (fail)
    all_goals
      go_wp2_with fail
      go_meet
      case rel =>
        have hs0 := Hs0.out
        refine ⟨_, _, _, _, rfl, rfl, rfl, rfl, (((((Gr.refl _).alloc _).alloc _).alloc _).alloc _).drew, ⟨by omega, by omega, ?_, ?_, ?_, ?_⟩⟩
        all_goals (first | with_reducible exact h4a _ _ _ _ _ | with_reducible exact h4b _ _ _ _ _ | with_reducible exact h4c _ _ _ _ _ | with_reducible exact h4d _ _ _ _ _)
  case rest =>
    obtain ⟨P, bO, bD, bE, rfl, rfl, rfl, rfl, hgc, hJ⟩ := hcut
    obtain ⟨h1, h2, h3, h4⟩ := hJ.hi
    obtain ⟨e1, e2, e3, e4, e5, e6⟩ := hJ.ne
    have HJ := Lib.hid hJ
    have hmz : (madeCells #[Value.int .i64 0] n1).toList = ints (List.replicate n1 0) := by rw [toList_madeCells_one]; simp [ints]
    have hms : (madeCells #[Value.int .i64 0] n1).size = n1 := by rw [← Array.length_toList, toList_madeCells_one]; simp
    have hD0 := own_cells_eq (blk_own hJ.dd (base := w.heap.size + 1) (by omega) hms hm1) hmz
    have hE0 := own_cells_eq (blk_own hJ.ee (base := w.heap.size + 1) (by omega) hms hm1) hmz
    have hO0 : wc.ownsRow (w.heap.size + 1) 2 1 (.slice (some ⟨bO, 0, none⟩) 1 1) 1 (nats [node]) := own_cells_eq (blk_own hJ.oo (base := w.heap.size + 1) (by omega) rfl (by omega)) rfl
    have HD0 := Lib.hid hD0
    have HE0 := Lib.hid hE0
    have HO0 := Lib.hid hO0
    have b0 := hgc.has b0
    have b1 := hgc.has b1
    have st1 := blk_cell hJ.st (j := 1) rfl
    have st2 := blk_cell hJ.st (j := 2) rfl
    have hgwc := hgr0.trans hgc
    have Hres := Lib.hid (blk_gr Hres.out hgc)
    clear hJ hmz hms hD0 hE0 hO0 hmk hgc hgr0 Hs0
    go_wp2_with fail
    go_loopw [26] (fun i wr => ∃ k : Nat, k ≤ n1 ∧ i = .int .i64 k ∧ wr.ownsRow (w.heap.size + 1) 2 1 (.slice (some ⟨bD, 0, none⟩) n1 n1) n1 (ints (overTo (fun _ => (-1 : Int)) (List.replicate n1 0) k)) ∧ wr.ownsRow (w.heap.size + 1) 2 1 (.slice (some ⟨bE, 0, none⟩) n1 n1) n1 (ints (overTo (fun _ => (-1 : Int)) (List.replicate n1 0) k)) ∧ Chg (fun j => j = bD ∨ j = bE) wc wr) (fun i _ => n1 - (intOf i).toNat)
    case atStart => exact ⟨0, Nat.zero_le _, rfl, by rw [overTo_zero]; exact HD0.out, by rw [overTo_zero]; exact HE0.out, Chg.refl _ _⟩
    case round =>
      obtain ⟨k, hk, rfl, hd, he, hch⟩ := hrel
      have st1 := cell_chg st1 hch (by simp; omega)
      have st2 := cell_chg st2 hch (by simp; omega)
      by_cases hlt : k < n1
      · obtain ⟨d0, d1⟩ := own_int hd (k := k) (x := 0) (by rw [overTo_get]; simp [hlt])
        obtain ⟨f0, f1⟩ := own_int he (k := k) (x := 0) (by rw [overTo_get]; simp [hlt])
        obtain ⟨R1, R2⟩ := own_set_int hd k (-1)
        have he1 := he.kept R2 (Or.inr (by simp [Value.ownBlock]; omega))
        obtain ⟨R3, R4⟩ := own_set_int he1 k (-1)
        have R5 := R1.kept R4 (Or.inr (by simp [Value.ownBlock]; omega))
        rw [overTo_set _ _ (by simpa using hlt) rfl] at R3 R5
        have hch2 : Chg (fun j => j = bD ∨ j = bE) wc (((wr.setCell ⟨bD, k, none⟩ (.int .i64 (-1))).setCell ⟨bE, k, none⟩ (.int .i64 (-1))).drew) := by
          have u2 : Chg (fun j => j = bD ∨ j = bE) wr (wr.setCell ⟨bD, k, none⟩ (.int .i64 (-1))) := chg_set _ _ _ (Or.inl rfl)
          exact ((hch.trans u2).trans (chg_set _ _ _ (Or.inr rfl))).drew
        have HR3 := Lib.hid R3
        have HR5 := Lib.hid R5
        have Hch2 := Lib.hid hch2
        have u0 : (0 : Int) ≤ (k : Int) := by omega
        have u1 : (k : Int) < (n1 : Int) := by omega
        clear hd he hch R1 R2 R3 R4 R5 he1 hch2
        go_wp2_with fail
        go_region
        go_wp2_with fail
        go_roundw
        case rel => exact ⟨k + 1, by omega, by go_num, HR5.out.drew, HR3.out.drew, Hch2.out⟩
        case measure => simp [intOf]; omega
      · have hkn : k = n1 := by omega
        rw [hkn]
        rw [hkn, over_neg] at hd he
        have HD := Lib.hid hd
        have HEn := Lib.hid he
        have Hch := Lib.hid hch
        obtain ⟨d0, d1⟩ := own_int hd (k := node) (x := -1) (by simp [hn])
        have hsz9 := hch.size
        clear hd he hch hlt hkn hk HD0 HE0
        have hgw9 : Gr wn wr := hgwc.of_chg Hch.out (by rintro j (e | e) <;> omega)
        have hres9 := chg_blk Hres.out Hch.out (by rintro (e | e) <;> omega)
        have hst9 := chg_blk HJ.out.st Hch.out (by rintro (e | e) <;> omega)
        have hord9 := own_chg HO0.out Hch.out (by intro j hj; simp [Value.ownBlock] at hj; rintro (e | e) <;> omega)
        have Hres9 := Lib.hid hres9
        have Hst9 := Lib.hid hst9
        have Hord9 := Lib.hid hord9
        clear hres9 hst9 hord9 Hch Hres HO0 hgwc b0 b1
        rename World => w9
        obtain ⟨fl, hfl⟩ : ∃ fl, fl = zf (eds n.pipes) := ⟨_, rfl⟩
        have Hfl := Lib.hid hfl
        have Hor : Hid ((srch (eds n.pipes) fl n1 node).ord = ordZ (eds n.pipes) n1 node) := Lib.hid (by rw [hfl]; rfl)
        clear hfl
        go_wp2_with fail
        generalize hw3 : World.setCell w9 _ _ = w3
        obtain ⟨s1, s2⟩ := own_set_int HD.out node 0
        have S0 : SjAt w3 (w.heap.size + 1) P bD bE n1 (.slice (some ⟨bO, 0, none⟩) 1 1) node (sst (eds n.pipes) fl n1 node 0) ((List.replicate n1 (-1)).set node 0) := by
          rw [← hw3]
          have hO : ∀ j, (Value.slice (some ⟨bO, 0, none⟩) 1 1).ownBlock = some j → bO = j := fun j hj => by simpa [Value.ownBlock] using hj
          refine ⟨⟨h1, h3, h4, e5, e6, e3⟩, blk_set Hres9.out (by simp; omega) _, blk_set Hst9.out (by simp; omega) _, s1, ?_, ?_, ?_, ?_, ?_⟩
          · have e : entL n1 node (sst (eds n.pipes) fl n1 node 0) = List.replicate n1 (-1) := entL_zero n1 node
            rw [e]
            exact HEn.out.kept s2 (Or.inr (by simp [Value.ownBlock]; omega))
          · exact Hord9.out.kept s2 (Or.inr (by simp [Value.ownBlock]; omega))
          · intro j hj
            have := hO j hj
            omega
          · intro v hv
            show ((List.replicate n1 false).set node true).getD v true = true ↔ _
            by_cases e : node = v
            · subst e
              rw [getD_set_self (by simpa using hv), List.getD_eq_getElem?_getD, List.getElem?_set_self (by simpa using hv)]
              simp
            · rw [getD_set_ne e, List.getD_eq_getElem?_getD, List.getElem?_set_ne e]
              simp [List.getD_eq_getElem?_getD, hv]
          · intro v hv
            show -1 ≤ _ ∧ _ < ((1 : Nat) : Int)
            by_cases e : node = v
            · subst e
              rw [getD_set_self (by simpa using hv)]
              omega
            · rw [getD_set_ne e]
              simp [List.getD_eq_getElem?_getD, hv]
        have hg3 : Gr wn w3 := by rw [← hw3]; exact hgw9.setCell (by simp; omega) _
        obtain ⟨B, hB⟩ : ∃ B, B = w.heap.size + 1 := ⟨_, rfl⟩
        rw [← hB] at S0 h1 h2 h3 h4 hsn
        have HS0 := Lib.hid S0
        have hBw : w.heap.size < B := by omega
        have hsnB : wn.heap.size ≤ B := Nat.le_of_eq hsn
        rw [← hB]
        clear S0 hw3 d0 d1 HD HEn s1 s2 hB hgw9 Hord9 Hst9 Hres9 st1 st2 HJ hsn
        go_loopw [7] (fun i wr => ∃ k : Nat, ∃ A c ds, k ≤ (sst (eds n.pipes) fl n1 node k).ord.length ∧ i = .int .i64 k ∧ SjAt wr B P bD bE n1 (.slice A (sst (eds n.pipes) fl n1 node k).ord.length c) node (sst (eds n.pipes) fl n1 node k) ds ∧ Gr wn wr) (fun i _ => n1 - (intOf i).toNat)
        case atStart => exact ⟨0, _, _, _, Nat.zero_le _, rfl, HS0.out, hg3⟩
        case round =>
          obtain ⟨k, A, c, ds, hk, rfl, hS, hgr⟩ := hrel
          have hlen : (sst (eds n.pipes) fl n1 node k).ord.length ≤ n1 := (inv_sst HE.out hn k).len
          have HS := Lib.hid hS
          obtain ⟨L, hL⟩ : ∃ L, L = (sst (eds n.pipes) fl n1 node k).ord.length := ⟨_, rfl⟩
          rw [← hL] at hk hlen
          have HL := Lib.hid hL
          have st0 := blk_cell hS.st (j := 0) rfl
          rw [← hL] at st0
          clear hS hL hg3
          by_cases hlt : k < L
          · obtain ⟨v, hv⟩ : ∃ v, (sst (eds n.pipes) fl n1 node k).ord[k]? = some v := ⟨_, List.getElem?_eq_getElem (by rw [← HL.out]; exact hlt)⟩
            have hso := HS.out.ord
            rw [← HL.out] at hso
            obtain ⟨go, rfl, hgo1, hgo2⟩ := own_form hso (by omega)
            have hvi : ((sst (eds n.pipes) fl n1 node k).ord.map fun (x : Nat) => (x : Int))[k]? = some (v : Int) := by simp [hv]
            obtain ⟨f0, _⟩ := own_int hso hvi
            have Hv := Lib.hid hv
            have t2 : (0 : Int) ≤ (k : Int) := by omega
            have t3 : (k : Int) < (L : Int) := by omega
            have r0 := hgr.has cn0
            have r1 := hgr.has cn1
            clear hso hvi hv
            go_wp2_with fail
            refine (pipesAt_any n v _ (HA.out.gr (hgn.trans hgr)) Hok.out).mono ?_
            rintro e w4 ⟨Aa, ma, ca, rfl, hma, hoa, hga⟩
            have hoa' := Lib.hid hoa
            have Hma := Lib.hid hma
            have hvo := (inv_sst (fl := fl) HE.out hn k)
            have hvm : v ∈ (sst (eds n.pipes) fl n1 node k).ord := List.mem_of_getElem? Hv.out
            have hvN : v < n1 := hvo.lt v hvm
            have Hvm := Lib.hid hvm
            have Hvo := Lib.hid hvo
            have hgw4 : Gr wn w4 := hgr.trans hga
            have hS4 := HS.out.gr hga
            have HS4 := Lib.hid hS4
            have hbig1 := blk_lt HS.out.st
            have hbig2 : bD < wr.heap.size := own_block_lt HS.out.dst rfl
            have hbig3 : bE < wr.heap.size := own_block_lt HS.out.ent rfl
            have hoaB : w4.ownsRow wr.heap.size 2 1 (.slice Aa ma ca) ma (nats (atN (eds n.pipes) v)) := hoa
            have hapart : (Value.slice Aa ma ca).ownBlock ≠ some go := by
              intro e
              have := own_base_le hoa e
              omega
            have HoaB := Lib.hid hoaB
            have Hap := Lib.hid hapart
            have hma40 : ma ≤ 1048576 := by
              have := atTo_len (eds n.pipes) v (eds n.pipes).length
              have e1 : (eds n.pipes).length = n2 := by rw [eds, List.length_map]; exact HA.out.l2
              have e2 : atN (eds n.pipes) v = atTo (eds n.pipes) v (eds n.pipes).length := rfl
              rw [← e2, e1, ← Hma.out] at this
              omega
            obtain ⟨U, hU⟩ : ∃ U, U = wr.heap.size := ⟨_, rfl⟩
            rw [← hU] at HoaB hbig1 hbig2 hbig3
            clear hvo hvm hS4 hoaB hapart hoa' f0 hga HS hoa hma r0 r1 st0 hgo1 hgo2 hU
            go_wp2_with fail
            go_loopw [58] (fun j wr => ∃ i : Nat, ∃ A c ds, i ≤ ma ∧ j = .int .i64 i ∧ SjAt wr B P bD bE n1 (.slice A (innTo (eds n.pipes) fl v (sst (eds n.pipes) fl n1 node k) i).ord.length c) node (innTo (eds n.pipes) fl v (sst (eds n.pipes) fl n1 node k) i) ds ∧ wr.ownsRow U 2 1 (.slice Aa ma ca) ma (nats (atN (eds n.pipes) v)) ∧ (∀ j, (Value.slice A (innTo (eds n.pipes) fl v (sst (eds n.pipes) fl n1 node k) i).ord.length c).ownBlock = some j → (Value.slice Aa ma ca).ownBlock ≠ some j) ∧ Gr wn wr) (fun j _ => ma - (intOf j).toNat)
            case atStart =>
              have e0 : innTo (eds n.pipes) fl v (sst (eds n.pipes) fl n1 node k) 0 = sst (eds n.pipes) fl n1 node k := rfl
              exact ⟨0, some ⟨go, 0, none⟩, c, ds, Nat.zero_le _, rfl, by rw [e0]; exact HS4.out, HoaB.out, fun j hj => by simp [Value.ownBlock] at hj; rw [← hj]; exact Hap.out, hgw4⟩
            case round =>
              obtain ⟨i, A, c', ds, hi, rfl, hS, hat, hap, hgi⟩ := hrel
              have hI := (inv_innTo HE.out Hvo.out Hvm.out i).1
              have hIk : (innTo (eds n.pipes) fl v (sst (eds n.pipes) fl n1 node k) i).ord[k]? = some v := foldl_vis_ord _ _ Hv.out
              clear hgw4
              by_cases hil : i < ma
              · obtain ⟨p, hp⟩ : ∃ p, (atN (eds n.pipes) v)[i]? = some p := ⟨_, List.getElem?_eq_getElem (by rw [← Hma.out]; exact hil)⟩
                obtain ⟨hpl, htv⟩ := mem_atN.1 (List.mem_of_getElem? hp)
                obtain ⟨x, hx⟩ : ∃ x, n.pipes[p]? = some x := ⟨_, List.getElem?_eq_getElem (by simpa [eds] using hpl)⟩
                obtain ⟨x1, x2, _⟩ := pipeOk_all ((netOk_all Hok.out).2 p x hx)
                have hed := eds_at hx
                rw [hed] at htv
                have hstep := innTo_step (fl := fl) (s := sst (eds n.pipes) fl n1 node k) hp
                obtain ⟨s, hs⟩ : ∃ s, s = innTo (eds n.pipes) fl v (sst (eds n.pipes) fl n1 node k) i := ⟨_, rfl⟩
                rw [← hs] at hS hI hIk hstep hap
                obtain ⟨ga, rfl, hga1, hga2⟩ := own_form hat (by omega)
                have hpi : ((atN (eds n.pipes) v).map fun (x : Nat) => (x : Int))[i]? = some (p : Int) := by simp [hp]
                obtain ⟨y0, _⟩ := own_int hat hpi
                obtain ⟨go', rfl, hgo1', hgo2'⟩ := own_form hS.ord (by have := (List.getElem?_eq_some_iff.1 hIk).1; omega)
                have hsl := (List.getElem?_eq_some_iff.1 hIk).1
                have r0 := hgi.has cn0
                have r1 := hgi.has cn1
                obtain ⟨b, oo, rfl, hb, p0, p1, p2, p3, p4⟩ := (HA.out.pipes.gr (hgn.trans hgi)).pp hx
                have hpn : p < n2 := by have h1 := (List.getElem?_eq_some_iff.1 hx).1; have h2 := HA.out.l2; omega
                have hdv := hS.bd v hvN
                have hdv2 := (hS.sn v hvN).1 ((hI.sn v hvN).2 (List.mem_of_getElem? hIk))
                have hdl : ds.length = n1 := own_ilen hS.dst
                have HSs := Lib.hid hS
                have HI := Lib.hid hI
                have Hstep := Lib.hid hstep
                have Hat := Lib.hid hat
                have Hap2 := Lib.hid hap
                have Hx := Lib.hid hx
                have Htv := Lib.hid htv
                have u0 : (0 : Int) ≤ (i : Int) := by omega
                have u1 : (i : Int) < (ma : Int) := by omega
                have hslN : s.ord.length ≤ n1 := hI.len
                clear hS hI hstep hat hap hx htv hp hpi hs hIk
                have hd1 : decide ((i : Int) < (ma : Int)) = true := decide_eq_true u1
                have x3 := x1.1
                have x4 := x2.1
                go_wp2_with fail
                refine (otherEnd_any x v _ x3 x4).mono ?_
                rintro e w5 ⟨rfl, hw5⟩
                have hoN : oth (edOf x) v < n1 := by
                  obtain ⟨a1, a2, _⟩ := HE.out.at_ p (edOf x) (by rw [eds, List.getElem?_map, Hx.out]; rfl)
                  unfold oth
                  split <;> omega
                have hS5 := HSs.out.gr hw5
                obtain ⟨o, ho⟩ : ∃ o, o = oth (edOf x) v := ⟨_, rfl⟩
                rw [← ho] at hoN
                have Hoo := Lib.hid ho
                rw [← ho]
                clear ho
                obtain ⟨z0, z1⟩ := own_int hS5.dst (get_int (l := ds) (k := o) (by omega))
                obtain ⟨z2, _⟩ := own_int hS5.dst (get_int (l := ds) (k := v) (by omega))
                obtain ⟨dv, hdve⟩ : ∃ dv, dv = ds.getD v 0 := ⟨_, rfl⟩
                rw [← hdve] at hdv hdv2 z2
                have hdo := HSs.out.bd o hoN
                have hso := HSs.out.sn o hoN
                obtain ⟨dO, hdO⟩ : ∃ dO, dO = ds.getD o 0 := ⟨_, rfl⟩
                rw [← hdO] at hdo hso z0
                have Hso := Lib.hid hso
                have v0 : (0 : Int) ≤ (o : Int) := by omega
                have v1 : (o : Int) < (n1 : Int) := by omega
                have v2 : (v : Int) < (n1 : Int) := by omega
                have hgi5 : Gr wn w5 := hgi.trans hw5
                have st1 := blk_cell hS5.st (j := 1) rfl
                have st2 := blk_cell hS5.st (j := 2) rfl
                have st0 := blk_cell hS5.st (j := 0) rfl
                have stf := blk_frozen hS5.st 0
                have HS6 := Lib.hid hS5
                clear p0 p1 p2 p3 p4 r0 r1 y0 hgi hso hdO hdve hS5
                by_cases hz : dO < 0
                · have hgoes : goes (eds n.pipes) fl v s p = true := by
                    rw [Hfl.out, goes_zero HE.out (e := edOf x) (by rw [eds, List.getElem?_map, Hx.out]; rfl), ← Hoo.out]
                    cases hq : s.seen.getD o true with
                    | false => rfl
                    | true => have := Hso.out.1 hq; omega
                  have hvis : vis (eds n.pipes) fl v s p = ⟨s.ent.set o p, s.seen.set o true, s.ord ++ [o]⟩ := by rw [vis, if_pos hgoes, eds_at Hx.out, ← Hoo.out]
                  have Hvis := Lib.hid hvis
                  have hon : o ≠ node := by
                    intro e
                    have h1 := (HI.out.sn node hn).2 (List.mem_of_getElem? HI.out.hd)
                    rw [← e] at h1
                    have := Hso.out.1 h1
                    omega
                  clear hgoes hvis
                  obtain ⟨e0, ef⟩ := own_int HS6.out.ent (get_int (l := entL n1 node s) (k := o) (by rw [entL_len]; exact hoN))
                  have hwr : IntKind.i64.wrap (dv + 1) = dv + 1 := IntWalk.i64_in _ (by omega)
                  have hoap := HS6.out.oap go' rfl
                  obtain ⟨X, hX⟩ : ∃ X, X = ((w5.setCell ⟨bD, o, none⟩ (.int .i64 (dv + 1))).setCell ⟨bE, o, none⟩ (.int .i64 p)).drew := ⟨_, rfl⟩
                  have hO : X.ownsRow B 2 1 (.slice (some ⟨go', 0, none⟩) s.ord.length c') s.ord.length (nats s.ord) := by
                    rw [hX]
                    exact ((HS6.out.ord.kept (grown_set _ _ _) (Or.inr (by simp [Value.ownBlock]; omega))).kept (grown_set _ _ _) (Or.inr (by simp [Value.ownBlock]; omega))).drew
                  have hOA : X.ownsRow U 2 1 (.slice (some ⟨ga, 0, none⟩) ma ca) ma (nats (atN (eds n.pipes) v)) := by
                    rw [hX]
                    exact (ownsRow_setCell_below (ownsRow_setCell_below (own_gr Hat.out hw5) (by simp; omega) _) (by simp; omega) _).drew
                  have hPX : X.heap[P]? = some (.cells #[.slice (some ⟨go', 0, none⟩) s.ord.length c', .slice (some ⟨bD, 0, none⟩) n1 n1, .slice (some ⟨bE, 0, none⟩) n1 n1] 132 (0, 0)) := by
                    rw [hX]
                    exact blk_set (blk_set HS6.out.st (by simp; omega) _) (by simp; omega) _
                  have hXs : X.heap.size = w5.heap.size := by rw [hX]; simp
                  have hXs1 : w5.heap.size ≤ X.heap.size := by omega
                  have hXs2 : X.heap.size ≤ w5.heap.size := by omega
                  clear hXs
                  have hgX : Gr wn X := by rw [hX]; exact ((hgi5.setCell (by simp; omega) _).setCell (by simp; omega) _).drew
                  have hgal : ga < w5.heap.size := Nat.lt_of_lt_of_le hga2 hw5.size
                  have hgl6 : go' < w5.heap.size := own_block_lt HS6.out.ord rfl
                  have hgago : ga ≠ go' := fun e => Hap2.out go' rfl (by rw [e]; rfl)
                  have HO := Lib.hid hO
                  have HOA := Lib.hid hOA
                  have HPX := Lib.hid hPX
                  have HX := Lib.hid hX
                  go_wp2_with fail
                  go_region
                  rw [← hX]
                  have st0' : X.cell? ⟨P, 0, none⟩ = some (.slice (some ⟨go', 0, none⟩) s.ord.length c') := blk_cell hPX (j := 0) rfl
                  clear hX hO hOA hPX st0 st1 st2 stf z0 z1 z2 e0 ef hwr
                  go_wp2_with (at_builtin; refine wpList_append_lies _ rfl _ _ _ rfl B 2 i0 _ 1 8 Tryz.underlying26 hi0 hz0 hz1 hz2 rfl (by omega) (.slice (some ⟨go', 0, none⟩) s.ord.length c') s.ord.length _ rfl (HO.out.alloc _) ⟨X.heap.size, 0, none⟩ 1 1 [.int .i64 o] rfl rfl (World.news_of_block (cs := #[.int .i64 o]) (t := 2) (fr := (0, 0)) (heap_alloc_new X _)) (by simp [Value.oneCell']) (by omega) (by unfold maxLen; omega) (by omega) (by simp; omega) (X.heap.size + 1) (by simp) ?_; intro g3 cap w7 hown7 hgrow7 hat7 hlt7; have HP7 := blk_grown (blk_gr HPX.out ((Gr.refl _).alloc _)) hgrow7 (by simp [Value.ownBlock]; omega); have s70 := blk_cell HP7 (j := 0) rfl; have s7f := blk_frozen HP7 0)
                  have hgrow := hgrow7
                  rw [HX.out] at hgrow
                  have hat8 : (Value.slice (some ⟨go', 0, none⟩) s.ord.length c').ownBlock = some g3 ∨ g3 = w5.heap.size + 1 := by
                    rcases hat7 with h | h
                    · exact Or.inl h
                    · right; omega
                  have hS7 := HS6.out.enter HI.out.el HI.out.sl hoN hon (by omega) hown7 rfl (grown_drew hgrow) hat8
                  rw [← Hvis.out, ← Hstep.out] at hS7
                  have hap7 : ga ≠ g3 := by
                    rcases hat7 with h | h
                    · simp [Value.ownBlock] at h; omega
                    · omega
                  have hA7 := ((HOA.out.alloc _).kept hgrow7 (Or.inr (by simp [Value.ownBlock]; omega))).kept (grown_set w7 ⟨P, 0, none⟩ (.slice (some ⟨g3, 0, none⟩) (s.ord.length + 1) cap)) (Or.inr (by simp [Value.ownBlock]; omega))
                  have hgw7 : Gr wn (w7.setCell ⟨P, 0, none⟩ (.slice (some ⟨g3, 0, none⟩) (s.ord.length + 1) cap)) := ((hgX.alloc _).grown hgrow7 (fun _ e => by simp [Value.ownBlock] at e; omega)).setCell (by simp; omega) _
                  have HS7 := Lib.hid hS7
                  have HA7 := Lib.hid hA7
                  have hlen7 : s.ord.length + 1 = (innTo (eds n.pipes) fl v (sst (eds n.pipes) fl n1 node k) (i + 1)).ord.length := by rw [Hstep.out, Hvis.out]; simp
                  have Hlen7 := Lib.hid hlen7
                  clear hS7 hA7 hown7 hgrow7 hat7 hlen7 hgrow hat8 HP7
                  go_wp2_with fail
                  go_roundw
                  case rel => exact ⟨i + 1, some ⟨g3, 0, none⟩, cap, _, by omega, by go_num, by rw [← Hlen7.out]; exact HS7.out, HA7.out, fun j hj e => by simp [Value.ownBlock] at hj e; omega, hgw7⟩
                  case measure => simp [intOf]; omega
                · have hv6 : vis (eds n.pipes) fl v s p = s := by
                    have hq := Hso.out.2 (by omega)
                    rw [vis, if_neg (by rw [goes, eds_at Hx.out, ← Hoo.out, hq]; simp)]
                  have Hv6 := Lib.hid hv6
                  clear hv6
                  go_wp2_with fail
                  go_roundw
                  case rel => exact ⟨i + 1, _, _, _, by omega, by go_num, by rw [Hstep.out, Hv6.out]; exact HS6.out, own_gr Hat.out hw5, by rw [Hstep.out, Hv6.out]; exact Hap2.out, hgi5⟩
                  case measure => simp [intOf]; omega
              · obtain rfl : i = ma := by omega
                have e1 : innTo (eds n.pipes) fl v (sst (eds n.pipes) fl n1 node k) i = sst (eds n.pipes) fl n1 node (k + 1) := by
                  rw [sst_step Hv.out, ← innTo_full, ← Hma.out]
                rw [e1] at hS hIk
                have hkl := (List.getElem?_eq_some_iff.1 hIk).1
                have HSs := Lib.hid hS
                clear hS hI hIk hat hap e1
                have hd1 : decide ((i : Int) < (i : Int)) = false := decide_eq_false (by omega)
                go_wp2_with fail
                go_roundw
                case rel => exact ⟨k + 1, _, _, _, by omega, by go_num, HSs.out, hgi⟩
                case measure => simp [intOf]; omega
          · obtain rfl : k = L := by omega
            have hend : sst (eds n.pipes) fl n1 node k = srch (eds n.pipes) fl n1 node := srch_eq HE.out hn HL.out.symm
            have Hend := Lib.hid hend
            have q := HS.out
            rw [← HL.out] at q
            have st1 := blk_cell q.st (j := 1) rfl
            have st2 := blk_cell q.st (j := 2) rfl
            have re0 := blk_cell q.res (j := 0) rfl
            have re1 := blk_cell q.res (j := 1) rfl
            have re2 := blk_cell q.res (j := 2) rfl
            have rf0 := blk_frozen q.res 0
            have rf1 := blk_frozen q.res 1
            have rf2 := blk_frozen q.res 2
            have Hq := Lib.hid q
            clear hend q
            go_wp2_with fail
            have q := Hq.out
            refine bodyPost_ret (v := .agg #[.slice A k c, .slice (some ⟨bD, 0, none⟩) n1 n1, .slice (some ⟨bE, 0, none⟩) n1 n1]) (by simp [results, Tryz.results127, go_sem, re0, re1, re2]) rfl ⟨.slice A k c, bD, bE, rfl, ?_, ?_, ?_, ?_⟩
            · rw [← Hor.out, ← Hend.out, ← HL.out]; exact ⟨_, _, rfl⟩
            · rw [← Hfl.out, ← Hend.out]
              exact own_base ((((q.ent.kept (grown_set _ _ _) (Or.inr (by simp [Value.ownBlock]; omega))).kept (grown_set _ _ _) (Or.inr (by simp [Value.ownBlock]; omega))).kept (grown_set _ _ _) (Or.inr (by simp [Value.ownBlock]; omega)))) (by omega)
            · rw [← Hor.out, ← Hend.out, ← HL.out]
              have hq := q.ord
              rw [← HL.out] at hq
              have hne : (Value.slice A k c).ownBlock ≠ some B := fun e => by have := q.oap _ e; omega
              exact own_base (((hq.kept (grown_set _ _ _) (Or.inr hne)).kept (grown_set _ _ _) (Or.inr hne)).kept (grown_set _ _ _) (Or.inr hne)) (by omega)
            · exact hgn.trans (((hgr.setCell (by simp; omega) _).setCell (by simp; omega) _).setCell (by simp; omega) _)
end Go.Proofs.YthhmhigddmimjaaGreat
